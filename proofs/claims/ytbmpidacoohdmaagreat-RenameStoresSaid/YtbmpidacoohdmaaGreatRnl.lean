/- sleuthref26.near's first loop: what is there and what is not, as a law of the loop. -/
import Derived.Test.YtbmpidacoohdmaaGreatFnp
import Derived.Test.YtbmpidacoohdmaaGreatRRcp
namespace Go.Proofs.YtbmpidacoohdmaaGreat
open Go.RowKit Op
open Rn (Chg LReads CellsAt Fnd St isSource isTarget Flds rowsS int_at boo_at info3c info4c)

theorem own_grown2 {w w2 : World} {C size : Nat} {e : TypeId} {v : Value} {n : Nat} {xs : List Value} {row : Option Nat} (h : w.ownsRow C e size v n xs) (hg : w.grownBy w2 row) (hne : v.ownBlock = none ∨ v.ownBlock ≠ row) : w2.ownsRow C e size v n xs :=
  own_chs h (Chs.of_row hg) fun q hq e => by
    rcases hne with h0 | h0
    · rw [h0] at hq; cases hq
    · exact h0 (hq.trans e)
theorem far_app2 {a b b2 : Option Nat} {n m : Nat} (ha : ∀ q, a = some q → q < n) (hnm : n ≤ m) (h : a = none ∨ a ≠ b) (hh : b2 = b ∨ b2 = some m) : a = none ∨ a ≠ b2 := by
  rcases hh with rfl | rfl
  · exact h
  · refine .inr fun e => ?_
    have := ha m e
    omega
theorem far_app1 {a a2 b : Option Nat} {n m : Nat} (hb : ∀ q, b = some q → q < n) (hnm : n ≤ m) (h : a = none ∨ a ≠ b) (hh : a2 = a ∨ a2 = some m) : a2 = none ∨ a2 ≠ b := by
  rcases hh with rfl | rfl
  · exact h
  · refine .inr fun e => ?_
    have := hb m e.symm
    omega
theorem far_sym {a b : Option Nat} (h : a = none ∨ a ≠ b) : b = none ∨ b ≠ a := by
  rcases h with rfl | h
  · cases b
    · exact .inl rfl
    · exact .inr (fun e => by cases e)
  · exact .inr (fun e => h e.symm)
noncomputable def rnear1_code : Code := ((Tryz.f23.body.map loopsIn).getD []).getD 0 .skip
set_option maxRecDepth 100000 in
set_option maxHeartbeats 1000000 in
theorem rnear1 (w : World) (B h : Nat) (v0 v1 v2 v3 : Value) (l : List Chg) (A : Option Addr) (c : Nat) (r : St) (hf : Flds w B h 73 [v0, v1, v2, v3] (rowsS r)) (hlen : r.fr.length = l.length ∧ r.sc.length = l.length ∧ r.kd.length = l.length ∧ r.tk.length = l.length) (hl : LReads w w.heap.size A l) (hn : l.length ≤ 40) (Q0 : Exit → Act → World → Prop) (z0 z2 z3 z4 z5 z7 z8 z9 z10 z14 z15 z16 z17 z18 z19 z20 z21 z22 z23 z24 z25 z26 z27 z28 z29 z30 z31 z32 z33 z34 z35 z36 z37 z38 z39 z40 z41 z42 z43 z44 z45 z46 z47 z48 z49 z50 z51 z52 z53 z54 z55 z56 z57 z58 z59 z60 z61 z62 z63 z64 z65 z66 z67 z68 z69 z70 z71 z72 z73 z74 z75 z76 z77 z78 z79 z80 z81 z82 z83 z84 z85 z86 z87 z88 z89 z90 z91 z92 z93 z94 z95 z96 z97 z98 z99 z100 z101 z102 z103 z104 z105 z106 z107 z108 z109 z110 z111 z112 z113 z114 z115 z116 z117 z118 z119 z120 z121 z122 z123 z124 z125 z126 z127 z128 z129 z130 z131 z132 z133 z134 z135 z136 z137 z138 z139 z140 z141 z142 z143 z144 z145 z146 z147 z148 z149 z150 z151 z152 z153 z154 z155 z156 z157 z158 z159 z160 z161 z162 z163 z164 z165 z166 z167 z168 z169 z170 z171 z172 z173 z174 z175 z176 z177 z178 z179 z180 z181 z182 z183 z184 z185 z186 z187 z188 z189 z190 z191 z192 z193 z194 z195 z196 z197 z198 z199 z200 z201 z202 z203 z204 z205 z206 z207 z208 z209 z210 z211 z212 z213 z214 z215 z216 z217 z218 z219 z220 z221 z222 z223 z224 z225 z226 z227 z228 z229 z230 z231 z232 z233 z234 z235 z236 z237 z238 z239 z240 z241 z242 z243 z244 z245 z246 z247 z248 z249 z250 z251 z252 z253 z254 z255 z256 z257 z258 z259 z260 z261 z262 z263 z264 z265 z266 z267 z268 z269 z270 z271 z272 z273 z274 z275 z276 z277 z278 z279 z280 z281 z282 z283 z284 z285 z286 z287 z288 z289 : Value)
    (hexit : Hid (∀ (v11 v12 : Value) (wr : World) (y42 y43 y44 y45 y46 y47 y48 y49 y50 y51 y52 y53 y54 y55 y56 y57 y58 y59 y60 y61 y62 y63 y64 y65 y66 y67 y68 y69 y70 y71 y72 y73 y74 y75 y76 y77 y78 y79 y80 y81 y82 y83 : Value), Hid (wr.ownsRow w.heap.size 3 1 v11 (pls (isSource l r) l.length).length (ntI2 (pls (isSource l r) l.length))) → Hid (wr.ownsRow w.heap.size 3 1 v12 (pls (isTarget l r) l.length).length (ntI2 (pls (isTarget l r) l.length))) → Hid (Below w.heap.size w wr) → Q0 (.exit 0) ⟨List.toArray (z0 :: (.slice A l.length c) :: z2 :: z3 :: z4 :: z5 :: (.pointer (some ⟨h, 0, none⟩)) :: z7 :: z8 :: z9 :: z10 :: v11 :: v12 :: (.int .i64 (l.length : Int)) :: z14 :: z15 :: z16 :: z17 :: z18 :: z19 :: z20 :: z21 :: z22 :: z23 :: z24 :: z25 :: z26 :: z27 :: z28 :: z29 :: z30 :: z31 :: z32 :: z33 :: z34 :: z35 :: z36 :: z37 :: z38 :: z39 :: z40 :: z41 :: y42 :: y43 :: y44 :: y45 :: y46 :: y47 :: y48 :: y49 :: y50 :: y51 :: y52 :: y53 :: y54 :: y55 :: y56 :: y57 :: y58 :: y59 :: y60 :: y61 :: y62 :: y63 :: y64 :: y65 :: y66 :: y67 :: y68 :: y69 :: y70 :: y71 :: y72 :: y73 :: y74 :: y75 :: y76 :: y77 :: y78 :: y79 :: y80 :: y81 :: y82 :: y83 :: z84 :: z85 :: z86 :: z87 :: z88 :: z89 :: z90 :: z91 :: z92 :: z93 :: z94 :: z95 :: z96 :: z97 :: z98 :: z99 :: z100 :: z101 :: z102 :: z103 :: z104 :: z105 :: z106 :: z107 :: z108 :: z109 :: z110 :: z111 :: z112 :: z113 :: z114 :: z115 :: z116 :: z117 :: z118 :: z119 :: z120 :: z121 :: z122 :: z123 :: z124 :: z125 :: z126 :: z127 :: z128 :: z129 :: z130 :: z131 :: z132 :: z133 :: z134 :: z135 :: z136 :: z137 :: z138 :: z139 :: z140 :: z141 :: z142 :: z143 :: z144 :: z145 :: z146 :: z147 :: z148 :: z149 :: z150 :: z151 :: z152 :: z153 :: z154 :: z155 :: z156 :: z157 :: z158 :: z159 :: z160 :: z161 :: z162 :: z163 :: z164 :: z165 :: z166 :: z167 :: z168 :: z169 :: z170 :: z171 :: z172 :: z173 :: z174 :: z175 :: z176 :: z177 :: z178 :: z179 :: z180 :: z181 :: z182 :: z183 :: z184 :: z185 :: z186 :: z187 :: z188 :: z189 :: z190 :: z191 :: z192 :: z193 :: z194 :: z195 :: z196 :: z197 :: z198 :: z199 :: z200 :: z201 :: z202 :: z203 :: z204 :: z205 :: z206 :: z207 :: z208 :: z209 :: z210 :: z211 :: z212 :: z213 :: z214 :: z215 :: z216 :: z217 :: z218 :: z219 :: z220 :: z221 :: z222 :: z223 :: z224 :: z225 :: z226 :: z227 :: z228 :: z229 :: z230 :: z231 :: z232 :: z233 :: z234 :: z235 :: z236 :: z237 :: z238 :: z239 :: z240 :: z241 :: z242 :: z243 :: z244 :: z245 :: z246 :: z247 :: z248 :: z249 :: z250 :: z251 :: z252 :: z253 :: z254 :: z255 :: z256 :: z257 :: z258 :: z259 :: z260 :: z261 :: z262 :: z263 :: z264 :: z265 :: z266 :: z267 :: z268 :: z269 :: z270 :: z271 :: z272 :: z273 :: z274 :: z275 :: z276 :: z277 :: z278 :: z279 :: z280 :: z281 :: z282 :: z283 :: z284 :: z285 :: z286 :: z287 :: z288 :: z289 :: []), []⟩ wr)) :
    Code.wp Tryz.prog (Code.loop rnear1_code) Q0 ⟨List.toArray (z0 :: (.slice A l.length c) :: z2 :: z3 :: z4 :: z5 :: (.pointer (some ⟨h, 0, none⟩)) :: z7 :: z8 :: z9 :: z10 :: (.slice none 0 0) :: (.slice none 0 0) :: (.int .i64 0) :: z14 :: z15 :: z16 :: z17 :: z18 :: z19 :: z20 :: z21 :: z22 :: z23 :: z24 :: z25 :: z26 :: z27 :: z28 :: z29 :: z30 :: z31 :: z32 :: z33 :: z34 :: z35 :: z36 :: z37 :: z38 :: z39 :: z40 :: z41 :: z42 :: z43 :: z44 :: z45 :: z46 :: z47 :: z48 :: z49 :: z50 :: z51 :: z52 :: z53 :: z54 :: z55 :: z56 :: z57 :: z58 :: z59 :: z60 :: z61 :: z62 :: z63 :: z64 :: z65 :: z66 :: z67 :: z68 :: z69 :: z70 :: z71 :: z72 :: z73 :: z74 :: z75 :: z76 :: z77 :: z78 :: z79 :: z80 :: z81 :: z82 :: z83 :: z84 :: z85 :: z86 :: z87 :: z88 :: z89 :: z90 :: z91 :: z92 :: z93 :: z94 :: z95 :: z96 :: z97 :: z98 :: z99 :: z100 :: z101 :: z102 :: z103 :: z104 :: z105 :: z106 :: z107 :: z108 :: z109 :: z110 :: z111 :: z112 :: z113 :: z114 :: z115 :: z116 :: z117 :: z118 :: z119 :: z120 :: z121 :: z122 :: z123 :: z124 :: z125 :: z126 :: z127 :: z128 :: z129 :: z130 :: z131 :: z132 :: z133 :: z134 :: z135 :: z136 :: z137 :: z138 :: z139 :: z140 :: z141 :: z142 :: z143 :: z144 :: z145 :: z146 :: z147 :: z148 :: z149 :: z150 :: z151 :: z152 :: z153 :: z154 :: z155 :: z156 :: z157 :: z158 :: z159 :: z160 :: z161 :: z162 :: z163 :: z164 :: z165 :: z166 :: z167 :: z168 :: z169 :: z170 :: z171 :: z172 :: z173 :: z174 :: z175 :: z176 :: z177 :: z178 :: z179 :: z180 :: z181 :: z182 :: z183 :: z184 :: z185 :: z186 :: z187 :: z188 :: z189 :: z190 :: z191 :: z192 :: z193 :: z194 :: z195 :: z196 :: z197 :: z198 :: z199 :: z200 :: z201 :: z202 :: z203 :: z204 :: z205 :: z206 :: z207 :: z208 :: z209 :: z210 :: z211 :: z212 :: z213 :: z214 :: z215 :: z216 :: z217 :: z218 :: z219 :: z220 :: z221 :: z222 :: z223 :: z224 :: z225 :: z226 :: z227 :: z228 :: z229 :: z230 :: z231 :: z232 :: z233 :: z234 :: z235 :: z236 :: z237 :: z238 :: z239 :: z240 :: z241 :: z242 :: z243 :: z244 :: z245 :: z246 :: z247 :: z248 :: z249 :: z250 :: z251 :: z252 :: z253 :: z254 :: z255 :: z256 :: z257 :: z258 :: z259 :: z260 :: z261 :: z262 :: z263 :: z264 :: z265 :: z266 :: z267 :: z268 :: z269 :: z270 :: z271 :: z272 :: z273 :: z274 :: z275 :: z276 :: z277 :: z278 :: z279 :: z280 :: z281 :: z282 :: z283 :: z284 :: z285 :: z286 :: z287 :: z288 :: z289 :: []), []⟩ w := by
  conv => arg 2; arg 1; whnf
  have HF := Lib.hid hf
  have HL := Lib.hid hl
  have LEN := Lib.hid hlen
  clear hf hl hlen
  go_loopw [11, 12, 13] (fun ov tv kv wr => ∃ k : Nat, k ≤ l.length ∧ kv = .int .i64 k ∧ Hid (wr.ownsRow w.heap.size 3 1 ov (pls (isSource l r) k).length (ntI2 (pls (isSource l r) k))) ∧ Hid (wr.ownsRow w.heap.size 3 1 tv (pls (isTarget l r) k).length (ntI2 (pls (isTarget l r) k))) ∧ Hid (ov.ownBlock = none ∨ ov.ownBlock ≠ tv.ownBlock) ∧ Hid (Below w.heap.size w wr)) (fun _ _ kv _ => l.length - (intOf kv).toNat)
  case atStart => exact ⟨0, Nat.zero_le _, rfl, Lib.hid (World.ownsRow_nil _ _ _ _), Lib.hid (World.ownsRow_nil _ _ _ _), Lib.hid (.inl rfl), Lib.hid (Below.refl _ _)⟩
  case round =>
    obtain ⟨k, hk, rfl, ho, hq, hne, hb⟩ := hrel
    by_cases hlt : k < l.length
    · have HS : Hid (pls (isSource l r) (k + 1) = if isSource l r k then pls (isSource l r) k ++ [k] else pls (isSource l r) k) := Lib.hid rfl
      have HT : Hid (pls (isTarget l r) (k + 1) = if isTarget l r k then pls (isTarget l r) k ++ [k] else pls (isTarget l r) k) := Lib.hid rfl
      have hps := pls_len (isSource l r) k
      have hpt := pls_len (isTarget l r) k
      obtain ⟨Do, do_, hvv, _⟩ := own_all ho.out
      subst hvv
      obtain ⟨Dt, dt, hvw, _⟩ := own_all hq.out
      subst hvw
      obtain ⟨lF, lS, lK, lT⟩ := LEN.out
      have h4 : Flds wr B h 73 [v0, v1, v2, v3] (rowsS r) := HF.out.later (Rn.later_of_below hb.out (Nat.le_refl _))
      obtain ⟨ad, rfl, hadb, hcs⟩ := HL.out k (l.getD k default) (by simp [hlt])
      have HC : Hid (∀ W, Below w.heap.size w W → W.cell? (ad.add (k * 70)) = some (.int .i64 (l.getD k default).kind)) := Lib.hid fun W hW => (hW.cell (by rw [block_add]; exact hadb)).trans (hcs.zero rfl)
      have hkk := HC.out wr hb.out
      obtain ⟨K, cK, rfl, _, zK, gK, eK, fK⟩ := h4.at_ (i := 1) (k := k) (v := v1) rfl rfl (int_at (by omega))
      obtain ⟨T, cT, rfl, _, zT, gT, eT, fT⟩ := h4.at_ (i := 3) (k := k) (v := v3) rfl rfl (boo_at (by omega))
      have ck : wr.cell? ⟨h, 1, none⟩ = some (.slice (some ⟨K, 0, none⟩) l.length cK) := (h4.cell 1).trans (by rw [show (Rn.ints r.kd).length = l.length by simp [Rn.ints, lK]]; rfl)
      have ct : wr.cell? ⟨h, 3, none⟩ = some (.slice (some ⟨T, 0, none⟩) l.length cT) := (h4.cell 3).trans (by rw [show (Rn.boos r.tk).length = l.length by simp [Rn.boos, lT]]; rfl)
      unfold isSource at HS
      unfold isTarget at HT
      clear h4 hcs lF lS lK lT hadb fK fT gK gT zK zT
      change Hid (pls (isSource l r) (k + 1) = if _ then pls (isSource l r) k ++ [k] else pls (isSource l r) k) at HS
      change Hid (pls (isTarget l r) (k + 1) = if _ then pls (isTarget l r) k ++ [k] else pls (isTarget l r) k) at HT
      generalize (l.getD k default).kind = x at *
      generalize r.tk.getD k false = b at *
      generalize r.kd.getD k 0 = kd at *
      have b3 := (Below.refl wr.heap.size wr).alloc (Nat.le_refl _) (.cells #[.int .i64 (k : Int)] 3)
      have O3 := Lib.hid (own_below ho.out b3)
      have T3 := Lib.hid (own_below hq.out b3)
      have B3 := Lib.hid (hb.out.trans (b3.mono hb.out.size))
      have N3 := Lib.hid (new_rv wr [.int .i64 (k : Int)] 3 ⟨wr.heap.size, 0, none⟩ rfl)
      clear b3
      have SZ := Lib.hid (show (wr.alloc (.cells #[.int .i64 (k : Int)] 3)).heap.size = wr.heap.size + 1 by simp)
      rcases h1 : (x == 2) with _ | _ <;> rw [h1] at HS
      · rcases h2 : (x == 1) with _ | _ <;> rw [h2] at HT
        · go_wp2_with fail
          exact ⟨⟨k + 1, by omega, by go_num, Lib.hid (by rw [HS.out]; exact ho.out), Lib.hid (by rw [HT.out]; exact hq.out), hne, hb⟩, by simp [intOf]; omega⟩
        · rcases h3 : (kd == 0) with _ | _ <;> rw [h3] at HT
          · go_wp2_with fail
            exact ⟨⟨k + 1, by omega, by go_num, Lib.hid (by rw [HS.out]; exact ho.out), Lib.hid (by rw [HT.out]; exact hq.out), hne, hb⟩, by simp [intOf]; omega⟩
          · go_wp2_with (at_builtin; refine wpList_app sl48 rfl (.tmp 80) (.tmp 82) rfl w.heap.size _ (pls (isTarget l r) k).length (ntI2 (pls (isTarget l r) k)) rfl T3.out (some ⟨wr.heap.size, 0, none⟩) 1 1 [.int .i64 (k : Int)] rfl (fun q => by cases q) rfl N3.out (by intro u hu; rw [List.mem_singleton.1 hu]; rfl) (by unfold maxLen; omega) (by omega) B3.out.size ?_; intro v7 w7 ho7 ha7; have O7 := Lib.hid ho7; have A7 := Lib.hid ha7; clear ho7 ha7)
            refine ⟨⟨k + 1, by omega, by go_num, Lib.hid ?_, Lib.hid ?_, Lib.hid ?_, Lib.hid ?_⟩, by simp [intOf]; omega⟩
            · rw [HS.out]; exact own_grown2 O3.out A7.out.grown hne.out
            · rw [HT.out]; simpa [ntI2] using O7.out
            · exact far_app2 (fun q e => (ho.out.lt q e).2) (by have := SZ.out; omega) hne.out A7.out.here
            · exact B3.out.grown A7.out.grown B3.out.size (fun q hq => (T3.out.lt q hq).1)
      · have h2 : (x == 1) = false := by rw [beq_iff_eq] at h1; subst h1; rfl
        rw [h2] at HT
        cases b with
        | false =>
          go_wp2_with (at_builtin; refine wpList_app sl48 rfl (.tmp 62) (.tmp 64) rfl w.heap.size _ (pls (isSource l r) k).length (ntI2 (pls (isSource l r) k)) rfl O3.out (some ⟨wr.heap.size, 0, none⟩) 1 1 [.int .i64 (k : Int)] rfl (fun q => by cases q) rfl N3.out (by intro u hu; rw [List.mem_singleton.1 hu]; rfl) (by unfold maxLen; omega) (by omega) B3.out.size ?_; intro v7 w7 ho7 ha7; have O7 := Lib.hid ho7; have A7 := Lib.hid ha7; have B7 := Lib.hid (B3.out.grown ha7.grown B3.out.size (fun q hq => (O3.out.lt q hq).1)); have hk7 := HC.out w7 B7.out; clear ho7 ha7)
          refine ⟨⟨k + 1, by omega, by go_num, Lib.hid ?_, Lib.hid ?_, Lib.hid ?_, B7⟩, by simp [intOf]; omega⟩
          · rw [HS.out]; simpa [ntI2] using O7.out
          · rw [HT.out]; exact own_grown2 T3.out A7.out.grown (far_sym hne.out)
          · exact far_app1 (fun q e => (hq.out.lt q e).2) (by have := SZ.out; omega) hne.out A7.out.here
        | true =>
          go_wp2_with fail
          exact ⟨⟨k + 1, by omega, by go_num, Lib.hid (by rw [HS.out]; exact ho.out), Lib.hid (by rw [HT.out]; exact hq.out), hne, hb⟩, by simp [intOf]; omega⟩
    · have hke : k = l.length := by omega
      subst hke
      go_wp2_with fail
      exact hexit.out _ _ _ _ _ _ _ _ _ _ _ _ _ _ _ _ _ _ _ _ _ _ _ _ _ _ _ _ _ _ _ _ _ _ _ _ _ _ _ _ _ _ _ _ _ ho hq hb
end Go.Proofs.YtbmpidacoohdmaaGreat

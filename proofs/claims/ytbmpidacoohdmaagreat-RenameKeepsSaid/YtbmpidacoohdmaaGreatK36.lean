/- RenameKeeps: the skipping of what was taken: the innermost loop, as a law. RenameKeeps: the second loop, as a law. -/
import Derived.Test.YtbmpidacoohdmaaGreatK35
namespace Go.Proofs.YtbmpidacoohdmaaGreat
open Go.RowKit Op
open Rn (Chg LReads CellsAt Oks)

noncomputable def kskip_code : Code := (loopsIn (((Tryz.f4.body.map loopsIn).getD []).getD 1 .skip)).getD 0 .skip
set_option maxRecDepth 100000 in
set_option maxHeartbeats 1000000 in
theorem kskip (w : World) (D E : Option Addr) (d e : Nat) (l L : List Chg) (hl : LReads w w.heap.size D l) (ok : Oks l) (hL : LReads w w.heap.size E L) (okL : Oks L) (hn : l.length ≤ 40) (_hnL : L.length ≤ 40) (k a q : Nat) (hk : k < L.length) (haq : a ≤ q) (hql : q < l.length) (hgo : ∀ b, a ≤ b → b ≤ q → (l.getD b default).kind = 2 → ((L.getD k default).kind ≠ 2 ∨ L.getD k default ≠ l.getD b default) → b < q) (Q0 : Exit → Act → World → Prop) (z0 z1 z2 z3 z5 z7 z8 z9 z10 z11 z12 z13 z16 z17 z18 z19 z20 z21 z22 z23 z24 z25 z26 z27 z28 z29 z30 z31 z32 z33 z34 z35 z36 z37 z38 z39 z40 z41 z42 z43 z44 z45 z46 z47 z48 z49 z50 z51 z52 z53 z54 z55 z56 z57 z58 z59 z60 z61 z62 z63 z64 z65 z66 z67 z68 z69 z70 z71 z72 z73 z74 z75 z76 z77 z78 z79 z80 z81 z82 z83 z84 z85 z86 z87 z88 z89 z90 z91 z92 z93 z94 z95 z96 z97 z98 z99 z100 z101 z102 z103 z104 z105 z106 z107 z108 z109 z110 z111 z112 z113 z114 z115 z116 z117 z118 z119 z120 z121 z122 z123 z124 z125 z126 z127 z128 z129 z130 z131 z132 z133 z134 z135 z136 z137 z138 z139 z140 z141 z142 z143 z144 z145 z146 z147 z148 z149 z150 z151 z152 z153 z154 z155 z156 z157 z158 z159 z160 z161 z162 z163 z164 z165 z166 z167 z168 z169 z170 z171 z172 z173 z174 z175 z176 z177 z178 z179 z180 z181 z182 z183 z184 z185 z186 z187 z188 z189 z190 z191 z192 z193 z194 z195 z196 z197 z198 z199 z200 z201 z202 z203 z204 z205 z206 z207 z208 z209 z210 z211 z212 z213 z214 z215 z216 z217 z218 z219 z220 z221 z222 z223 z224 z225 z226 z227 z228 z229 z230 z231 z232 z233 z234 z235 z236 z237 z238 z239 z240 z241 z242 z243 z244 z245 : Value)
    (hexit : Hid (∀ (b : Nat) (wr : World) (y66 y67 y68 y69 y70 y71 y72 y73 y74 y75 y76 y77 y78 y79 y80 y81 y82 y83 y84 y85 y86 y87 y88 y89 y90 y91 y92 y93 y94 y95 y96 y97 y98 : Value), Hid (a ≤ b ∧ b ≤ q ∧ ((l.getD b default).kind ≠ 2 ∨ ((L.getD k default).kind = 2 ∧ L.getD k default = l.getD b default))) → Hid (∃ m, wr = w.drewN m) → Q0 (.exit 4) ⟨List.toArray (z0 :: z1 :: z2 :: z3 :: (.slice D l.length d) :: z5 :: (.slice E L.length e) :: z7 :: z8 :: z9 :: z10 :: z11 :: z12 :: z13 :: (.int .i64 (b : Int)) :: (.int .i64 (k : Int)) :: z16 :: z17 :: z18 :: z19 :: z20 :: z21 :: z22 :: z23 :: z24 :: z25 :: z26 :: z27 :: z28 :: z29 :: z30 :: z31 :: z32 :: z33 :: z34 :: z35 :: z36 :: z37 :: z38 :: z39 :: z40 :: z41 :: z42 :: z43 :: z44 :: z45 :: z46 :: z47 :: z48 :: z49 :: z50 :: z51 :: z52 :: z53 :: z54 :: z55 :: z56 :: z57 :: z58 :: z59 :: z60 :: z61 :: z62 :: z63 :: z64 :: z65 :: y66 :: y67 :: y68 :: y69 :: y70 :: y71 :: y72 :: y73 :: y74 :: y75 :: y76 :: y77 :: y78 :: y79 :: y80 :: y81 :: y82 :: y83 :: y84 :: y85 :: y86 :: y87 :: y88 :: y89 :: y90 :: y91 :: y92 :: y93 :: y94 :: y95 :: y96 :: y97 :: y98 :: z99 :: z100 :: z101 :: z102 :: z103 :: z104 :: z105 :: z106 :: z107 :: z108 :: z109 :: z110 :: z111 :: z112 :: z113 :: z114 :: z115 :: z116 :: z117 :: z118 :: z119 :: z120 :: z121 :: z122 :: z123 :: z124 :: z125 :: z126 :: z127 :: z128 :: z129 :: z130 :: z131 :: z132 :: z133 :: z134 :: z135 :: z136 :: z137 :: z138 :: z139 :: z140 :: z141 :: z142 :: z143 :: z144 :: z145 :: z146 :: z147 :: z148 :: z149 :: z150 :: z151 :: z152 :: z153 :: z154 :: z155 :: z156 :: z157 :: z158 :: z159 :: z160 :: z161 :: z162 :: z163 :: z164 :: z165 :: z166 :: z167 :: z168 :: z169 :: z170 :: z171 :: z172 :: z173 :: z174 :: z175 :: z176 :: z177 :: z178 :: z179 :: z180 :: z181 :: z182 :: z183 :: z184 :: z185 :: z186 :: z187 :: z188 :: z189 :: z190 :: z191 :: z192 :: z193 :: z194 :: z195 :: z196 :: z197 :: z198 :: z199 :: z200 :: z201 :: z202 :: z203 :: z204 :: z205 :: z206 :: z207 :: z208 :: z209 :: z210 :: z211 :: z212 :: z213 :: z214 :: z215 :: z216 :: z217 :: z218 :: z219 :: z220 :: z221 :: z222 :: z223 :: z224 :: z225 :: z226 :: z227 :: z228 :: z229 :: z230 :: z231 :: z232 :: z233 :: z234 :: z235 :: z236 :: z237 :: z238 :: z239 :: z240 :: z241 :: z242 :: z243 :: z244 :: z245 :: []), []⟩ wr)) :
    Code.wp Tryz.prog (Code.loop kskip_code) Q0 ⟨List.toArray (z0 :: z1 :: z2 :: z3 :: (.slice D l.length d) :: z5 :: (.slice E L.length e) :: z7 :: z8 :: z9 :: z10 :: z11 :: z12 :: z13 :: (.int .i64 (a : Int)) :: (.int .i64 (k : Int)) :: z16 :: z17 :: z18 :: z19 :: z20 :: z21 :: z22 :: z23 :: z24 :: z25 :: z26 :: z27 :: z28 :: z29 :: z30 :: z31 :: z32 :: z33 :: z34 :: z35 :: z36 :: z37 :: z38 :: z39 :: z40 :: z41 :: z42 :: z43 :: z44 :: z45 :: z46 :: z47 :: z48 :: z49 :: z50 :: z51 :: z52 :: z53 :: z54 :: z55 :: z56 :: z57 :: z58 :: z59 :: z60 :: z61 :: z62 :: z63 :: z64 :: z65 :: z66 :: z67 :: z68 :: z69 :: z70 :: z71 :: z72 :: z73 :: z74 :: z75 :: z76 :: z77 :: z78 :: z79 :: z80 :: z81 :: z82 :: z83 :: z84 :: z85 :: z86 :: z87 :: z88 :: z89 :: z90 :: z91 :: z92 :: z93 :: z94 :: z95 :: z96 :: z97 :: z98 :: z99 :: z100 :: z101 :: z102 :: z103 :: z104 :: z105 :: z106 :: z107 :: z108 :: z109 :: z110 :: z111 :: z112 :: z113 :: z114 :: z115 :: z116 :: z117 :: z118 :: z119 :: z120 :: z121 :: z122 :: z123 :: z124 :: z125 :: z126 :: z127 :: z128 :: z129 :: z130 :: z131 :: z132 :: z133 :: z134 :: z135 :: z136 :: z137 :: z138 :: z139 :: z140 :: z141 :: z142 :: z143 :: z144 :: z145 :: z146 :: z147 :: z148 :: z149 :: z150 :: z151 :: z152 :: z153 :: z154 :: z155 :: z156 :: z157 :: z158 :: z159 :: z160 :: z161 :: z162 :: z163 :: z164 :: z165 :: z166 :: z167 :: z168 :: z169 :: z170 :: z171 :: z172 :: z173 :: z174 :: z175 :: z176 :: z177 :: z178 :: z179 :: z180 :: z181 :: z182 :: z183 :: z184 :: z185 :: z186 :: z187 :: z188 :: z189 :: z190 :: z191 :: z192 :: z193 :: z194 :: z195 :: z196 :: z197 :: z198 :: z199 :: z200 :: z201 :: z202 :: z203 :: z204 :: z205 :: z206 :: z207 :: z208 :: z209 :: z210 :: z211 :: z212 :: z213 :: z214 :: z215 :: z216 :: z217 :: z218 :: z219 :: z220 :: z221 :: z222 :: z223 :: z224 :: z225 :: z226 :: z227 :: z228 :: z229 :: z230 :: z231 :: z232 :: z233 :: z234 :: z235 :: z236 :: z237 :: z238 :: z239 :: z240 :: z241 :: z242 :: z243 :: z244 :: z245 :: []), []⟩ w := by
  conv => arg 2; arg 1; whnf
  have HL := Lib.hid hl
  have HK := Lib.hid ok
  have HL2 := Lib.hid hL
  have HK2 := Lib.hid okL
  have HGO := Lib.hid hgo
  clear hl ok hL okL hgo
  go_loopw [14] (fun bv wr => ∃ b : Nat, a ≤ b ∧ b ≤ q ∧ bv = .int .i64 b ∧ Hid (∃ m, wr = w.drewN m)) (fun bv _ => q + 1 - (intOf bv).toNat)
  case atStart => exact ⟨a, Nat.le_refl _, haq, rfl, Lib.hid ⟨0, rfl⟩⟩
  case round =>
    obtain ⟨b, hab, hbq, rfl, hw⟩ := hrel
    have hbl : b < l.length := by omega
    obtain ⟨ad, e1, _, hca⟩ := HL.out b (l.getD b default) (by simp [hbl])
    obtain ⟨dd, e2, _, hcb⟩ := HL2.out k (L.getD k default) (by simp [hk])
    have oky : (l.getD b default).ok := HK.out b _ (by simp [hbl])
    have okx : (L.getD k default).ok := HK2.out k _ (by simp [hk])
    have H2 : Hid (∀ w', (∃ n, w' = wr.drewN n) → CellsAt w' (ad.add (b * 70)) (l.getD b default).cells) := Lib.hid (by
      obtain ⟨m, rfl⟩ := hw.out
      rintro _ ⟨n, rfl⟩
      exact hca)
    have H1 : Hid (∀ w', (∃ n, w' = wr.drewN n) → CellsAt w' (dd.add (k * 70)) (L.getD k default).cells) := Lib.hid (by
      obtain ⟨m, rfl⟩ := hw.out
      rintro _ ⟨n, rfl⟩
      exact hcb)
    have L2 := Lib.hid (show (Tryz.prog.info? 53).map (·.size) = some (l.getD b default).cells.length by rw [Chg.cells_length _ oky]; exact infoC)
    have L1 := Lib.hid (show (Tryz.prog.info? 53).map (·.size) = some (L.getD k default).cells.length by rw [Chg.cells_length _ okx]; exact infoC)
    have ky : wr.cell? (ad.add (b * 70)) = some (.int .i64 (l.getD b default).kind) := (H2.out wr ⟨0, rfl⟩).zero rfl
    have kx : wr.cell? (dd.add (k * 70)) = some (.int .i64 (L.getD k default).kind) := (H1.out wr ⟨0, rfl⟩).zero rfl
    have hq : ∀ W, (Op.equalIn 10000 53 (.agg (L.getD k default).cells.toArray) (.agg (l.getD b default).cells.toArray)).run Tryz.prog W = .ok (decide (L.getD k default = l.getD b default)) W := fun W => Rn.run_equalIn_chg _ _ okx oky W
    have HG := Lib.hid (HGO.out b hab hbq)
    have HX := Lib.hid (fun h => show a ≤ b ∧ b ≤ q ∧ ((l.getD b default).kind ≠ 2 ∨ ((L.getD k default).kind = 2 ∧ L.getD k default = l.getD b default)) from ⟨hab, hbq, h⟩)
    have LX := Lib.hid (hexit.out b)
    have LB : (b : Int) < (l.length : Int) := by omega
    have LK : (k : Int) < (L.length : Int) := by omega
    have mixed : Tryz.prog.follows .mixedOrders = true := by kernel_rfl
    subst e1 e2
    clear hca hcb oky okx
    generalize L.getD k default = x at *
    generalize l.getD b default = y at *
    by_cases cy : y.kind = 2
    · have qy : (y.kind == 2) = true := by simp [cy]
      by_cases cx : x.kind = 2
      · have qx : (x.kind != 2) = false := by simp [cx]
        by_cases cxy : x = y
        · have hd : decide (x = y) = true := decide_eq_true cxy
          have R := Lib.hid (HX.out (.inr ⟨cx, cxy⟩))
          rw [hd] at hq
          clear HG HX cxy cx cy hd
          generalize y.kind = yk at *
          generalize x.kind = xk at *
          go_wp2_with fail
          refine wp_region_quiet_lit (by kernel_rfl) (by kernel_rfl) ?_
          repeat (first
            | (go_big_quiet_want; refine quiet_load_cells 53 _ rfl _ rfl x.cells Tryz.underlying53 rfl L1.out H1.out ?_; simp only [Act.put, List.setIfInBounds_toArray, List.set_cons_succ, List.set_cons_zero]; go_big_quiet_on)
            | (go_big_quiet_want; refine quiet_load_cells 53 _ rfl _ rfl y.cells Tryz.underlying53 rfl L2.out H2.out ?_; simp only [Act.put, List.setIfInBounds_toArray, List.set_cons_succ, List.set_cons_zero]; go_big_quiet_on)
            | go_big_quiet_step (fail))
          refine wpQuiet_nil ?_
          rintro _ ⟨nq, rfl⟩
          go_wp2_with fail
          exact LX.out _ _ _ _ _ _ _ _ _ _ _ _ _ _ _ _ _ _ _ _ _ _ _ _ _ _ _ _ _ _ _ _ _ _ R (Lib.hid (by obtain ⟨m, rfl⟩ := hw.out; exact ⟨m + nq, by simp⟩))
        · have hd : decide (x = y) = false := decide_eq_false cxy
          have R := HG.out cy (.inr cxy)
          rw [hd] at hq
          clear HG HX cxy cx cy hd
          generalize y.kind = yk at *
          generalize x.kind = xk at *
          go_wp2_with fail
          refine wp_region_quiet_lit (by kernel_rfl) (by kernel_rfl) ?_
          repeat (first
            | (go_big_quiet_want; refine quiet_load_cells 53 _ rfl _ rfl x.cells Tryz.underlying53 rfl L1.out H1.out ?_; simp only [Act.put, List.setIfInBounds_toArray, List.set_cons_succ, List.set_cons_zero]; go_big_quiet_on)
            | (go_big_quiet_want; refine quiet_load_cells 53 _ rfl _ rfl y.cells Tryz.underlying53 rfl L2.out H2.out ?_; simp only [Act.put, List.setIfInBounds_toArray, List.set_cons_succ, List.set_cons_zero]; go_big_quiet_on)
            | go_big_quiet_step (fail))
          refine wpQuiet_nil ?_
          rintro _ ⟨nq, rfl⟩
          go_wp2_with fail
          exact ⟨⟨b + 1, by omega, by omega, by go_num, Lib.hid (by obtain ⟨m, rfl⟩ := hw.out; exact ⟨m + nq, by simp⟩)⟩, by simp [intOf]; omega⟩
      · have qx : (x.kind != 2) = true := by simp [cx]
        have R := HG.out cy (.inl cx)
        clear HG HX cx cy
        generalize decide (x = y) = dxy at *
        generalize y.kind = yk at *
        generalize x.kind = xk at *
        go_wp2_with fail
        refine wp_region_quiet_lit (by kernel_rfl) (by kernel_rfl) ?_
        repeat (first
          | (go_big_quiet_want; refine quiet_load_cells 53 _ rfl _ rfl x.cells Tryz.underlying53 rfl L1.out H1.out ?_; simp only [Act.put, List.setIfInBounds_toArray, List.set_cons_succ, List.set_cons_zero]; go_big_quiet_on)
          | (go_big_quiet_want; refine quiet_load_cells 53 _ rfl _ rfl y.cells Tryz.underlying53 rfl L2.out H2.out ?_; simp only [Act.put, List.setIfInBounds_toArray, List.set_cons_succ, List.set_cons_zero]; go_big_quiet_on)
          | go_big_quiet_step (fail))
        refine wpQuiet_nil ?_
        rintro _ ⟨nq, rfl⟩
        go_wp2_with fail
        exact ⟨⟨b + 1, by omega, by omega, by go_num, Lib.hid (by obtain ⟨m, rfl⟩ := hw.out; exact ⟨m + nq, by simp⟩)⟩, by simp [intOf]; omega⟩
    · have qy : (y.kind == 2) = false := by simp [cy]
      have R := Lib.hid (HX.out (.inl cy))
      clear HG HX cy
      generalize decide (x = y) = dxy at *
      generalize y.kind = yk at *
      generalize x.kind = xk at *
      go_wp2_with fail
      refine wp_region_quiet_lit (by kernel_rfl) (by kernel_rfl) ?_
      repeat (first
        | (go_big_quiet_want; refine quiet_load_cells 53 _ rfl _ rfl x.cells Tryz.underlying53 rfl L1.out H1.out ?_; simp only [Act.put, List.setIfInBounds_toArray, List.set_cons_succ, List.set_cons_zero]; go_big_quiet_on)
        | (go_big_quiet_want; refine quiet_load_cells 53 _ rfl _ rfl y.cells Tryz.underlying53 rfl L2.out H2.out ?_; simp only [Act.put, List.setIfInBounds_toArray, List.set_cons_succ, List.set_cons_zero]; go_big_quiet_on)
        | go_big_quiet_step (fail))
      refine wpQuiet_nil ?_
      rintro _ ⟨nq, rfl⟩
      go_wp2_with fail
      exact LX.out _ _ _ _ _ _ _ _ _ _ _ _ _ _ _ _ _ _ _ _ _ _ _ _ _ _ _ _ _ _ _ _ _ _ R (Lib.hid (by obtain ⟨m, rfl⟩ := hw.out; exact ⟨m + nq, by simp⟩))
end Go.Proofs.YtbmpidacoohdmaaGreat
namespace Go.Proofs.YtbmpidacoohdmaaGreat
open Go.RowKit Op
open Rn (Chg LReads CellsAt Oks St outTo newChg)

noncomputable def kloop_code : Code := (((Tryz.f4.body.map loopsIn).getD []).getD 1 .skip)
set_option maxRecDepth 100000 in
set_option maxHeartbeats 1000000 in
theorem kloop (w : World) (D E : Option Addr) (d e : Nat) (l L : List Chg) (hl : LReads w w.heap.size D l) (ok : Oks l) (hL : LReads w w.heap.size E L) (okL : Oks L) (hn : l.length ≤ 40) (hnL : L.length ≤ 40) (s : St) (ks : Kst l s) (hLe : L = outTo l s l.length) (Q0 : Exit → Act → World → Prop) (z0 z1 z2 z3 z5 z7 z8 z9 z16 z17 z18 z19 z20 z21 z22 z23 z24 z25 z26 z27 z28 z29 z30 z31 z32 z33 z34 z35 z36 z37 z38 z39 z40 z41 z42 z43 z44 z45 z46 z47 z48 z49 z50 z51 z52 z53 z54 z55 z56 z57 z58 z59 z60 z61 z62 z63 z64 z65 z66 z67 z68 z69 z70 z71 z72 z73 z74 z75 z76 z77 z78 z79 z80 z81 z82 z83 z84 z85 z86 z87 z88 z89 z90 z91 z92 z93 z94 z95 z96 z97 z98 z99 z100 z101 z102 z103 z104 z105 z106 z107 z108 z109 z110 z111 z112 z113 z114 z115 z116 z117 z118 z119 z120 z121 z122 z123 z124 z125 z126 z127 z128 z129 z130 z131 z132 z133 z134 z135 z136 z137 z138 z139 z140 z141 z142 z143 z144 z145 z146 z147 z148 z149 z150 z151 z152 z153 z154 z155 z156 z157 z158 z159 z160 z161 z162 z163 z164 z165 z166 z167 z168 z169 z170 z171 z172 z173 z174 z175 z176 z177 z178 z179 z180 z181 z182 z183 z184 z185 z186 z187 z188 z189 z190 z191 z192 z193 z194 z195 z196 z197 z198 z199 z200 z201 z202 z203 z204 z205 z206 z207 z208 z209 z210 z211 z212 z213 z214 z215 z216 z217 z218 z219 z220 z221 z222 z223 z224 z225 z226 z227 z228 z229 z230 z231 z232 z233 z234 z235 z236 z237 z238 z239 z240 z241 z242 z243 z244 z245 : Value)
    (hexit : Hid (∀ (ad rm rn cp a p : Nat) (wr : World) (y2 y60 y61 y62 y63 y64 y65 y66 y67 y68 y69 y70 y71 y72 y73 y74 y75 y76 y77 y78 y79 y80 y81 y82 y83 y84 y85 y86 y87 y88 y89 y90 y91 y92 y93 y94 y95 y96 y97 y98 y99 y100 y101 y102 y103 y104 y105 y106 y107 y108 y109 y110 y111 y112 y113 y114 y115 y116 y117 y118 y119 y120 y121 y122 y123 y124 y125 y126 y127 y128 y129 y130 y131 y132 y133 y134 y135 y136 y137 y138 y139 y140 y141 y142 y143 y144 y145 y146 y147 y148 y149 y150 y151 y152 y153 y154 y155 y156 y157 y158 y159 y160 y161 y162 y163 y164 y165 y166 y167 y168 y169 y170 y171 y172 y173 y174 y175 y176 y177 y178 y179 y180 y181 y182 y183 y184 y185 y186 y187 y188 y189 y190 y191 y192 y193 y194 y195 y196 y197 y198 y199 y200 y201 y202 y203 y204 y205 : Value), Hid (Atp l s L.length a p) → Hid (Nms l s p ad rm rn cp) → Hid (∃ m, wr = w.drewN m) → Q0 (.exit 2) ⟨List.toArray (z0 :: z1 :: y2 :: z3 :: (.slice D l.length d) :: z5 :: (.slice E L.length e) :: z7 :: z8 :: z9 :: (.int .i64 (rn : Int)) :: (.int .i64 (cp : Int)) :: (.int .i64 (ad : Int)) :: (.int .i64 (rm : Int)) :: (.int .i64 (a : Int)) :: (.int .i64 (L.length : Int)) :: z16 :: z17 :: z18 :: z19 :: z20 :: z21 :: z22 :: z23 :: z24 :: z25 :: z26 :: z27 :: z28 :: z29 :: z30 :: z31 :: z32 :: z33 :: z34 :: z35 :: z36 :: z37 :: z38 :: z39 :: z40 :: z41 :: z42 :: z43 :: z44 :: z45 :: z46 :: z47 :: z48 :: z49 :: z50 :: z51 :: z52 :: z53 :: z54 :: z55 :: z56 :: z57 :: z58 :: z59 :: y60 :: y61 :: y62 :: y63 :: y64 :: y65 :: y66 :: y67 :: y68 :: y69 :: y70 :: y71 :: y72 :: y73 :: y74 :: y75 :: y76 :: y77 :: y78 :: y79 :: y80 :: y81 :: y82 :: y83 :: y84 :: y85 :: y86 :: y87 :: y88 :: y89 :: y90 :: y91 :: y92 :: y93 :: y94 :: y95 :: y96 :: y97 :: y98 :: y99 :: y100 :: y101 :: y102 :: y103 :: y104 :: y105 :: y106 :: y107 :: y108 :: y109 :: y110 :: y111 :: y112 :: y113 :: y114 :: y115 :: y116 :: y117 :: y118 :: y119 :: y120 :: y121 :: y122 :: y123 :: y124 :: y125 :: y126 :: y127 :: y128 :: y129 :: y130 :: y131 :: y132 :: y133 :: y134 :: y135 :: y136 :: y137 :: y138 :: y139 :: y140 :: y141 :: y142 :: y143 :: y144 :: y145 :: y146 :: y147 :: y148 :: y149 :: y150 :: y151 :: y152 :: y153 :: y154 :: y155 :: y156 :: y157 :: y158 :: y159 :: y160 :: y161 :: y162 :: y163 :: y164 :: y165 :: y166 :: y167 :: y168 :: y169 :: y170 :: y171 :: y172 :: y173 :: y174 :: y175 :: y176 :: y177 :: y178 :: y179 :: y180 :: y181 :: y182 :: y183 :: y184 :: y185 :: y186 :: y187 :: y188 :: y189 :: y190 :: y191 :: y192 :: y193 :: y194 :: y195 :: y196 :: y197 :: y198 :: y199 :: y200 :: y201 :: y202 :: y203 :: y204 :: y205 :: z206 :: z207 :: z208 :: z209 :: z210 :: z211 :: z212 :: z213 :: z214 :: z215 :: z216 :: z217 :: z218 :: z219 :: z220 :: z221 :: z222 :: z223 :: z224 :: z225 :: z226 :: z227 :: z228 :: z229 :: z230 :: z231 :: z232 :: z233 :: z234 :: z235 :: z236 :: z237 :: z238 :: z239 :: z240 :: z241 :: z242 :: z243 :: z244 :: z245 :: []), []⟩ wr)) :
    Code.wp Tryz.prog (Code.loop kloop_code) Q0 ⟨List.toArray (z0 :: z1 :: z2 :: z3 :: (.slice D l.length d) :: z5 :: (.slice E L.length e) :: z7 :: z8 :: z9 :: (.int .i64 0) :: (.int .i64 0) :: (.int .i64 0) :: (.int .i64 0) :: (.int .i64 0) :: (.int .i64 0) :: z16 :: z17 :: z18 :: z19 :: z20 :: z21 :: z22 :: z23 :: z24 :: z25 :: z26 :: z27 :: z28 :: z29 :: z30 :: z31 :: z32 :: z33 :: z34 :: z35 :: z36 :: z37 :: z38 :: z39 :: z40 :: z41 :: z42 :: z43 :: z44 :: z45 :: z46 :: z47 :: z48 :: z49 :: z50 :: z51 :: z52 :: z53 :: z54 :: z55 :: z56 :: z57 :: z58 :: z59 :: z60 :: z61 :: z62 :: z63 :: z64 :: z65 :: z66 :: z67 :: z68 :: z69 :: z70 :: z71 :: z72 :: z73 :: z74 :: z75 :: z76 :: z77 :: z78 :: z79 :: z80 :: z81 :: z82 :: z83 :: z84 :: z85 :: z86 :: z87 :: z88 :: z89 :: z90 :: z91 :: z92 :: z93 :: z94 :: z95 :: z96 :: z97 :: z98 :: z99 :: z100 :: z101 :: z102 :: z103 :: z104 :: z105 :: z106 :: z107 :: z108 :: z109 :: z110 :: z111 :: z112 :: z113 :: z114 :: z115 :: z116 :: z117 :: z118 :: z119 :: z120 :: z121 :: z122 :: z123 :: z124 :: z125 :: z126 :: z127 :: z128 :: z129 :: z130 :: z131 :: z132 :: z133 :: z134 :: z135 :: z136 :: z137 :: z138 :: z139 :: z140 :: z141 :: z142 :: z143 :: z144 :: z145 :: z146 :: z147 :: z148 :: z149 :: z150 :: z151 :: z152 :: z153 :: z154 :: z155 :: z156 :: z157 :: z158 :: z159 :: z160 :: z161 :: z162 :: z163 :: z164 :: z165 :: z166 :: z167 :: z168 :: z169 :: z170 :: z171 :: z172 :: z173 :: z174 :: z175 :: z176 :: z177 :: z178 :: z179 :: z180 :: z181 :: z182 :: z183 :: z184 :: z185 :: z186 :: z187 :: z188 :: z189 :: z190 :: z191 :: z192 :: z193 :: z194 :: z195 :: z196 :: z197 :: z198 :: z199 :: z200 :: z201 :: z202 :: z203 :: z204 :: z205 :: z206 :: z207 :: z208 :: z209 :: z210 :: z211 :: z212 :: z213 :: z214 :: z215 :: z216 :: z217 :: z218 :: z219 :: z220 :: z221 :: z222 :: z223 :: z224 :: z225 :: z226 :: z227 :: z228 :: z229 :: z230 :: z231 :: z232 :: z233 :: z234 :: z235 :: z236 :: z237 :: z238 :: z239 :: z240 :: z241 :: z242 :: z243 :: z244 :: z245 :: []), []⟩ w := by
  conv => arg 2; arg 1; whnf
  have HL := Lib.hid hl
  have HK := Lib.hid ok
  have HL2 := Lib.hid hL
  have HK2 := Lib.hid okL
  have KS := Lib.hid ks
  have HLE := Lib.hid hLe
  have HLN := Lib.hid (show L.length = cntN (unt s) l.length by rw [hLe]; exact out_len l s l.length)
  clear hl ok hL okL ks hLe
  go_loopw [10, 11, 12, 13, 14, 15] (fun rv cv av mv tv kv wr => ∃ k a p ad rm rn cp : Nat, k ≤ L.length ∧ rv = .int .i64 rn ∧ cv = .int .i64 cp ∧ av = .int .i64 ad ∧ mv = .int .i64 rm ∧ tv = .int .i64 a ∧ kv = .int .i64 k ∧ Hid (Atp l s k a p) ∧ Hid (Nms l s p ad rm rn cp) ∧ Hid (∃ m, wr = w.drewN m)) (fun _ _ _ _ _ kv _ => L.length - (intOf kv).toNat)
  case atStart => exact ⟨0, 0, 0, 0, 0, 0, 0, Nat.zero_le _, rfl, rfl, rfl, rfl, rfl, rfl, Lib.hid (Atp.zero l s), Lib.hid (Nms.zero l s), Lib.hid ⟨0, rfl⟩⟩
  case round =>
    obtain ⟨k, a, p, ad, rm, rn, cp, hk, rfl, rfl, rfl, rfl, rfl, rfl, hat, hnm, hw⟩ := hrel
    by_cases hlt : k < L.length
    · obtain ⟨q, nx⟩ := hat.out.next KS.out (by rw [← HLN.out]; exact hlt)
      have hx : L.getD k default = newChg l s q := by
        have := nx.row
        rw [← HLE.out] at this
        rw [List.getD_eq_getElem?_getD, this]; rfl
      have bad : ad ≤ 40 := by rw [hnm.out.ad]; exact Nat.le_trans (cntN_le _ _) (Nat.le_trans hat.out.pl hn)
      have brm : rm ≤ 40 := by rw [hnm.out.rm]; exact Nat.le_trans (cntN_le _ _) (Nat.le_trans hat.out.pl hn)
      have brn : rn ≤ 40 := by rw [hnm.out.rn]; exact Nat.le_trans (cntN_le _ _) (Nat.le_trans hat.out.pl hn)
      have bcp : cp ≤ 40 := by rw [hnm.out.cp]; exact Nat.le_trans (cntN_le _ _) (Nat.le_trans hat.out.pl hn)
      have NX := Lib.hid nx
      have NMS := hnm
      have hql := nx.ql
      have haq := nx.aq
      have HXX := Lib.hid hx
      have HLW : Hid (LReads wr wr.heap.size D l) := Lib.hid (by obtain ⟨m, rfl⟩ := hw.out; exact HL.out)
      have HLW2 : Hid (LReads wr wr.heap.size E L) := Lib.hid (by obtain ⟨m, rfl⟩ := hw.out; exact HL2.out)
      have HGO := Lib.hid (fun b (_ : a ≤ b) (h2 : b ≤ q) hb (hh : (L.getD k default).kind ≠ 2 ∨ L.getD k default ≠ l.getD b default) => NX.out.go KS.out h2 hb (by rw [← HXX.out]; exact hh))
      clear nx hnm hx
      go_wp2_with fail
      refine kskip wr D E d e l L HLW.out HK.out HLW2.out HK2.out hn hnL k a q hlt haq hql HGO.out _ _ _ _ _ _ _ _ _ _ _ _ _ _ _ _ _ _ _ _ _ _ _ _ _ _ _ _ _ _ _ _ _ _ _ _ _ _ _ _ _ _ _ _ _ _ _ _ _ _ _ _ _ _ _ _ _ _ _ _ _ _ _ _ _ _ _ _ _ _ _ _ _ _ _ _ _ _ _ _ _ _ _ _ _ _ _ _ _ _ _ _ _ _ _ _ _ _ _ _ _ _ _ _ _ _ _ _ _ _ _ _ _ _ _ _ _ _ _ _ _ _ _ _ _ _ _ _ _ _ _ _ _ _ _ _ _ _ _ _ _ _ _ _ _ _ _ _ _ _ _ _ _ _ _ _ _ _ _ _ _ _ _ _ _ _ _ _ _ _ _ _ _ _ _ _ _ _ _ _ _ _ _ _ _ _ _ _ _ _ _ _ _ _ _ _ _ _ _ _ _ _ _ _ _ _ _ _ _ _ _ _ _ _ _ _ _ _ _ _ _ _ _ _ _ _ _ _ _ _ _ _ _ _ _ _ _ _ _ _ _ _ _ ?_
      refine Lib.hid ?_
      intro b w2
      intros
      rename_i hbb hw2
      obtain ⟨hab, hbq, hor⟩ := hbb.out
      have W2 : Hid (∃ m, w2 = w.drewN m) := Lib.hid (by obtain ⟨m, rfl⟩ := hw.out; obtain ⟨m2, rfl⟩ := hw2.out; exact ⟨m + m2, by simp⟩)
      have hbl : b < l.length := by omega
      obtain ⟨aD, e1, _, hca⟩ := HL.out b (l.getD b default) (by simp [hbl])
      obtain ⟨aE, e2, _, hcb⟩ := HL2.out k (L.getD k default) (by simp [hlt])
      have oky : (l.getD b default).ok := HK.out b _ (by simp [hbl])
      have okx : (L.getD k default).ok := HK2.out k _ (by simp [hlt])
      have CY : Hid (CellsAt w2 (aD.add (b * 70)) (l.getD b default).cells) := Lib.hid (by obtain ⟨m, rfl⟩ := W2.out; exact hca)
      have CX : Hid (CellsAt w2 (aE.add (k * 70)) (L.getD k default).cells) := Lib.hid (by obtain ⟨m, rfl⟩ := W2.out; exact hcb)
      have H2 : Hid (∀ w', (∃ n, w' = w2.drewN n) → CellsAt w' (aD.add (b * 70)) (l.getD b default).cells) := Lib.hid (by rintro _ ⟨n, rfl⟩; exact CY.out)
      have H1 : Hid (∀ w', (∃ n, w' = w2.drewN n) → CellsAt w' (aE.add (k * 70)) (L.getD k default).cells) := Lib.hid (by rintro _ ⟨n, rfl⟩; exact CX.out)
      have L2 := Lib.hid (show (Tryz.prog.info? 53).map (·.size) = some (l.getD b default).cells.length by rw [Chg.cells_length _ oky]; exact infoC)
      have L1 := Lib.hid (show (Tryz.prog.info? 53).map (·.size) = some (L.getD k default).cells.length by rw [Chg.cells_length _ okx]; exact infoC)
      have ky : w2.cell? (aD.add (b * 70)) = some (.int .i64 (l.getD b default).kind) := CY.out.zero rfl
      have kx : w2.cell? (aE.add (k * 70)) = some (.int .i64 (L.getD k default).kind) := CX.out.zero rfl
      have hq : ∀ W, (Op.equalIn 10000 53 (.agg (L.getD k default).cells.toArray) (.agg (l.getD b default).cells.toArray)).run Tryz.prog W = .ok (decide (L.getD k default = l.getD b default)) W := fun W => Rn.run_equalIn_chg _ _ okx oky W
      have LB : (b : Int) < (l.length : Int) := by omega
      have LK : (k : Int) < (L.length : Int) := by omega
      have qb : ((b : Int) == (l.length : Int)) = false := beq_eq_false_iff_ne.2 (by omega)
      have mixed : Tryz.prog.follows .mixedOrders = true := by kernel_rfl
      have OKX := Lib.hid okx
      have OKY := Lib.hid oky
      subst e1 e2
      clear hca hcb oky okx
      by_cases cxy : L.getD k default = l.getD b default
      · have KP : Hid (Kpt2 l s q b (L.getD k default)) := Lib.hid (by have := NX.out.same KS.out hab hbq (by rw [← HXX.out]; exact cxy); rwa [← HXX.out] at this)
        have AT := Lib.hid (NX.out.after hab hbq KP.out.r)
        have hd : decide (L.getD k default = l.getD b default) = true := decide_eq_true cxy
        rw [hd] at hq
        clear cxy hd hor ky CX CY HXX HGO hat
        generalize L.getD k default = x at *
        generalize l.getD b default = y at *
        by_cases k1 : x.kind = 1
        · have NM : Hid (Nms l s (q + 1) (ad + 1) rm rn cp) := Lib.hid (by have := NMS.out.kept NX.out KP.out; rw [if_pos k1, if_neg (by omega)] at this; exact this)
          rw [k1] at kx
          go_wp2_with fail
          refine wp_region_quiet_lit (by kernel_rfl) (by kernel_rfl) ?_
          repeat (first
            | (go_big_quiet_want; refine quiet_load_cells 53 _ rfl _ rfl x.cells Tryz.underlying53 rfl L1.out H1.out ?_; simp only [Act.put, List.setIfInBounds_toArray, List.set_cons_succ, List.set_cons_zero]; go_big_quiet_on)
            | (go_big_quiet_want; refine quiet_load_cells 53 _ rfl _ rfl y.cells Tryz.underlying53 rfl L2.out H2.out ?_; simp only [Act.put, List.setIfInBounds_toArray, List.set_cons_succ, List.set_cons_zero]; go_big_quiet_on)
            | go_big_quiet_step (fail))
          refine wpQuiet_nil ?_
          rintro _ ⟨nq, rfl⟩
          go_wp2_with fail
          exact ⟨⟨k + 1, b + 1, q + 1, ad + 1, rm, rn, cp, by omega, rfl, rfl, by go_num, rfl, by go_num, by go_num, AT, NM, Lib.hid (by obtain ⟨m, rfl⟩ := W2.out; exact ⟨m + nq, by simp⟩)⟩, by simp [intOf]; omega⟩
        · by_cases k2 : x.kind = 2
          · have NM : Hid (Nms l s (q + 1) ad (rm + 1) rn cp) := Lib.hid (by have := NMS.out.kept NX.out KP.out; rw [if_neg k1, if_pos k2] at this; exact this)
            rw [k2] at kx
            go_wp2_with fail
            refine wp_region_quiet_lit (by kernel_rfl) (by kernel_rfl) ?_
            repeat (first
              | (go_big_quiet_want; refine quiet_load_cells 53 _ rfl _ rfl x.cells Tryz.underlying53 rfl L1.out H1.out ?_; simp only [Act.put, List.setIfInBounds_toArray, List.set_cons_succ, List.set_cons_zero]; go_big_quiet_on)
              | (go_big_quiet_want; refine quiet_load_cells 53 _ rfl _ rfl y.cells Tryz.underlying53 rfl L2.out H2.out ?_; simp only [Act.put, List.setIfInBounds_toArray, List.set_cons_succ, List.set_cons_zero]; go_big_quiet_on)
              | go_big_quiet_step (fail))
            refine wpQuiet_nil ?_
            rintro _ ⟨nq, rfl⟩
            go_wp2_with fail
            exact ⟨⟨k + 1, b + 1, q + 1, ad, rm + 1, rn, cp, by omega, rfl, rfl, rfl, by go_num, by go_num, by go_num, AT, NM, Lib.hid (by obtain ⟨m, rfl⟩ := W2.out; exact ⟨m + nq, by simp⟩)⟩, by simp [intOf]; omega⟩
          · have NM : Hid (Nms l s (q + 1) ad rm rn cp) := Lib.hid (by have := NMS.out.kept NX.out KP.out; rw [if_neg k1, if_neg k2] at this; exact this)
            have q1 : (x.kind == 1) = false := by simp [k1]
            have q2 : (x.kind == 2) = false := by simp [k2]
            clear k1 k2
            go_wp2_with fail
            refine wp_region_quiet_lit (by kernel_rfl) (by kernel_rfl) ?_
            repeat (first
              | (go_big_quiet_want; refine quiet_load_cells 53 _ rfl _ rfl x.cells Tryz.underlying53 rfl L1.out H1.out ?_; simp only [Act.put, List.setIfInBounds_toArray, List.set_cons_succ, List.set_cons_zero]; go_big_quiet_on)
              | (go_big_quiet_want; refine quiet_load_cells 53 _ rfl _ rfl y.cells Tryz.underlying53 rfl L2.out H2.out ?_; simp only [Act.put, List.setIfInBounds_toArray, List.set_cons_succ, List.set_cons_zero]; go_big_quiet_on)
              | go_big_quiet_step (fail))
            refine wpQuiet_nil ?_
            rintro _ ⟨nq, rfl⟩
            go_wp2_with fail
            exact ⟨⟨k + 1, b + 1, q + 1, ad, rm, rn, cp, by omega, rfl, rfl, rfl, rfl, by go_num, by go_num, AT, NM, Lib.hid (by obtain ⟨m, rfl⟩ := W2.out; exact ⟨m + nq, by simp⟩)⟩, by simp [intOf]; omega⟩
      · have hbq2 : b = q := by
          rcases hor with h | h
          · exact NX.out.stop hab hbq h
          · exact absurd h.2 cxy
        have MV : Hid (Mvd l s q (L.getD k default)) := Lib.hid (by have := NX.out.other KS.out hbq2 (by rw [← HXX.out]; exact cxy); rwa [← HXX.out] at this)
        have AT := Lib.hid (NX.out.after hab hbq (fun h => by omega))
        have hd : decide (L.getD k default = l.getD b default) = false := decide_eq_false cxy
        rw [hd] at hq
        have mtg := MV.out.tg
        have mnw := MV.out.nw
        have mni := MV.out.ni
        have ms1 := MV.out.s1
        have ms2 := MV.out.s2
        have mkd := MV.out.kd
        rw [← hbq2] at mtg mnw mni
        rw [mtg] at ky
        have nwx : w2.cell? ⟨(aE.add (k * 70)).block, (aE.add (k * 70)).off + 2, none⟩ = some (.string (L.getD k default).new) := CX.out.succ 1 rfl
        have nwy : w2.cell? ⟨(aD.add (b * 70)).block, (aD.add (b * 70)).off + 2, none⟩ = some (.string (L.getD k default).new) := by rw [mnw]; exact CY.out.succ 1 rfl
        have scx : w2.cell? ⟨(aE.add (k * 70)).block, (aE.add (k * 70)).off + 69, none⟩ = some (.int .i64 (L.getD k default).score) := CX.out.succ 68 (Rn.Chg.score_at _ OKX.out)
        have HI1 : Hid (∀ w', (∃ n, w' = (w2.drewN 0).drewN n) → True) := Lib.hid (fun _ _ => trivial)
        have hpx := (CX.out.part 37).take 32
        rw [Rn.Chg.nid_part _ OKX.out] at hpx
        have hpy := (CY.out.part 37).take 32
        rw [Rn.Chg.nid_part _ OKY.out, ← mni] at hpy
        have HPX := Lib.hid hpx
        have HPY := Lib.hid hpy
        have LI := Lib.hid (show (Tryz.prog.info? 51).map (·.size) = some (u8s (L.getD k default).nid).length by rw [u8s_length, OKX.out.nid]; exact Rn.info44)
        have hqi : ∀ W, (Op.equalIn 10000 51 (.agg (u8s (L.getD k default).nid).toArray) (.agg (u8s (L.getD k default).nid).toArray)).run Tryz.prog W = .ok (decide ((L.getD k default).nid = (L.getD k default).nid)) W := fun W => run_equalIn_u8s (P := Tryz.prog) (n := 32) W Tryz.underlying51 Tryz.underlying5 (Option.map_eq_some_iff.1 Rn.info5).choose_spec.1 (Option.map_eq_some_iff.1 Rn.info5).choose_spec.2 9998 _ _ OKX.out.nid OKX.out.nid
        rw [decide_eq_true rfl] at hqi
        clear cxy hd hor HXX HGO hat mtg mnw mni hpx hpy CX CY HI1 hbq2
        generalize L.getD k default = x at *
        generalize l.getD b default = y at *
        rcases mkd with k4 | k5
        · have NM : Hid (Nms l s (q + 1) ad rm (rn + 1) cp) := Lib.hid (by have := NMS.out.moved NX.out MV.out; rw [if_pos k4, if_pos k4] at this; exact this)
          rw [k4] at kx
          clear k4
          go_wp2_with fail
          refine wp_region_quiet_lit (by kernel_rfl) (by kernel_rfl) ?_
          repeat (first
            | (go_big_quiet_want; refine quiet_load_cells 53 _ rfl _ rfl x.cells Tryz.underlying53 rfl L1.out H1.out ?_; simp only [Act.put, List.setIfInBounds_toArray, List.set_cons_succ, List.set_cons_zero]; go_big_quiet_on)
            | (go_big_quiet_want; refine quiet_load_cells 53 _ rfl _ rfl y.cells Tryz.underlying53 rfl L2.out H2.out ?_; simp only [Act.put, List.setIfInBounds_toArray, List.set_cons_succ, List.set_cons_zero]; go_big_quiet_on)
            | go_big_quiet_step (fail))
          refine wpQuiet_nil ?_
          rintro _ ⟨nq, rfl⟩
          have HI1 : Hid (∀ w', (∃ n, w' = (w2.drewN nq).drewN n) → CellsAt w' ⟨(aE.add (k * 70)).block, (aE.add (k * 70)).off + 37, none⟩ (u8s x.nid)) := Lib.hid (by rintro _ ⟨n, rfl⟩; exact HPX.out)
          have HI2 : Hid (∀ w', (∃ n, w' = (w2.drewN nq).drewN n) → CellsAt w' ⟨(aD.add (b * 70)).block, (aD.add (b * 70)).off + 37, none⟩ (u8s x.nid)) := Lib.hid (by rintro _ ⟨n, rfl⟩; exact HPY.out)
          generalize x.nid = nid at *
          generalize x.new = nw at *
          generalize x.score = scr at *
          go_wp2_with fail
          refine wp_region_quiet_lit (by kernel_rfl) (by kernel_rfl) ?_
          simp only [List.append_eq, List.cons_append, List.nil_append]
          repeat (first
            | (go_big_quiet_want; refine quiet_load_cells 51 _ rfl _ rfl (u8s nid) Tryz.underlying51 rfl LI.out HI1.out ?_; simp only [Act.put, List.setIfInBounds_toArray, List.set_cons_succ, List.set_cons_zero]; go_big_quiet_on)
            | (go_big_quiet_want; refine quiet_load_cells 51 _ rfl _ rfl (u8s nid) Tryz.underlying51 rfl LI.out HI2.out ?_; simp only [Act.put, List.setIfInBounds_toArray, List.set_cons_succ, List.set_cons_zero]; go_big_quiet_on)
            | go_big_quiet_step (fail))
          refine wpQuiet_nil ?_
          rintro _ ⟨nr, rfl⟩
          go_wp2_with fail
          exact ⟨⟨k + 1, b + 1, q + 1, ad, rm, rn + 1, cp, by omega, by go_num, rfl, rfl, rfl, by go_num, by go_num, AT, NM, Lib.hid (by obtain ⟨m, rfl⟩ := W2.out; exact ⟨m + (nq + nr), by simp⟩)⟩, by simp [intOf]; omega⟩
        · have NM : Hid (Nms l s (q + 1) ad rm rn (cp + 1)) := Lib.hid (by have := NMS.out.moved NX.out MV.out; rw [if_neg (by omega), if_neg (by omega)] at this; exact this)
          rw [k5] at kx
          clear k5
          go_wp2_with fail
          refine wp_region_quiet_lit (by kernel_rfl) (by kernel_rfl) ?_
          repeat (first
            | (go_big_quiet_want; refine quiet_load_cells 53 _ rfl _ rfl x.cells Tryz.underlying53 rfl L1.out H1.out ?_; simp only [Act.put, List.setIfInBounds_toArray, List.set_cons_succ, List.set_cons_zero]; go_big_quiet_on)
            | (go_big_quiet_want; refine quiet_load_cells 53 _ rfl _ rfl y.cells Tryz.underlying53 rfl L2.out H2.out ?_; simp only [Act.put, List.setIfInBounds_toArray, List.set_cons_succ, List.set_cons_zero]; go_big_quiet_on)
            | go_big_quiet_step (fail))
          refine wpQuiet_nil ?_
          rintro _ ⟨nq, rfl⟩
          have HI1 : Hid (∀ w', (∃ n, w' = (w2.drewN nq).drewN n) → CellsAt w' ⟨(aE.add (k * 70)).block, (aE.add (k * 70)).off + 37, none⟩ (u8s x.nid)) := Lib.hid (by rintro _ ⟨n, rfl⟩; exact HPX.out)
          have HI2 : Hid (∀ w', (∃ n, w' = (w2.drewN nq).drewN n) → CellsAt w' ⟨(aD.add (b * 70)).block, (aD.add (b * 70)).off + 37, none⟩ (u8s x.nid)) := Lib.hid (by rintro _ ⟨n, rfl⟩; exact HPY.out)
          generalize x.nid = nid at *
          generalize x.new = nw at *
          generalize x.score = scr at *
          go_wp2_with fail
          refine wp_region_quiet_lit (by kernel_rfl) (by kernel_rfl) ?_
          simp only [List.append_eq, List.cons_append, List.nil_append]
          repeat (first
            | (go_big_quiet_want; refine quiet_load_cells 51 _ rfl _ rfl (u8s nid) Tryz.underlying51 rfl LI.out HI1.out ?_; simp only [Act.put, List.setIfInBounds_toArray, List.set_cons_succ, List.set_cons_zero]; go_big_quiet_on)
            | (go_big_quiet_want; refine quiet_load_cells 51 _ rfl _ rfl (u8s nid) Tryz.underlying51 rfl LI.out HI2.out ?_; simp only [Act.put, List.setIfInBounds_toArray, List.set_cons_succ, List.set_cons_zero]; go_big_quiet_on)
            | go_big_quiet_step (fail))
          refine wpQuiet_nil ?_
          rintro _ ⟨nr, rfl⟩
          go_wp2_with fail
          exact ⟨⟨k + 1, b + 1, q + 1, ad, rm, rn, cp + 1, by omega, rfl, by go_num, rfl, rfl, by go_num, by go_num, AT, NM, Lib.hid (by obtain ⟨m, rfl⟩ := W2.out; exact ⟨m + (nq + nr), by simp⟩)⟩, by simp [intOf]; omega⟩
    · have hke : k = L.length := by omega
      subst hke
      go_wp2_with fail
      exact hexit.out _ _ _ _ _ _ _ _ _ _ _ _ _ _ _ _ _ _ _ _ _ _ _ _ _ _ _ _ _ _ _ _ _ _ _ _ _ _ _ _ _ _ _ _ _ _ _ _ _ _ _ _ _ _ _ _ _ _ _ _ _ _ _ _ _ _ _ _ _ _ _ _ _ _ _ _ _ _ _ _ _ _ _ _ _ _ _ _ _ _ _ _ _ _ _ _ _ _ _ _ _ _ _ _ _ _ _ _ _ _ _ _ _ _ _ _ _ _ _ _ _ _ _ _ _ _ _ _ _ _ _ _ _ _ _ _ _ _ _ _ _ _ _ _ _ _ _ _ _ _ _ _ _ _ hat hnm hw
end Go.Proofs.YtbmpidacoohdmaaGreat

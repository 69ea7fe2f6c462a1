/- RenameKeeps: what the law's second loop finds, in plain Lean. RenameKeeps: how many changes of each kind there are: the first loop, as a law. -/
import Derived.Test.YtbmpidacoohdmaaGreatK33
import Derived.Test.YtbmpidacoohdmaaGreatK23
namespace Go.Proofs.YtbmpidacoohdmaaGreat
open Rn (Chg St newChg outTo)

theorem unt_not {s : St} {j : Nat} (h : unt s j = false) : s.tk.getD j false = true := by
  unfold unt at h
  simpa using h
/-- The law stands before row k of what came, at place a; p is the place behind the last row's own. -/
structure Atp (l : List Chg) (s : St) (k a p : Nat) : Prop where
  le : a ≤ p
  pl : p ≤ l.length
  ct : cntN (unt s) p = k
  rm : ∀ j, a ≤ j → j < p → (l.getD j default).kind = 2
theorem Atp.zero (l : List Chg) (s : St) : Atp l s 0 0 0 := ⟨Nat.le_refl _, Nat.zero_le _, rfl, fun j _ h => by omega⟩
/-- q is row k's own place. -/
structure Nxt (l : List Chg) (s : St) (k a p q : Nat) : Prop where
  pq : p ≤ q
  ql : q < l.length
  un : unt s q = true
  ct : cntN (unt s) q = k
  no : ∀ j, p ≤ j → j < q → unt s j = false
  rm : ∀ j, a ≤ j → j < q → (l.getD j default).kind = 2
  aq : a ≤ q
theorem Atp.next {l : List Chg} {s : St} {k a p : Nat} (h : Atp l s k a p) (ks : Kst l s) (hk : k < cntN (unt s) l.length) : ∃ q, Nxt l s k a p q := by
  obtain ⟨q, h1, h2, h3, h4, h5⟩ := cntN_next (unt s) l.length p (by rw [h.ct]; exact hk)
  exact ⟨q, h1, h2, h3, h4.trans h.ct, h5, fun j ja jq => by
    by_cases e : j < p
    · exact h.rm j ja e
    · exact ks.src j (unt_not (h5 j (by omega) jq)), Nat.le_trans h.le h1⟩
theorem Nxt.row {l : List Chg} {s : St} {k a p q : Nat} (h : Nxt l s k a p q) : (outTo l s l.length)[k]? = some (newChg l s q) := by
  rw [← h.ct]
  exact out_at l s l.length q h.ql h.un
theorem Nxt.step {l : List Chg} {s : St} {k a p q : Nat} (h : Nxt l s k a p q) (P : Nat → Bool) (hP : ∀ j, unt s j = false → P j = false) : cntN P (q + 1) = cntN P p + if P q then 1 else 0 := by
  rw [cntN, cntN_skip P h.pq fun j h1 h2 => hP j (h.no j h1 h2)]
theorem addP_unt (l : List Chg) (s : St) (j : Nat) (h : unt s j = false) : addP l s j = false := by unfold addP; rw [h]; rfl
theorem renP_unt (s : St) (j : Nat) (h : unt s j = false) : renP s j = false := by unfold renP; rw [h]; rfl
theorem copP_unt (s : St) (j : Nat) (h : unt s j = false) : copP s j = false := by unfold copP; rw [h]; rfl
theorem remP_unt (l : List Chg) (s : St) (j : Nat) (h : unt s j = false) : remP l s j = false := by unfold remP; rw [h]; rfl
theorem new_zero {l : List Chg} {s : St} {q : Nat} (h : s.kd.getD q 0 = 0) : newChg l s q = l.getD q default := by
  unfold newChg
  rw [if_neg (by omega)]
/-- Where the row is not the change at its own place. -/
structure Mvd (l : List Chg) (s : St) (q : Nat) (x : Chg) : Prop where
  tg : (l.getD q default).kind = 1
  kd : x.kind = 4 ∨ x.kind = 5
  eq : s.kd.getD q 0 = x.kind
  nw : x.new = (l.getD q default).new
  ni : x.nid = (l.getD q default).nid
  s1 : 1 ≤ x.score
  s2 : x.score ≤ 1000
theorem new_mvd {l : List Chg} {s : St} (ks : Kst l s) {q : Nat} (h : s.kd.getD q 0 ≠ 0) : Mvd l s q (newChg l s q) := by
  obtain ⟨h1, h2⟩ := ks.tgt q h
  obtain ⟨h3, h4⟩ := ks.sc q h
  unfold newChg
  rw [if_pos (by omega)]
  exact ⟨h1, h2, rfl, rfl, rfl, h3, h4⟩
theorem Nxt.go {l : List Chg} {s : St} {k a p q : Nat} (h : Nxt l s k a p q) (ks : Kst l s) {b : Nat} (h2 : b ≤ q) (hb : (l.getD b default).kind = 2) (hx : (newChg l s q).kind ≠ 2 ∨ newChg l s q ≠ l.getD b default) : b < q := by
  rcases Nat.lt_or_eq_of_le h2 with e | e
  · exact e
  · exfalso
    subst e
    have hz : s.kd.getD b 0 = 0 := by
      by_cases e : s.kd.getD b 0 = 0
      · exact e
      · have := (ks.tgt b e).1; omega
    rw [new_zero hz] at hx
    rcases hx with hx | hx
    · exact hx hb
    · exact hx rfl
theorem Nxt.stop {l : List Chg} {s : St} {k a p q : Nat} (h : Nxt l s k a p q) {b : Nat} (h1 : a ≤ b) (h2 : b ≤ q) (hb : (l.getD b default).kind ≠ 2) : b = q := by
  rcases Nat.lt_or_eq_of_le h2 with e | e
  · exact absurd (h.rm b h1 e) hb
  · exact e
structure Kpt2 (l : List Chg) (s : St) (q b : Nat) (x : Chg) : Prop where
  z : s.kd.getD q 0 = 0
  e : x = l.getD q default
  r : b < q → (l.getD q default).kind = 2
theorem Nxt.same {l : List Chg} {s : St} {k a p q : Nat} (h : Nxt l s k a p q) (ks : Kst l s) {b : Nat} (h1 : a ≤ b) (h2 : b ≤ q) (hx : newChg l s q = l.getD b default) : Kpt2 l s q b (newChg l s q) := by
  by_cases e : s.kd.getD q 0 = 0
  · exact ⟨e, new_zero e, fun hbq => by
      have := h.rm b h1 hbq
      rw [← hx, new_zero e] at this
      exact this⟩
  · exfalso
    have m := new_mvd ks e
    have hk : (l.getD b default).kind = (newChg l s q).kind := by rw [hx]
    rcases Nat.lt_or_eq_of_le h2 with e2 | e2
    · have := h.rm b h1 e2
      rcases m.kd with m2 | m2 <;> omega
    · rw [e2, m.tg] at hk
      rcases m.kd with m2 | m2 <;> omega
theorem Nxt.other {l : List Chg} {s : St} {k a p q : Nat} (_ : Nxt l s k a p q) (ks : Kst l s) {b : Nat} (hb : b = q) (hx : newChg l s q ≠ l.getD b default) : Mvd l s q (newChg l s q) := by
  by_cases e : s.kd.getD q 0 = 0
  · exact absurd (by rw [hb]; exact new_zero e) hx
  · exact new_mvd ks e
theorem Nxt.after {l : List Chg} {s : St} {k a p q : Nat} (h : Nxt l s k a p q) {b : Nat} (h1 : a ≤ b) (h2 : b ≤ q) (hr : b < q → (l.getD q default).kind = 2) : Atp l s (k + 1) (b + 1) (q + 1) :=
  ⟨by omega, h.ql, by rw [cntN, h.ct, h.un]; rfl, fun j j1 j2 => by
    rcases Nat.lt_succ_iff_lt_or_eq.1 j2 with e | e
    · exact h.rm j (by omega) e
    · subst e; exact hr (by omega)⟩
/-- The four numbers, to place p. -/
structure Nms (l : List Chg) (s : St) (p : Nat) (ad rm rn cp : Nat) : Prop where
  ad : ad = cntN (addP l s) p
  rm : rm = cntN (remP l s) p
  rn : rn = cntN (renP s) p
  cp : cp = cntN (copP s) p
theorem Nms.zero (l : List Chg) (s : St) : Nms l s 0 0 0 0 0 := ⟨rfl, rfl, rfl, rfl⟩
theorem Nms.kept {l : List Chg} {s : St} {k a p q b ad rm rn cp : Nat} (h : Nms l s p ad rm rn cp) (n : Nxt l s k a p q) {x : Chg} (c : Kpt2 l s q b x) : Nms l s (q + 1) (ad + if x.kind = 1 then 1 else 0) (rm + if x.kind = 2 then 1 else 0) rn cp := by
  have u := n.un
  refine ⟨?_, ?_, ?_, ?_⟩
  · rw [n.step _ (addP_unt l s), h.ad]; congr 1; unfold addP; rw [u, c.z, c.e]; simp
  · rw [n.step _ (remP_unt l s), h.rm]; congr 1; unfold remP; rw [u, c.e]; simp
  · rw [n.step _ (renP_unt s), h.rn]; unfold renP; rw [c.z]; simp
  · rw [n.step _ (copP_unt s), h.cp]; unfold copP; rw [c.z]; simp
theorem Nms.moved {l : List Chg} {s : St} {k a p q ad rm rn cp : Nat} (h : Nms l s p ad rm rn cp) (n : Nxt l s k a p q) {x : Chg} (c : Mvd l s q x) : Nms l s (q + 1) ad rm (rn + if x.kind = 4 then 1 else 0) (cp + if x.kind = 4 then 0 else 1) := by
  have u := n.un
  refine ⟨?_, ?_, ?_, ?_⟩
  · rw [n.step _ (addP_unt l s), h.ad]; unfold addP; rw [c.eq]; rcases c.kd with e | e <;> rw [e] <;> simp
  · rw [n.step _ (remP_unt l s), h.rm]; unfold remP; rw [c.tg]; simp
  · rw [n.step _ (renP_unt s), h.rn]; congr 1; unfold renP; rw [u, c.eq]; simp
  · rw [n.step _ (copP_unt s), h.cp]; congr 1; unfold copP; rw [u, c.eq]; rcases c.kd with e | e <;> rw [e] <;> simp
theorem cntN_flat (u : Nat → Bool) {p n : Nat} (h : cntN u p = cntN u n) : ∀ j, p ≤ j → j < n → u j = false := fun j h1 h2 => by
  cases e : u j with
  | false => rfl
  | true =>
    have a := cntN_mono u h1
    have b := cntN_mono u (show j + 1 ≤ n by omega)
    rw [cntN, e] at b
    simp at b
    omega
theorem Nms.done {l : List Chg} {s : St} {a p ad rm rn cp : Nat} (h : Nms l s p ad rm rn cp) (t : Atp l s (cntN (unt s) l.length) a p) : Nms l s l.length ad rm rn cp := by
  have hf := cntN_flat (unt s) t.ct
  refine ⟨?_, ?_, ?_, ?_⟩
  · rw [h.ad]; exact (cntN_skip _ t.pl fun j h1 h2 => addP_unt l s j (hf j h1 h2)).symm
  · rw [h.rm]; exact (cntN_skip _ t.pl fun j h1 h2 => remP_unt l s j (hf j h1 h2)).symm
  · rw [h.rn]; exact (cntN_skip _ t.pl fun j h1 h2 => renP_unt s j (hf j h1 h2)).symm
  · rw [h.cp]; exact (cntN_skip _ t.pl fun j h1 h2 => copP_unt s j (hf j h1 h2)).symm
/-- What the law says of the numbers. -/
structure Fin4 (l : List Chg) (o3 : Bool) (ad rm rn cp : Nat) : Prop where
  a : ad + rn + cp = cntN (kndP l 1) l.length
  r : rm + rn = cntN (kndP l 2) l.length
  o : o3 = false → cp = 0
  c : cntN (kndP l 3) l.length = 0 → cp = 0
theorem fin4 {l : List Chg} {f : List UInt8 → Option (List UInt8)} {o1 o2 : Int} {o3 : Bool} {a p ad rm rn cp : Nat} (h : Nms l (finNP l f o1 o2 o3) p ad rm rn cp) (t : Atp l (finNP l f o1 o2 o3) (cntN (unt (finNP l f o1 o2 o3)) l.length) a p) : Fin4 l o3 ad rm rn cp := by
  have ks := finN_kst l f o1 o2 o3
  have d := h.done t
  have k1 := ks.added l.length
  have k2 := ks.removed
  have k3 := ks.copied
  rw [← d.ad, ← d.rn, ← d.cp] at k1
  rw [← d.rm, ← d.rn] at k2
  rw [← d.cp] at k3
  refine ⟨k1, k2, fun e => ?_, fun e => by omega⟩
  rw [d.cp]
  refine cntN_zero _ _ fun j _ => ?_
  subst e
  have := near_k04 l f o1 o2 j
  unfold copP
  change (unt (nearG l (Rn.stP l) (Rn.stP l) f o1 o2) j && (nearG l (Rn.stP l) (Rn.stP l) f o1 o2).kd.getD j 0 == 5) = false
  rcases this with e | e <;> rw [e] <;> simp
end Go.Proofs.YtbmpidacoohdmaaGreat
namespace Go.Proofs.YtbmpidacoohdmaaGreat
open Go.RowKit Op
open Rn (Chg LReads CellsAt Oks)

def kz (c : Chg) : Nat := if c.kind = 1 then 1 else if c.kind = 2 then 2 else if c.kind = 3 then 3 else 0
theorem kz_lt (c : Chg) : kz c < 4 := by unfold kz; repeat' split
                                         all_goals omega
def cntK (l : List Chg) : Nat → List Nat
  | 0 => [0, 0, 0, 0, 0, 0]
  | k + 1 => (cntK l k).set (kz (l.getD k default)) ((cntK l k).getD (kz (l.getD k default)) 0 + 1)
theorem cntK_len (l : List Chg) : ∀ k, (cntK l k).length = 6
  | 0 => rfl
  | k + 1 => by rw [cntK, List.length_set]; exact cntK_len l k
theorem cntK_le (l : List Chg) : ∀ k i, (cntK l k).getD i 0 ≤ k
  | 0, i => by
    rcases i with _ | _ | _ | _ | _ | _ | i <;> simp [cntK]
  | k + 1, i => by
    have hz := cntK_le l k (kz (l.getD k default))
    have hi := cntK_le l k i
    rw [cntK, List.getD_eq_getElem?_getD, List.getElem?_set]
    generalize kz (l.getD k default) = z at *
    split
    · split
      · exact Nat.succ_le_succ hz
      · exact Nat.zero_le _
    · rw [← List.getD_eq_getElem?_getD]; exact Nat.le_succ_of_le hi
theorem cntK_is (l : List Chg) (c : Nat) (h1 : 1 ≤ c) (h3 : c ≤ 3) : ∀ k, (cntK l k).getD c 0 = cntN (kndP l (c : Int)) k
  | 0 => by
    rcases c with _ | _ | _ | _ | c
    · omega
    · rfl
    · rfl
    · rfl
    · omega
  | k + 1 => by
    have ih := cntK_is l c h1 h3 k
    have hl := cntK_len l k
    have hz := kz_lt (l.getD k default)
    rw [cntK, cntN, ← ih, List.getD_eq_getElem?_getD, List.getElem?_set]
    have e : kndP l (c : Int) k = decide (kz (l.getD k default) = c) := by
      unfold kndP kz
      generalize (l.getD k default).kind = x
      rcases c with _ | _ | _ | _ | c
      · omega
      · by_cases e1 : x = 1 <;> by_cases e2 : x = 2 <;> by_cases e3 : x = 3 <;> simp_all
      · by_cases e1 : x = 1 <;> by_cases e2 : x = 2 <;> by_cases e3 : x = 3 <;> simp_all
      · by_cases e1 : x = 1 <;> by_cases e2 : x = 2 <;> by_cases e3 : x = 3 <;> simp_all
      · omega
    rw [e]
    by_cases q : kz (l.getD k default) = c
    · rw [if_pos q, if_pos (by omega), q, decide_eq_true rfl]
      rfl
    · rw [if_neg q, decide_eq_false q, ← List.getD_eq_getElem?_getD]
      simp
set_option maxRecDepth 100000 in
set_option maxHeartbeats 1000000 in
theorem kind_any (w : World) (x : Chg) : Calls Tryz.prog 12 #[.agg x.cells.toArray] w fun e w2 => e = .returned (.int .i64 (kz x : Int)) ∧ Below w.heap.size w w2 := by
  have X0 := Ar.new w x.cells 53
  have GR := Lib.hid ((Below.refl w.heap.size w).alloc (Nat.le_refl _) (.cells x.cells.toArray 53))
  have p0 := X0.cell (k := 0) (v := .int .i64 x.kind) rfl
  have HR : Hid (kz x = if x.kind = 1 then 1 else if x.kind = 2 then 2 else if x.kind = 3 then 3 else 0) := Lib.hid rfl
  generalize kz x = r at *
  clear X0
  generalize x.kind = kd at *
  generalize hw : (w.alloc _) = w0 at *
  go_enter Tryz.func12, Tryz.ntmps12
  by_cases c1 : 1 ≤ kd
  · by_cases c3 : kd ≤ 3
    · have E : (r : Int) = kd := by rw [HR.out]; repeat' split
                                    all_goals omega
      replace E := Lib.hid E
      clear HR
      go_wp2_with fail
      go_ret
      exact ⟨ret_int E.out.symm, GR.out⟩
    · have E : (r : Int) = 0 := by rw [HR.out]; repeat' split
                                   all_goals omega
      replace E := Lib.hid E
      clear HR
      go_wp2_with fail
      go_ret
      exact ⟨ret_int E.out.symm, GR.out⟩
  · have E : (r : Int) = 0 := by rw [HR.out]; repeat' split
                                 all_goals omega
    replace E := Lib.hid E
    clear HR
    go_wp2_with fail
    go_ret
    exact ⟨ret_int E.out.symm, GR.out⟩
attribute [local go_sem ↓] ld53_eq
noncomputable def kcount_code : Code := ((Tryz.f4.body.map loopsIn).getD []).getD 0 .skip
set_option maxRecDepth 100000 in
set_option maxHeartbeats 1000000 in
theorem kcount (u : World) (D : Option Addr) (d : Nat) (l : List Chg) (hl : LReads u u.heap.size D l) (ok : Oks l) (hn : l.length ≤ 40) (w : World) (hub : Below u.heap.size u w) (g : Nat) (hg : u.heap.size ≤ g) (hr : Ar w g 3 ((cntK l 0).map fun n : Nat => Value.int .i64 (n : Int))) (Q0 : Exit → Act → World → Prop) (z0 z1 z2 z3 z5 z6 z7 z10 z11 z12 z13 z14 z15 z16 z17 z18 z19 z20 z21 z22 z23 z24 z25 z26 z27 z28 z29 z30 z31 z32 z33 z34 z35 z36 z37 z38 z39 z40 z41 z42 z43 z44 z45 z46 z47 z48 z49 z50 z51 z52 z53 z54 z55 z56 z57 z58 z59 z60 z61 z62 z63 z64 z65 z66 z67 z68 z69 z70 z71 z72 z73 z74 z75 z76 z77 z78 z79 z80 z81 z82 z83 z84 z85 z86 z87 z88 z89 z90 z91 z92 z93 z94 z95 z96 z97 z98 z99 z100 z101 z102 z103 z104 z105 z106 z107 z108 z109 z110 z111 z112 z113 z114 z115 z116 z117 z118 z119 z120 z121 z122 z123 z124 z125 z126 z127 z128 z129 z130 z131 z132 z133 z134 z135 z136 z137 z138 z139 z140 z141 z142 z143 z144 z145 z146 z147 z148 z149 z150 z151 z152 z153 z154 z155 z156 z157 z158 z159 z160 z161 z162 z163 z164 z165 z166 z167 z168 z169 z170 z171 z172 z173 z174 z175 z176 z177 z178 z179 z180 z181 z182 z183 z184 z185 z186 z187 z188 z189 z190 z191 z192 z193 z194 z195 z196 z197 z198 z199 z200 z201 z202 z203 z204 z205 z206 z207 z208 z209 z210 z211 z212 z213 z214 z215 z216 z217 z218 z219 z220 z221 z222 z223 z224 z225 z226 z227 z228 z229 z230 z231 z232 z233 z234 z235 z236 z237 z238 z239 z240 z241 z242 z243 z244 z245 : Value)
    (hexit : Hid (∀ (wr : World) (y44 y45 y46 y47 y48 y49 y50 y51 y52 y53 y54 y55 y56 y57 y58 y59 : Value), Hid (Ar wr g 3 ((cntK l l.length).map fun n : Nat => Value.int .i64 (n : Int))) → Hid (Below u.heap.size u wr) → Q0 (.exit 0) ⟨List.toArray (z0 :: z1 :: z2 :: z3 :: (.slice D l.length d) :: z5 :: z6 :: z7 :: (.slice (some ⟨g, 0, none⟩) 6 6) :: (.int .i64 (l.length : Int)) :: z10 :: z11 :: z12 :: z13 :: z14 :: z15 :: z16 :: z17 :: z18 :: z19 :: z20 :: z21 :: z22 :: z23 :: z24 :: z25 :: z26 :: z27 :: z28 :: z29 :: z30 :: z31 :: z32 :: z33 :: z34 :: z35 :: z36 :: z37 :: z38 :: z39 :: z40 :: z41 :: z42 :: z43 :: y44 :: y45 :: y46 :: y47 :: y48 :: y49 :: y50 :: y51 :: y52 :: y53 :: y54 :: y55 :: y56 :: y57 :: y58 :: y59 :: z60 :: z61 :: z62 :: z63 :: z64 :: z65 :: z66 :: z67 :: z68 :: z69 :: z70 :: z71 :: z72 :: z73 :: z74 :: z75 :: z76 :: z77 :: z78 :: z79 :: z80 :: z81 :: z82 :: z83 :: z84 :: z85 :: z86 :: z87 :: z88 :: z89 :: z90 :: z91 :: z92 :: z93 :: z94 :: z95 :: z96 :: z97 :: z98 :: z99 :: z100 :: z101 :: z102 :: z103 :: z104 :: z105 :: z106 :: z107 :: z108 :: z109 :: z110 :: z111 :: z112 :: z113 :: z114 :: z115 :: z116 :: z117 :: z118 :: z119 :: z120 :: z121 :: z122 :: z123 :: z124 :: z125 :: z126 :: z127 :: z128 :: z129 :: z130 :: z131 :: z132 :: z133 :: z134 :: z135 :: z136 :: z137 :: z138 :: z139 :: z140 :: z141 :: z142 :: z143 :: z144 :: z145 :: z146 :: z147 :: z148 :: z149 :: z150 :: z151 :: z152 :: z153 :: z154 :: z155 :: z156 :: z157 :: z158 :: z159 :: z160 :: z161 :: z162 :: z163 :: z164 :: z165 :: z166 :: z167 :: z168 :: z169 :: z170 :: z171 :: z172 :: z173 :: z174 :: z175 :: z176 :: z177 :: z178 :: z179 :: z180 :: z181 :: z182 :: z183 :: z184 :: z185 :: z186 :: z187 :: z188 :: z189 :: z190 :: z191 :: z192 :: z193 :: z194 :: z195 :: z196 :: z197 :: z198 :: z199 :: z200 :: z201 :: z202 :: z203 :: z204 :: z205 :: z206 :: z207 :: z208 :: z209 :: z210 :: z211 :: z212 :: z213 :: z214 :: z215 :: z216 :: z217 :: z218 :: z219 :: z220 :: z221 :: z222 :: z223 :: z224 :: z225 :: z226 :: z227 :: z228 :: z229 :: z230 :: z231 :: z232 :: z233 :: z234 :: z235 :: z236 :: z237 :: z238 :: z239 :: z240 :: z241 :: z242 :: z243 :: z244 :: z245 :: []), []⟩ wr)) :
    Code.wp Tryz.prog (Code.loop kcount_code) Q0 ⟨List.toArray (z0 :: z1 :: z2 :: z3 :: (.slice D l.length d) :: z5 :: z6 :: z7 :: (.slice (some ⟨g, 0, none⟩) 6 6) :: (.int .i64 0) :: z10 :: z11 :: z12 :: z13 :: z14 :: z15 :: z16 :: z17 :: z18 :: z19 :: z20 :: z21 :: z22 :: z23 :: z24 :: z25 :: z26 :: z27 :: z28 :: z29 :: z30 :: z31 :: z32 :: z33 :: z34 :: z35 :: z36 :: z37 :: z38 :: z39 :: z40 :: z41 :: z42 :: z43 :: z44 :: z45 :: z46 :: z47 :: z48 :: z49 :: z50 :: z51 :: z52 :: z53 :: z54 :: z55 :: z56 :: z57 :: z58 :: z59 :: z60 :: z61 :: z62 :: z63 :: z64 :: z65 :: z66 :: z67 :: z68 :: z69 :: z70 :: z71 :: z72 :: z73 :: z74 :: z75 :: z76 :: z77 :: z78 :: z79 :: z80 :: z81 :: z82 :: z83 :: z84 :: z85 :: z86 :: z87 :: z88 :: z89 :: z90 :: z91 :: z92 :: z93 :: z94 :: z95 :: z96 :: z97 :: z98 :: z99 :: z100 :: z101 :: z102 :: z103 :: z104 :: z105 :: z106 :: z107 :: z108 :: z109 :: z110 :: z111 :: z112 :: z113 :: z114 :: z115 :: z116 :: z117 :: z118 :: z119 :: z120 :: z121 :: z122 :: z123 :: z124 :: z125 :: z126 :: z127 :: z128 :: z129 :: z130 :: z131 :: z132 :: z133 :: z134 :: z135 :: z136 :: z137 :: z138 :: z139 :: z140 :: z141 :: z142 :: z143 :: z144 :: z145 :: z146 :: z147 :: z148 :: z149 :: z150 :: z151 :: z152 :: z153 :: z154 :: z155 :: z156 :: z157 :: z158 :: z159 :: z160 :: z161 :: z162 :: z163 :: z164 :: z165 :: z166 :: z167 :: z168 :: z169 :: z170 :: z171 :: z172 :: z173 :: z174 :: z175 :: z176 :: z177 :: z178 :: z179 :: z180 :: z181 :: z182 :: z183 :: z184 :: z185 :: z186 :: z187 :: z188 :: z189 :: z190 :: z191 :: z192 :: z193 :: z194 :: z195 :: z196 :: z197 :: z198 :: z199 :: z200 :: z201 :: z202 :: z203 :: z204 :: z205 :: z206 :: z207 :: z208 :: z209 :: z210 :: z211 :: z212 :: z213 :: z214 :: z215 :: z216 :: z217 :: z218 :: z219 :: z220 :: z221 :: z222 :: z223 :: z224 :: z225 :: z226 :: z227 :: z228 :: z229 :: z230 :: z231 :: z232 :: z233 :: z234 :: z235 :: z236 :: z237 :: z238 :: z239 :: z240 :: z241 :: z242 :: z243 :: z244 :: z245 :: []), []⟩ w := by
  conv => arg 2; arg 1; whnf
  have HL := Lib.hid hl
  have HK := Lib.hid ok
  have HR := Lib.hid hr
  have HUB := Lib.hid hub
  have HG := Lib.hid hg
  clear hl ok hr hub hg
  go_loopw [9] (fun kv wr => ∃ k : Nat, k ≤ l.length ∧ kv = .int .i64 k ∧ Hid (Ar wr g 3 ((cntK l k).map fun n : Nat => Value.int .i64 (n : Int))) ∧ Hid (Below u.heap.size u wr)) (fun kv _ => l.length - (intOf kv).toNat)
  case atStart => exact ⟨0, Nat.zero_le _, rfl, HR, HUB⟩
  case round =>
    clear HR HUB
    obtain ⟨k, hk, rfl, ha, hb⟩ := hrel
    by_cases hlt : k < l.length
    · obtain ⟨ad, eA, ca⟩ := chg_cells HL.out hlt
      have okx : (l.getD k default).ok := HK.out k _ (by simp [hlt])
      have hld := ldC okx (ca wr hb.out)
      have NX : Hid (cntK l (k + 1) = (cntK l k).set (kz (l.getD k default)) ((cntK l k).getD (kz (l.getD k default)) 0 + 1)) := Lib.hid rfl
      have HC := Lib.hid (fun W => kind_any W (l.getD k default))
      have hz := kz_lt (l.getD k default)
      have h6 := cntK_len l k
      have hle := cntK_le l k (kz (l.getD k default))
      subst eA
      clear ca okx
      generalize (l.getD k default) = x at *
      generalize kz x = j at *
      obtain ⟨v, hv⟩ : ∃ v, (cntK l k).getD j 0 = v := ⟨_, rfl⟩
      rw [hv] at NX hle
      have hcv : ((cntK l k).map fun n : Nat => Value.int .i64 (n : Int))[j]? = some (.int .i64 (v : Int)) := by
        rw [List.getElem?_map, ← hv, List.getD_eq_getElem?_getD, List.getElem?_eq_getElem (by omega)]; rfl
      have HCV := Lib.hid hcv
      have LK : (k : Int) < (l.length : Int) := by omega
      have J6 : (j : Int) < 6 := by omega
      clear hv hcv h6
      generalize cntK l k = cs at *
      go_wp2_with (go_at_call 12; refine (HC.out _).mono ?_; rintro e w2 ⟨rfl, hb2⟩; have HB2 := Lib.hid hb2; have A2 := Lib.hid (ha.out.below hb2 ha.out.lt); have cj := A2.out.cell HCV.out; have fj := A2.out.frozen j; clear hb2)
      refine ⟨⟨k + 1, by omega, by go_num, Lib.hid ?_, Lib.hid ?_⟩, by simp [intOf]; omega⟩
      · rw [NX.out, List.map_set]
        exact A2.out.set j _
      · exact (hb.out.trans (HB2.out.mono hb.out.size)).setCell HG.out _
    · have hke : k = l.length := by omega
      subst hke
      go_wp2_with fail
      exact hexit.out _ _ _ _ _ _ _ _ _ _ _ _ _ _ _ _ _ ha hb
end Go.Proofs.YtbmpidacoohdmaaGreat

/- alike: common, score, Most: by contracts. Taking the best pair again and again is taking all pairs in their order: both ways of near, in plain Lean. -/
import Derived.Test.YtbmpidacoohdmaaGreatF26
import Derived.Test.YtbmpidacoohdmaaGreatF23
namespace Go.Proofs.YtbmpidacoohdmaaGreat
open Lib renaming hid → hI
open Go.RowKit Op

set_option maxRecDepth 100000 in
set_option maxHeartbeats 1000000 in
theorem score_any (w : World) (n la lb : Nat) (hn : n ≤ 100000) (ha : la ≤ 100000) (hb : lb ≤ 100000) :
    Calls Tryz.prog 101 #[.int .i64 n, .int .i64 la, .int .i64 lb] w fun e w2 => e = .returned (.int .i64 ((if max la lb = 0 then 1000 else 1000 * n / max la lb : Nat) : Int)) ∧ w = w2 := by
  have HS : Hid ((if max la lb = 0 then 1000 else 1000 * n / max la lb : Nat) = (if max la lb = 0 then 1000 else 1000 * n / max la lb : Nat)) := hI rfl
  obtain ⟨r, hr⟩ : ∃ r : Nat, (if max la lb = 0 then 1000 else 1000 * n / max la lb : Nat) = r := ⟨_, rfl⟩
  rw [hr] at HS ⊢
  have HR := hI hr
  clear hr HS
  go_enter Tryz.func101, Tryz.ntmps101
  by_cases h0 : max la lb = 0
  · have q0 : ((la : Int) == 0) = true := beq_iff_eq.2 (by omega)
    have q1 : ((lb : Int) == 0) = true := beq_iff_eq.2 (by omega)
    rw [if_pos h0] at HR
    clear h0
    go_wp2_with fail
    go_ret
    exact ⟨ret_int (by rw [← HR.out]; rfl), rfl⟩
  · rw [if_neg h0] at HR
    have hm : max (la : Int) (lb : Int) = ((max la lb : Nat) : Int) := by omega
    have hpos : 0 < max la lb := by omega
    have h01 : la ≠ 0 ∨ lb ≠ 0 := by omega
    generalize max la lb = mx at *
    have hq : ((mx : Int) == 0) = false := beq_eq_false_iff_ne.2 (by omega)
    clear h0
    by_cases h1 : la = 0
    · have q0 : ((la : Int) == 0) = true := beq_iff_eq.2 (by omega)
      have q1 : ((lb : Int) == 0) = false := beq_eq_false_iff_ne.2 (by omega)
      clear h1 h01
      go_wp2_with fail
      go_ret
      exact ⟨ret_int (by rw [← HR.out]; push_cast; simp), rfl⟩
    · have q0 : ((la : Int) == 0) = false := beq_eq_false_iff_ne.2 (by omega)
      clear h1 h01
      go_wp2_with fail
      go_ret
      exact ⟨ret_int (by rw [← HR.out]; push_cast; simp), rfl⟩
set_option maxRecDepth 100000 in
set_option maxHeartbeats 1000000 in
theorem most_any (w : World) (la lb : Nat) (ha : la ≤ 100000) (hb : lb ≤ 100000) :
    Calls Tryz.prog 99 #[.int .i64 la, .int .i64 lb] w fun e w2 => e = .returned (.int .i64 (mosB la lb : Int)) ∧ w = w2 := by
  have HS := hI (fun W => score_any W (min la lb) la lb (by omega) ha hb)
  rw [show (if max la lb = 0 then 1000 else 1000 * min la lb / max la lb : Nat) = mosB la lb from rfl] at HS
  generalize mosB la lb = r at *
  have hm : min (la : Int) (lb : Int) = ((min la lb : Nat) : Int) := by omega
  generalize min la lb = mn at *
  go_enter Tryz.func99, Tryz.ntmps99
  go_wp2_with fail
  refine (HS.out w).mono ?_
  rintro e w2 ⟨rfl, rfl⟩
  go_wp2_with fail
  go_ret
  exact ⟨rfl, rfl⟩
/-- A range over such a map. -/
structure Rcm (w : World) (m r : Nat) (ps : List (List UInt8)) (vis : List (List UInt8)) : Prop where
  rng : ∃ n D left cnt, Cm D ps ∧ w.ranges Tryz.prog 9 RI m r n D left cnt ∧ (∀ kl, left kl = true ↔ ∃ t ∈ ps, kl = keyT t ∧ t ∉ vis) ∧ cnt + vis.length ≤ n ∧ n ≤ ps.length
  one : vis.Nodup
  sub : ∀ t ∈ vis, t ∈ ps
theorem Rcm.lt {w : World} {m r : Nat} {ps vis : List (List UInt8)} (h : Rcm w m r ps vis) : m < w.heap.size ∧ r < w.heap.size := by
  obtain ⟨_, _, _, _, _, h2, _⟩ := h.rng
  exact ⟨h2.owns.lt, h2.lt⟩
theorem Cmp.range {w : World} {m : Nat} {ps : List (List UInt8)} (h : Cmp w m ps) : ∃ w', (Instr.range 192 (.map (some m))).run Tryz.prog w = .ok (.pointer (some ⟨w.heap.size, 0, none⟩)) w' ∧ Rcm w' m w.heap.size ps [] ∧ Below w.heap.size w w' ∧ w'.heap.size = w.heap.size + 1 := by
  obtain ⟨n, D, h1, h2, h9⟩ := h
  obtain ⟨w', hr, h3, h4, h5⟩ := h1.range keyS Tryz.underlying192
  refine ⟨w', hr, ⟨⟨n, D, _, _, h2, h3, fun kl => ?_, by simpa using h1.size_le, h9⟩, List.nodup_nil, fun t ht => by cases ht⟩, ⟨h4.os, h4.tape, h4.output, h4.size, fun k hk => h4.block k hk (by simp)⟩, h5⟩
  rw [h2.has]
  simp
theorem wpList_next_cm (w : World) {ops : Array Oper} {rest : List Oper} {o : Oper} {a : Act} {Q : Exit → Act → World → Prop} (hg : o.guard = none) (it : Operand) (hop : o.op = Op.next it false) (m r : Nat) (ps vis : List (List UInt8)) (hit : a.eval it = .pointer (some ⟨r, 0, none⟩)) (h : Rcm w m r ps vis)
    (hDone : (∀ t ∈ ps, t ∈ vis) → wpList Tryz.prog ops Q rest (a.put o.dst (.tuple #[.bool false])) w)
    (hMore : ∀ (t : List UInt8) (w' : World), t ∈ ps → t ∉ vis → Rcm w' m r ps (vis ++ [t]) → w'.rangeLeft m r < w.rangeLeft m r → w.grownBy w' (some r) → w'.heap.size = w.heap.size → (Instr.entry (.pointer (some ⟨r, 0, none⟩))).run Tryz.prog w' = .ok (.tuple #[.string (bs t), .int .i64 (ps.count t : Int)]) w' → wpList Tryz.prog ops Q rest (a.put o.dst (.tuple #[.bool true, .string (bs t), .int .i64 (ps.count t : Int)])) w') :
    wpList Tryz.prog ops Q (o :: rest) a w := by
  refine wpList_plain hg fun K' hK' => ?_
  unfold Oper.wp
  obtain ⟨⟨n, D, left, cnt, h1, h2, h3, h7, h8⟩, h5, h6⟩ := h
  have hle := h2.left_eq
  rcases h2.next keyS o.type with ⟨h0, hl, hrun⟩ | ⟨key, v, kl, y, w', cnt', hkey, hlk, hv, hat, hrun, hrg, hlt, hgr, hsz, hen⟩
  · simp [execOp, hop, hit, hrun, Result.andThen]
    refine hK' _ _ (hDone fun t ht => ?_)
    by_cases q : t ∈ vis
    · exact q
    · have := (h3 (keyT t)).2 ⟨t, ht, rfl, q⟩
      rw [hl] at this
      cases this
  · obtain ⟨t, ht, rfl, hnv⟩ := (h3 kl).1 hlk
    obtain rfl := key_tinv hkey
    obtain ⟨c, rfl, hy, _⟩ := plainElem_int_inv Tryz.underlying3 hv
    have e := (hat (.lit (.int .i64 0))).symm.trans (h1.at_ t)
    rw [hy] at e
    obtain rfl : c = (ps.count t : Int) := (Lit.int.inj (DataW.lit.inj e)).2
    simp [execOp, hop, hit, hrun, Result.andThen]
    refine hK' _ _ (hMore t w' ht hnv ⟨⟨n, D, _, cnt', h1, hrg, fun kl => ?_, by rw [List.length_append, List.length_singleton]; omega, h8⟩, List.nodup_append.2 ⟨h5, by simp, fun a ha b hb e => ?_⟩, fun u hu => ?_⟩ (by rw [hrg.left_eq, hle]; exact hlt) hgr hsz hen)
    · rw [Bool.and_eq_true, h3]
      constructor
      · rintro ⟨⟨z, hz, rfl, hzv⟩, hne⟩
        refine ⟨z, hz, rfl, fun hm => ?_⟩
        rcases List.mem_append.1 hm with hm | hm
        · exact hzv hm
        · rw [List.mem_singleton.1 hm, WideAt.sameKey_self (keyT_key _)] at hne
          cases hne
      · rintro ⟨z, hz, rfl, hzv⟩
        rw [List.mem_append, not_or, List.mem_singleton] at hzv
        refine ⟨⟨z, hz, rfl, hzv.1⟩, ?_⟩
        rw [Maps.sameKey_ne (show keyT z ≠ keyT t from fun e => hzv.2 (Lit.string.inj e))]
        rfl
    · rw [List.mem_singleton.1 hb] at e
      subst e
      exact hnv ha
    · rcases List.mem_append.1 hu with hu | hu
      · exact h6 u hu
      · rw [List.mem_singleton.1 hu]; exact ht
theorem Rcm.len {w : World} {m r : Nat} {ps vis : List (List UInt8)} (h : Rcm w m r ps vis) : vis.length ≤ ps.length := by
  obtain ⟨_, _, _, _, _, _, _, h1, h2⟩ := h.rng
  omega
def sumV (ps qs vis : List (List UInt8)) : Nat := (vis.map fun t => min (ps.count t) (qs.count t) * t.length).sum
theorem sumV_snoc (ps qs vis : List (List UInt8)) (t : List UInt8) : sumV ps qs (vis ++ [t]) = sumV ps qs vis + min (ps.count t) (qs.count t) * t.length := by simp [sumV]
theorem pcs_key {l : List (List UInt8)} : ∀ {p}, p ∈ pcsTo l → p.1 ∈ l := by
  refine snoc_ind (p := fun l => ∀ {p}, p ∈ pcsTo l → p.1 ∈ l) (fun h => by cases h) (fun l a ih => ?_) l
  intro p h
  rw [pcsTo_snoc] at h
  rcases insP_mem h with e | ⟨q, hq, e⟩
  · rw [e]; simp
  · rw [← e]; exact List.mem_append_left _ (ih hq)
theorem key_pcs {l : List (List UInt8)} {t : List UInt8} (h : t ∈ l) : ∃ p ∈ pcsTo l, p.1 = t := by
  have h1 := List.count_pos_iff.2 h
  rw [← hasP_pcs] at h1
  refine Classical.byContradiction fun hn => ?_
  rw [hasP_none fun p hp e => hn ⟨p, hp, e⟩] at h1
  omega
theorem perm_same {l m : List (List UInt8)} (hl : l.Nodup) (hm : m.Nodup) (h : ∀ a, a ∈ l ↔ a ∈ m) : l.Perm m := List.perm_iff_count.2 fun a => by
  rw [hl.count, hm.count]
  simp [h]
theorem sumV_all {a b : List UInt8} {vis : List (List UInt8)} (h1 : vis.Nodup) (h2 : ∀ t ∈ vis, t ∈ cutB a) (h3 : ∀ t ∈ cutB a, t ∈ vis) : sumV (cutB a) (cutB b) vis = comB a b := by
  have hk : ((pcsTo (cutB a)).map (·.1)).Nodup := by
    refine List.pairwise_map.2 ((pcsTo_up (cutB a)).imp fun {p q} h e => ?_)
    rw [e, less_irr] at h
    cases h
  have hp : vis.Perm ((pcsTo (cutB a)).map (·.1)) := perm_same h1 hk fun t => by
    constructor
    · intro h
      obtain ⟨p, hp, e⟩ := key_pcs (h2 t h)
      exact List.mem_map.2 ⟨p, hp, e⟩
    · intro h
      obtain ⟨p, hp, e⟩ := List.mem_map.1 h
      exact h3 t (by rw [← e]; exact pcs_key hp)
  unfold sumV comB
  rw [(hp.map _).sum_nat, List.map_map]
  congr 1
  refine List.map_congr_left fun p hp => ?_
  simp only [Function.comp]
  rw [mem_pcs hp]
theorem cut_mem {a : List UInt8} (ha : a.length ≤ 400) {t : List UInt8} (h : t ∈ cutB a) : t.length ≤ 400 ∧ (cutB a).count t * t.length ≤ 400 := by
  obtain ⟨p, hp, e⟩ := key_pcs h
  have h1 := sumP_pcs (cutB a)
  rw [cutB_flat] at h1
  have h2 : ∀ (l : Pcs), p ∈ l → p.2 * p.1.length ≤ (l.map fun p => p.2 * p.1.length).sum := fun l => by
    induction l with
    | nil => intro h; cases h
    | cons x l ih =>
      intro h
      simp only [List.map_cons, List.sum_cons]
      rcases List.mem_cons.1 h with rfl | h
      · omega
      · have := ih h
        omega
  have h3 := h2 _ hp
  rw [mem_pcs hp, e] at h3
  have h4 := List.count_pos_iff.2 h
  have h5 := Nat.mul_le_mul_right t.length h4
  omega
theorem Rcm.of {w w2 : World} {m r : Nat} {ps vis : List (List UInt8)} (h : Rcm w m r ps vis) (hm : w2.heap[m]? = w.heap[m]?) (hr : w2.heap[r]? = w.heap[r]?) : Rcm w2 m r ps vis := by
  obtain ⟨⟨n, D, left, cnt, h1, ⟨es, clock, since, seen, c0, hb, F, hs, hD, hr2, rest⟩, h3⟩, h5, h6⟩ := h
  exact ⟨⟨n, D, left, cnt, h1, ⟨es, clock, since, seen, c0, hm.trans hb, F, hs, hD, hr.trans hr2, rest⟩, h3⟩, h5, h6⟩
attribute [local go_sem] bs_size
set_option maxRecDepth 100000 in
set_option maxHeartbeats 1000000 in
theorem common_any (w : World) (ma mb : Nat) (a b : List UInt8) (h1 : Cmp w ma (cutB a)) (h2 : Cmp w mb (cutB b)) (ha : a.length ≤ 400) :
    Calls Tryz.prog 102 #[.map (some ma), .map (some mb)] w fun e w2 => e = .returned (.int .i64 (comB a b : Int)) ∧ Below w.heap.size w w2 := by
  have CM := hI (fun t ht => cut_mem (a := a) (t := t) ha ht)
  have SA := hI (fun vis q1 q2 q3 => sumV_all (a := a) (b := b) (vis := vis) q1 q2 q3)
  have hpl := cutB_le a
  obtain ⟨w1, hrun, hrg, hb1, hs1⟩ := h1.range
  have C2 := hI (h2.below hb1)
  have BB : Hid (mb < w.heap.size) := hI h2.lt
  clear h1 h2
  obtain ⟨r, hr⟩ : ∃ r, comB a b = r := ⟨_, rfl⟩
  rw [hr] at SA ⊢
  clear hr
  generalize cutB a = ps at *
  generalize cutB b = qs at *
  have RG := hI hrg
  have B1 := hI hb1
  clear hrg hb1
  go_enter Tryz.func102, Tryz.ntmps102
  go_wp2_with fail
  go_loopw [5] (fun nv wr => ∃ vis, nv = .int .i64 (sumV ps qs vis : Int) ∧ sumV ps qs vis ≤ vis.length * 400 ∧ Hid (Rcm wr ma w.heap.size ps vis) ∧ Hid (Cmp wr mb qs) ∧ Hid (Below w.heap.size w wr)) (fun _ wr => wr.rangeLeft ma w.heap.size)
  case atStart => exact ⟨[], rfl, Nat.le_refl _, RG, C2, B1⟩
  case round =>
    obtain ⟨vis, rfl, hsm, hv, hc, hb⟩ := hrel
    have hvl := hv.out.len
    go_wp2_with (first | (at_next; refine wpList_next_cm wr rfl _ rfl ma w.heap.size ps vis rfl hv.out ?_ ?_))
    · intro hall
      have e := SA.out vis hv.out.one hv.out.sub hall
      rw [e]
      go_wp2_with fail
      go_ret
      exact ⟨rfl, hb.out⟩
    · intro t w1 ht hnv hR hlt hg1 hs1 hen
      have R1 := hI hR
      have B2 := hI (hb.out.grown hg1 hb.out.size (fun j hj => by cases hj; exact Nat.le_refl _))
      have C3 : Hid (Cmp w1 mb qs) := hI (hc.out.of (hg1.block mb hc.out.lt (fun q => by have := BB.out; injection q with q; omega)))
      obtain ⟨ht1, ht2⟩ := CM.out t ht
      have hlk := C3.out.look t (by omega)
      have SN := hI (sumV_snoc ps qs vis t)
      have hml : min (ps.count t) (qs.count t) * t.length ≤ 400 := Nat.le_trans (Nat.mul_le_mul_right _ (Nat.min_le_left _ _)) ht2
      have hcp := List.count_le_length (a := t) (l := ps)
      have hmn : min (ps.count t : Int) (qs.count t : Int) = ((min (ps.count t) (qs.count t) : Nat) : Int) := by omega
      clear hR hg1 hnv ht
      generalize sumV ps qs vis = n0 at *
      generalize ps.count t = c1 at *
      generalize qs.count t = c2 at *
      have hmc : min c1 c2 ≤ c1 := Nat.min_le_left _ _
      generalize min c1 c2 = mn at *
      go_wp2_with fail
      refine ⟨⟨vis ++ [t], ?_, ?_, R1, C3, B2⟩, hlt⟩
      · rw [SN.out]
        exact congrArg (Value.int .i64) (by push_cast; rfl)
      · rw [SN.out, List.length_append, List.length_singleton, Nat.add_mul]
        omega
end Go.Proofs.YtbmpidacoohdmaaGreat
namespace Go.Proofs.YtbmpidacoohdmaaGreat
open Rn (Chg St pairSt Agree isNamed)

/-- A pair that may be: the source's place, the target's, the score, whether they have one name. -/
abbrev Rw := Nat × Nat × Nat × Bool
def ahd (a b : Rw) : Bool :=
  if a.2.2.1 ≠ b.2.2.1 then decide (b.2.2.1 < a.2.2.1) else if a.2.2.2 ≠ b.2.2.2 then a.2.2.2 else if a.1 ≠ b.1 then decide (a.1 < b.1) else decide (a.2.1 < b.2.1)
theorem ahd_irr (a : Rw) : ahd a a = false := by simp [ahd]
theorem ahd_iff (a b : Rw) : ahd a b = true ↔ b.2.2.1 < a.2.2.1 ∨ (a.2.2.1 = b.2.2.1 ∧ ((a.2.2.2 = true ∧ b.2.2.2 = false) ∨ (a.2.2.2 = b.2.2.2 ∧ (a.1 < b.1 ∨ (a.1 = b.1 ∧ a.2.1 < b.2.1))))) := by
  obtain ⟨a1, a2, a3, a4⟩ := a
  obtain ⟨b1, b2, b3, b4⟩ := b
  unfold ahd
  by_cases h1 : a3 = b3
  · by_cases h2 : a4 = b4
    · by_cases h3 : a1 = b1
      · simp [h1, h2, h3]
      · simp [h1, h2, h3]
    · cases a4 <;> cases b4 <;> simp_all
  · simp [h1]
theorem ahd_trans {a b c : Rw} (h : ahd a b = true) (k : ahd b c = true) : ahd a c = true := by
  rw [ahd_iff] at *
  obtain ⟨a1, a2, a3, a4⟩ := a
  obtain ⟨b1, b2, b3, b4⟩ := b
  obtain ⟨c1, c2, c3, c4⟩ := c
  simp only at *
  cases a4 <;> cases b4 <;> cases c4 <;> simp_all <;> omega
theorem ahd_tri {a b : Rw} (h : ahd a b = false) (hne : a ≠ b) : ahd b a = true := by
  have h2 : ¬ (ahd a b = true) := by simp [h]
  rw [ahd_iff] at *
  obtain ⟨a1, a2, a3, a4⟩ := a
  obtain ⟨b1, b2, b3, b4⟩ := b
  by_cases e1 : a3 = b3 <;> by_cases e3 : a1 = b1 <;> by_cases e4 : a2 = b2 <;> cases a4 <;> cases b4 <;> simp_all <;> omega
theorem ahd_as {a b : Rw} (h : ahd a b = true) : ahd b a = false := by
  cases k : ahd b a
  · rfl
  · have := ahd_trans h k
    rw [ahd_irr] at this
    cases this

def elig (s : St) (r : Rw) : Bool := !s.tk.getD r.1 false && !decide (0 < s.kd.getD r.2.1 0)
def putR (s : St) (r : Rw) : St := pairSt s r.1 r.2.1 (r.2.2.1 : Int)
def grS (s : St) (r : Rw) : St := if elig s r then putR s r else s
def bestTo (s : St) (rows : List Rw) : Nat → Int
  | 0 => -1
  | k + 1 => if elig s (rows.getD k default) && (decide (bestTo s rows k < 0) || ahd (rows.getD k default) (rows.getD (bestTo s rows k).toNat default)) then (k : Int) else bestTo s rows k
def tstep (rows : List Rw) (s : St) : St := if bestTo s rows rows.length < 0 then s else putR s (rows.getD (bestTo s rows rows.length).toNat default)
def titer (rows : List Rw) (s : St) : Nat → St
  | 0 => s
  | k + 1 => tstep rows (titer rows s k)
theorem titer_shift (rows : List Rw) (s : St) : ∀ k, titer rows s (k + 1) = titer rows (tstep rows s) k
  | 0 => rfl
  | k + 1 => by
    show tstep rows (titer rows s (k + 1)) = _
    rw [titer_shift rows s k]
    rfl
theorem titer_fix (rows : List Rw) (s : St) (h : tstep rows s = s) : ∀ k, titer rows s k = s
  | 0 => rfl
  | k + 1 => by rw [titer, titer_fix rows s h k, h]
/-- Where a turn finds nothing, the turns behind it find nothing. -/
theorem titer_end (rows : List Rw) (s : St) {k : Nat} (h : bestTo (titer rows s k) rows rows.length < 0) : ∀ {n}, k ≤ n → titer rows s n = titer rows s k := fun {n} hn => by
  obtain ⟨d, rfl⟩ := Nat.exists_eq_add_of_le hn
  clear hn
  induction d with
  | zero => rfl
  | succ d ih =>
    show tstep rows (titer rows s (k + d)) = _
    rw [ih]
    unfold tstep
    rw [if_pos h]
theorem best_spec (s : St) (rows : List Rw) : ∀ k, k ≤ rows.length → (bestTo s rows k = -1 ∧ ∀ j, j < k → elig s (rows.getD j default) = false) ∨
    ∃ b : Nat, b < k ∧ bestTo s rows k = b ∧ elig s (rows.getD b default) = true ∧ ∀ j, j < k → elig s (rows.getD j default) = true → rows.getD j default = rows.getD b default ∨ ahd (rows.getD b default) (rows.getD j default) = true := by
  intro k
  induction k with
  | zero => intro _; exact .inl ⟨rfl, fun j h => by omega⟩
  | succ k ih =>
    intro hk
    rw [bestTo]
    cases he : elig s (rows.getD k default) with
    | false =>
      rw [Bool.false_and, if_neg (by simp)]
      rcases ih (by omega) with ⟨h1, h2⟩ | ⟨b, h1, h2, h3, h4⟩
      · refine .inl ⟨h1, fun j hj => ?_⟩
        rcases Nat.lt_succ_iff_lt_or_eq.1 hj with h | rfl
        · exact h2 j h
        · exact he
      · refine .inr ⟨b, by omega, h2, h3, fun j hj hje => ?_⟩
        rcases Nat.lt_succ_iff_lt_or_eq.1 hj with h | rfl
        · exact h4 j h hje
        · rw [he] at hje; cases hje
    | true =>
      rw [Bool.true_and]
      rcases ih (by omega) with ⟨h1, h2⟩ | ⟨b, h1, h2, h3, h4⟩
      · rw [h1, if_pos (by simp)]
        refine .inr ⟨k, by omega, rfl, he, fun j hj hje => ?_⟩
        rcases Nat.lt_succ_iff_lt_or_eq.1 hj with h | rfl
        · rw [h2 j h] at hje; cases hje
        · exact .inl rfl
      · rw [h2, Int.toNat_natCast, show decide ((b : Int) < 0) = false from decide_eq_false (by omega), Bool.false_or]
        cases ha : ahd (rows.getD k default) (rows.getD b default) with
        | true =>
          rw [if_pos rfl]
          refine .inr ⟨k, by omega, rfl, he, fun j hj hje => ?_⟩
          rcases Nat.lt_succ_iff_lt_or_eq.1 hj with h | rfl
          · rcases h4 j h hje with e | e
            · rw [e]; exact .inr ha
            · exact .inr (ahd_trans ha e)
          · exact .inl rfl
        | false =>
          rw [if_neg (by simp)]
          refine .inr ⟨b, by omega, rfl, h3, fun j hj hje => ?_⟩
          rcases Nat.lt_succ_iff_lt_or_eq.1 hj with h | rfl
          · exact h4 j h hje
          · by_cases e : rows.getD j default = rows.getD b default
            · exact .inl e
            · exact .inr (ahd_tri ha e)
theorem elig_put (s : St) (r x : Rw) (h : elig s x = false) : elig (putR s r) x = false := by
  unfold elig putR pairSt at *
  simp only [Bool.and_eq_false_iff, Bool.not_eq_false', decide_eq_true_eq, List.getD_eq_getElem?_getD, List.getElem?_set] at *
  rcases h with h | h
  · refine .inl ?_
    split
    · split
      · rfl
      · rename_i e hl
        rw [← e] at h
        rw [List.getElem?_eq_none (by omega)] at h
        cases h
    · exact h
  · refine .inr ?_
    split
    · split
      · simp
      · rename_i e hl
        rw [← e] at h
        rw [List.getElem?_eq_none (by omega)] at h
        simp at h
    · exact h
theorem elig_own (s : St) (r : Rw) (h : r.1 < s.tk.length) : elig (putR s r) r = false := by
  simp [elig, putR, pairSt, List.getD_eq_getElem?_getD, h]
theorem put_tk (s : St) (r : Rw) : (putR s r).tk.length = s.tk.length := by simp [putR, pairSt]
theorem greedy_eq (rows S : List Rw) (hp : S.Perm rows) (hS : S.Pairwise fun x y => ahd y x = false) : ∀ (R2 R1 : List Rw) (s : St) (n : Nat), S = R1 ++ R2 → (∀ r ∈ rows, r.1 < s.tk.length) → (∀ x ∈ R1, elig s x = false) → R2.length ≤ n → titer rows s n = R2.foldl grS s
  | [], R1, s, n, hs, hl, hi, hn => by
    rw [List.append_nil] at hs
    subst hs
    refine titer_fix rows s ?_ n
    unfold tstep
    rcases best_spec s rows rows.length (Nat.le_refl _) with ⟨h1, _⟩ | ⟨b, h1, _, h3, _⟩
    · rw [h1, if_pos (by omega)]
    · exfalso
      rw [hi _ (hp.mem_iff.2 (by rw [List.getD_eq_getElem?_getD, List.getElem?_eq_getElem h1]; exact List.getElem_mem h1))] at h3
      cases h3
  | r :: R2, R1, s, n, hs, hl, hi, hn => by
    have hr : r ∈ rows := hp.mem_iff.1 (by rw [hs]; simp)
    rw [List.foldl_cons]
    cases he : elig s r with
    | false =>
      rw [show grS s r = s by unfold grS; rw [he]; rfl]
      refine greedy_eq rows S hp hS R2 (R1 ++ [r]) s n (by rw [hs]; simp) hl (fun x hx => ?_) (by simp at hn; omega)
      rcases List.mem_append.1 hx with hx | hx
      · exact hi x hx
      · obtain rfl := List.mem_singleton.1 hx; exact he
    | true =>
      obtain ⟨m, rfl⟩ : ∃ m, n = m + 1 := ⟨n - 1, by simp at hn; omega⟩
      have hst : tstep rows s = putR s r := by
        unfold tstep
        rcases best_spec s rows rows.length (Nat.le_refl _) with ⟨_, h2⟩ | ⟨b, h1, h2, h3, h4⟩
        · exfalso
          obtain ⟨j, hj, e⟩ := List.getElem_of_mem hr
          have := h2 j hj
          rw [List.getD_eq_getElem?_getD, List.getElem?_eq_getElem hj, e, Option.getD_some, he] at this
          cases this
        · rw [h2, if_neg (by omega), Int.toNat_natCast]
          obtain ⟨j, hj, e⟩ := List.getElem_of_mem hr
          have hjr : rows.getD j default = r := by rw [List.getD_eq_getElem?_getD, List.getElem?_eq_getElem hj, e, Option.getD_some]
          have h5 := h4 j hj (by rw [hjr]; exact he)
          rw [hjr] at h5
          have hb : rows.getD b default ∈ S := hp.mem_iff.2 (by rw [List.getD_eq_getElem?_getD, List.getElem?_eq_getElem h1]; exact List.getElem_mem h1)
          generalize rows.getD b default = x at *
          rcases h5 with h5 | h5
          · rw [h5]
          · exfalso
            rw [hs] at hb hS
            obtain ⟨_, hP, _⟩ := List.pairwise_append.1 hS
            obtain ⟨hP, _⟩ := List.pairwise_cons.1 hP
            rcases List.mem_append.1 hb with hb | hb
            · rw [hi x hb] at h3; cases h3
            · rcases List.mem_cons.1 hb with rfl | hb
              · rw [ahd_irr] at h5; cases h5
              · rw [hP x hb] at h5; cases h5
      rw [titer_shift, hst, show grS s r = putR s r by unfold grS; rw [he]; rfl]
      refine greedy_eq rows S hp hS R2 (R1 ++ [r]) _ m (by rw [hs]; simp) (fun x hx => by rw [put_tk]; exact hl x hx) (fun x hx => ?_) (by simp at hn; omega)
      rcases List.mem_append.1 hx with hx | hx
      · exact elig_put s r x (hi x hx)
      · obtain rfl := List.mem_singleton.1 hx; exact elig_own s x (hl x hr)

/-- The pairs of all sources and targets, in order. -/
def conv (l : List Chg) (S T : List Nat) (x : Nat × Nat × Nat) : Rw := (S.getD x.1 0, T.getD x.2.1 0, x.2.2, isNamed l (S.getD x.1 0) (T.getD x.2.1 0))
def tabIn (xs ys : List (List UInt8)) (least : Int) (i : Nat) : Nat → List (Nat × Nat × Nat)
  | 0 => []
  | k + 1 => if least ≤ (scoB (xs.getD i []) (ys.getD k []) : Int) then tabIn xs ys least i k ++ [(i, k, scoB (xs.getD i []) (ys.getD k []))] else tabIn xs ys least i k
def tabTo (xs ys : List (List UInt8)) (least : Int) : Nat → List (Nat × Nat × Nat)
  | 0 => []
  | i + 1 => tabTo xs ys least i ++ tabIn xs ys least i ys.length
theorem tabIn_len (xs ys : List (List UInt8)) (least : Int) (i : Nat) : ∀ k, (tabIn xs ys least i k).length ≤ k
  | 0 => Nat.le_refl _
  | k + 1 => by
    have := tabIn_len xs ys least i k
    unfold tabIn
    split
    · rw [List.length_append, List.length_singleton]; omega
    · omega
theorem tabTo_len (xs ys : List (List UInt8)) (least : Int) : ∀ i, (tabTo xs ys least i).length ≤ i * ys.length
  | 0 => by simp [tabTo]
  | i + 1 => by
    have := tabTo_len xs ys least i
    have := tabIn_len xs ys least i ys.length
    rw [tabTo, List.length_append, Nat.add_mul, Nat.one_mul]
    omega
theorem tabIn_mem (xs ys : List (List UInt8)) (least : Int) (i : Nat) : ∀ k, ∀ x ∈ tabIn xs ys least i k, x.1 = i ∧ x.2.1 < k ∧ x.2.2 = scoB (xs.getD i []) (ys.getD x.2.1 []) ∧ least ≤ (x.2.2 : Int)
  | 0, x, h => by cases h
  | k + 1, x, h => by
    unfold tabIn at h
    split at h
    · rename_i hl
      rcases List.mem_append.1 h with h | h
      · obtain ⟨h1, h2, h3, h4⟩ := tabIn_mem xs ys least i k x h
        exact ⟨h1, by omega, h3, h4⟩
      · obtain rfl := List.mem_singleton.1 h
        exact ⟨rfl, by simp, rfl, hl⟩
    · obtain ⟨h1, h2, h3, h4⟩ := tabIn_mem xs ys least i k x h
      exact ⟨h1, by omega, h3, h4⟩
theorem tabTo_mem (xs ys : List (List UInt8)) (least : Int) : ∀ i, ∀ x ∈ tabTo xs ys least i, x.1 < i ∧ x.2.1 < ys.length ∧ x.2.2 ≤ 1000 ∧ least ≤ (x.2.2 : Int)
  | 0, x, h => by cases h
  | i + 1, x, h => by
    rw [tabTo] at h
    rcases List.mem_append.1 h with h | h
    · obtain ⟨h1, h2, h3, h4⟩ := tabTo_mem xs ys least i x h
      exact ⟨by omega, h2, h3, h4⟩
    · obtain ⟨h1, h2, h3, h4⟩ := tabIn_mem xs ys least i _ x h
      exact ⟨by omega, h2, by rw [h3]; exact scoB_le _ _, h4⟩
def rowsOf (l : List Chg) (S T : List Nat) (xs ys : List (List UInt8)) (least : Int) : List Rw := (tabTo xs ys least xs.length).map (conv l S T)
end Go.Proofs.YtbmpidacoohdmaaGreat

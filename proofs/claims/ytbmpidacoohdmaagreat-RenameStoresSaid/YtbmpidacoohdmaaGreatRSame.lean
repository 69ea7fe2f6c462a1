/- sleuthref17.Same, by a contract. A row of changes, cell by cell. -/
import Derived.Test.YtbmpidacoohdmaaGreatRRow
import Derived.Test.YtbmpidacoohdmaaGreatRRex
namespace Go.Proofs.YtbmpidacoohdmaaGreat.Rn
open Go.RowKit

theorem diff_at {a b : List Chg} {k : Nat} (h : a.getD k default ≠ b.getD k default) : a ≠ b := by
  rintro rfl
  exact h rfl
theorem take_step {a b : List Chg} {k : Nat} (hl : a.length = b.length) (hk : k < a.length) (ht : a.take k = b.take k) (h : a.getD k default = b.getD k default) : a.take (k + 1) = b.take (k + 1) := by
  have hk' : k < b.length := by omega
  rw [List.take_succ_eq_append_getElem hk, List.take_succ_eq_append_getElem hk', ht]
  simp only [List.getD_eq_getElem?_getD, List.getElem?_eq_getElem hk, List.getElem?_eq_getElem hk', Option.getD_some] at h
  rw [h]

set_option maxHeartbeats 1000000 in
theorem same_any (w : World) (a b : List Chg) (A D : Option Addr) (c d Ba Bb : Nat) (ha : LReads w Ba A a) (hb : LReads w Bb D b) (oa : ∀ (k : Nat) (x : Chg), a[k]? = some x → x.ok) (ob : ∀ (k : Nat) (x : Chg), b[k]? = some x → x.ok) (hn : a.length ≤ 40) (hm : b.length ≤ 9223372036854775807) :
    Calls Tryz.prog 10 #[.slice A a.length c, .slice D b.length d] w fun e w' => e = .returned (.bool (decide (a = b))) ∧ ∃ m, w' = w.drewN m := by
  have HA := Lib.hid (And.intro ha oa)
  have HB := Lib.hid (And.intro hb ob)
  clear ha hb oa ob
  go_enter Tryz.func10, Tryz.ntmps10
  by_cases hl : a.length = b.length
  · rw [← hl]
    have HL := Lib.hid hl
    clear hl hm
    go_wp2
    go_loopw [5] (fun i wr => ∃ k : Nat, k ≤ a.length ∧ i = .int .i64 k ∧ Hid (a.take k = b.take k) ∧ Hid (∃ m, wr = w.drewN m)) (fun i _ => a.length - (intOf i).toNat)
    case atStart => exact ⟨0, Nat.zero_le _, rfl, rfl, 0, rfl⟩
    case round =>
      obtain ⟨k, hk, rfl, ht, hw⟩ := hrel
      by_cases hkl : k < a.length
      · have hkb : k < b.length := by have := HL.out; omega
        obtain ⟨ad, rfl, _, hca⟩ := HA.out.1 k (a.getD k default) (by simp [hkl])
        obtain ⟨dd, rfl, _, hcb⟩ := HB.out.1 k (b.getD k default) (by simp [hkb])
        have oka : (a.getD k default).ok := HA.out.2 k _ (by simp [hkl])
        have okb : (b.getD k default).ok := HB.out.2 k _ (by simp [hkb])
        have h1 : ∀ w', (∃ n, w' = wr.drewN n) → CellsAt w' (ad.add (k * 70)) (a.getD k default).cells := by
          obtain ⟨m, rfl⟩ := hw.out
          rintro _ ⟨n, rfl⟩
          exact hca
        have h2 : ∀ w', (∃ n, w' = wr.drewN n) → CellsAt w' (dd.add (k * 70)) (b.getD k default).cells := by
          obtain ⟨m, rfl⟩ := hw.out
          rintro _ ⟨n, rfl⟩
          exact hcb
        have l1 : (Tryz.prog.info? 53).map (·.size) = some (a.getD k default).cells.length := by rw [Chg.cells_length _ oka]; exact info46
        have l2 : (Tryz.prog.info? 53).map (·.size) = some (b.getD k default).cells.length := by rw [Chg.cells_length _ okb]; exact info46
        have hq : ∀ W, (Op.equalIn 10000 53 (.agg (a.getD k default).cells.toArray) (.agg (b.getD k default).cells.toArray)).run Tryz.prog W = .ok (decide (a.getD k default = b.getD k default)) W := fun W => run_equalIn_chg _ _ oka okb W
        have H1 := Lib.hid h1
        have H2 := Lib.hid h2
        have L1 := Lib.hid l1
        have L2 := Lib.hid l2
        have HD := Lib.hid (diff_at (a := a) (b := b) (k := k))
        have HT := Lib.hid (take_step HL.out hkl ht.out)
        clear h1 h2 l1 l2 hca hcb oka okb ht
        generalize a.getD k default = x at *
        generalize b.getD k default = y at *
        by_cases hxy : x = y
        · have hd : decide (x = y) = true := by simp [hxy]
          rw [hd] at hq
          have HXY := Lib.hid hxy
          clear hxy hd
          go_wp2_with fail
          refine wp_region_quiet_lit (by kernel_rfl) (by kernel_rfl) ?_
          repeat (first
            | (go_big_quiet_want; refine quiet_load_cells 53 _ rfl _ rfl x.cells Tryz.underlying53 rfl L1.out H1.out ?_; simp only [Act.put, List.setIfInBounds_toArray, List.set_cons_succ, List.set_cons_zero]; go_big_quiet_on)
            | (go_big_quiet_want; refine quiet_load_cells 53 _ rfl _ rfl y.cells Tryz.underlying53 rfl L2.out H2.out ?_; simp only [Act.put, List.setIfInBounds_toArray, List.set_cons_succ, List.set_cons_zero]; go_big_quiet_on)
            | go_big_quiet_step (fail))
          refine wpQuiet_nil ?_
          rintro _ ⟨nq, rfl⟩
          go_wp2
          refine ⟨⟨k + 1, by omega, by go_num, HT.out HXY.out, ?_⟩, by simp [intOf]; omega⟩
          obtain ⟨m, rfl⟩ := hw.out
          exact ⟨m + nq, by simp⟩
        · have hd : decide (x = y) = false := by simp [hxy]
          rw [hd] at hq
          have HXY := Lib.hid hxy
          clear hxy hd
          go_wp2_with fail
          refine wp_region_quiet_lit (by kernel_rfl) (by kernel_rfl) ?_
          repeat (first
            | (go_big_quiet_want; refine quiet_load_cells 53 _ rfl _ rfl x.cells Tryz.underlying53 rfl L1.out H1.out ?_; simp only [Act.put, List.setIfInBounds_toArray, List.set_cons_succ, List.set_cons_zero]; go_big_quiet_on)
            | (go_big_quiet_want; refine quiet_load_cells 53 _ rfl _ rfl y.cells Tryz.underlying53 rfl L2.out H2.out ?_; simp only [Act.put, List.setIfInBounds_toArray, List.set_cons_succ, List.set_cons_zero]; go_big_quiet_on)
            | go_big_quiet_step (fail))
          refine wpQuiet_nil ?_
          rintro _ ⟨nq, rfl⟩
          go_wp2
          go_ret
          obtain ⟨m, rfl⟩ := hw.out
          exact ⟨ret_bool (by simp [HD.out HXY.out]), m + nq, by simp⟩
      · go_wp2
        go_ret
        obtain rfl : k = a.length := by omega
        have hab : a = b := by
          have h := ht.out
          rw [List.take_length, HL.out, List.take_length] at h
          exact h
        exact ⟨ret_bool (by simp [hab]), hw.out⟩
  · have hne : ((a.length : Int) != (b.length : Int)) = true := by simp; omega
    have hd : decide (a = b) = false := by simp; rintro rfl; exact hl rfl
    rw [hd]
    clear hl hd
    go_wp2
    go_ret
    exact ⟨rfl, 0, rfl⟩
end Go.Proofs.YtbmpidacoohdmaaGreat.Rn
namespace Go.Proofs.YtbmpidacoohdmaaGreat.Rn
open Go.RowKit

def Oks (l : List Chg) : Prop := ∀ (k : Nat) (x : Chg), l[k]? = some x → x.ok
theorem flat_len (l : List Chg) (h : Oks l) : (l.flatMap Chg.cells).length = l.length * 70 := by
  induction l with
  | nil => rfl
  | cons a l ih =>
    have h0 : a.ok := h 0 a rfl
    have h1 : Oks l := fun k x hx => h (k + 1) x (by simpa using hx)
    rw [List.flatMap_cons, List.length_append, ih h1, Chg.cells_length _ h0, List.length_cons]
    omega
theorem flat_at (l : List Chg) (h : Oks l) : ∀ (k : Nat) (c : Chg) (j : Nat) (v : Value), l[k]? = some c → c.cells[j]? = some v → (l.flatMap Chg.cells)[k * 70 + j]? = some v := by
  induction l with
  | nil => intro k c j v hc; simp at hc
  | cons a l ih =>
    intro k c j v hc hv
    have h0 : a.ok := h 0 a rfl
    have h1 : Oks l := fun k x hx => h (k + 1) x (by simpa using hx)
    rw [List.flatMap_cons]
    rcases k with _ | k
    · simp only [List.getElem?_cons_zero, Option.some.injEq] at hc
      subst hc
      have hj : j < a.cells.length := (List.getElem?_eq_some_iff.1 hv).1
      rw [List.getElem?_append_left (by omega)]
      simpa using hv
    · simp only [List.getElem?_cons_succ] at hc
      rw [List.getElem?_append_right (by rw [Chg.cells_length _ h0]; omega), Chg.cells_length _ h0, show (k + 1) * 70 + j - 70 = k * 70 + j by omega]
      exact ih h1 k c j v hc hv
theorem flat_back (l : List Chg) (h : Oks l) (m : Nat) (v : Value) (hm : (l.flatMap Chg.cells)[m]? = some v) : ∃ c, l[m / 70]? = some c ∧ c.cells[m % 70]? = some v := by
  have hlt : m < l.length * 70 := by rw [← flat_len l h]; exact (List.getElem?_eq_some_iff.1 hm).1
  have hk : m / 70 < l.length := by omega
  have hc : l[m / 70]? = some l[m / 70] := List.getElem?_eq_getElem hk
  have hok := h _ _ hc
  have hj : m % 70 < l[m / 70].cells.length := by rw [Chg.cells_length _ hok]; omega
  have hv := flat_at l h (m / 70) _ (m % 70) _ hc (List.getElem?_eq_getElem hj)
  rw [show m / 70 * 70 + m % 70 = m by omega, hm] at hv
  exact ⟨_, hc, by rw [List.getElem?_eq_getElem hj]; exact hv.symm⟩

theorem own_reads {w : World} {B : Nat} {v : Value} {l : List Chg} (h : Oks l) (ho : w.ownsRow B 53 70 v l.length (l.flatMap Chg.cells)) : ∃ A c, v = .slice A l.length c ∧ LReads w w.heap.size A l := by
  rcases ho.2 with ⟨rfl, h0⟩ | ⟨b, cap, cur, rfl, hb, hh, hrest⟩
  · have hl : l = [] := List.eq_nil_of_length_eq_zero h0
    subst hl
    exact ⟨none, 0, rfl, fun k c hc => by simp at hc⟩
  · refine ⟨some ⟨b, 0, none⟩, cap, rfl, fun k c hc => ⟨⟨b, 0, none⟩, rfl, (Array.getElem?_eq_some_iff.1 hh).1, fun j u hu => ?_⟩⟩
    have hk : k < l.length := (List.getElem?_eq_some_iff.1 hc).1
    have hj : j < 70 := by have := (List.getElem?_eq_some_iff.1 hu).1; rwa [Chg.cells_length _ (h k c hc)] at this
    rw [add_add, Addr.add_lit, Nat.zero_add, ho.cellAt (k * 70 + j) (by omega)]
    exact flat_at l h k c j u hc hu
theorem reads_flat {w : World} {B : Nat} {ad : Addr} {l : List Chg} (h : Oks l) (hr : LReads w B (some ad) l) : ∀ j u, (l.flatMap Chg.cells)[j]? = some u → w.cell? (ad.add j) = some u := by
  intro j u hu
  obtain ⟨c, hc, hv⟩ := flat_back l h j u hu
  obtain ⟨ad', e, _, hcs⟩ := hr _ c hc
  obtain rfl : ad = ad' := by injection e
  have := hcs (j % 70) u hv
  rwa [add_add, show j / 70 * 70 + j % 70 = j by omega] at this
theorem flat_one (l : List Chg) : ∀ u ∈ l.flatMap Chg.cells, u.oneCell' = true := by
  intro u hu
  obtain ⟨c, _, hc⟩ := List.mem_flatMap.1 hu
  exact c.cells_one u hc

theorem oks_get {l : List Chg} (h : Oks l) {k : Nat} (hk : k < l.length) : (l.getD k default).ok := h k _ (by simp [hk])
theorem out_oks (l : List Chg) (h : Oks l) (s : St) (hfr : ∀ k, 0 < s.kd.getD k 0 → ∃ i : Nat, i < l.length ∧ s.fr.getD k 0 = i) : ∀ k, k ≤ l.length → ∀ x ∈ outTo l s k, x.ok := by
  intro k
  induction k with
  | zero => intro _ x hx; simp [outTo] at hx
  | succ k ih =>
    intro hk x hx
    unfold outTo at hx
    split at hx
    · exact ih (by omega) x hx
    · rcases List.mem_append.1 hx with hx | hx
      · exact ih (by omega) x hx
      · simp only [List.mem_cons, List.not_mem_nil, or_false] at hx
        subst hx
        have hok := oks_get h (k := k) (by omega)
        unfold newChg
        split
        · rename_i hkd
          obtain ⟨i, hi, hfi⟩ := hfr k hkd
          rw [hfi, Int.toNat_natCast]
          have hoki := oks_get h hi
          exact ⟨hoki.oid, hok.nid, hoki.old, hok.new⟩
        · exact hok
theorem oks_of_mem {l : List Chg} (h : ∀ x ∈ l, x.ok) : Oks l := fun _ x hx => h x (List.mem_of_getElem? hx)

def exactL (l : List Chg) : List Chg := outTo l (refTo l l.length) l.length
theorem exactL_oks (l : List Chg) (h : Oks l) : Oks (exactL l) := oks_of_mem (out_oks l h _ (fr_ref l) _ (Nat.le_refl _))
theorem exactL_len (l : List Chg) : (exactL l).length ≤ l.length := outTo_len _ _ _

/-- rename.Exact. -/
theorem prog_any {w : World} {l : List Chg} {A : Option Addr} {c : Nat} (hl : LReads w w.heap.size A l) (ok : Oks l) (hn : l.length ≤ 40) :
    Calls Tryz.prog 26 #[.slice A l.length c] w fun e w' => ∃ D d, e = .returned (.slice D (exactL l).length d) ∧ LReads w' w'.heap.size D (exactL l) ∧ Below w.heap.size w w' :=
  (exact_prog hl ok hn (fr_prog l)).mono fun e w' ⟨v, B, he, ho, hb⟩ => by
    rw [same_out] at ho
    obtain ⟨D, d, rfl, hr⟩ := own_reads (exactL_oks l ok) ho
    exact ⟨D, d, he, hr, hb⟩
/-- The reference's Exact. -/
theorem ref_any {w : World} {l : List Chg} {A : Option Addr} {c : Nat} (hl : LReads w w.heap.size A l) (ok : Oks l) (hn : l.length ≤ 40) :
    Calls Tryz.prog 14 #[.slice A l.length c] w fun e w' => ∃ D d, e = .returned (.slice D (exactL l).length d) ∧ LReads w' w'.heap.size D (exactL l) ∧ Below w.heap.size w w' :=
  (exact_ref hl ok hn (fr_ref l)).mono fun e w' ⟨v, B, he, ho, hb⟩ => by
    obtain ⟨D, d, rfl, hr⟩ := own_reads (exactL_oks l ok) ho
    exact ⟨D, d, he, hr, hb⟩
end Go.Proofs.YtbmpidacoohdmaaGreat.Rn

/- sleuthref17.Same, by a contract. -/
import Derived.Test.YthhmamkphcgocaaMem
namespace Go.Proofs.Ythhmamkphcgocaa
open Go.RowKit

theorem diff_at {a b : List Chg} {k : Nat} (h : a.getD k default ≠ b.getD k default) : a ≠ b := by
  rintro rfl
  exact h rfl
theorem take_step {a b : List Chg} {k : Nat} (hl : a.length = b.length) (hk : k < a.length) (ht : a.take k = b.take k) (h : a.getD k default = b.getD k default) : a.take (k + 1) = b.take (k + 1) := by
  have hk' : k < b.length := by omega
  rw [List.take_succ_eq_append_getElem hk, List.take_succ_eq_append_getElem hk', ht]
  simp only [List.getD_eq_getElem?_getD, List.getElem?_eq_getElem hk, List.getElem?_eq_getElem hk', Option.getD_some] at h
  rw [h]

set_option maxHeartbeats 1000000 in
theorem same_any (w : World) (a b : List Chg) (A D : Option Addr) (c d Ba Bb : Nat) (ha : LReads w Ba A a) (hb : LReads w Bb D b) (oa : ∀ (k : Nat) (x : Chg), a[k]? = some x → x.ok) (ob : ∀ (k : Nat) (x : Chg), b[k]? = some x → x.ok) (hn : a.length ≤ 40) (hm : b.length ≤ 9223372036854775807) :
    Calls Try.prog 7 #[.slice A a.length c, .slice D b.length d] w fun e w' => e = .returned (.bool (decide (a = b))) ∧ ∃ m, w' = w.drewN m := by
  have HA := Lib.hid (And.intro ha oa)
  have HB := Lib.hid (And.intro hb ob)
  clear ha hb oa ob
  go_enter Try.func7, Try.ntmps7
  by_cases hl : a.length = b.length
  · rw [← hl]
    have HL := Lib.hid hl
    clear hl hm
    go_wp2
    go_loopw [5] (fun i wr => ∃ k : Nat, k ≤ a.length ∧ i = .int .i64 k ∧ Hid (a.take k = b.take k) ∧ Hid (∃ m, wr = w.drewN m)) (fun i _ => a.length - (intOf i).toNat)
    case atStart => exact ⟨0, Nat.zero_le _, rfl, rfl, 0, rfl⟩
    case round =>
      obtain ⟨k, hk, rfl, ht, hw⟩ := hrel
      by_cases hkl : k < a.length
      · have hkb : k < b.length := by have := HL.out; omega
        obtain ⟨ad, rfl, _, hca⟩ := HA.out.1 k (a.getD k default) (by simp [hkl])
        obtain ⟨dd, rfl, _, hcb⟩ := HB.out.1 k (b.getD k default) (by simp [hkb])
        have oka : (a.getD k default).ok := HA.out.2 k _ (by simp [hkl])
        have okb : (b.getD k default).ok := HB.out.2 k _ (by simp [hkb])
        have h1 : ∀ w', (∃ n, w' = wr.drewN n) → CellsAt w' (ad.add (k * 70)) (a.getD k default).cells := by
          obtain ⟨m, rfl⟩ := hw.out
          rintro _ ⟨n, rfl⟩
          exact hca
        have h2 : ∀ w', (∃ n, w' = wr.drewN n) → CellsAt w' (dd.add (k * 70)) (b.getD k default).cells := by
          obtain ⟨m, rfl⟩ := hw.out
          rintro _ ⟨n, rfl⟩
          exact hcb
        have l1 : (Try.prog.info? 46).map (·.size) = some (a.getD k default).cells.length := by rw [Chg.cells_length _ oka]; exact info46
        have l2 : (Try.prog.info? 46).map (·.size) = some (b.getD k default).cells.length := by rw [Chg.cells_length _ okb]; exact info46
        have hq : ∀ W, (Op.equalIn 10000 46 (.agg (a.getD k default).cells.toArray) (.agg (b.getD k default).cells.toArray)).run Try.prog W = .ok (decide (a.getD k default = b.getD k default)) W := fun W => run_equalIn_chg _ _ oka okb W
        have H1 := Lib.hid h1
        have H2 := Lib.hid h2
        have L1 := Lib.hid l1
        have L2 := Lib.hid l2
        have HD := Lib.hid (diff_at (a := a) (b := b) (k := k))
        have HT := Lib.hid (take_step HL.out hkl ht.out)
        clear h1 h2 l1 l2 hca hcb oka okb ht
        generalize a.getD k default = x at *
        generalize b.getD k default = y at *
        by_cases hxy : x = y
        · have hd : decide (x = y) = true := by simp [hxy]
          rw [hd] at hq
          have HXY := Lib.hid hxy
          clear hxy hd
          go_wp2_with fail
          refine wp_region_quiet_lit (by kernel_rfl) (by kernel_rfl) ?_
          repeat (first
            | (go_big_quiet_want; refine quiet_load_cells 46 _ rfl _ rfl x.cells Try.underlying46 rfl L1.out H1.out ?_; simp only [Act.put, List.setIfInBounds_toArray, List.set_cons_succ, List.set_cons_zero]; go_big_quiet_on)
            | (go_big_quiet_want; refine quiet_load_cells 46 _ rfl _ rfl y.cells Try.underlying46 rfl L2.out H2.out ?_; simp only [Act.put, List.setIfInBounds_toArray, List.set_cons_succ, List.set_cons_zero]; go_big_quiet_on)
            | go_big_quiet_step (fail))
          refine wpQuiet_nil ?_
          rintro _ ⟨nq, rfl⟩
          go_wp2
          refine ⟨⟨k + 1, by omega, by go_num, HT.out HXY.out, ?_⟩, by simp [intOf]; omega⟩
          obtain ⟨m, rfl⟩ := hw.out
          exact ⟨m + nq, by simp⟩
        · have hd : decide (x = y) = false := by simp [hxy]
          rw [hd] at hq
          have HXY := Lib.hid hxy
          clear hxy hd
          go_wp2_with fail
          refine wp_region_quiet_lit (by kernel_rfl) (by kernel_rfl) ?_
          repeat (first
            | (go_big_quiet_want; refine quiet_load_cells 46 _ rfl _ rfl x.cells Try.underlying46 rfl L1.out H1.out ?_; simp only [Act.put, List.setIfInBounds_toArray, List.set_cons_succ, List.set_cons_zero]; go_big_quiet_on)
            | (go_big_quiet_want; refine quiet_load_cells 46 _ rfl _ rfl y.cells Try.underlying46 rfl L2.out H2.out ?_; simp only [Act.put, List.setIfInBounds_toArray, List.set_cons_succ, List.set_cons_zero]; go_big_quiet_on)
            | go_big_quiet_step (fail))
          refine wpQuiet_nil ?_
          rintro _ ⟨nq, rfl⟩
          go_wp2
          go_ret
          obtain ⟨m, rfl⟩ := hw.out
          exact ⟨ret_bool (by simp [HD.out HXY.out]), m + nq, by simp⟩
      · go_wp2
        go_ret
        obtain rfl : k = a.length := by omega
        have hab : a = b := by
          have h := ht.out
          rw [List.take_length, HL.out, List.take_length] at h
          exact h
        exact ⟨ret_bool (by simp [hab]), hw.out⟩
  · have hne : ((a.length : Int) != (b.length : Int)) = true := by simp; omega
    have hd : decide (a = b) = false := by simp; rintro rfl; exact hl rfl
    rw [hd]
    clear hl hd
    go_wp2
    go_ret
    exact ⟨rfl, 0, rfl⟩
end Go.Proofs.Ythhmamkphcgocaa

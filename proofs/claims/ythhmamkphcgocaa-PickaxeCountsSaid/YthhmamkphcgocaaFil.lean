/- (*myers.field).slide and at, by contracts. -/
import Derived.Test.YthhmamkphcgocaaProg
import Derived.Test.YthhmamkphcgocaaTab
import Derived.Test.YthhmamkphcgocaaRds
namespace Go.Proofs.Ythhmamkphcgocaa
open Go.RowKit

theorem slide_go {a b : List Int} {dg : Int} {j kj : Nat} (ho : On a b dg j kj) (hj : 0 < j) (hk : 0 < kj) (h : a.getD (j - 1) 0 = b.getD (kj - 1) 0) : slide a b dg j = slide a b dg (j - 1) := by
  obtain ⟨h1, h2, h3⟩ := ho
  obtain ⟨j, rfl⟩ : ∃ j', j = j' + 1 := ⟨j - 1, by omega⟩
  conv => lhs; unfold slide
  have e : (((j + 1 : Nat) : Int) - dg - 1).toNat = kj - 1 := by omega
  rw [e, if_pos ⟨by omega, h⟩]
  rfl
theorem slide_stop {a b : List Int} {dg : Int} {j kj : Nat} (ho : On a b dg j kj) (h : j = 0 ∨ kj = 0 ∨ a.getD (j - 1) 0 ≠ b.getD (kj - 1) 0) : slide a b dg j = j := by
  obtain ⟨h1, h2, h3⟩ := ho
  rcases j with _ | j
  · rfl
  · unfold slide
    rw [if_neg]
    rintro ⟨g1, g2⟩
    rcases h with h | h | h
    · omega
    · omega
    · apply h
      rw [show (((j + 1 : Nat) : Int) - dg - 1).toNat = kj - 1 by omega] at g2
      exact g2

set_option maxHeartbeats 1000000 in
theorem slide_any {B : Nat} (w : World) (F : Nat) (A D : Option Addr) (cA cD : Nat) (a b : List Int) (c0 : w.cell? ⟨F, 0, none⟩ = some (.slice A a.length cA)) (c1 : w.cell? ⟨F, 1, none⟩ = some (.slice D b.length cD))
    (ra : Rv B w A (ints a)) (rb : Rv B w D (ints b)) (la : a.length ≤ 400) (lb : b.length ≤ 400) (i k : Nat) (dg : Int) (ho : On a b dg i k) :
    Calls Try.prog 72 #[.pointer (some ⟨F, 0, none⟩), .int .i64 i, .int .i64 dg] w fun e w' => e = .returned (.int .i64 (slide a b dg i)) ∧ ∃ m, w' = w.drewN m := by
  have H := Lib.hid (And.intro ra rb)
  have HO := Lib.hid ho
  have hi := ho.1
  clear ra rb ho
  go_enter Try.func72, Try.ntmps72
  go_wp2
  go_loopw [1] (fun v wr => ∃ j : Nat, j ≤ i ∧ v = .int .i64 j ∧ Hid (∃ m, wr = w.drewN m) ∧ Hid (slide a b dg i = slide a b dg j) ∧ Hid (∃ kj, On a b dg j kj)) (fun v _ => (intOf v).toNat)
  case atStart => exact ⟨i, Nat.le_refl _, rfl, ⟨0, rfl⟩, rfl, ⟨k, HO.out⟩⟩
  case round =>
    obtain ⟨j, hj, rfl, hm, hs, hk⟩ := hrel
    obtain ⟨kj, hon⟩ := hk.out
    have c0' : wr.cell? ⟨F, 0, none⟩ = some (.slice A a.length cA) := by obtain ⟨m, rfl⟩ := hm.out; exact c0
    have c1' : wr.cell? ⟨F, 1, none⟩ = some (.slice D b.length cD) := by obtain ⟨m, rfl⟩ := hm.out; exact c1
    clear c0 c1 hk
    have HON := Lib.hid hon
    obtain ⟨o1, o2, o3⟩ := hon
    by_cases hj0 : 0 < j
    · have d1 : decide ((0 : Int) < (j : Int)) = true := by simp; omega
      by_cases hk0 : 0 < kj
      · have d2 : decide (dg < (j : Int)) = true := by simp; omega
        obtain ⟨ad, rfl, _, ca⟩ := H.out.1.at_ (k := j - 1) (ints_at (by omega))
        obtain ⟨bd, rfl, _, cb⟩ := H.out.2.at_ (k := kj - 1) (ints_at (by omega))
        have e2 : ((j : Int) - dg).toNat - 1 = kj - 1 := by omega
        have ca' : wr.cell? (ad.add (j - 1)) = some (.int .i64 (a.getD (j - 1) 0)) := by obtain ⟨m, rfl⟩ := hm.out; exact ca
        have cb' : wr.cell? (bd.add (((j : Int) - dg).toNat - 1)) = some (.int .i64 (b.getD (kj - 1) 0)) := by rw [e2]; obtain ⟨m, rfl⟩ := hm.out; exact cb
        have HS := Lib.hid (slide_go HON.out hj0 hk0)
        have HT := Lib.hid (fun h : a.getD (j - 1) 0 ≠ b.getD (kj - 1) 0 => slide_stop HON.out (.inr (.inr h)))
        have hon' : On a b dg (j - 1) (kj - 1) := ⟨by omega, by omega, by omega⟩
        have HON' := Lib.hid hon'
        clear ca cb e2 hon'
        generalize a.getD (j - 1) 0 = x at *
        generalize b.getD (kj - 1) 0 = y at *
        by_cases hxy : (x == y) = true
        · go_wp2_with fail
          refine wp_region_quiet_lit (by kernel_rfl) (by kernel_rfl) ?_
          repeat (go_big_quiet_step (fail))
          refine wpQuiet_nil ?_
          rintro _ ⟨nq, rfl⟩
          go_wp2
          refine ⟨⟨j - 1, by omega, by go_num, ?_, ?_, ⟨kj - 1, HON'.out⟩⟩, by simp [intOf]; omega⟩
          · obtain ⟨m, rfl⟩ := hm.out
            exact ⟨m + nq, by simp⟩
          · exact (hs.out.trans (HS.out (by simpa using hxy)) : _)
        · have hxy' : (x == y) = false := by simpa using hxy
          clear hxy
          go_wp2_with fail
          refine wp_region_quiet_lit (by kernel_rfl) (by kernel_rfl) ?_
          repeat (go_big_quiet_step (fail))
          refine wpQuiet_nil ?_
          rintro _ ⟨nq, rfl⟩
          go_wp2
          go_ret
          obtain ⟨m, rfl⟩ := hm.out
          exact ⟨ret_int (congrArg Nat.cast (hs.out.trans (HT.out (by simpa using hxy')))).symm, m + nq, by simp⟩
      · have d2 : decide (dg < (j : Int)) = false := by simp; omega
        have HT := Lib.hid (slide_stop HON.out (.inr (.inl (by omega))))
        go_wp2_with fail
        refine wp_region_quiet_lit (by kernel_rfl) (by kernel_rfl) ?_
        repeat (go_big_quiet_step (fail))
        refine wpQuiet_nil ?_
        rintro _ ⟨nq, rfl⟩
        go_wp2
        go_ret
        obtain ⟨m, rfl⟩ := hm.out
        exact ⟨ret_int (congrArg Nat.cast (hs.out.trans HT.out)).symm, m + nq, by simp⟩
    · have d1 : decide ((0 : Int) < (j : Int)) = false := by simp; omega
      have HT := Lib.hid (slide_stop HON.out (.inl (by omega)))
      go_wp2_with fail
      refine wp_region_quiet_lit (by kernel_rfl) (by kernel_rfl) ?_
      repeat (go_big_quiet_step (fail))
      refine wpQuiet_nil ?_
      rintro _ ⟨nq, rfl⟩
      go_wp2
      go_ret
      obtain ⟨m, rfl⟩ := hm.out
      exact ⟨ret_int (congrArg Nat.cast (hs.out.trans HT.out)).symm, m + nq, by simp⟩
end Go.Proofs.Ythhmamkphcgocaa

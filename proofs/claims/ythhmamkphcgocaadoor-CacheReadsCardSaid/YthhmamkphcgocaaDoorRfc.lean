/- sleuthref01.Reader.number by a contract. -/
import Derived.Test.YthhmamkphcgocaaDoorRfb
namespace Go.Proofs.YthhmamkphcgocaaDoor
open Go.RowKit

theorem mul_u64 (acc y j : Nat) (hj : j ≤ 9) (hacc : acc < 128 ^ j) (hy : y < 256) (h9 : j = 9 → y ≤ 1) :
    IntKind.u64.wrap ((y : Int) % 128 * ((128 ^ j : Nat) : Int)) = ((y % 128 * 128 ^ j : Nat) : Int) ∧ IntKind.u64.wrap ((acc : Int) + ((y % 128 * 128 ^ j : Nat) : Int)) = ((acc + y % 128 * 128 ^ j : Nat) : Int) := by
  have hlt : acc + y % 128 * 128 ^ j < 18446744073709551616 := by
    rcases Nat.lt_or_ge j 9 with h | h
    · have h1 := numF_acc (y := y) hacc
      have h2 : 128 ^ (j + 1) ≤ 128 ^ 9 := Nat.pow_le_pow_right (by omega) (by omega)
      exact Nat.lt_of_lt_of_le (Nat.lt_of_lt_of_le h1 h2) (by decide)
    · obtain rfl : j = 9 := by omega
      have h1 := h9 rfl
      have h2 : y % 128 * 128 ^ 9 ≤ 1 * 128 ^ 9 := Nat.mul_le_mul (by omega) (Nat.le_refl _)
      have h3 : 128 ^ 9 + 1 * 128 ^ 9 ≤ 18446744073709551616 := by decide
      exact Nat.lt_of_lt_of_le (Nat.add_lt_add_of_lt_of_le hacc h2) h3
  constructor
  · rw [IntKind.wrap_u64]
    have e : (y : Int) % 128 * ((128 ^ j : Nat) : Int) = ((y % 128 * 128 ^ j : Nat) : Int) := by simp
    rw [e]
    exact Int.emod_eq_of_lt (Int.natCast_nonneg _) (Int.ofNat_lt.2 (Nat.lt_of_le_of_lt (Nat.le_add_left _ _) hlt))
  · rw [IntKind.wrap_u64, ← Int.natCast_add]
    exact Int.emod_eq_of_lt (Int.natCast_nonneg _) (Int.ofNat_lt.2 hlt)
theorem scale_u64 (j : Nat) (h : j ≤ 8) : IntKind.u64.wrap (((128 ^ j : Nat) : Int) * 128) = ((128 ^ (j + 1) : Nat) : Int) := by
  rw [IntKind.wrap_u64, Nat.pow_succ, Int.natCast_mul]
  refine Int.emod_eq_of_lt (Int.natCast_nonneg (128 ^ j * 128)) ?_
  have h2 : 128 ^ (j + 1) ≤ 128 ^ 9 := Nat.pow_le_pow_right (by omega) (by omega)
  rw [Nat.pow_succ] at h2
  exact Int.ofNat_lt.2 (Nat.lt_of_le_of_lt h2 (by decide))
set_option maxRecDepth 100000 in
set_option maxHeartbeats 2000000 in
theorem frnum_any (w : World) (g : Nat) (A : Option Addr) (c : Nat) (l : List UInt8) (k e : Nat) (h : Rf w g A c l k e) :
    Calls Tryd.prog 67 #[.pointer (some ⟨g, 0, none⟩)] w fun en w2 => en = .returned (.tuple #[.int .u64 (numF 0 0 (l.drop k)).1, .int .i64 (numF 0 0 (l.drop k)).2.1, .int .i64 (numF 0 0 (l.drop k)).2.2]) ∧ ∃ n, w2 = w.drewN n := by
  have H := Lib.hid h
  have c0 := h.c0
  have c1 := h.c1
  have hle := h.le
  have hsm := h.small
  clear h
  obtain ⟨R, hR⟩ : ∃ R, R = numF 0 0 (l.drop k) := ⟨_, rfl⟩
  rw [← hR]
  have HR := Lib.hid hR
  clear hR
  go_enter Tryd.func67, Tryd.ntmps67
  go_wp2_with fail
  go_loopw [5, 6, 7] (fun nv sv jv wr => ∃ (j acc : Nat), j ≤ 9 ∧ k + j ≤ l.length ∧ acc < 128 ^ j ∧ jv = .int .i64 j ∧ nv = .int .u64 acc ∧ sv = .int .u64 ((128 ^ j : Nat) : Int) ∧ Hid (numF j acc (l.drop (k + j)) = R) ∧ Hid (∃ n, wr = w.drewN n)) (fun _ _ jv _ => 10 - (intOf jv).toNat)
  case atStart => exact ⟨0, 0, by omega, by omega, by decide, rfl, rfl, rfl, HR.out.symm, 0, rfl⟩
  case round =>
    obtain ⟨j, acc, hj, hkj, hacc, rfl, rfl, rfl, hnum, hwr⟩ := hrel
    obtain ⟨n0, hn0⟩ := hwr.out
    subst hn0
    clear hwr
    by_cases hlt : k + j < l.length
    · have hx := (l.getD (k + j) 0).toNat_lt
      have HN := Lib.hid (bytes_drop hlt)
      have hcell : (w.drewN n0).cell? ((⟨g, 0, none⟩ : Addr)) = some (.slice A l.length c) := c0
      obtain ⟨ad, rfl, hadb, hce⟩ := H.out.rv (k + j) _ (bys_at hlt)
      clear hcell
      generalize l.getD (k + j) 0 = x at *
      have HB := Lib.hid (fun h => (hnum.out.symm.trans ((congrArg _ HN.out).trans (numF_bad h)) : R = (0, 0, 12)))
      have HL := Lib.hid (fun h h2 => (hnum.out.symm.trans ((congrArg _ HN.out).trans (numF_last h h2)) : R = (acc + x.toNat % 128 * 128 ^ j, j + 1, 0)))
      have HX := Lib.hid (fun h h2 => ((numF_next h h2).symm.trans ((congrArg _ HN.out.symm).trans hnum.out) : numF (j + 1) (acc + x.toNat % 128 * 128 ^ j) (l.drop (k + (j + 1))) = R))
      have HA := Lib.hid (numF_acc (y := x.toNat) hacc)
      have HS1 := Lib.hid (fun h9 => mul_u64 acc x.toNat j hj hacc hx h9)
      have HS3 := Lib.hid (fun h8 => scale_u64 j h8)
      obtain ⟨P, hP⟩ : ∃ P, P = x.toNat % 128 * 128 ^ j := ⟨_, rfl⟩
      rw [← hP] at HL HX HA HS1
      clear hP
      obtain ⟨acc2, hacc2⟩ : ∃ q, q = acc + P := ⟨_, rfl⟩
      rw [← hacc2] at HL HX HA HS1
      clear hacc2
      obtain ⟨S2, hS2⟩ : ∃ q, q = 128 ^ (j + 1) := ⟨_, rfl⟩
      rw [← hS2] at HS3
      have HS2 := Lib.hid hS2
      clear hS2
      obtain ⟨S, hS⟩ : ∃ q, q = 128 ^ j := ⟨_, rfl⟩
      rw [← hS]
      rw [← hS] at HS1 HS3
      clear hS hnum hacc HN
      have q1 : IntKind.i64.wrap ((k : Int) + j) = (k : Int) + j := IntWalk.i64_in _ (by omega)
      have q2 : decide ((l.length : Int) ≤ (k : Int) + j) = false := by simp; omega
      have q3 : (0 : Int) ≤ (k : Int) + j := by omega
      have q4 : ((k : Int) + j).toNat = k + j := by omega
      have q5 : (k : Int) + j < (l.length : Int) := by omega
      have q6 : IntKind.u64.wrap (x.toNat : Int) = (x.toNat : Int) := Go.wraps_u64 _ (by omega) (by omega)
      go_wp2_with fail
      refine wp_region_quiet_lit (by kernel_rfl) (by kernel_rfl) ?_
      repeat (go_big_quiet_step (fail))
      refine wpQuiet_nil ?_
      rintro _ ⟨n1, rfl⟩
      go_wp2_with fail
      refine wp_region_quiet_lit (by kernel_rfl) (by kernel_rfl) ?_
      repeat (go_big_quiet_step (fail))
      refine wpQuiet_nil ?_
      rintro _ ⟨n2, rfl⟩
      clear q1 q2 q3 q4 q5 q6
      by_cases hbad : (j = 9 ∧ 1 < x.toNat) ∨ (0 < j ∧ x.toNat = 0)
      · have HRB := Lib.hid (HB.out hbad)
        clear HB HL HX HS1 HS3
        by_cases h9 : j = 9
        · have b1 : ((j : Int) == 9) = true := beq_iff_eq.2 (by omega)
          by_cases h1 : 1 < x.toNat
          · have b2 : decide ((1 : Int) < (x.toNat : Int)) = true := by simp; omega
            clear hbad h9
            go_wp2
            go_ret3
            rw [HRB.out]
            exact ⟨rfl, _, rfl⟩
          · have b2 : decide ((1 : Int) < (x.toNat : Int)) = false := by simp; omega
            have b3 : 0 < j := by omega
            have b4 : ((x.toNat : Int) == 0) = true := beq_iff_eq.2 (by omega)
            clear hbad h9
            go_wp2
            go_ret3
            rw [HRB.out]
            exact ⟨rfl, _, rfl⟩
        · have b1 : ((j : Int) == 9) = false := beq_eq_false_iff_ne.2 (by omega)
          have b3 : 0 < j := by omega
          have b4 : ((x.toNat : Int) == 0) = true := beq_iff_eq.2 (by omega)
          clear hbad h9
          go_wp2
          go_ret3
          rw [HRB.out]
          exact ⟨rfl, _, rfl⟩
      · have s12 := HS1.out (fun h => by omega)
        obtain ⟨s1, s2⟩ := s12
        clear HB HS1
        by_cases h128 : x.toNat < 128
        · have HRB := Lib.hid (HL.out hbad h128)
          have b5 : decide ((x.toNat : Int) < 128) = true := by simp; omega
          clear HL HX HS3
          by_cases h9 : j = 9
          · have b1 : ((j : Int) == 9) = true := beq_iff_eq.2 (by omega)
            have b2 : decide ((1 : Int) < (x.toNat : Int)) = false := by simp; omega
            have b3 : 0 < j := by omega
            have b4 : ((x.toNat : Int) == 0) = false := beq_eq_false_iff_ne.2 (by omega)
            clear hbad h9
            go_wp2
            go_ret3
            rw [HRB.out]
            exact ⟨rfl, _, rfl⟩
          · have b1 : ((j : Int) == 9) = false := beq_eq_false_iff_ne.2 (by omega)
            by_cases h0 : 0 < j
            · have b3 : 0 < j := by omega
              have b4 : ((x.toNat : Int) == 0) = false := beq_eq_false_iff_ne.2 (by omega)
              clear hbad h9
              go_wp2
              go_ret3
              rw [HRB.out]
              exact ⟨rfl, _, rfl⟩
            · have b3 : ¬ 0 < j := by omega
              clear hbad h9
              go_wp2
              go_ret3
              rw [HRB.out]
              exact ⟨rfl, _, rfl⟩
        · have HX2 := Lib.hid (HX.out hbad h128)
          have b5 : decide ((x.toNat : Int) < 128) = false := by simp; omega
          have h9 : j < 9 := by omega
          have s3 := HS3.out (by omega)
          have b1 : ((j : Int) == 9) = false := beq_eq_false_iff_ne.2 (by omega)
          clear HL HX
          by_cases h0 : 0 < j
          · have b3 : 0 < j := by omega
            have b4 : ((x.toNat : Int) == 0) = false := beq_eq_false_iff_ne.2 (by omega)
            clear hbad
            go_wp2
            exact ⟨⟨j + 1, acc2, by omega, by omega, HA.out, by go_num, rfl, by rw [HS2.out], HX2.out, _, rfl⟩, by simp [intOf]; omega⟩
          · have b3 : ¬ 0 < j := by omega
            clear hbad
            go_wp2
            exact ⟨⟨j + 1, acc2, by omega, by omega, HA.out, by go_num, rfl, by rw [HS2.out], HX2.out, _, rfl⟩, by simp [intOf]; omega⟩
    · have HRB := Lib.hid (by rw [← hnum.out, List.drop_eq_nil_of_le (by omega)]; rfl : R = (0, 0, 10))
      clear hnum
      have q1 : IntKind.i64.wrap ((k : Int) + j) = (k : Int) + j := IntWalk.i64_in _ (by omega)
      have q2 : decide ((l.length : Int) ≤ (k : Int) + j) = true := by simp; omega
      go_wp2_with fail
      refine wp_region_quiet_lit (by kernel_rfl) (by kernel_rfl) ?_
      repeat (go_big_quiet_step (fail))
      refine wpQuiet_nil ?_
      rintro _ ⟨n1, rfl⟩
      clear q1 q2
      go_wp2
      go_ret3
      rw [HRB.out]
      exact ⟨rfl, n0 + n1, by rw [World.drewN_drewN]⟩
end Go.Proofs.YthhmamkphcgocaaDoor

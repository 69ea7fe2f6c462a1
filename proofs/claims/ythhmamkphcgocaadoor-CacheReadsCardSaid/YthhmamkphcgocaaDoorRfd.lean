/- sleuthref01.Reader.Var and Text by contracts. -/
import Derived.Test.YthhmamkphcgocaaDoorRfc
namespace Go.Proofs.YthhmamkphcgocaaDoor
open Go.RowKit

set_option maxRecDepth 100000 in
set_option maxHeartbeats 1000000 in
theorem frvar_any (w : World) (g : Nat) (A : Option Addr) (c : Nat) (l : List UInt8) (k e : Nat) (most : Nat) (h : Rf w g A c l k e) :
    Calls Tryd.prog 29 #[.pointer (some ⟨g, 0, none⟩), .int .u64 most] w fun en w2 => en = .returned (.int .u64 (rVar l most k e).1) ∧ Rf w2 g A c l (rVar l most k e).2.1 (rVar l most k e).2.2 ∧ w.grownBy w2 (some g) := by
  have H := Lib.hid h
  have hle := h.le
  have hsm := h.small
  have c2 := h.c2
  clear h
  by_cases he : e = 0
  · subst he
    have HN := Lib.hid (frnum_any w g A c l k 0 H.out)
    have hok := numF_ok (l.drop k) 0 0
    obtain ⟨n, s, f, hR⟩ : ∃ n s f, numF 0 0 (l.drop k) = (n, s, f) := ⟨_, _, _, rfl⟩
    have hv : rVar l most k 0 = if f ≠ 0 then (0, k, f) else if most < n then (0, k, 3) else (n, k + s, 0) := by simp [rVar, hR]
    rw [hR] at HN
    rw [hv]
    clear hv
    by_cases hf : f = 0
    · subst hf
      have hs := hok n s hR
      simp only [List.length_drop] at hs
      clear hok hR
      by_cases hm : most < n
      · rw [if_neg (by simp), if_pos hm]
        go_enter Tryd.func29, Tryd.ntmps29
        go_wp2_with fail
        refine HN.out.mono ?_
        rintro en w2 ⟨rfl, m, rfl⟩
        have c0 := H.out.c2
        have f2 := H.out.fz 2
        clear HN
        go_wp2
        go_ret
        exact ⟨rfl, (H.out.drewN m).set2 3 3 rfl, grown_set (grown_drewN (grown_refl _ _) _) _ _⟩
      · rw [if_neg (by simp), if_neg hm]
        go_enter Tryd.func29, Tryd.ntmps29
        go_wp2_with fail
        refine HN.out.mono ?_
        rintro en w2 ⟨rfl, m, rfl⟩
        have c1 := H.out.c1
        have f1 := H.out.fz 1
        clear HN
        go_wp2
        go_ret
        exact ⟨rfl, (H.out.drewN m).set1 _ (k + s) (by omega) (by omega), grown_set (grown_drewN (grown_refl _ _) _) _ _⟩
    · rw [if_pos hf]
      clear hok hR
      have hz : ((f : Int) != 0) = true := by rw [bne_iff_ne]; omega
      have hz2 : ((f : Int) == 0) = false := beq_eq_false_iff_ne.2 (by omega)
      go_enter Tryd.func29, Tryd.ntmps29
      go_wp2_with fail
      refine HN.out.mono ?_
      rintro en w2 ⟨rfl, m, rfl⟩
      have f2 := H.out.fz 2
      clear HN
      go_wp2
      go_ret
      exact ⟨rfl, (H.out.drewN m).set2 f f rfl, grown_set (grown_drewN (grown_refl _ _) _) _ _⟩
  · have e1 : rVar l most k e = (0, k, e) := by simp [rVar, he]
    rw [e1]
    have hz : ((e : Int) != 0) = true := by rw [bne_iff_ne]; omega
    clear e1
    go_enter Tryd.func29, Tryd.ntmps29
    go_wp2
    go_ret
    exact ⟨rfl, H.out, grown_refl _ _⟩
set_option maxRecDepth 100000 in
set_option maxHeartbeats 1000000 in
theorem frtext_any (w : World) (g : Nat) (A : Option Addr) (c : Nat) (l : List UInt8) (k e : Nat) (most : Nat) (h : Rf w g A c l k e) (hmost : most ≤ 1000000000) :
    Calls Tryd.prog 28 #[.pointer (some ⟨g, 0, none⟩), .int .i64 most] w fun en w2 => en = .returned (.string (bs (rText l most k e).1)) ∧ Rf w2 g A c l (rText l most k e).2.1 (rText l most k e).2.2 ∧ w.grownBy w2 (some g) := by
  have H := Lib.hid h
  have hle := h.le
  have hsm := h.small
  have hcap := h.cap
  have c0 := h.c0
  have c1 := h.c1
  have c2 := h.c2
  have f1 := h.fz 1
  have f2 := h.fz 2
  clear h
  by_cases he : e = 0
  · subst he
    have HN := Lib.hid (frnum_any w g A c l k 0 H.out)
    have hok := numF_ok (l.drop k) 0 0
    obtain ⟨n, s, f, hR⟩ : ∃ n s f, numF 0 0 (l.drop k) = (n, s, f) := ⟨_, _, _, rfl⟩
    have hv : rText l most k 0 = if f ≠ 0 then ([], k, f) else if most < n then ([], k, 3) else if l.length - (k + s) < n then ([], k, 10) else ((l.drop (k + s)).take n, k + s + n, 0) := by
      have hneg : ¬ ((most : Int) < 0) := by omega
      simp [rText, hR, hneg]
    rw [hR] at HN
    rw [hv]
    clear hv
    by_cases hf : f = 0
    · subst hf
      have hs := hok n s hR
      simp only [List.length_drop] at hs
      clear hok hR
      by_cases hm : most < n
      · rw [if_neg (by simp), if_pos hm]
        go_enter Tryd.func28, Tryd.ntmps28
        go_wp2_with fail
        refine HN.out.mono ?_
        rintro en w2 ⟨rfl, m, rfl⟩
        clear HN
        go_wp2_with fail
        refine wp_region_quiet_lit (by kernel_rfl) (by kernel_rfl) ?_
        repeat (go_big_quiet_step (fail))
        refine wpQuiet_nil ?_
        rintro _ ⟨n1, rfl⟩
        go_wp2
        go_ret
        exact ⟨rfl, (H.out.drewN _).set2 3 3 rfl, grown_set (grown_drewN (grown_refl _ _) _) _ _⟩
      · rw [if_neg (by simp), if_neg hm]
        have q1 : IntKind.i64.wrap ((l.length : Int) - k) = (l.length : Int) - k := IntWalk.i64_in _ (by omega)
        have q2 : IntKind.i64.wrap ((l.length : Int) - k - s) = (l.length : Int) - k - s := IntWalk.i64_in _ (by omega)
        have q3 : IntKind.u64.wrap ((l.length : Int) - k - s) = (l.length : Int) - k - s := Go.wraps_u64 _ (by omega) (by omega)
        by_cases hfit : l.length - (k + s) < n
        · rw [if_pos hfit]
          have q4 : decide ((l.length : Int) - k - s < (n : Int)) = true := by simp; omega
          go_enter Tryd.func28, Tryd.ntmps28
          go_wp2_with fail
          refine HN.out.mono ?_
          rintro en w2 ⟨rfl, m, rfl⟩
          clear HN
          go_wp2_with fail
          refine wp_region_quiet_lit (by kernel_rfl) (by kernel_rfl) ?_
          repeat (go_big_quiet_step (fail))
          refine wpQuiet_nil ?_
          rintro _ ⟨n1, rfl⟩
          clear q1 q2 q3 q4
          go_wp2
          go_ret
          exact ⟨rfl, (H.out.drewN _).set2 10 10 rfl, grown_set (grown_drewN (grown_refl _ _) _) _ _⟩
        · rw [if_neg hfit]
          have q4 : decide ((l.length : Int) - k - s < (n : Int)) = false := by simp; omega
          have hml : ((l.drop (k + s)).take n).length = n := by simp; omega
          have hcut := H.out.cut (Nat.le_refl w.heap.size) (k + s) n (by omega)
          rw [Nat.mul_one] at hcut
          obtain ⟨D, hD⟩ : ∃ D, (if c = k + s then A else A.map (·.add (k + s))) = D := ⟨_, rfl⟩
          rw [hD] at hcut
          have hcv := fun m => conv22 (c - (k + s)) (hcut.drewN m)
          rw [hml] at hcv
          have q5 : IntKind.i64.wrap ((k : Int) + s) = (k : Int) + s := IntWalk.i64_in _ (by omega)
          have q6 : IntKind.i64.wrap ((k : Int) + s + n) = (k : Int) + s + n := IntWalk.i64_in _ (by omega)
          have q7 : (0 : Int) ≤ (k : Int) + s := by omega
          have q8 : ((k : Int) + s).toNat = k + s := by omega
          have q9 : ((k : Int) + s + n).toNat = k + s + n := by omega
          have q10 : (0 : Int) ≤ (k : Int) + s + n := by omega
          have q11 : (k : Int) + s + n ≤ (c : Int) := by omega
          have q12 : k + s + n - (k + s) = n := by omega
          have q13 : (k : Int) + s ≤ (k : Int) + s + n := by omega
          clear hml hcut
          have HCV := Lib.hid hcv
          clear hcv
          go_enter Tryd.func28, Tryd.ntmps28
          go_wp2_with fail
          refine HN.out.mono ?_
          rintro en w2 ⟨rfl, m, rfl⟩
          clear HN
          go_wp2_with fail
          refine wp_region_quiet_lit (by kernel_rfl) (by kernel_rfl) ?_
          repeat (go_big_quiet_step (fail))
          refine wpQuiet_nil ?_
          rintro _ ⟨n1, rfl⟩
          go_wp2_with fail
          have hcv := HCV.out
          refine wp_region_quiet_lit (by kernel_rfl) (by kernel_rfl) ?_
          repeat (go_big_quiet_step (fail))
          refine wpQuiet_nil ?_
          rintro _ ⟨n2, rfl⟩
          clear q1 q2 q3 q4 q5 q6 q7 q8 q9 q10 q11 q12 q13 hcv hD
          go_wp2
          go_ret
          exact ⟨rfl, (H.out.drewN _).set1 _ (k + s + n) (by omega) (by omega), grown_set (grown_drewN (grown_refl _ _) _) _ _⟩
    · rw [if_pos hf]
      clear hok hR
      have hz : ((f : Int) != 0) = true := by rw [bne_iff_ne]; omega
      have hz2 : ((f : Int) == 0) = false := beq_eq_false_iff_ne.2 (by omega)
      go_enter Tryd.func28, Tryd.ntmps28
      go_wp2_with fail
      refine HN.out.mono ?_
      rintro en w2 ⟨rfl, m, rfl⟩
      clear HN
      go_wp2_with fail
      refine wp_region_quiet_lit (by kernel_rfl) (by kernel_rfl) ?_
      repeat (go_big_quiet_step (fail))
      refine wpQuiet_nil ?_
      rintro _ ⟨n1, rfl⟩
      go_wp2
      go_ret
      exact ⟨rfl, (H.out.drewN _).set2 f f rfl, grown_set (grown_drewN (grown_refl _ _) _) _ _⟩
  · have e1 : rText l most k e = ([], k, e) := by simp [rText, he]
    rw [e1]
    have hz : ((e : Int) != 0) = true := by rw [bne_iff_ne]; omega
    clear e1
    go_enter Tryd.func28, Tryd.ntmps28
    go_wp2
    go_ret
    exact ⟨rfl, H.out, grown_refl _ _⟩
end Go.Proofs.YthhmamkphcgocaaDoor

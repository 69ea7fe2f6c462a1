/- (*myers.field).near, by a contract. -/
import Derived.Test.YthhmamkphcgocaaFil2
namespace Go.Proofs.Ythhmamkphcgocaa
open Go.RowKit

theorem tmod_two (x : Int) : (x.tmod 2 = 0 → x % 2 = 0) ∧ (x.tmod 2 ≠ 0 → x % 2 = 1) := by
  have h1 := Int.mul_tdiv_add_tmod x 2
  have h2 := Int.tmod_lt_of_pos x (by omega : (0 : Int) < 2)
  have h3 := Int.lt_tmod_of_pos x (by omega : (0 : Int) < 2)
  constructor <;> intro h <;> omega

set_option maxRecDepth 100000 in
set_option maxHeartbeats 1000000 in
/-- Behind a removal, on a shortest way. -/
theorem near_any {B : Nat} (w : World) (F : Nat) (a b : List Int) (h2 : Two B w F a b) (la : a.length ≤ 400) (lb : b.length ≤ 400) (D : Nat) (ht : Tbl w F a b D) (hD : D ≤ 2000) (i k r : Nat) (hi : i < a.length) (hk : k ≤ b.length)
    (hr : dst a b i k = r + 1) (hrD : r < D) (hinv : (i : Int) - k + dst a b i k ≤ dst a b 0 0 ∧ (k : Int) - i + dst a b i k ≤ dst a b 0 0) :
    Calls Try.prog 61 #[.pointer (some ⟨F, 0, none⟩), .int .i64 ((i : Int) + 1), .int .i64 k, .int .i64 r] w fun e w' => e = .returned (.bool (decide (dst a b (i + 1) k < dst a b i k))) ∧ ∃ m, w' = w.drewN m := by
  have hfar : (a.length : Int) < far := by unfold far; omega
  have he : (endD a b : Int) = a.length - b.length := rfl
  have hon : On a b ((i : Int) + 1 - k) (i + 1) k := ⟨by omega, hk, by omega⟩
  have key : ∀ r' : Int, r' ≤ r → (r : Int) - 1 ≤ r' → (r' - ((i : Int) + 1 - k - endD a b)) % 2 = 0 → (atT a b r' ((i : Int) + 1 - k - endD a b) ≤ (i : Int) + 1 ↔ dst a b (i + 1) k < dst a b i k) := by
    intro r' g1 g2 g3
    have hg := tab_good a b hfar r'.toNat r' ((i : Int) + 1 - k - endD a b) (by omega)
    rw [show endD a b + ((i : Int) + 1 - k - endD a b) = (i : Int) + 1 - k by omega] at hg
    exact good_near a b hfar hi hk (by omega) hinv g1 g3 g2 hg
  have KEY := Lib.hid key
  have ka : ∀ n : Nat, ∀ r' : Int, r' ≤ r → (r : Int) - 1 ≤ r' → Calls Try.prog 69 #[.pointer (some ⟨F, 0, none⟩), .int .i64 r', .int .i64 ((i : Int) + 1 - k - endD a b)] (w.drewN n) fun e w' => e = .returned (.int .i64 (atT a b r' ((i : Int) + 1 - k - endD a b))) ∧ w' = w.drewN n := by
    intro n r' g1 g2
    exact at_any (w.drewN n) F a b D ht hD r' _ (by omega) (by omega) (by omega) (by omega)
  have KA := Lib.hid ka
  obtain ⟨A, E, cA, cE, c0, c1, _, _⟩ := h2
  go_enter Try.func61, Try.ntmps61
  clear key ka he hon ht hinv hr hfar
  go_wp2_with fail
  refine wp_region_quiet_lit (by kernel_rfl) (by kernel_rfl) ?_
  repeat (go_big_quiet_step (fail))
  refine wpQuiet_nil ?_
  rintro _ ⟨nq, rfl⟩
  go_wp2_with (go_at_call 69; refine (KA.out _ _ (by omega) (by omega)).mono ?_; rintro e w1 ⟨rfl, hw1⟩; subst w1)
  · go_ret
    have hq : ((r : Int) + ((i : Int) + 1 - k - ((a.length : Int) - b.length))).tmod 2 ≠ 0 := by simp_all
    refine ⟨ret_bool ?_, nq, rfl⟩
    exact decide_eq_decide.2 (KEY.out _ (by omega) (by omega) (by have := (tmod_two _).2 hq; unfold endD; omega))
  · go_ret
    have hq : ((r : Int) + ((i : Int) + 1 - k - ((a.length : Int) - b.length))).tmod 2 = 0 := by simp_all
    refine ⟨ret_bool ?_, nq, rfl⟩
    exact decide_eq_decide.2 (KEY.out _ (by omega) (by omega) (by have := (tmod_two _).1 hq; unfold endD; omega))
end Go.Proofs.Ythhmamkphcgocaa

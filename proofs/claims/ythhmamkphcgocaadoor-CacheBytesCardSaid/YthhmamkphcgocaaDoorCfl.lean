/- cache.flags by a contract. sleuthlaw32.Plain by a contract. -/
import Derived.Test.YthhmamkphcgocaaDoorObj
import Derived.Test.YthhmamkphcgocaaDoorChecked
namespace Go.Proofs.YthhmamkphcgocaaDoor
section
open Go.RowKit

def b2n (b : Bool) : Nat := if b then 1 else 0
/-- The options' byte, of the first i of them. -/
def flN (d m c : Bool) (i : Nat) : Nat := (if 0 < i then b2n d else 0) + (if 1 < i then 2 * b2n m else 0) + (if 2 < i then 4 * b2n c else 0)
section
variable (x y z : Bool) (W : World)
theorem run_i0 : (Instr.index 118 (.agg #[.bool x, .bool y, .bool z]) (.int .i64 0)).run Tryd.prog W = .ok (.bool x) W := by kernel_rfl
theorem run_i1 : (Instr.index 118 (.agg #[.bool x, .bool y, .bool z]) (.int .i64 1)).run Tryd.prog W = .ok (.bool y) W := by kernel_rfl
theorem run_i2 : (Instr.index 118 (.agg #[.bool x, .bool y, .bool z]) (.int .i64 2)).run Tryd.prog W = .ok (.bool z) W := by kernel_rfl
end
attribute [local go_sem ↓] run_i0 run_i1 run_i2
set_option maxRecDepth 100000 in
set_option maxHeartbeats 4000000 in
theorem flags_any (w : World) (a : Int) (d m c : Bool) :
    Calls Tryd.prog 38 #[.agg #[.int .i64 a, .bool d, .bool m, .bool c]] w fun e w2 => e = .returned (.int .u8 (flN d m c 3)) ∧ Below w.heap.size w w2 := by
  have HB := Lib.hid ((Below.refl w.heap.size w).alloc (Nat.le_refl _) (.cells #[.int .i64 a, .bool d, .bool m, .bool c] 44))
  go_enter Tryd.func38, Tryd.ntmps38
  go_wp2_with fail
  generalize (w.alloc (.cells #[.int .i64 a, .bool d, .bool m, .bool c] 44)) = w1 at *
  go_loopw [3, 13] (fun bv iv wr => ∃ i : Nat, i ≤ 3 ∧ bv = .int .u8 (flN d m c i) ∧ iv = .int .i64 i ∧ wr = w1) (fun _ iv _ => 3 - (intOf iv).toNat)
  case atStart => exact ⟨0, by omega, by simp [flN], rfl, rfl⟩
  case round =>
    obtain ⟨i, hi, hb, hv, rfl⟩ := hrel
    have hi2 : i = 0 ∨ i = 1 ∨ i = 2 ∨ i = 3 := by omega
    rcases hi2 with rfl | rfl | rfl | rfl
    · cases d
      all_goals
        simp [flN] at hb
        replace hv := hv.trans (show Value.int .i64 _ = Value.int .i64 0 from rfl)
        subst hb hv
        go_wp2_with fail
        exact ⟨⟨1, by omega, rfl, rfl, trivial⟩, by simp [intOf]⟩
    · cases d <;> cases m
      all_goals
        simp [flN, b2n] at hb
        replace hv := hv.trans (show Value.int .i64 _ = Value.int .i64 1 from rfl)
        subst hb hv
        go_wp2_with fail
        exact ⟨⟨2, by omega, rfl, rfl, trivial⟩, by simp [intOf]⟩
    · cases d <;> cases m <;> cases c
      all_goals
        simp [flN, b2n] at hb
        replace hv := hv.trans (show Value.int .i64 _ = Value.int .i64 2 from rfl)
        subst hb hv
        go_wp2_with fail
        exact ⟨⟨3, by omega, rfl, rfl, trivial⟩, by simp [intOf]⟩
    · subst hb hv
      go_wp2_with fail
      go_ret
      exact ⟨rfl, HB.out⟩
end
section
open Go.RowKit

set_option maxRecDepth 100000 in
set_option maxHeartbeats 1000000 in
theorem plainO_any (w : World) (a : Int) (d m c : Bool) :
    Calls Tryd.prog 32 #[.agg #[.int .i64 a, .bool d, .bool m, .bool c]] w fun e w2 => e = .returned (.agg #[.int .i64 a, .bool d, .bool m, .bool c]) ∧ Below w.heap.size w w2 := by
  have HB := Lib.hid (((Below.refl w.heap.size w).alloc (Nat.le_refl _) (.cells #[.int .i64 a, .bool d, .bool m, .bool c] 44)).alloc (by simp) (.cells #[.int .i64 a, .bool d, .bool m, .bool c] 71))
  go_enter Tryd.func32, Tryd.ntmps32
  go_wp2_with fail
  refine bodyPost_ret (results_cell_row rfl _ _ (w.heap.size + 1) 71 #[.int .i64 a, .bool d, .bool m, .bool c] (0, 0) _ rfl ?_ Tryd.underlying71 rfl (by kernel_rfl)) rfl ?_
  · have h := Ar.new (w.alloc (.cells #[.int .i64 a, .bool d, .bool m, .bool c] 44)) [.int .i64 a, .bool d, .bool m, .bool c] 71
    rw [World.size_alloc] at h
    exact h
  · exact ⟨rfl, HB.out⟩
end
end Go.Proofs.YthhmamkphcgocaaDoor

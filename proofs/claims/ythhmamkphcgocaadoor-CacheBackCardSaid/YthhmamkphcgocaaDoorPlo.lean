/- sleuthlaw32.Plain by a contract. -/
import Derived.Test.YthhmamkphcgocaaDoorCfl
namespace Go.Proofs.YthhmamkphcgocaaDoor
open Go.RowKit

set_option maxRecDepth 100000 in
set_option maxHeartbeats 1000000 in
theorem plainO_any (w : World) (a : Int) (d m c : Bool) :
    Calls Tryd.prog 32 #[.agg #[.int .i64 a, .bool d, .bool m, .bool c]] w fun e w2 => e = .returned (.agg #[.int .i64 a, .bool d, .bool m, .bool c]) ∧ Below w.heap.size w w2 := by
  have HB := Lib.hid (((Below.refl w.heap.size w).alloc (Nat.le_refl _) (.cells #[.int .i64 a, .bool d, .bool m, .bool c] 44)).alloc (by simp) (.cells #[.int .i64 a, .bool d, .bool m, .bool c] 71))
  go_enter Tryd.func32, Tryd.ntmps32
  go_wp2_with fail
  refine bodyPost_ret (results_cell_row rfl _ _ (w.heap.size + 1) 71 #[.int .i64 a, .bool d, .bool m, .bool c] (0, 0) _ rfl ?_ Tryd.underlying71 rfl (by kernel_rfl)) rfl ?_
  · have h := Ar.new (w.alloc (.cells #[.int .i64 a, .bool d, .bool m, .bool c] 44)) [.int .i64 a, .bool d, .bool m, .bool c] 71
    rw [World.size_alloc] at h
    exact h
  · exact ⟨rfl, HB.out⟩
end Go.Proofs.YthhmamkphcgocaaDoor

/- sleuthref26.named, by a contract. -/
import Derived.Test.YthhmamkphcgocaaMem
namespace Go.Proofs.Ythhmamkphcgocaa
open Go.RowKit
attribute [local go_sem] row_drew row_drewN free_drew free_drewN row_alloc_at row_alloc_past free_alloc_at free_alloc_past
  Chg.get0 Chg.get1 Chg.get2 Chg.get3 Chg.get4 Chg.at0 Chg.at1 Chg.at2 Chg.at3 Chg.at4 Chg.row_size Chg.row_one

set_option maxHeartbeats 400000 in
theorem rnamed_any (w : World) (x y : Chg) (hx : x.ok) (hy : y.ok) :
    Calls Try.prog 42 #[.agg x.row, .agg y.row] w fun e w' => e = .returned (.bool ((baseB x.old).toList == (baseB y.new).toList)) ∧ Below w.heap.size w w' := by
  have zx := hx.old
  have zy := hy.new
  have hcx := fun W => rbase_any x.old W zx
  have hcy := fun W => rbase_any y.new W zy
  have HX := Lib.hid hcx
  have HY := Lib.hid hcy
  clear hcx hcy
  go_enter Try.func42, Try.ntmps42
  go_wp2_with fail
  go_quiet ((first | (go_at_call_of 51 (Value.string x.old); exact quiet_same (HX.out _)) | (go_at_call_of 51 (Value.string y.new); exact quiet_same (HY.out _))))
  go_wp2
  go_ret
  exact ⟨rfl, (((Below.refl _ _).alloc (Nat.le_refl _) _).alloc (by simp) _).trans ⟨rfl, rfl, rfl, Nat.le_refl _, fun _ _ => rfl⟩⟩
end Go.Proofs.Ythhmamkphcgocaa

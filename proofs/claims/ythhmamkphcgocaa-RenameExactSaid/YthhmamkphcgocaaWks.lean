/- sleuthlaw26.works, by a contract. -/
import Derived.Test.YthhmamkphcgocaaFlat
namespace Go.Proofs.Ythhmamkphcgocaa
open Go.RowKit

def id1 : List Int := 1 :: List.replicate 31 0
def id0 : List Int := List.replicate 32 0
def txa : ByteArray := ⟨#[97]⟩
def txb : ByteArray := ⟨#[98]⟩
def wk1 : Chg := ⟨2, txa, ByteArray.empty, 1, 0, id1, id0, 0⟩
def wk2 : Chg := ⟨1, ByteArray.empty, txb, 0, 1, id0, id1, 0⟩
def wk3 : Chg := ⟨4, txa, txb, 1, 1, id1, id1, 1000⟩
theorem wk1_ok : wk1.ok := ⟨rfl, rfl, by decide, by decide⟩
theorem wk2_ok : wk2.ok := ⟨rfl, rfl, by decide, by decide⟩
theorem wk3_ok : wk3.ok := ⟨rfl, rfl, by decide, by decide⟩
def wks : Array Value := wk1.row ++ wk2.row

def bld44 (p : Nat × Value) : Sem Value := Instr.build 44 #[p]
def bld46d (p q r s : Nat × Value) : Sem Value := Instr.build 46 #[p, q, r, s]
def bld46h (p q r s t u v x : Nat × Value) : Sem Value := Instr.build 46 #[p, q, r, s, t, u, v, x]
def lit22b (p q : Nat × Value) : Sem Value := Instr.buildSlice 22 2 #[p, q]
section
variable {α : Type} (f : α → Nat × Value) (p q r s t u v x : α)
theorem bld44_eq : Instr.build 44 (Array.map f #[p]) = bld44 (f p) := by simp [bld44]
theorem bld46d_eq : Instr.build 46 (Array.map f #[p, q, r, s]) = bld46d (f p) (f q) (f r) (f s) := by simp [bld46d]
theorem bld46h_eq : Instr.build 46 (Array.map f #[p, q, r, s, t, u, v, x]) = bld46h (f p) (f q) (f r) (f s) (f t) (f u) (f v) (f x) := by simp [bld46h]
theorem lit22b_eq : Instr.buildSlice 22 2 (Array.map f #[p, q]) = lit22b (f p) (f q) := by simp [lit22b]
end
theorem run_bld44 (w : World) : (bld44 (0, .int .u8 1)).run Try.prog w = .ok (.agg (u8s id1).toArray) w := run_build w 44 _ _ (by kernel_rfl)
theorem run_wk1 (w : World) : (bld46d (0, .int .i64 2) (1, .string ⟨#[97]⟩) (3, .int .i64 1) (5, .agg (u8s id1).toArray)).run Try.prog w = .ok (.agg wk1.row) w := run_build w 46 _ _ (by kernel_rfl)
theorem run_wk2 (w : World) : (bld46d (0, .int .i64 1) (2, .string ⟨#[98]⟩) (4, .int .i64 1) (6, .agg (u8s id1).toArray)).run Try.prog w = .ok (.agg wk2.row) w := run_build w 46 _ _ (by kernel_rfl)
theorem run_wk3 (w : World) : (bld46h (0, .int .i64 4) (1, .string ⟨#[97]⟩) (3, .int .i64 1) (5, .agg (u8s id1).toArray) (2, .string ⟨#[98]⟩) (4, .int .i64 1) (6, .agg (u8s id1).toArray) (7, .int .i64 1000)).run Try.prog w = .ok (.agg wk3.row) w := run_build w 46 _ _ (by kernel_rfl)
theorem run_wks (w : World) : (lit22b (0, .agg wk1.row) (1, .agg wk2.row)).run Try.prog w = .ok (.slice (some ⟨w.heap.size, 0, none⟩) 2 2) (w.alloc (.cells wks 46)) := by kernel_rfl
theorem exact_wks : exactL [wk1, wk2] = [wk3] := by decide +kernel
theorem wks_cells : wks = ([wk1, wk2].flatMap Chg.cells).toArray := by simp [wks, Chg.row]

theorem wks_oks : Oks [wk1, wk2] := oks_of_mem (by intro x hx; simp at hx; rcases hx with rfl | rfl; exact wk1_ok; exact wk2_ok)
theorem wks_reads (w : World) : LReads (w.alloc (.cells wks 46)) (w.alloc (.cells wks 46)).heap.size (some ⟨w.heap.size, 0, none⟩) [wk1, wk2] := by
  intro k c hc
  refine ⟨_, rfl, by simp, fun j v hv => ?_⟩
  rw [add_add, wks_cells]
  exact new_cells w _ 46 w.heap.size rfl _ _ (flat_at _ wks_oks k c j v hc hv)

attribute [local go_sem ↓] load44_eq load46_eq bld44_eq bld46d_eq bld46h_eq lit22b_eq
attribute [local go_sem] run_bld44 run_wk1 run_wk2 run_wk3 run_wks later_refl

set_option maxRecDepth 100000 in
set_option maxHeartbeats 1000000 in
theorem works_any (w : World) : Calls Try.prog 6 #[] w fun e w' => e = .returned (.bool true) ∧ Below w.heap.size w w' := by
  have hc := prog_any (c := 2) (wks_reads w) wks_oks (by decide)
  rw [exact_wks] at hc
  have HC := Lib.hid hc
  have hq : ∀ W, (Op.equalIn 10000 46 (.agg wk3.row) (.agg wk3.row)).run Try.prog W = .ok true W := fun W => by
    have h := run_equalIn_chg wk3 wk3 wk3_ok wk3_ok W
    rw [show decide (wk3 = wk3) = true from decide_eq_true rfl] at h
    exact h
  clear hc
  go_enter Try.func6, Try.ntmps6
  go_wp2_with (go_at_call 8; refine HC.out.mono ?_; rintro e w1 ⟨D, d, rfl, hr, hb⟩; obtain ⟨ad, rfl, _, hld⟩ := run_load46_old hr (Nat.le_refl _) 0 (by decide) wk3_ok; have hld' := hld; simp only [Nat.zero_mul, Addr.add_zero'] at hld'; have HB := Lib.hid hb; clear hld hr hb)
  go_ret
  exact ⟨rfl, ((Below.refl _ _).alloc (Nat.le_refl _) _).trans (HB.out.mono (by simp))⟩
end Go.Proofs.Ythhmamkphcgocaa

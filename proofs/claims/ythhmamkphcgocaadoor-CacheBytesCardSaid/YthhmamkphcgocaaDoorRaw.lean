/- sleuthref33.raw by a contract. -/
import Derived.Test.YthhmamkphcgocaaDoorIdd
namespace Go.Proofs.YthhmamkphcgocaaDoor
open Go.RowKit

def box42 (v : Value) : Sem Value := Instr.box 42 v
theorem box42_eq (v : Value) : Instr.box 42 v = box42 v := rfl
theorem run_box42 (W : World) (cs : Array Value) : (box42 (.agg cs)).run Tryd.prog W = .ok (.pointer (some ⟨W.heap.size, 0, none⟩)) (W.alloc (.cells cs 42)) := by
  simp [box42, Instr.box, newVar, newRow, Value.cells]
attribute [local go_sem ↓] box42_eq run_box42
set_option maxRecDepth 100000 in
set_option maxHeartbeats 1000000 in
theorem fidraw_any (w : World) (l : List UInt8) (hl : l.length = 32) :
    Calls Tryd.prog 42 #[.agg (bys l).toArray] w fun e w2 => ∃ v, e = .returned v ∧ w2.ownsRow w.heap.size 5 1 v 32 (bys l) ∧ Below w.heap.size w w2 := by
  have R0 : Hid (Ar (w.alloc (.cells (bys l).toArray 42)) w.heap.size 42 (bys l)) := Lib.hid (Ar.new w (bys l) 42)
  have B0 := Lib.hid ((Below.refl w.heap.size w).alloc (Nat.le_refl _) (.cells (bys l).toArray 42))
  have hs0 : (w.alloc (.cells (bys l).toArray 42)).heap.size = w.heap.size + 1 := World.size_alloc _ _
  go_enter Tryd.func42, Tryd.ntmps42
  go_wp2_with fail
  generalize w.alloc (.cells (bys l).toArray 42) = w1 at *
  go_loopw [3, 4] (fun sv kv wr => ∃ k : Nat, k ≤ 32 ∧ kv = .int .i64 k ∧ Ar wr w.heap.size 42 (bys l) ∧ Hid (wr.ownsRow (w.heap.size + 1) 5 1 sv k (bys (l.take k))) ∧ Hid (Below w.heap.size w wr)) (fun _ kv _ => 32 - (intOf kv).toNat)
  case atStart => exact ⟨0, by omega, rfl, R0.out, World.ownsRow_nil _ _ _ _, B0⟩
  case round =>
    clear R0 B0
    obtain ⟨k, hk, rfl, r4, ho, hb⟩ := hrel
    have hrl := r4.lt
    have hbs := hb.out.size
    by_cases hlt : k < 32
    · have hc := r4.cell (bys_at (l := l) (k := k) (by omega))
      have HT := Lib.hid (show bys (l.take k) ++ bys [l.getD k 0] = bys (l.take (k + 1)) by rw [bys_app, List.take_add_one, List.getElem?_eq_getElem (by omega)]; simp [show k < l.length by omega])
      have R4 := Lib.hid r4
      clear r4
      generalize l.getD k 0 = x at *
      go_wp2_with (at_builtin; refine wpList_app sl22 rfl (.tmp 9) (.tmp 13) rfl (w.heap.size + 1) u3 k (bys (l.take k)) rfl (ho.out.alloc _) (some ⟨wr.heap.size, 0, none⟩) 1 1 (bys [x]) rfl (fun e => by cases e) rfl (B := wr.heap.size + 1) ?_ (bys_one _) (by unfold maxLen; omega) (by omega) (by simp; omega) ?_; rotate_left; intro v2 w2 ho2 ha; rw [HT.out] at ho2; have HO := Lib.hid ho2; have HA := Lib.hid ha; clear ho2 ha)
      · exact ⟨⟨k + 1, by omega, by go_num, (R4.out.alloc _).later HA.out.grown (own_far ho.out (by omega)), HO, (hb.out.alloc hbs _).trans (below_of_grown HA.out.grown (by simp; omega) (fun q hq => by have := (ho.out.lt q hq).1; omega))⟩, by simp [intOf]; omega⟩
      · exact new_rv wr (bys [x]) _ _ rfl
    · have hke : k = 32 := by omega
      subst hke
      rw [List.take_of_length_le (by omega)] at ho
      go_wp2_with fail
      go_ret
      exact ⟨_, rfl, own_less ho.out (by omega), hb.out⟩
end Go.Proofs.YthhmamkphcgocaaDoor

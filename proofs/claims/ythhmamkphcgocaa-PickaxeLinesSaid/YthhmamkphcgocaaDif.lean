/- myers.start and myers.Diff, by contracts. -/
import Derived.Test.YthhmamkphcgocaaWay
namespace Go.Proofs.Ythhmamkphcgocaa
open Go.RowKit

theorem own_more {w : World} {B C : Nat} {e : TypeId} {size : Nat} {v : Value} {n : Nat} {xs : List Value} (h : w.ownsRow C e size v n xs) (hb : B ≤ C) : w.ownsRow B e size v n xs := by
  refine ⟨h.1, ?_⟩
  rcases h.2 with h2 | ⟨g, cap, cur, hv, hg, hrest⟩
  · exact .inl h2
  · exact .inr ⟨g, cap, cur, hv, by omega, hrest⟩
theorem fst_new (w : World) (a b : List Int) (sa sb : Value) : FSt (w.alloc (.cells #[sa, sb, .slice none 0 0, .slice none 0 0] 106)) w.heap.size a b sa sb (.slice none 0 0) 0 none (fun _ => (0, 0)) :=
  ⟨heap_alloc_new w _, World.ownsRow_nil _ _ _ _, fun S len cap e => (by cases e), fun j hj => absurd hj (by omega)⟩

set_option maxRecDepth 100000 in
set_option maxHeartbeats 1000000 in
theorem mstart_any (w : World) (a b : List Int) (A D : Option Addr) (cA cD : Nat) (ra : Rv w.heap.size w A (ints a)) (rb : Rv w.heap.size w D (ints b)) (la : a.length ≤ 400) (lb : b.length ≤ 400) :
    Calls Try.prog 54 #[.slice A a.length cA, .slice D b.length cD] w fun e w' => e = .returned (.tuple #[.pointer (some ⟨w.heap.size, 0, none⟩), .int .i64 (dst a b 0 0), .int .i64 0]) ∧
      (∃ rv so P, FSt w' w.heap.size a b (.slice A a.length cA) (.slice D b.length cD) rv (dst a b 0 0 + 1) so P) ∧ Below w.heap.size w w' := by
  have hb1 : Below w.heap.size w (w.alloc (.cells #[.slice A a.length cA, .slice D b.length cD, .slice none 0 0, .slice none 0 0] 106)) := (Below.refl _ _).alloc (Nat.le_refl _) _
  have HF := Lib.hid (fill_any _ w.heap.size a b A D cA cD _ (fst_new w a b (.slice A a.length cA) (.slice D b.length cD)) (ra.below hb1) (rb.below hb1) la lb)
  have HB := Lib.hid hb1
  clear ra rb hb1
  go_enter Try.func54, Try.ntmps54
  go_wp2_with (go_at_call 60; refine HF.out.mono ?_; rintro e w1 ⟨rfl, hf1, hb1⟩; have F1 := Lib.hid hf1; have B1 := Lib.hid hb1; clear hf1 hb1)
  go_ret3
  exact ⟨rfl, F1.out, HB.out.trans B1.out⟩

set_option maxRecDepth 100000 in
set_option maxHeartbeats 1000000 in
theorem mdiff_any (w : World) (a b : List Int) (A D : Option Addr) (cA cD : Nat) (ra : Rv w.heap.size w A (ints a)) (rb : Rv w.heap.size w D (ints b)) (la : a.length ≤ 400) (lb : b.length ≤ 400) :
    Calls Try.prog 45 #[.slice A a.length cA, .slice D b.length cD] w fun e w' => ∃ v, e = .returned (.tuple #[v, .int .i64 0]) ∧ w'.ownsRow w.heap.size 91 2 v (keeps a b 0 0).length (prCells (keeps a b 0 0)) ∧ Below w.heap.size w w' := by
  have HS := Lib.hid (mstart_any w a b A D cA cD ra rb la lb)
  have hw : ∀ (w1 : World) rv so P, Below w.heap.size w w1 → FSt w1 w.heap.size a b (.slice A a.length cA) (.slice D b.length cD) rv (dst a b 0 0 + 1) so P → _ := fun w1 rv so P hb1 hf1 => way_any w1 w.heap.size a b A D cA cD rv so P hf1 (ra.below hb1) (rb.below hb1) la lb
  have HW := Lib.hid hw
  clear ra rb hw
  go_enter Try.func45, Try.ntmps45
  go_wp2_with (first
    | (go_at_call 54; refine HS.out.mono ?_; rintro e w1 ⟨rfl, ⟨rv, so, P, hf1⟩, hb1⟩; have F1 := Lib.hid hf1; have B1 := Lib.hid hb1; clear hf1 hb1)
    | (go_at_call 55; refine (HW.out w1 rv so P B1.out F1.out).mono ?_; rintro e w2 ⟨v, rfl, ho, hb2⟩; have HO := Lib.hid ho; have B2 := Lib.hid hb2; clear ho hb2))
  go_ret2
  exact ⟨v, rfl, own_more HO.out B1.out.size, B1.out.trans (B2.out.mono B1.out.size)⟩
end Go.Proofs.Ythhmamkphcgocaa

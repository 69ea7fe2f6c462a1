/- A region that draws its order, whose operations only read and whose callees only make new memory: walked once, in the order of the text. No program. -/
import Derived.Test.YthhmamkphcgocaaDoorBas
namespace Go.Proofs.YthhmamkphcgocaaDoor
open Go.RowKit

/-- A world behind w: all that lay in w lies there as it did. -/
structure Aft (w : World) where
  W : World
  h : Below w.heap.size w W

instance (w : World) : Nonempty (Aft w) := ⟨⟨w, Below.refl _ _⟩⟩

section
variable {P : Program} {w : World}
theorem Aft.later (W : Aft w) : Later w W.W := later_of_below W.h (Nat.le_refl _)
theorem Aft.cell (W : Aft w) {p : Addr} (hp : p.block < w.heap.size) : W.W.cell? p = w.cell? p := W.h.cell hp
def Aft.up (W1 : Aft w) (W : Aft W1.W) : Aft w := ⟨W.W, W1.h.trans (W.h.mono W1.h.size)⟩
theorem wp_region_aft {id : Nat} {Q : Exit → Act → World → Prop} {a : Act} {l : List Oper} (hm : P.follows .mixedOrders = true) (hB : Region.lexB .any l.toArray = true)
    (h : wpQuiet P l.toArray (fun w' => ∃ W : Aft w, w' = W.W) (fun a' => ∀ w', (∃ W : Aft w, w' = W.W) → Q .normal a' w') l a) : (Code.region id l.toArray true).wp P Q a w :=
  wp_region_quiet (C := fun w' => ∃ W : Aft w, w' = W.W) hm hB ⟨⟨w.drew, ⟨rfl, rfl, rfl, Nat.le_refl _, fun _ _ => rfl⟩⟩, rfl⟩ (by simpa using h)
theorem aft_call {f : FuncId} {args : Array Value} {v : Value} {W : Aft w} (h : Calls P f args W.W fun e w' => e = .returned v ∧ Below W.W.heap.size W.W w') :
    Calls P f args W.W fun e w'' => e = .returned v ∧ ∃ W' : Aft w, w'' = W'.W :=
  h.mono fun _ w'' ⟨he, hb⟩ => ⟨he, ⟨⟨w'', W.h.trans (hb.mono W.h.size)⟩, rfl⟩⟩
end
end Go.Proofs.YthhmamkphcgocaaDoor

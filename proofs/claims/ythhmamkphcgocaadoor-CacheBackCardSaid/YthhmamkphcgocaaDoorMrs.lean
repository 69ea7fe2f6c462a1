/- Slice literals of rows and origins, appends of them: names for the walk. -/
import Derived.Test.YthhmamkphcgocaaDoorMrw
namespace Go.Proofs.YthhmamkphcgocaaDoor
open Go.RowKit

def bsT (ty : TypeId) (n : Nat) (ps : Array (Nat × Value)) : Sem Value := Instr.buildSlice ty n ps
def apT (t ty : TypeId) (args : Array Value) : Sem Value := Builtin.append_ #[t, t] ty args
theorem bsT24 (ps : Array (Nat × Value)) : Instr.buildSlice 24 1 ps = bsT 24 1 ps := rfl
theorem bsT28 (ps : Array (Nat × Value)) : Instr.buildSlice 28 1 ps = bsT 28 1 ps := rfl
theorem bsT45 (ps : Array (Nat × Value)) : Instr.buildSlice 45 1 ps = bsT 45 1 ps := rfl
theorem apT24 (ty : TypeId) (args : Array Value) : Builtin.append_ #[24, 24] ty args = apT 24 ty args := rfl
theorem apT28 (ty : TypeId) (args : Array Value) : Builtin.append_ #[28, 28] ty args = apT 28 ty args := rfl
theorem apT45 (ty : TypeId) (args : Array Value) : Builtin.append_ #[45, 45] ty args = apT 45 ty args := rfl
theorem run_bs24 {m : Mot} (h : m.r.id.length = 32) (W : World) : (bsT 24 1 #[(0, .agg m.cells.toArray)]).run Tryd.prog W = .ok (.slice (some ⟨W.heap.size, 0, none⟩) 1 1) (W.alloc (.cells m.cells.toArray 47)) :=
  run_build_one W Tryd.underlying24 inf47 (by kernel_rfl) m.cells.toArray (by simp [Mot.len h]) (by omega) (by omega)
theorem run_bs28 {m : Mot} (h : m.r.id.length = 32) (W : World) : (bsT 28 1 #[(0, .agg m.cells.toArray)]).run Tryd.prog W = .ok (.slice (some ⟨W.heap.size, 0, none⟩) 1 1) (W.alloc (.cells m.cells.toArray 73)) :=
  run_build_one W Tryd.underlying28 inf73 (by kernel_rfl) m.cells.toArray (by simp [Mot.len h]) (by omega) (by omega)
theorem run_bs45 {o : Org} (h : o.id.length = 32) (W : World) : (bsT 45 1 #[(0, .agg o.cells.toArray)]).run Tryd.prog W = .ok (.slice (some ⟨W.heap.size, 0, none⟩) 1 1) (W.alloc (.cells o.cells.toArray 52)) :=
  run_build_one W Tryd.underlying45 inf52 (by kernel_rfl) o.cells.toArray (by simp [Org.len h]) (by omega) (by omega)
theorem sl24 : Sl Tryd.prog 24 47 38 88 := ⟨Tryd.underlying24, by kernel_rfl, by decide⟩
theorem sl28 : Sl Tryd.prog 28 73 38 88 := ⟨Tryd.underlying28, by kernel_rfl, by decide⟩
theorem sl45 : Sl Tryd.prog 45 52 34 56 := ⟨Tryd.underlying45, by kernel_rfl, by decide⟩
end Go.Proofs.YthhmamkphcgocaaDoor

/- Loads, stores and new variables of type api.Change and api.ID, run whole; a change in a block of its own. -/
import Derived.Test.YthhmamkphcgocaaRow
import Derived.Test.YthhmamkphcgocaaFnd
namespace Go.Proofs.Ythhmamkphcgocaa
open Go.RowKit

def load44 (a : Addr) : Sem Value := loadVar 44 a
def load46 (a : Addr) : Sem Value := loadVar 46 a
def store44 (a : Addr) (v : Value) : Sem Unit := storeVar 44 a v
def store46 (a : Addr) (v : Value) : Sem Unit := storeVar 46 a v
theorem load44_eq (a : Addr) : loadVar 44 a = load44 a := rfl
theorem load46_eq (a : Addr) : loadVar 46 a = load46 a := rfl
theorem store44_eq (a : Addr) (v : Value) : storeVar 44 a v = store44 a v := rfl
theorem store46_eq (a : Addr) (v : Value) : storeVar 46 a v = store46 a v := rfl

section
variable (W : World) (n : Nat)
theorem run_load44 (o : Nat) (hf : free W n = true) (hl : o + 32 ≤ (row W n).size) : (load44 ⟨n, o, none⟩).run Try.prog W = .ok (.agg ((row W n).extract o (o + 32))) W :=
  run_load_row W n Try.underlying44 rfl info44 o hf hl
theorem run_load46 (o : Nat) (hf : free W n = true) (hl : o + 70 ≤ (row W n).size) : (load46 ⟨n, o, none⟩).run Try.prog W = .ok (.agg ((row W n).extract o (o + 70))) W :=
  run_load_row W n Try.underlying46 rfl info46 o hf hl
theorem run_store44 (o : Nat) (cs : Array Value) (h1 : ones cs = true) (hs : cs.size = 32) (hf : free W n = true) (hl : o + 32 ≤ (row W n).size) :
    (store44 ⟨n, o, none⟩ (.agg cs)).run Try.prog W = .ok () (W.setRow n (splice (row W n) o cs)) :=
  run_store_row W n info44 o cs h1 hs hf hl
theorem run_store46 (o : Nat) (cs : Array Value) (h1 : ones cs = true) (hs : cs.size = 70) (hf : free W n = true) (hl : o + 70 ≤ (row W n).size) :
    (store46 ⟨n, o, none⟩ (.agg cs)).run Try.prog W = .ok () (W.setRow n (splice (row W n) o cs)) :=
  run_store_row W n info46 o cs h1 hs hf hl
end

theorem Chg.ok_mk (k : Int) (o n : ByteArray) (om nm : Int) (oid nid : List Int) (s : Int) (h1 : oid.length = 32) (h2 : nid.length = 32) (h3 : o.size ≤ maxLen) (h4 : n.size ≤ maxLen) : (⟨k, o, n, om, nm, oid, nid, s⟩ : Chg).ok := ⟨h1, h2, h3, h4⟩
/-- A change as a row of cells. -/
def Chg.row (c : Chg) : Array Value := c.cells.toArray
theorem Chg.row_size (c : Chg) (h : c.ok) : c.row.size = 70 := by simp [Chg.row, c.cells_length h]
theorem u8_one (l : List Int) : ones (u8s l).toArray = true := by simp [ones, u8s, Value.oneCell']
theorem Chg.row_one (c : Chg) : ones c.row = true := by simp [ones, Chg.row, Chg.cells, u8s, Value.oneCell']
theorem Chg.cells_one (c : Chg) : ∀ u ∈ c.cells, u.oneCell' = true := by
  intro u hu
  have h := c.row_one
  simp only [ones, Chg.row, Array.all_eq_true_iff_forall_mem] at h
  exact h u (by simpa using hu)
theorem u8_size (l : List Int) : (u8s l).toArray.size = l.length := by simp [u8s]
section
variable (c : Chg)
theorem Chg.get0 : c.row[0]? = some (.int .i64 c.kind) := rfl
theorem Chg.get1 : c.row[1]? = some (.string c.old) := rfl
theorem Chg.get2 : c.row[2]? = some (.string c.new) := rfl
theorem Chg.get3 : c.row[3]? = some (.int .i64 c.om) := rfl
theorem Chg.get4 : c.row[4]? = some (.int .i64 c.nm) := rfl
theorem Chg.get69 (h : c.ok) : c.row[69]? = some (.int .i64 c.score) := by simpa [Chg.row] using c.score_at h
theorem Chg.at0 (h : 0 < c.row.size) : c.row[0] = .int .i64 c.kind := rfl
theorem Chg.at1 (h : 1 < c.row.size) : c.row[1] = .string c.old := rfl
theorem Chg.at2 (h : 2 < c.row.size) : c.row[2] = .string c.new := rfl
theorem Chg.at3 (h : 3 < c.row.size) : c.row[3] = .int .i64 c.om := rfl
theorem Chg.at4 (h : 4 < c.row.size) : c.row[4] = .int .i64 c.nm := rfl
theorem Chg.set0 (x : Int) : c.row.setIfInBounds 0 (.int .i64 x) = ({ c with kind := x } : Chg).row := by simp [Chg.row, Chg.cells]
theorem Chg.set1 (x : ByteArray) : c.row.setIfInBounds 1 (.string x) = ({ c with old := x } : Chg).row := by simp [Chg.row, Chg.cells]
theorem Chg.set3 (x : Int) : c.row.setIfInBounds 3 (.int .i64 x) = ({ c with om := x } : Chg).row := by simp [Chg.row, Chg.cells]
theorem Chg.set69 (h : c.ok) (x : Int) : c.row.setIfInBounds 69 (.int .i64 x) = ({ c with score := x } : Chg).row := by
  have e : ∀ (y : Chg), y.cells = (.int .i64 y.kind :: .string y.old :: .string y.new :: .int .i64 y.om :: .int .i64 y.nm :: (u8s y.oid ++ u8s y.nid)) ++ [.int .i64 y.score] := fun y => by simp [Chg.cells]
  have hl : (Value.int .i64 c.kind :: .string c.old :: .string c.new :: .int .i64 c.om :: .int .i64 c.nm :: (u8s c.oid ++ u8s c.nid)).length = 69 := by simp [u8s_length, h.oid, h.nid]
  simp only [Chg.row, List.setIfInBounds_toArray]
  rw [e c, e { c with score := x }, List.set_append_right _ _ (by rw [hl]; omega), hl]
  rfl
theorem Chg.part5 (h : c.ok) : c.row.extract 5 37 = (u8s c.oid).toArray := by
  have := c.oid_part h
  simp only [Chg.row, List.extract_toArray]
  rw [List.extract_eq_take_drop]
  exact congrArg _ this
theorem Chg.part37 (h : c.ok) : c.row.extract 37 69 = (u8s c.nid).toArray := by
  have := c.nid_part h
  simp only [Chg.row, List.extract_toArray]
  rw [List.extract_eq_take_drop]
  exact congrArg _ this
theorem Chg.part0 (h : c.ok) : c.row.extract 0 70 = c.row := by
  have := c.row_size h
  rw [← this]; simp
theorem splice_all (a b : Array Value) (h : a.size = b.size) : splice a 0 b = b := by
  unfold splice
  apply Array.ext'
  simp only [List.take_zero, List.nil_append, Nat.zero_add]
  rw [List.drop_eq_nil_of_le (by simp; omega)]
  simp
theorem Chg.splice5 (h : c.ok) (y : List Int) (hy : y.length = 32) : splice c.row 5 (u8s y).toArray = ({ c with oid := y } : Chg).row := by
  unfold splice Chg.row
  simp only [List.size_toArray, u8s_length, hy]
  congr 1
  have e : c.cells.drop (5 + 32) = u8s c.nid ++ [Value.int .i64 c.score] := by
    have : c.cells.drop (5 + 32) = (u8s c.oid ++ (u8s c.nid ++ [Value.int .i64 c.score])).drop 32 := rfl
    rw [this]
    exact List.drop_left' (by rw [u8s_length, h.oid])
  rw [e]
  simp [Chg.cells]
end

def zero46 : Array Value := (⟨0, ByteArray.empty, ByteArray.empty, 0, 0, List.replicate 32 0, List.replicate 32 0, 0⟩ : Chg).row
theorem zero46_size : zero46.size = 70 := by simp [zero46, Chg.row, Chg.cells, u8s]
theorem zero46_info : (Try.prog.info? 46).map (·.zero) = some (some (.agg zero46)) := by kernel_rfl

def new46 : Sem Value := Instr.alloc 46 true (.tuple #[])
theorem new46_eq : Instr.alloc 46 true (.tuple #[]) = new46 := rfl
theorem run_new46 (W : World) : new46.run Try.prog W = .ok (.pointer (some ⟨W.heap.size, 0, none⟩)) (W.alloc (.cells zero46 46)) := by
  obtain ⟨i, hi, hz⟩ := Option.map_eq_some_iff.1 zero46_info
  simp [new46, Instr.alloc, zeroValue, typeInfo, hi, hz, newVar, newRow, Value.cells]

def lit22 (p : Nat × Value) : Sem Value := Instr.buildSlice 22 1 #[p]
theorem lit22_eq {α : Type} (f : α → Nat × Value) (p : α) : Instr.buildSlice 22 1 (Array.map f #[p]) = lit22 (f p) := by simp [lit22]
theorem zero46_some : ((Try.prog.info? 46).bind (·.zero)).isSome = true := by kernel_rfl
theorem run_lit22 (W : World) (cs : Array Value) (hs : cs.size = 70) : (lit22 (0, .agg cs)).run Try.prog W = .ok (.slice (some ⟨W.heap.size, 0, none⟩) 1 1) (W.alloc (.cells cs 46)) :=
  run_build_one W Try.underlying22 info46 zero46_some cs hs (by omega) (by omega)

/-- A change of the argument's list, loaded in whatever later world. -/
theorem run_load46_old {w : World} {B : Nat} {A : Option Addr} {l : List Chg} (h : LReads w B A l) (hB : B ≤ w.heap.size) (k : Nat) (hk : k < l.length) (ok : (l.getD k default).ok) :
    ∃ ad, A = some ad ∧ ad.block < B ∧ ∀ W, Later w W → (load46 (ad.add (k * 70))).run Try.prog W = .ok (.agg (l.getD k default).row) W := by
  have hg : l[k]? = some (l.getD k default) := by simp [hk]
  obtain ⟨ad, e, hb, hcs⟩ := h k _ hg
  refine ⟨ad, e, hb, fun W hW => ?_⟩
  exact run_loadVar_cells Try.underlying46 rfl (by rw [Chg.cells_length _ ok]; exact info46) (hcs.keep fun p hp => hW.cell (by rw [hp, block_add]; omega))
end Go.Proofs.Ythhmamkphcgocaa

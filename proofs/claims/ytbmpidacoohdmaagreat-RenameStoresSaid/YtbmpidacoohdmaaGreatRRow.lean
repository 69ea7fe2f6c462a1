/- Plain laws: a block's cells as one row; a struct or an array loaded out of it and stored into it whole. No program. Loads, stores and new variables of type api.Change and api.ID, run whole; a change in a block of its own. sleuthref26.told, by a contract. rename's finder.changes, by a contract. -/
import Derived.Test.YtbmpidacoohdmaaGreatRBase
import Derived.Great.BuildSlice
import Derived.Test.YtbmpidacoohdmaaGreatRFnd
import Derived.BigRegion
namespace Go.Proofs.YtbmpidacoohdmaaGreat.Rn
open Go.RowKit

/-- The cells of block n. -/
def row (W : World) (n : Nat) : Array Value := match W.heap[n]? with
  | some (.cells cs _ _) => cs
  | _ => #[]
/-- Block n holds cells, none frozen. -/
def free (W : World) (n : Nat) : Bool := match W.heap[n]? with
  | some (.cells _ _ fr) => fr == (0, 0)
  | _ => false
/-- Each takes one cell. -/
def ones (cs : Array Value) : Bool := cs.all (·.oneCell')
/-- cs laid over cur from o on. -/
def splice (cur : Array Value) (o : Nat) (cs : Array Value) : Array Value := (cur.toList.take o ++ cs.toList ++ cur.toList.drop (o + cs.size)).toArray

theorem free_iff {W : World} {n : Nat} (h : free W n = true) : ∃ t, W.heap[n]? = some (.cells (row W n) t (0, 0)) := by
  unfold free at h
  unfold row
  split at h
  · rename_i cs t fr hh
    rw [hh]
    exact ⟨t, by simp only [beq_iff_eq] at h; rw [h]⟩
  · cases h
theorem free_of {W : World} {n : Nat} {cs : Array Value} {t : TypeId} (h : W.heap[n]? = some (.cells cs t (0, 0))) : free W n = true := by simp [free, h]
theorem row_of {W : World} {n : Nat} {cs : Array Value} {t : TypeId} {fr : Nat × Nat} (h : W.heap[n]? = some (.cells cs t fr)) : row W n = cs := by simp [row, h]

section
variable (W : World) (n : Nat)
theorem row_drew : row W.drew n = row W n := rfl
theorem row_drewN (k : Nat) : row (W.drewN k) n = row W n := rfl
theorem free_drew : free W.drew n = free W n := rfl
theorem free_drewN (k : Nat) : free (W.drewN k) n = free W n := rfl
theorem row_alloc_at (cs : Array Value) (t : TypeId) (h : n = W.heap.size) : row (W.alloc (.cells cs t)) n = cs := by subst h; exact row_of (heap_alloc_new W _)
theorem row_alloc_past (o : Obj) (h : n < W.heap.size) : row (W.alloc o) n = row W n := by unfold row; rw [Below.heap_alloc W o n h]
theorem free_alloc_at (cs : Array Value) (t : TypeId) (h : n = W.heap.size) : free (W.alloc (.cells cs t)) n = true := by subst h; exact free_of (heap_alloc_new W _)
theorem free_alloc_past (o : Obj) (h : n < W.heap.size) : free (W.alloc o) n = free W n := by unfold free; rw [Below.heap_alloc W o n h]
theorem row_setCell_past (p : Addr) (v : Value) (h : n ≠ p.block) : row (W.setCell p v) n = row W n := by unfold row; rw [Below.heap_setCell W p v n h]
theorem free_setCell_past (p : Addr) (v : Value) (h : n ≠ p.block) : free (W.setCell p v) n = free W n := by unfold free; rw [Below.heap_setCell W p v n h]
theorem setRow_drew (cs : Array Value) : W.drew.setRow n cs = (W.setRow n cs).drew := rfl
theorem setRow_alloc_at (cs cs' : Array Value) (t : TypeId) (h : n = W.heap.size) : (W.alloc (.cells cs t)).setRow n cs' = W.alloc (.cells cs' t) := by
  subst h
  unfold World.setRow World.alloc
  congr 1
  apply Array.ext
  · simp
  · intro k h1 h2
    simp only [Array.getElem_modify]
    split
    · rename_i hk; subst hk; simp
    · rename_i hk
      simp only [Array.size_modify, Array.size_push] at h1
      rw [Array.getElem_push_lt (by omega), Array.getElem_push_lt (by omega)]
theorem setRow_alloc_past (o : Obj) (cs : Array Value) (h : n < W.heap.size) : (W.alloc o).setRow n cs = (W.setRow n cs).alloc o := by
  unfold World.setRow World.alloc
  congr 1
  apply Array.ext
  · simp
  · intro k h1 h2
    simp only [Array.size_modify, Array.size_push] at h1 h2
    by_cases hk : k = W.heap.size
    · subst hk
      simp only [Array.getElem_modify, Array.getElem_push]
      rw [if_neg (by omega)]
      simp
    · simp only [Array.getElem_modify, Array.getElem_push]
      have : k < W.heap.size := by omega
      simp [this]
theorem size_setRow' (cs : Array Value) : (W.setRow n cs).heap.size = W.heap.size := by simp

theorem run_load_row {P : Program} {ty : TypeId} {d : TypeDesc} {sz : Nat} (hu : P.underlying ty = some d) (hd : multi d = true) (hi : (P.info? ty).map (·.size) = some sz) (o : Nat)
    (hf : free W n = true) (hl : o + sz ≤ (row W n).size) : (loadVar ty ⟨n, o, none⟩).run P W = .ok (.agg ((row W n).extract o (o + sz))) W := by
  obtain ⟨t, ht⟩ := free_iff hf
  have e : (row W n).extract o (o + sz) = (((row W n).extract o (o + sz)).toList).toArray := Array.toArray_toList.symm
  rw [e]
  refine run_loadVar_cells hu hd (by rw [hi]; simp; omega) ?_
  intro j v hv
  have hadd : (⟨n, o, none⟩ : Addr).add j = ⟨n, o + j, none⟩ := Addr.add_lit n o j
  rw [hadd, cell_of_row W n (o + j) _ _ _ ht]
  simp only [Array.getElem?_toList, Array.getElem?_extract] at hv
  split at hv
  · exact hv
  · cases hv
theorem run_store_row {P : Program} {ty : TypeId} {sz : Nat} (hi : (P.info? ty).map (·.size) = some sz) (o : Nat) (cs : Array Value) (h1 : ones cs = true) (hs : cs.size = sz)
    (hf : free W n = true) (hl : o + sz ≤ (row W n).size) : (storeVar ty ⟨n, o, none⟩ (.agg cs)).run P W = .ok () (W.setRow n (splice (row W n) o cs)) := by
  obtain ⟨t, ht⟩ := free_iff hf
  have h := run_storeCells_at P n o t cs.toList 0 (row W n) W ht (by simp; omega) (fun v hv => (Array.all_eq_true_iff_forall_mem.1 h1) v (by simpa using hv))
  cases hq : P.info? ty with
  | none => simp [hq] at hi
  | some i =>
    have hsz : cs.size = i.size := by simp [hq] at hi; omega
    have hst : (storeCells ⟨n, o, none⟩ cs.toList).run P W = .ok () (W.setRow n (splice (row W n) o cs)) := by
      unfold splice
      have h' := h
      simp only [Nat.add_zero, Array.length_toList] at h'
      exact h'
    simp [storeVar, sizeOf, typeInfo, hq, Value.cells, hsz, hst]
end

/-- All that lay in w lies in W as it did. -/
structure Later (w W : World) : Prop where
  size : w.heap.size ≤ W.heap.size
  same : ∀ g, g < w.heap.size → W.heap[g]? = w.heap[g]?
section
variable {w W : World}
theorem later_refl (w : World) : Later w w := ⟨Nat.le_refl _, fun _ _ => rfl⟩
theorem later_drew (h : Later w W) : Later w W.drew := ⟨h.size, h.same⟩
theorem later_drewN (h : Later w W) (k : Nat) : Later w (W.drewN k) := ⟨h.size, h.same⟩
theorem later_alloc (h : Later w W) (o : Obj) : Later w (W.alloc o) := ⟨by have := h.size; simp; omega, fun g hg => (Below.heap_alloc W o g (by have := h.size; omega)).trans (h.same g hg)⟩
theorem later_setCell (h : Later w W) (p : Addr) (v : Value) (hp : w.heap.size ≤ p.block) : Later w (W.setCell p v) := ⟨by have := h.size; simpa using this, fun g hg => (Below.heap_setCell W p v g (by omega)).trans (h.same g hg)⟩
theorem later_setRow (h : Later w W) (n : Nat) (cs : Array Value) (hp : w.heap.size ≤ n) : Later w (W.setRow n cs) := ⟨by have := h.size; simpa using this, fun g hg => (setRow_other W n g cs (by omega)).trans (h.same g hg)⟩
theorem Later.trans {V : World} (h : Later w W) (k : Later W V) : Later w V := ⟨Nat.le_trans h.size k.size, fun g hg => (k.same g (Nat.lt_of_lt_of_le hg h.size)).trans (h.same g hg)⟩
theorem Later.cell (h : Later w W) {p : Addr} (hp : p.block < w.heap.size) : W.cell? p = w.cell? p := World.cell?_of_block (h.same _ hp)
theorem later_of_below {B : Nat} (h : Below B w W) (hB : w.heap.size ≤ B) : Later w W := ⟨h.size, fun g hg => h.block g (by omega)⟩
end

theorem foldl_set (cs : List Value) : ∀ (k : Nat) (base : Array Value), k + cs.length ≤ base.size →
    (cs.zipIdx k).foldl (fun acc x => acc.setIfInBounds (0 + x.2) x.1) base = (base.toList.take k ++ cs ++ base.toList.drop (k + cs.length)).toArray := by
  induction cs with
  | nil => intro k base _; simp
  | cons c cs ih =>
    intro k base h
    simp only [List.length_cons] at h
    rw [List.zipIdx_cons, List.foldl_cons, ih (k + 1) _ (by simp; omega)]
    apply Array.ext'
    apply List.ext_getElem?
    intro j
    simp only [Nat.zero_add, Array.toList_setIfInBounds, List.getElem?_append, List.length_append, List.length_take, List.length_set, Array.length_toList, List.length_cons]
    rw [show min (k + 1) base.size = k + 1 by omega, show min k base.size = k by omega]
    by_cases h1 : j < k
    · rw [if_pos (by omega), if_pos (by omega), if_pos (by omega), if_pos h1]
      rw [List.getElem?_take, List.getElem?_take, if_pos (by omega), if_pos h1, List.getElem?_set_ne (by omega)]
    · by_cases h2 : j = k
      · subst h2
        rw [if_pos (by omega), if_pos (by omega), if_pos (by omega), if_neg (by omega)]
        rw [List.getElem?_take, if_pos (by omega), List.getElem?_set_self (by simp; omega)]
        simp
      · by_cases h3 : j < k + 1 + cs.length
        · rw [if_pos h3, if_neg (by omega), if_pos (by omega), if_neg (by omega)]
          rw [show j - k = (j - (k + 1)) + 1 by omega]
          simp
        · rw [if_neg h3, if_neg (by omega)]
          rw [List.getElem?_drop, List.getElem?_drop, List.getElem?_set_ne (by omega)]
          congr 1
          omega

theorem run_build_one {P : Program} (W : World) {t e : TypeId} {sz : Nat} (hu : P.underlying t = some (.slice e)) (hsz : (P.info? e).map (·.size) = some sz) (hz : ((P.info? e).bind (·.zero)).isSome = true)
    (cs : Array Value) (hs : cs.size = sz) (h0 : 0 < sz) (h24 : sz ≤ 2 ^ 24) :
    (Instr.buildSlice t 1 #[(0, .agg cs)]).run P W = .ok (.slice (some ⟨W.heap.size, 0, none⟩) 1 1) (W.alloc (.cells cs e)) := by
  cases hie : P.info? e with
  | none => simp [hie] at hsz
  | some ie =>
    simp only [hie, Option.map_some, Option.some.injEq, Option.bind_some] at hsz hz
    obtain ⟨z, hzz⟩ := Option.isSome_iff_exists.1 hz
    refine run_buildSlice W t e 1 _ cs ie z hu hie hzz (by rw [hsz]; omega) (by rw [hsz]; omega) ?_
    have hb : ((Array.range (1 * ie.size)).map (z.cells[· % z.cells.size]!)).size = sz := by simp [hsz]
    simp only [Instr.fill, Value.cells, Nat.zero_mul, hsz, hs]
    rw [if_neg (by simp)]
    congr 1
    rw [← Array.foldl_toList, Array.toList_zipIdx]
    have h := foldl_set cs.toList 0 ((Array.range (1 * sz)).map (z.cells[· % z.cells.size]!)) (by simp; omega)
    refine h.trans ?_
    rw [List.drop_eq_nil_of_le (by simp; omega)]
    simp
section
variable (w : World) (a b c d : Obj)
theorem later_a1 : Later w (w.alloc a) := later_alloc (later_refl w) a
theorem later_a2 : Later w ((w.alloc a).alloc b) := later_alloc (later_a1 w a) b
theorem later_a3 : Later w (((w.alloc a).alloc b).alloc c) := later_alloc (later_a2 w a b) c
theorem later_a4 : Later w ((((w.alloc a).alloc b).alloc c).alloc d) := later_alloc (later_a3 w a b c) d
theorem later_drew_iff (W : World) : Later w W.drew = Later w W := propext ⟨fun h => ⟨h.size, h.same⟩, later_drew⟩
theorem later_drewN_iff (W : World) (k : Nat) : Later w (W.drewN k) = Later w W := propext ⟨fun h => ⟨h.size, h.same⟩, fun h => later_drewN h k⟩
end
theorem new_cells (W : World) (cs : List Value) (t : TypeId) (n : Nat) (hn : n = W.heap.size) : ∀ j u, cs[j]? = some u → (W.alloc (.cells cs.toArray t)).cell? ((⟨n, 0, none⟩ : Addr).add j) = some u := by
  intro j u hu
  subst hn
  rw [Addr.add_lit, Nat.zero_add]
  simpa using hu
theorem small_len {n : Nat} (h : n ≤ 1048576) : n ≤ maxLen := by unfold maxLen; omega
end Go.Proofs.YtbmpidacoohdmaaGreat.Rn
namespace Go.Proofs.YtbmpidacoohdmaaGreat.Rn
open Go.RowKit

def load44 (a : Addr) : Sem Value := loadVar 51 a
def load46 (a : Addr) : Sem Value := loadVar 53 a
def store44 (a : Addr) (v : Value) : Sem Unit := storeVar 51 a v
def store46 (a : Addr) (v : Value) : Sem Unit := storeVar 53 a v
theorem load44_eq (a : Addr) : loadVar 51 a = load44 a := rfl
theorem load46_eq (a : Addr) : loadVar 53 a = load46 a := rfl
theorem store44_eq (a : Addr) (v : Value) : storeVar 51 a v = store44 a v := rfl
theorem store46_eq (a : Addr) (v : Value) : storeVar 53 a v = store46 a v := rfl

section
variable (W : World) (n : Nat)
theorem run_load44 (o : Nat) (hf : free W n = true) (hl : o + 32 ≤ (row W n).size) : (load44 ⟨n, o, none⟩).run Tryz.prog W = .ok (.agg ((row W n).extract o (o + 32))) W :=
  run_load_row W n Tryz.underlying51 rfl info44 o hf hl
theorem run_load46 (o : Nat) (hf : free W n = true) (hl : o + 70 ≤ (row W n).size) : (load46 ⟨n, o, none⟩).run Tryz.prog W = .ok (.agg ((row W n).extract o (o + 70))) W :=
  run_load_row W n Tryz.underlying53 rfl info46 o hf hl
theorem run_store44 (o : Nat) (cs : Array Value) (h1 : ones cs = true) (hs : cs.size = 32) (hf : free W n = true) (hl : o + 32 ≤ (row W n).size) :
    (store44 ⟨n, o, none⟩ (.agg cs)).run Tryz.prog W = .ok () (W.setRow n (splice (row W n) o cs)) :=
  run_store_row W n info44 o cs h1 hs hf hl
theorem run_store46 (o : Nat) (cs : Array Value) (h1 : ones cs = true) (hs : cs.size = 70) (hf : free W n = true) (hl : o + 70 ≤ (row W n).size) :
    (store46 ⟨n, o, none⟩ (.agg cs)).run Tryz.prog W = .ok () (W.setRow n (splice (row W n) o cs)) :=
  run_store_row W n info46 o cs h1 hs hf hl
end

theorem Chg.ok_mk (k : Int) (o n : ByteArray) (om nm : Int) (oid nid : List Int) (s : Int) (h1 : oid.length = 32) (h2 : nid.length = 32) (h3 : o.size ≤ maxLen) (h4 : n.size ≤ maxLen) : (⟨k, o, n, om, nm, oid, nid, s⟩ : Chg).ok := ⟨h1, h2, h3, h4⟩
/-- A change as a row of cells. -/
def Chg.row (c : Chg) : Array Value := c.cells.toArray
theorem Chg.row_size (c : Chg) (h : c.ok) : c.row.size = 70 := by simp [Chg.row, c.cells_length h]
theorem u8_one (l : List Int) : ones (u8s l).toArray = true := by simp [ones, u8s, Value.oneCell']
theorem Chg.row_one (c : Chg) : ones c.row = true := by simp [ones, Chg.row, Chg.cells, u8s, Value.oneCell']
theorem Chg.cells_one (c : Chg) : ∀ u ∈ c.cells, u.oneCell' = true := by
  intro u hu
  have h := c.row_one
  simp only [ones, Chg.row, Array.all_eq_true_iff_forall_mem] at h
  exact h u (by simpa using hu)
theorem u8_size (l : List Int) : (u8s l).toArray.size = l.length := by simp [u8s]
section
variable (c : Chg)
theorem Chg.get0 : c.row[0]? = some (.int .i64 c.kind) := rfl
theorem Chg.get1 : c.row[1]? = some (.string c.old) := rfl
theorem Chg.get2 : c.row[2]? = some (.string c.new) := rfl
theorem Chg.get3 : c.row[3]? = some (.int .i64 c.om) := rfl
theorem Chg.get4 : c.row[4]? = some (.int .i64 c.nm) := rfl
theorem Chg.get69 (h : c.ok) : c.row[69]? = some (.int .i64 c.score) := by simpa [Chg.row] using c.score_at h
theorem Chg.at0 (h : 0 < c.row.size) : c.row[0] = .int .i64 c.kind := rfl
theorem Chg.at1 (h : 1 < c.row.size) : c.row[1] = .string c.old := rfl
theorem Chg.at2 (h : 2 < c.row.size) : c.row[2] = .string c.new := rfl
theorem Chg.at3 (h : 3 < c.row.size) : c.row[3] = .int .i64 c.om := rfl
theorem Chg.at4 (h : 4 < c.row.size) : c.row[4] = .int .i64 c.nm := rfl
theorem Chg.set0 (x : Int) : c.row.setIfInBounds 0 (.int .i64 x) = ({ c with kind := x } : Chg).row := by simp [Chg.row, Chg.cells]
theorem Chg.set1 (x : ByteArray) : c.row.setIfInBounds 1 (.string x) = ({ c with old := x } : Chg).row := by simp [Chg.row, Chg.cells]
theorem Chg.set3 (x : Int) : c.row.setIfInBounds 3 (.int .i64 x) = ({ c with om := x } : Chg).row := by simp [Chg.row, Chg.cells]
theorem Chg.set69 (h : c.ok) (x : Int) : c.row.setIfInBounds 69 (.int .i64 x) = ({ c with score := x } : Chg).row := by
  have e : ∀ (y : Chg), y.cells = (.int .i64 y.kind :: .string y.old :: .string y.new :: .int .i64 y.om :: .int .i64 y.nm :: (u8s y.oid ++ u8s y.nid)) ++ [.int .i64 y.score] := fun y => by simp [Chg.cells]
  have hl : (Value.int .i64 c.kind :: .string c.old :: .string c.new :: .int .i64 c.om :: .int .i64 c.nm :: (u8s c.oid ++ u8s c.nid)).length = 69 := by simp [u8s_length, h.oid, h.nid]
  simp only [Chg.row, List.setIfInBounds_toArray]
  rw [e c, e { c with score := x }, List.set_append_right _ _ (by rw [hl]; omega), hl]
  rfl
theorem Chg.part5 (h : c.ok) : c.row.extract 5 37 = (u8s c.oid).toArray := by
  have := c.oid_part h
  simp only [Chg.row, List.extract_toArray]
  rw [List.extract_eq_take_drop]
  exact congrArg _ this
theorem Chg.part37 (h : c.ok) : c.row.extract 37 69 = (u8s c.nid).toArray := by
  have := c.nid_part h
  simp only [Chg.row, List.extract_toArray]
  rw [List.extract_eq_take_drop]
  exact congrArg _ this
theorem Chg.part0 (h : c.ok) : c.row.extract 0 70 = c.row := by
  have := c.row_size h
  rw [← this]; simp
theorem splice_all (a b : Array Value) (h : a.size = b.size) : splice a 0 b = b := by
  unfold splice
  apply Array.ext'
  simp only [List.take_zero, List.nil_append, Nat.zero_add]
  rw [List.drop_eq_nil_of_le (by simp; omega)]
  simp
theorem Chg.splice5 (h : c.ok) (y : List Int) (hy : y.length = 32) : splice c.row 5 (u8s y).toArray = ({ c with oid := y } : Chg).row := by
  unfold splice Chg.row
  simp only [List.size_toArray, u8s_length, hy]
  congr 1
  have e : c.cells.drop (5 + 32) = u8s c.nid ++ [Value.int .i64 c.score] := by
    have : c.cells.drop (5 + 32) = (u8s c.oid ++ (u8s c.nid ++ [Value.int .i64 c.score])).drop 32 := rfl
    rw [this]
    exact List.drop_left' (by rw [u8s_length, h.oid])
  rw [e]
  simp [Chg.cells]
end

def zero46 : Array Value := (⟨0, ByteArray.empty, ByteArray.empty, 0, 0, List.replicate 32 0, List.replicate 32 0, 0⟩ : Chg).row
theorem zero46_size : zero46.size = 70 := by simp [zero46, Chg.row, Chg.cells, u8s]
theorem zero46_info : (Tryz.prog.info? 53).map (·.zero) = some (some (.agg zero46)) := by kernel_rfl

def new46 : Sem Value := Instr.alloc 53 true (.tuple #[])
theorem new46_eq : Instr.alloc 53 true (.tuple #[]) = new46 := rfl
theorem run_new46 (W : World) : new46.run Tryz.prog W = .ok (.pointer (some ⟨W.heap.size, 0, none⟩)) (W.alloc (.cells zero46 53)) := by
  obtain ⟨i, hi, hz⟩ := Option.map_eq_some_iff.1 zero46_info
  simp [new46, Instr.alloc, zeroValue, typeInfo, hi, hz, newVar, newRow, Value.cells]

def lit22 (p : Nat × Value) : Sem Value := Instr.buildSlice 23 1 #[p]
theorem lit22_eq {α : Type} (f : α → Nat × Value) (p : α) : Instr.buildSlice 23 1 (Array.map f #[p]) = lit22 (f p) := by simp [lit22]
theorem zero46_some : ((Tryz.prog.info? 53).bind (·.zero)).isSome = true := by kernel_rfl
theorem run_lit22 (W : World) (cs : Array Value) (hs : cs.size = 70) : (lit22 (0, .agg cs)).run Tryz.prog W = .ok (.slice (some ⟨W.heap.size, 0, none⟩) 1 1) (W.alloc (.cells cs 53)) :=
  run_build_one W Tryz.underlying23 info46 zero46_some cs hs (by omega) (by omega)

/-- A change of the argument's list, loaded in whatever later world. -/
theorem run_load46_old {w : World} {B : Nat} {A : Option Addr} {l : List Chg} (h : LReads w B A l) (hB : B ≤ w.heap.size) (k : Nat) (hk : k < l.length) (ok : (l.getD k default).ok) :
    ∃ ad, A = some ad ∧ ad.block < B ∧ ∀ W, Later w W → (load46 (ad.add (k * 70))).run Tryz.prog W = .ok (.agg (l.getD k default).row) W := by
  have hg : l[k]? = some (l.getD k default) := by simp [hk]
  obtain ⟨ad, e, hb, hcs⟩ := h k _ hg
  refine ⟨ad, e, hb, fun W hW => ?_⟩
  exact run_loadVar_cells Tryz.underlying53 rfl (by rw [Chg.cells_length _ ok]; exact info46) (hcs.keep fun p hp => hW.cell (by rw [hp, block_add]; omega))
end Go.Proofs.YtbmpidacoohdmaaGreat.Rn
namespace Go.Proofs.YtbmpidacoohdmaaGreat.Rn
open Go.RowKit
attribute [local go_sem ↓] load44_eq load46_eq store44_eq store46_eq new46_eq lit22_eq
attribute [local go_sem] run_load44 run_load46 run_store44 run_store46 run_new46 run_lit22 row_drew row_drewN free_drew free_drewN row_alloc_at row_alloc_past free_alloc_at free_alloc_past row_setCell_past free_setCell_past setRow_drew setRow_alloc_at setRow_alloc_past
  Chg.get0 Chg.get1 Chg.get2 Chg.get3 Chg.get4 Chg.get69 Chg.at0 Chg.at1 Chg.at2 Chg.at3 Chg.at4 Chg.set0 Chg.set1 Chg.set3 Chg.set69 Chg.part5 Chg.part0 Chg.splice5 Chg.row_size Chg.ok_mk Chg.row_one u8_one u8_size u8s_length zero46_size splice_all later_refl later_drew_iff later_drewN_iff later_a1 later_a2 later_a3 later_a4


/-- A slice of one-cell values. -/
def Rd (w : World) (A : Option Addr) (xs : List Value) : Prop := ∀ k x, xs[k]? = some x → ∃ ad : Addr, A = some ad ∧ ad.block < w.heap.size ∧ w.cell? (ad.add k) = some x
theorem Rd.later {w W : World} {A : Option Addr} {xs : List Value} (h : Rd w A xs) (hl : Later w W) : Rd W A xs := fun k x hx => by
  obtain ⟨ad, e, hb, hc⟩ := h k x hx
  exact ⟨ad, e, by have := hl.size; omega, (hl.cell (by rw [block_add]; exact hb)).trans hc⟩
theorem Rd.at_ {w : World} {A : Option Addr} {xs : List Value} (h : Rd w A xs) {k : Nat} {x : Value} (hx : xs[k]? = some x) : ∃ ad : Addr, A = some ad ∧ ∀ W, Later w W → W.cell? (ad.add k) = some x := by
  obtain ⟨ad, e, hb, hc⟩ := h k x hx
  exact ⟨ad, e, fun W hW => (hW.cell (by rw [block_add]; exact hb)).trans hc⟩
def ints (l : List Int) : List Value := l.map (Value.int .i64)
def boos (l : List Bool) : List Value := l.map Value.bool

def newChg (l : List Chg) (s : St) (k : Nat) : Chg :=
  if 0 < s.kd.getD k 0 then { l.getD k default with kind := s.kd.getD k 0, score := s.sc.getD k 0, old := (l.getD (s.fr.getD k 0).toNat default).old, om := (l.getD (s.fr.getD k 0).toNat default).om, oid := (l.getD (s.fr.getD k 0).toNat default).oid }
  else l.getD k default
def outTo (l : List Chg) (s : St) : Nat → List Chg
  | 0 => []
  | k + 1 => if s.tk.getD k false then outTo l s k else outTo l s k ++ [newChg l s k]

theorem info46b : (Tryz.prog.info? 53).map (fun i => (i.zero, i.size, i.bytes)) = some (some (.agg zero46), 70, 128) := by kernel_rfl

theorem outTo_len (l : List Chg) (s : St) (k : Nat) : (outTo l s k).length ≤ k := by
  induction k with
  | zero => simp [outTo]
  | succ k ih =>
    unfold outTo
    split
    · omega
    · simp only [List.length_append, List.length_cons, List.length_nil]
      omega

theorem int_at {xs : List Int} {k : Nat} (h : k < xs.length) : (ints xs)[k]? = some (.int .i64 (xs.getD k 0)) := by simp [ints, h]
theorem boo_at {xs : List Bool} {k : Nat} (h : k < xs.length) : (boos xs)[k]? = some (.bool (xs.getD k false)) := by simp [boos, h]

set_option maxHeartbeats 1000000 in
set_option maxRecDepth 100000 in
theorem told_any (w : World) (l : List Chg) (A AF AK AS AT : Option Addr) (c cF cK cS cT : Nat) (s : St) (hl : LReads w w.heap.size A l) (ok : ∀ (k : Nat) (x : Chg), l[k]? = some x → x.ok) (hn : l.length ≤ 40)
    (hF : Rd w AF (ints s.fr)) (hK : Rd w AK (ints s.kd)) (hS : Rd w AS (ints s.sc)) (hT : Rd w AT (boos s.tk)) (lF : s.fr.length = l.length) (lK : s.kd.length = l.length) (lS : s.sc.length = l.length) (lT : s.tk.length = l.length)
    (hfr : ∀ k, 0 < s.kd.getD k 0 → ∃ i : Nat, i < l.length ∧ s.fr.getD k 0 = i) :
    Calls Tryz.prog 25 #[.slice A l.length c, .agg #[.slice AF l.length cF, .slice AK l.length cK, .slice AS l.length cS, .slice AT l.length cT]] w
      fun e w' => ∃ v, e = .returned v ∧ w'.ownsRow w.heap.size 53 70 v (outTo l s l.length).length ((outTo l s l.length).flatMap Chg.cells) ∧ Below w.heap.size w w' := by
  have H := Lib.hid (And.intro hl (And.intro ok (And.intro hF (And.intro hK (And.intro hS hT)))))
  have HFR := Lib.hid hfr
  obtain ⟨i0, hi0', hz0', hz1', hz2'⟩ := info_parts info46b
  have hi0 := Lib.hid hi0'
  have hz0 := Lib.hid hz0'
  have hz1 := Lib.hid hz1'
  have hz2 := Lib.hid hz2'
  clear hi0' hz0' hz1' hz2'
  clear hl ok hF hK hS hT hfr
  go_enter Tryz.func25, Tryz.ntmps25
  go_wp2
  generalize hw1 : w.alloc (.cells #[.slice AF l.length cF, .slice AK l.length cK, .slice AS l.length cS, .slice AT l.length cT] 73) = w1
  have HW1 := Lib.hid hw1
  clear hw1
  go_loopw [5, 6] (fun v i wr => ∃ k : Nat, k ≤ l.length ∧ i = .int .i64 k ∧ Hid (wr.ownsRow (w.heap.size + 1) 53 70 v (outTo l s k).length ((outTo l s k).flatMap Chg.cells)) ∧ Hid (Below (w.heap.size + 1) w1 wr)) (fun _ i _ => l.length - (intOf i).toNat)
  case atStart => exact ⟨0, Nat.zero_le _, rfl, World.ownsRow_nil _ _ _ _, Below.refl _ _⟩
  case round =>
    obtain ⟨k, hk, rfl, hown, hb⟩ := hrel
    have hb0 : Later w wr := by
      have h1 : Later w w1 := by rw [← HW1.out]; exact later_alloc (later_refl w) _
      exact h1.trans (later_of_below hb.out (by rw [← HW1.out]; simp))
    have box : ∀ j : Nat, wr.cell? ⟨w.heap.size, j, none⟩ = #[Value.slice AF l.length cF, .slice AK l.length cK, .slice AS l.length cS, .slice AT l.length cT][j]? := fun j => by
      rw [hb.out.cell (p := ⟨w.heap.size, j, none⟩) (by simp), ← HW1.out, World.cell?_alloc_at _ _ _ _ rfl]
    have bx0 : wr.cell? ⟨w.heap.size, 0, none⟩ = some (.slice AF l.length cF) := box 0
    have bx1 : wr.cell? ⟨w.heap.size, 1, none⟩ = some (.slice AK l.length cK) := box 1
    have bx2 : wr.cell? ⟨w.heap.size, 2, none⟩ = some (.slice AS l.length cS) := box 2
    have bx3 : wr.cell? ⟨w.heap.size, 3, none⟩ = some (.slice AT l.length cT) := box 3
    have hsz : w.heap.size < wr.heap.size := by have := hb.out.size; rw [← HW1.out] at this; simp at this; omega
    clear box
    by_cases hkl : k < l.length
    · obtain ⟨aF, rfl, c0⟩ := (H.out.2.2.1.later hb0).at_ (k := k) (int_at (by omega))
      obtain ⟨aK, rfl, c1⟩ := (H.out.2.2.2.1.later hb0).at_ (k := k) (int_at (by omega))
      obtain ⟨aS, rfl, c2⟩ := (H.out.2.2.2.2.1.later hb0).at_ (k := k) (int_at (by omega))
      obtain ⟨aT, rfl, c3⟩ := (H.out.2.2.2.2.2.later hb0).at_ (k := k) (boo_at (by omega))
      have hok : (l.getD k default).ok := H.out.2.1 k _ (by simp [hkl])
      obtain ⟨ad, rfl, bA, hld⟩ := run_load46_old H.out.1 (Nat.le_refl _) k hkl hok
      have hld' : ∀ W, Later wr W → (load46 (ad.add (k * 70))).run Tryz.prog W = .ok (.agg (l.getD k default).row) W := fun W hW => hld W (hb0.trans hW)
      clear hld
      have hout : outTo l s (k + 1) = if s.tk.getD k false then outTo l s k else outTo l s k ++ [newChg l s k] := rfl
      have HOUT := Lib.hid hout
      clear hout
      have HB0 := Lib.hid hb0
      clear hb0
      generalize s.tk.getD k false = t at *
      cases t with
      | true =>
        go_wp2
        refine ⟨⟨k + 1, by omega, by go_num, ?_, hb⟩, by simp [intOf]; omega⟩
        rw [HOUT.out]
        exact hown
      | false =>
        have hl := outTo_len l s k
        by_cases hkd : 0 < s.kd.getD k 0
        · obtain ⟨i, hi, hfi⟩ := HFR.out k hkd
          have hoki : (l.getD i default).ok := H.out.2.1 i _ (by simp [hi])
          obtain ⟨ad', he, _, hld2⟩ := run_load46_old H.out.1 (Nat.le_refl _) i hi hoki
          obtain rfl : ad = ad' := by injection he
          have hld2' : ∀ W, Later wr W → (load46 (ad.add (i * 70))).run Tryz.prog W = .ok (.agg (l.getD i default).row) W := fun W hW => hld2 W (HB0.out.trans hW)
          have hnew : newChg l s k = ⟨s.kd.getD k 0, (l.getD i default).old, (l.getD k default).new, (l.getD i default).om, (l.getD k default).nm, (l.getD i default).oid, (l.getD k default).nid, s.sc.getD k 0⟩ := by
            simp only [newChg, if_pos hkd, hfi, Int.toNat_natCast]
          have HNEW := Lib.hid hnew
          clear hnew hld2 he
          rw [hfi] at c0
          clear hfi
          generalize l.getD k default = x at *
          generalize l.getD i default = y at *
          generalize s.kd.getD k 0 = kd at *
          generalize s.sc.getD k 0 = sc at *
          have x0 := hok.old
          have x1 := hok.oid
          have x2 := hok.nid
          have x3 := hok.new
          have y1 := hoki.oid
          have y2 := hoki.old
          have okz : (⟨kd, y.old, x.new, y.om, x.nm, y.oid, x.nid, sc⟩ : Chg).ok := ⟨y1, x2, y2, x3⟩
          have okq : (⟨kd, y.old, x.new, y.om, x.nm, x.oid, x.nid, sc⟩ : Chg).ok := ⟨x1, x2, y2, x3⟩
          have hown2 := ((hown.out.alloc (.cells (⟨kd, y.old, x.new, y.om, x.nm, y.oid, x.nid, sc⟩ : Chg).row 53)).alloc (.cells y.row 53)).alloc (.cells (⟨kd, y.old, x.new, y.om, x.nm, y.oid, x.nid, sc⟩ : Chg).row 53)
          have HOWN := Lib.hid hown2
          clear hown2
          go_wp2_with (at_builtin; refine wpList_append_own _ rfl (.tmp 59) (.tmp 61) _ rfl (w.heap.size + 1) 53 i0 (.agg zero46) 70 128 Tryz.underlying23 hi0.out hz0.out hz1.out hz2.out zero46_size (by omega) u5 _ _ rfl HOWN.out ⟨wr.heap.size + 1 + 1, 0, none⟩ 1 1 (Chg.cells ⟨kd, y.old, x.new, y.om, x.nm, y.oid, x.nid, sc⟩) rfl (Chg.cells_length _ okz) (new_cells _ _ _ _ (by simp)) (Chg.cells_one _) (small_len (by omega)) (by omega) (by simp; omega) ?_; intro v' w2 hown3 hgrow3 _)
          refine ⟨⟨k + 1, by omega, by go_num, ?_, ?_⟩, by simp [intOf]; omega⟩
          · rw [HOUT.out, HNEW.out]
            unfold Hid
            simpa using hown3
          · exact (hb.out.trans ((((((Below.refl _ _).alloc (by omega) _).alloc (by simp; omega) _).alloc (by simp; omega) _).grown hgrow3 (by simp; omega) (fun g hg => (hown.out.lt g hg).1))) : _)
        · have hnew : newChg l s k = l.getD k default := by simp only [newChg, if_neg hkd]
          have HNEW := Lib.hid hnew
          clear hnew
          generalize l.getD k default = x at *
          generalize s.kd.getD k 0 = kd at *
          have hown2 := (hown.out.alloc (.cells x.row 53)).alloc (.cells x.row 53)
          have HOWN := Lib.hid hown2
          clear hown2
          go_wp2_with (at_builtin; refine wpList_append_own _ rfl (.tmp 59) (.tmp 61) _ rfl (w.heap.size + 1) 53 i0 (.agg zero46) 70 128 Tryz.underlying23 hi0.out hz0.out hz1.out hz2.out zero46_size (by omega) u5 _ _ rfl HOWN.out ⟨wr.heap.size + 1, 0, none⟩ 1 1 (Chg.cells x) rfl (Chg.cells_length _ hok) (new_cells _ _ _ _ (by simp)) (Chg.cells_one _) (small_len (by omega)) (by omega) (by simp; omega) ?_; intro v' w2 hown3 hgrow3 _)
          refine ⟨⟨k + 1, by omega, by go_num, ?_, ?_⟩, by simp [intOf]; omega⟩
          · rw [HOUT.out, HNEW.out]
            unfold Hid
            simpa using hown3
          · exact (hb.out.trans (((((Below.refl _ _).alloc (by omega) _).alloc (by simp; omega) _).grown hgrow3 (by simp; omega) (fun g hg => (hown.out.lt g hg).1))) : _)
    · go_wp2
      go_ret
      obtain rfl : k = l.length := by omega
      refine ⟨_, rfl, ?_, ?_⟩
      · exact ⟨hown.out.1, hown.out.2.imp id (fun ⟨g, cap, cur, h1, h2, h3⟩ => ⟨g, cap, cur, h1, by omega, h3⟩)⟩
      · have hw : Below w.heap.size w w1 := by rw [← HW1.out]; exact (Below.refl _ _).alloc (Nat.le_refl _) _
        exact hw.trans (hb.out.mono (by omega))
end Go.Proofs.YtbmpidacoohdmaaGreat.Rn
namespace Go.Proofs.YtbmpidacoohdmaaGreat.Rn
open Go.RowKit
attribute [local go_sem ↓] load44_eq load46_eq store44_eq store46_eq new46_eq lit22_eq
attribute [local go_sem] run_load44 run_load46 run_store44 run_store46 run_new46 run_lit22 row_drew row_drewN free_drew free_drewN row_alloc_at row_alloc_past free_alloc_at free_alloc_past row_setCell_past free_setCell_past setRow_drew setRow_alloc_at setRow_alloc_past
  Chg.get0 Chg.get1 Chg.get2 Chg.get3 Chg.get4 Chg.get69 Chg.at0 Chg.at1 Chg.at2 Chg.at3 Chg.at4 Chg.set0 Chg.set1 Chg.set3 Chg.set69 Chg.part5 Chg.part0 Chg.splice5 Chg.row_size Chg.ok_mk Chg.row_one u8_one u8_size u8s_length zero46_size splice_all later_refl later_drew_iff later_drewN_iff later_a1 later_a2 later_a3 later_a4



theorem own_drew {w : World} {base : Nat} {e : TypeId} {size : Nat} {v : Value} {n : Nat} {xs : List Value} (h : w.ownsRow base e size v n xs) : w.drew.ownsRow base e size v n xs := h
theorem cells_drew {w : World} {a : Addr} {cs : List Value} (h : ∀ j u, cs[j]? = some u → w.cell? (a.add j) = some u) : ∀ j u, cs[j]? = some u → w.drew.cell? (a.add j) = some u := h

theorem rel_step {l : List Chg} {s : St} {k B : Nat} {v : Value} {w w2 : World} {z : Chg} (h1 : outTo l s (k + 1) = if false = true then outTo l s k else outTo l s k ++ [newChg l s k]) (h2 : newChg l s k = z)
    (h3 : w2.ownsRow B 53 70 v ((outTo l s k).length + 1) ((outTo l s k).flatMap Chg.cells ++ z.cells)) (h4 : Below B w w2) (hk : k < l.length) :
    ∃ j : Nat, j ≤ l.length ∧ Value.int .i64 ((k : Int) + 1) = .int .i64 j ∧ Hid (w2.ownsRow B 53 70 v (outTo l s j).length ((outTo l s j).flatMap Chg.cells)) ∧ Hid (Below B w w2) := by
  refine ⟨k + 1, by omega, by go_num, ?_, h4⟩
  rw [h1, h2]
  unfold Hid
  simpa using h3

set_option maxRecDepth 100000 in
set_option maxHeartbeats 1000000 in
theorem changes_any {w : World} {B0 b F S K T : Nat} {A : Option Addr} {c : Nat} {l : List Chg} {s : St} (h : Fnd w B0 b F S K T A c l s) (B : Nat) (hB : B = w.heap.size)
    (hfr : ∀ k, 0 < s.kd.getD k 0 → ∃ i : Nat, i < l.length ∧ s.fr.getD k 0 = i) :
    Calls Tryz.prog 21 #[.pointer (some ⟨b, 0, none⟩)] w
      fun e w' => ∃ v, e = .returned v ∧ w'.ownsRow B 53 70 v (outTo l s l.length).length ((outTo l s l.length).flatMap Chg.cells) ∧ Below B w w' := by
  have h0 : w.cell? ⟨b, 0, none⟩ = some (.slice A l.length c) := h.cell 0
  have hn := h.short
  have H := Lib.hid h
  have HB := Lib.hid hB
  have HFR := Lib.hid hfr
  obtain ⟨i0, hi0', hz0', hz1', hz2'⟩ := info_parts info46b
  have hi0 := Lib.hid hi0'
  have hz0 := Lib.hid hz0'
  have hz1 := Lib.hid hz1'
  have hz2 := Lib.hid hz2'
  clear hi0' hz0' hz1' hz2' h hfr hB
  go_enter Tryz.func21, Tryz.ntmps21
  go_wp2
  go_loopw [3, 12] (fun v i wr => ∃ k : Nat, k ≤ l.length ∧ i = .int .i64 k ∧ Hid (wr.ownsRow B 53 70 v (outTo l s k).length ((outTo l s k).flatMap Chg.cells)) ∧ Hid (Below B w wr)) (fun _ i _ => l.length - (intOf i).toNat)
  case atStart => exact ⟨0, Nat.zero_le _, rfl, World.ownsRow_nil _ _ _ _, Below.refl _ _⟩
  case round =>
    obtain ⟨k, hk, rfl, hown, hb⟩ := hrel
    have hlat : Later w wr := later_of_below hb.out (by rw [HB.out]; exact Nat.le_refl _)
    have hr : Fnd wr B0 b F S K T A c l s := H.out.keep hlat.same
    have hBs : B ≤ wr.heap.size := by rw [HB.out]; exact hlat.size
    have HLAT := Lib.hid hlat
    clear hlat h0
    by_cases hkl : k < l.length
    · have f0 : wr.cell? ⟨b, 0, none⟩ = some (.slice A l.length c) := hr.cell 0
      have f1 : wr.cell? ⟨b, 1, none⟩ = some (.slice (some ⟨F, 0, none⟩) l.length l.length) := hr.cell 1
      have f2 : wr.cell? ⟨b, 2, none⟩ = some (.slice (some ⟨S, 0, none⟩) l.length l.length) := hr.cell 2
      have f3 : wr.cell? ⟨b, 3, none⟩ = some (.slice (some ⟨K, 0, none⟩) l.length l.length) := hr.cell 3
      have f4 : wr.cell? ⟨b, 4, none⟩ = some (.slice (some ⟨T, 0, none⟩) l.length l.length) := hr.cell 4
      have g1 := ints_cell hr.hF k (by rw [hr.lF]; exact hkl)
      have g2 := ints_cell hr.hS k (by rw [hr.lS]; exact hkl)
      have g3 := ints_cell hr.hK k (by rw [hr.lK]; exact hkl)
      have g4 := bools_cell hr.hT k (by rw [hr.lT]; exact hkl)
      have z0 : b < wr.heap.size := (Array.getElem?_eq_some_iff.1 hr.self).1
      have z1 : F < wr.heap.size := (Array.getElem?_eq_some_iff.1 hr.hF).1
      have z2 : S < wr.heap.size := (Array.getElem?_eq_some_iff.1 hr.hS).1
      have z3 : K < wr.heap.size := (Array.getElem?_eq_some_iff.1 hr.hK).1
      have z4 : T < wr.heap.size := (Array.getElem?_eq_some_iff.1 hr.hT).1
      have hok : (l.getD k default).ok := hr.oks k _ (by simp [hkl])
      obtain ⟨ad, rfl, _, hld⟩ := run_load46_old hr.reads (by have := hr.bb; omega) k hkl hok
      have HR := Lib.hid hr
      have hout : outTo l s (k + 1) = if s.tk.getD k false then outTo l s k else outTo l s k ++ [newChg l s k] := rfl
      have HOUT := Lib.hid hout
      clear hout hr
      generalize s.tk.getD k false = t at *
      have hl := outTo_len l s k
      have hbw1 : ∀ o, Below B w (wr.alloc o) := fun o => hb.out.alloc hBs o
      have HBW1 := Lib.hid hbw1
      clear hbw1
      cases t with
      | true =>
        generalize l.getD k default = x at *
        go_wp2
        refine ⟨⟨k + 1, by omega, by go_num, ?_, HBW1.out _⟩, by simp [intOf]; omega⟩
        rw [HOUT.out]
        exact hown.out.alloc _
      | false =>
        by_cases hkd : 0 < s.kd.getD k 0
        · obtain ⟨i, hi, hfi⟩ := HFR.out k hkd
          have hoki : (l.getD i default).ok := HR.out.oks i _ (by simp [hi])
          obtain ⟨ad', he, _, hld2⟩ := run_load46_old HR.out.reads (by have := HR.out.bb; omega) i hi hoki
          obtain rfl : ad = ad' := by injection he
          have hnew : newChg l s k = ⟨s.kd.getD k 0, (l.getD i default).old, (l.getD k default).new, (l.getD i default).om, (l.getD k default).nm, (l.getD i default).oid, (l.getD k default).nid, s.sc.getD k 0⟩ := by
            simp only [newChg, if_pos hkd, hfi, Int.toNat_natCast]
          have HNEW := Lib.hid hnew
          clear hnew he
          rw [hfi] at g1
          clear hfi
          generalize l.getD k default = x at *
          generalize l.getD i default = y at *
          generalize s.kd.getD k 0 = kd at *
          generalize s.sc.getD k 0 = sc at *
          have x0 := hok.old
          have x1 := hok.oid
          have x2 := hok.nid
          have x3 := hok.new
          have y1 := hoki.oid
          have y2 := hoki.old
          have okz : (⟨kd, y.old, x.new, y.om, x.nm, y.oid, x.nid, sc⟩ : Chg).ok := ⟨y1, x2, y2, x3⟩
          have okq : (⟨kd, y.old, x.new, y.om, x.nm, x.oid, x.nid, sc⟩ : Chg).ok := ⟨x1, x2, y2, x3⟩
          have hown2 := own_drew (own_drew (own_drew (((hown.out.alloc (.cells (⟨kd, y.old, x.new, y.om, x.nm, y.oid, x.nid, sc⟩ : Chg).row 53)).alloc (.cells y.row 53)).alloc (.cells (⟨kd, y.old, x.new, y.om, x.nm, y.oid, x.nid, sc⟩ : Chg).row 53))))
          have HOWN := Lib.hid hown2
          clear hown2
          have hnews := cells_drew (cells_drew (cells_drew (new_cells ((wr.alloc (.cells (Chg.row ⟨kd, y.old, x.new, y.om, x.nm, y.oid, x.nid, sc⟩) 53)).alloc (.cells y.row 53)) (Chg.cells ⟨kd, y.old, x.new, y.om, x.nm, y.oid, x.nid, sc⟩) 53 (wr.heap.size + 1 + 1) (by simp))))
          have HNEWS := Lib.hid hnews
          have hbase : B ≤ (((wr.alloc (.cells (Chg.row ⟨kd, y.old, x.new, y.om, x.nm, y.oid, x.nid, sc⟩) 53)).alloc (.cells y.row 53)).alloc (.cells (Chg.row ⟨kd, y.old, x.new, y.om, x.nm, y.oid, x.nid, sc⟩) 53)).drew.drew.drew.heap.size := by simp; omega
          have HBASE := Lib.hid hbase
          have hm1 : (outTo l s k).length + 1 ≤ maxLen := small_len (by omega)
          have hm2 : ((outTo l s k).length + 1) * 128 ≤ 140737488355328 := by omega
          have HM1 := Lib.hid hm1
          have HM2 := Lib.hid hm2
          have hcl := Chg.cells_length _ okz
          have HCL := Lib.hid hcl
          clear hnews hbase hm1 hm2 hcl
          go_wp2
          go_region
          go_wp2
          go_region
          go_wp2
          go_region
          go_wp2_with (at_builtin; refine wpList_append_own _ rfl (.tmp 70) (.tmp 72) _ rfl B 53 i0 (.agg zero46) 70 128 Tryz.underlying23 hi0.out hz0.out hz1.out hz2.out zero46_size (by decide) u3 _ _ rfl HOWN.out ⟨wr.heap.size + 1 + 1, 0, none⟩ 1 1 _ rfl HCL.out HNEWS.out (Chg.cells_one _) HM1.out HM2.out HBASE.out ?_; intro v' w2 hown3 hgrow3 hiff; clear hiff; simp only [Act.put, List.setIfInBounds_toArray, List.set_cons_succ, List.set_cons_zero]; (go_step; go_step; go_step; go_step; go_step; go_step; go_step; go_step; go_step; go_step; go_step; go_step; go_step; go_step; go_step); show _ ∧ _; refine ⟨?_, ?measure⟩; (repeat apply Exists.intro); refine ⟨?rel, rfl⟩; exact rel_step HOUT.out HNEW.out hown3 (hb.out.trans (((((((((Below.refl _ _).alloc hBs _).alloc (by simp; omega) _).alloc (by simp; omega) _).drew).drew).drew).grown hgrow3 HBASE.out (fun g hg => (hown.out.lt g hg).1)))) hkl; (simp [intOf]; omega))
        · have hnew : newChg l s k = l.getD k default := by simp only [newChg, if_neg hkd]
          have HNEW := Lib.hid hnew
          clear hnew
          generalize l.getD k default = x at *
          generalize s.kd.getD k 0 = kd at *
          have hown2 := (hown.out.alloc (.cells x.row 53)).alloc (.cells x.row 53)
          have HOWN := Lib.hid hown2
          clear hown2
          go_wp2_with (at_builtin; refine wpList_append_own _ rfl (.tmp 70) (.tmp 72) _ rfl B 53 i0 (.agg zero46) 70 128 Tryz.underlying23 hi0.out hz0.out hz1.out hz2.out zero46_size (by omega) u3 _ _ rfl HOWN.out ⟨wr.heap.size + 1, 0, none⟩ 1 1 (Chg.cells x) rfl (Chg.cells_length _ hok) (new_cells _ _ _ _ (by simp)) (Chg.cells_one _) (small_len (by omega)) (by omega) (by simp; omega) ?_; intro v' w2 hown3 hgrow3 _)
          refine ⟨⟨k + 1, by omega, by go_num, ?_, ?_⟩, by simp [intOf]; omega⟩
          · rw [HOUT.out, HNEW.out]
            unfold Hid
            simpa using hown3
          · exact ((((HBW1.out _).alloc (by simp; omega) _).grown hgrow3 (by simp; omega) (fun g hg => (hown.out.lt g hg).1)) : _)
    · go_wp2
      go_ret
      obtain rfl : k = l.length := by omega
      exact ⟨_, rfl, hown.out, hb.out⟩
end Go.Proofs.YtbmpidacoohdmaaGreat.Rn

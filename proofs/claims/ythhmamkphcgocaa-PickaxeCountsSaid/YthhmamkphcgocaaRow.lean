/- Plain laws: a block's cells as one row; a struct or an array loaded out of it and stored into it whole. No program. -/
import Derived.Test.YthhmamkphcgocaaBase
import Derived.Great.BuildSlice
namespace Go.Proofs.Ythhmamkphcgocaa
open Go.RowKit

/-- The cells of block n. -/
def row (W : World) (n : Nat) : Array Value := match W.heap[n]? with
  | some (.cells cs _ _) => cs
  | _ => #[]
/-- Block n holds cells, none frozen. -/
def free (W : World) (n : Nat) : Bool := match W.heap[n]? with
  | some (.cells _ _ fr) => fr == (0, 0)
  | _ => false
/-- Each takes one cell. -/
def ones (cs : Array Value) : Bool := cs.all (·.oneCell')
/-- cs laid over cur from o on. -/
def splice (cur : Array Value) (o : Nat) (cs : Array Value) : Array Value := (cur.toList.take o ++ cs.toList ++ cur.toList.drop (o + cs.size)).toArray

theorem free_iff {W : World} {n : Nat} (h : free W n = true) : ∃ t, W.heap[n]? = some (.cells (row W n) t (0, 0)) := by
  unfold free at h
  unfold row
  split at h
  · rename_i cs t fr hh
    rw [hh]
    exact ⟨t, by simp only [beq_iff_eq] at h; rw [h]⟩
  · cases h
theorem free_of {W : World} {n : Nat} {cs : Array Value} {t : TypeId} (h : W.heap[n]? = some (.cells cs t (0, 0))) : free W n = true := by simp [free, h]
theorem row_of {W : World} {n : Nat} {cs : Array Value} {t : TypeId} {fr : Nat × Nat} (h : W.heap[n]? = some (.cells cs t fr)) : row W n = cs := by simp [row, h]

section
variable (W : World) (n : Nat)
theorem row_drew : row W.drew n = row W n := rfl
theorem row_drewN (k : Nat) : row (W.drewN k) n = row W n := rfl
theorem free_drew : free W.drew n = free W n := rfl
theorem free_drewN (k : Nat) : free (W.drewN k) n = free W n := rfl
theorem row_alloc_at (cs : Array Value) (t : TypeId) (h : n = W.heap.size) : row (W.alloc (.cells cs t)) n = cs := by subst h; exact row_of (heap_alloc_new W _)
theorem row_alloc_past (o : Obj) (h : n < W.heap.size) : row (W.alloc o) n = row W n := by unfold row; rw [Below.heap_alloc W o n h]
theorem free_alloc_at (cs : Array Value) (t : TypeId) (h : n = W.heap.size) : free (W.alloc (.cells cs t)) n = true := by subst h; exact free_of (heap_alloc_new W _)
theorem free_alloc_past (o : Obj) (h : n < W.heap.size) : free (W.alloc o) n = free W n := by unfold free; rw [Below.heap_alloc W o n h]
theorem row_setCell_past (p : Addr) (v : Value) (h : n ≠ p.block) : row (W.setCell p v) n = row W n := by unfold row; rw [Below.heap_setCell W p v n h]
theorem free_setCell_past (p : Addr) (v : Value) (h : n ≠ p.block) : free (W.setCell p v) n = free W n := by unfold free; rw [Below.heap_setCell W p v n h]
theorem setRow_drew (cs : Array Value) : W.drew.setRow n cs = (W.setRow n cs).drew := rfl
theorem setRow_alloc_at (cs cs' : Array Value) (t : TypeId) (h : n = W.heap.size) : (W.alloc (.cells cs t)).setRow n cs' = W.alloc (.cells cs' t) := by
  subst h
  unfold World.setRow World.alloc
  congr 1
  apply Array.ext
  · simp
  · intro k h1 h2
    simp only [Array.getElem_modify]
    split
    · rename_i hk; subst hk; simp
    · rename_i hk
      simp only [Array.size_modify, Array.size_push] at h1
      rw [Array.getElem_push_lt (by omega), Array.getElem_push_lt (by omega)]
theorem setRow_alloc_past (o : Obj) (cs : Array Value) (h : n < W.heap.size) : (W.alloc o).setRow n cs = (W.setRow n cs).alloc o := by
  unfold World.setRow World.alloc
  congr 1
  apply Array.ext
  · simp
  · intro k h1 h2
    simp only [Array.size_modify, Array.size_push] at h1 h2
    by_cases hk : k = W.heap.size
    · subst hk
      simp only [Array.getElem_modify, Array.getElem_push]
      rw [if_neg (by omega)]
      simp
    · simp only [Array.getElem_modify, Array.getElem_push]
      have : k < W.heap.size := by omega
      simp [this]
theorem size_setRow' (cs : Array Value) : (W.setRow n cs).heap.size = W.heap.size := by simp

theorem run_load_row {P : Program} {ty : TypeId} {d : TypeDesc} {sz : Nat} (hu : P.underlying ty = some d) (hd : multi d = true) (hi : (P.info? ty).map (·.size) = some sz) (o : Nat)
    (hf : free W n = true) (hl : o + sz ≤ (row W n).size) : (loadVar ty ⟨n, o, none⟩).run P W = .ok (.agg ((row W n).extract o (o + sz))) W := by
  obtain ⟨t, ht⟩ := free_iff hf
  have e : (row W n).extract o (o + sz) = (((row W n).extract o (o + sz)).toList).toArray := Array.toArray_toList.symm
  rw [e]
  refine run_loadVar_cells hu hd (by rw [hi]; simp; omega) ?_
  intro j v hv
  have hadd : (⟨n, o, none⟩ : Addr).add j = ⟨n, o + j, none⟩ := Addr.add_lit n o j
  rw [hadd, cell_of_row W n (o + j) _ _ _ ht]
  simp only [Array.getElem?_toList, Array.getElem?_extract] at hv
  split at hv
  · exact hv
  · cases hv
theorem run_store_row {P : Program} {ty : TypeId} {sz : Nat} (hi : (P.info? ty).map (·.size) = some sz) (o : Nat) (cs : Array Value) (h1 : ones cs = true) (hs : cs.size = sz)
    (hf : free W n = true) (hl : o + sz ≤ (row W n).size) : (storeVar ty ⟨n, o, none⟩ (.agg cs)).run P W = .ok () (W.setRow n (splice (row W n) o cs)) := by
  obtain ⟨t, ht⟩ := free_iff hf
  have h := run_storeCells_at P n o t cs.toList 0 (row W n) W ht (by simp; omega) (fun v hv => (Array.all_eq_true_iff_forall_mem.1 h1) v (by simpa using hv))
  cases hq : P.info? ty with
  | none => simp [hq] at hi
  | some i =>
    have hsz : cs.size = i.size := by simp [hq] at hi; omega
    have hst : (storeCells ⟨n, o, none⟩ cs.toList).run P W = .ok () (W.setRow n (splice (row W n) o cs)) := by
      unfold splice
      have h' := h
      simp only [Nat.add_zero, Array.length_toList] at h'
      exact h'
    simp [storeVar, sizeOf, typeInfo, hq, Value.cells, hsz, hst]
end

/-- All that lay in w lies in W as it did. -/
structure Later (w W : World) : Prop where
  size : w.heap.size ≤ W.heap.size
  same : ∀ g, g < w.heap.size → W.heap[g]? = w.heap[g]?
section
variable {w W : World}
theorem later_refl (w : World) : Later w w := ⟨Nat.le_refl _, fun _ _ => rfl⟩
theorem later_drew (h : Later w W) : Later w W.drew := ⟨h.size, h.same⟩
theorem later_drewN (h : Later w W) (k : Nat) : Later w (W.drewN k) := ⟨h.size, h.same⟩
theorem later_alloc (h : Later w W) (o : Obj) : Later w (W.alloc o) := ⟨by have := h.size; simp; omega, fun g hg => (Below.heap_alloc W o g (by have := h.size; omega)).trans (h.same g hg)⟩
theorem later_setCell (h : Later w W) (p : Addr) (v : Value) (hp : w.heap.size ≤ p.block) : Later w (W.setCell p v) := ⟨by have := h.size; simpa using this, fun g hg => (Below.heap_setCell W p v g (by omega)).trans (h.same g hg)⟩
theorem later_setRow (h : Later w W) (n : Nat) (cs : Array Value) (hp : w.heap.size ≤ n) : Later w (W.setRow n cs) := ⟨by have := h.size; simpa using this, fun g hg => (setRow_other W n g cs (by omega)).trans (h.same g hg)⟩
theorem Later.trans {V : World} (h : Later w W) (k : Later W V) : Later w V := ⟨Nat.le_trans h.size k.size, fun g hg => (k.same g (Nat.lt_of_lt_of_le hg h.size)).trans (h.same g hg)⟩
theorem Later.cell (h : Later w W) {p : Addr} (hp : p.block < w.heap.size) : W.cell? p = w.cell? p := World.cell?_of_block (h.same _ hp)
theorem later_of_below {B : Nat} (h : Below B w W) (hB : w.heap.size ≤ B) : Later w W := ⟨h.size, fun g hg => h.block g (by omega)⟩
end

theorem foldl_set (cs : List Value) : ∀ (k : Nat) (base : Array Value), k + cs.length ≤ base.size →
    (cs.zipIdx k).foldl (fun acc x => acc.setIfInBounds (0 + x.2) x.1) base = (base.toList.take k ++ cs ++ base.toList.drop (k + cs.length)).toArray := by
  induction cs with
  | nil => intro k base _; simp
  | cons c cs ih =>
    intro k base h
    simp only [List.length_cons] at h
    rw [List.zipIdx_cons, List.foldl_cons, ih (k + 1) _ (by simp; omega)]
    apply Array.ext'
    apply List.ext_getElem?
    intro j
    simp only [Nat.zero_add, Array.toList_setIfInBounds, List.getElem?_append, List.length_append, List.length_take, List.length_set, Array.length_toList, List.length_cons]
    rw [show min (k + 1) base.size = k + 1 by omega, show min k base.size = k by omega]
    by_cases h1 : j < k
    · rw [if_pos (by omega), if_pos (by omega), if_pos (by omega), if_pos h1]
      rw [List.getElem?_take, List.getElem?_take, if_pos (by omega), if_pos h1, List.getElem?_set_ne (by omega)]
    · by_cases h2 : j = k
      · subst h2
        rw [if_pos (by omega), if_pos (by omega), if_pos (by omega), if_neg (by omega)]
        rw [List.getElem?_take, if_pos (by omega), List.getElem?_set_self (by simp; omega)]
        simp
      · by_cases h3 : j < k + 1 + cs.length
        · rw [if_pos h3, if_neg (by omega), if_pos (by omega), if_neg (by omega)]
          rw [show j - k = (j - (k + 1)) + 1 by omega]
          simp
        · rw [if_neg h3, if_neg (by omega)]
          rw [List.getElem?_drop, List.getElem?_drop, List.getElem?_set_ne (by omega)]
          congr 1
          omega

theorem run_build_one {P : Program} (W : World) {t e : TypeId} {sz : Nat} (hu : P.underlying t = some (.slice e)) (hsz : (P.info? e).map (·.size) = some sz) (hz : ((P.info? e).bind (·.zero)).isSome = true)
    (cs : Array Value) (hs : cs.size = sz) (h0 : 0 < sz) (h24 : sz ≤ 2 ^ 24) :
    (Instr.buildSlice t 1 #[(0, .agg cs)]).run P W = .ok (.slice (some ⟨W.heap.size, 0, none⟩) 1 1) (W.alloc (.cells cs e)) := by
  cases hie : P.info? e with
  | none => simp [hie] at hsz
  | some ie =>
    simp only [hie, Option.map_some, Option.some.injEq, Option.bind_some] at hsz hz
    obtain ⟨z, hzz⟩ := Option.isSome_iff_exists.1 hz
    refine run_buildSlice W t e 1 _ cs ie z hu hie hzz (by rw [hsz]; omega) (by rw [hsz]; omega) ?_
    have hb : ((Array.range (1 * ie.size)).map (z.cells[· % z.cells.size]!)).size = sz := by simp [hsz]
    simp only [Instr.fill, Value.cells, Nat.zero_mul, hsz, hs]
    rw [if_neg (by simp)]
    congr 1
    rw [← Array.foldl_toList, Array.toList_zipIdx]
    have h := foldl_set cs.toList 0 ((Array.range (1 * sz)).map (z.cells[· % z.cells.size]!)) (by simp; omega)
    refine h.trans ?_
    rw [List.drop_eq_nil_of_le (by simp; omega)]
    simp
section
variable (w : World) (a b c d : Obj)
theorem later_a1 : Later w (w.alloc a) := later_alloc (later_refl w) a
theorem later_a2 : Later w ((w.alloc a).alloc b) := later_alloc (later_a1 w a) b
theorem later_a3 : Later w (((w.alloc a).alloc b).alloc c) := later_alloc (later_a2 w a b) c
theorem later_a4 : Later w ((((w.alloc a).alloc b).alloc c).alloc d) := later_alloc (later_a3 w a b c) d
theorem later_drew_iff (W : World) : Later w W.drew = Later w W := propext ⟨fun h => ⟨h.size, h.same⟩, later_drew⟩
theorem later_drewN_iff (W : World) (k : Nat) : Later w (W.drewN k) = Later w W := propext ⟨fun h => ⟨h.size, h.same⟩, fun h => later_drewN h k⟩
end
theorem new_cells (W : World) (cs : List Value) (t : TypeId) (n : Nat) (hn : n = W.heap.size) : ∀ j u, cs[j]? = some u → (W.alloc (.cells cs.toArray t)).cell? ((⟨n, 0, none⟩ : Addr).add j) = some u := by
  intro j u hu
  subst hn
  rw [Addr.add_lit, Nat.zero_add]
  simpa using hu
theorem small_len {n : Nat} (h : n ≤ 1048576) : n ≤ maxLen := by unfold maxLen; omega
end Go.Proofs.Ythhmamkphcgocaa

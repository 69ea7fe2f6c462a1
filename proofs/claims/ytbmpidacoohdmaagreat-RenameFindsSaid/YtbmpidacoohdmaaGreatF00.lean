/- Plain laws on memory and bytes that the walks of this claim use. No program. Plain laws: bytes as cells; appending what is read onto one's own; frames; a struct in a block of its own that owns one slice. No program. -/
import Derived.WalkKit
import Derived.WalkSpells
import Derived.Lib.Hide
import Derived.Deep.QuietTactic
import Derived.BigQuiet
import Derived.Deep.RegionWith
import Derived.Great.BuildSlice
import Derived.Maps.AppendAt
import Derived.Laws.OwnMore
import Derived.Laws.AppendOwnNone
import Derived.Deep.RegionLaw
import Derived.Laws.IdiomStrings
import Derived.Lib.BufferRead
namespace Go.Proofs.YtbmpidacoohdmaaGreat
open Go.RowKit

theorem ret_int {k : IntKind} {a b : Int} (h : a = b) : Ending.returned (.int k a) = .returned (.int k b) := by rw [h]
theorem ret_bool {a b : Bool} (h : a = b) : Ending.returned (.bool a) = .returned (.bool b) := by rw [h]

theorem quiet_same {P : Program} {f : FuncId} {args : Array Value} {w : World} {n : Nat} {v : Value}
    (h : Calls P f args (w.drewN n) fun e w' => e = .returned v ∧ w.drewN n = w') : Calls P f args (w.drewN n) fun e w'' => e = .returned v ∧ ∃ m, w'' = w.drewN m :=
  h.mono fun _ _ ⟨he, hm⟩ => ⟨he, n, hm.symm⟩
theorem quiet_more {P : Program} {f : FuncId} {args : Array Value} {w : World} {a n : Nat} {v : Value}
    (h : Calls P f args (w.drewN (a + n)) fun e w' => e = .returned v ∧ ∃ m, w' = (w.drewN (a + n)).drewN m) :
    Calls P f args (w.drewN (a + n)) fun e w'' => e = .returned v ∧ ∃ m, w'' = w.drewN (a + m) :=
  h.mono fun _ _ ⟨he, m, hm⟩ => ⟨he, n + m, by rw [hm, World.drewN_drewN, Nat.add_assoc]⟩

/-- Is a value of this type laid in several cells? -/
def multi : TypeDesc → Bool
  | .struct _ | .array _ _ => true
  | _ => false

theorem str_beq (a b : ByteArray) : (a.toList == b.toList) = decide (a = b) := by
  rw [Bool.eq_iff_iff, beq_iff_eq, decide_eq_true_eq, ByteArray.toList_eq, ByteArray.toList_eq]
  constructor
  · intro h
    obtain ⟨⟨x⟩⟩ := a
    obtain ⟨⟨y⟩⟩ := b
    simp only at h
    rw [h]
  · rintro rfl; rfl

/-- From address a on the cells cs lie. -/
def CellsAt (w : World) (a : Addr) (cs : List Value) : Prop := ∀ j v, cs[j]? = some v → w.cell? (a.add j) = some v

section
variable {P : Program} {w w' : World} {a : Addr} {cs : List Value}
theorem CellsAt.zero (h : CellsAt w a cs) {v : Value} (hv : cs[0]? = some v) : w.cell? a = some v := by
  have := h 0 v hv
  rwa [Addr.add_zero'] at this
theorem CellsAt.succ (h : CellsAt w a cs) (j : Nat) {v : Value} (hv : cs[j + 1]? = some v) : w.cell? ⟨a.block, a.off + (j + 1), none⟩ = some v := by
  have := h (j + 1) v hv
  rwa [Addr.add_succ'] at this
theorem block_add (a : Addr) (n : Nat) : (a.add n).block = a.block := by unfold Addr.add; split <;> rfl
theorem add_add (a : Addr) (i j : Nat) : (a.add i).add j = a.add (i + j) := by
  unfold Addr.add
  by_cases hi : i = 0 <;> by_cases hj : j = 0 <;> simp [hi, hj, Nat.add_assoc]
theorem CellsAt.keep (h : CellsAt w a cs) (hk : ∀ p : Addr, p.block = a.block → w'.cell? p = w.cell? p) : CellsAt w' a cs :=
  fun j v hv => (hk _ (block_add a j)).trans (h j v hv)
theorem CellsAt.part (h : CellsAt w a cs) (k : Nat) : CellsAt w (a.add k) (cs.drop k) := fun j v hv => by
  rw [add_add]
  exact h (k + j) v (by simpa using hv)
theorem CellsAt.take (h : CellsAt w a cs) (k : Nat) : CellsAt w a (cs.take k) := fun j v hv => by
  refine h j v ?_
  rw [List.getElem?_take] at hv
  split at hv
  · exact hv
  · cases hv

theorem run_loadVar_cells {ty : TypeId} {d : TypeDesc} (hu : P.underlying ty = some d) (hd : multi d = true)
    (hi : (P.info? ty).map (·.size) = some cs.length) (h : CellsAt w a cs) : (loadVar ty a).run P w = .ok (.agg cs.toArray) w := by
  have hl : (loadCells a cs.length).run P w = .ok cs.toArray w := run_loadCells_list (P := P) w a cs h
  cases hq : P.info? ty with
  | none => simp [hq] at hi
  | some i =>
    have hs : i.size = cs.length := by simpa [hq] using hi
    have hagg : (isAgg ty).run P w = .ok true w := by
      unfold isAgg
      rw [Sem.run_bind, run_underlying hu w]
      cases d <;> simp_all [multi]
    simp [loadVar, Sem.run_bind, hagg, sizeOf, typeInfo, hq, hs, hl]

theorem wp_load_cells {o : Oper} {act : Act} {K : Act → World → Prop} {Q : Exit → Act → World → Prop} (ty : TypeId) (x : Operand) (ho : o.op = .load ty x)
    (hx : act.eval x = .pointer (some a)) {d : TypeDesc} (hu : P.underlying ty = some d) (hd : multi d = true)
    (hi : (P.info? ty).map (·.size) = some cs.length) (hc : CellsAt w a cs) (h : K (act.put o.dst (.agg cs.toArray)) w) : o.wp P act w K Q := by
  unfold Oper.wp execOp
  simp only [ho, hx, Instr.loadAt, Instr.sureAddr, Sem.run_bind, Sem.run_pure, Result.andThen_ok, run_loadVar_cells hu hd hi hc]
  exact h

theorem wpList_load_cells {ops : Array Oper} {rest : List Oper} {o : Oper} {act : Act} {Q : Exit → Act → World → Prop} (hgd : o.guard = none) (ty : TypeId) (x : Operand) (ho : o.op = .load ty x)
    (a : Addr) (hx : act.eval x = .pointer (some a)) (cs : List Value) {d : TypeDesc} (hu : P.underlying ty = some d) (hd : multi d = true)
    (hi : (P.info? ty).map (·.size) = some cs.length) (hc : CellsAt w a cs) (h : wpList P ops Q rest (act.put o.dst (.agg cs.toArray)) w) : wpList P ops Q (o :: rest) act w :=
  wpList_plain hgd fun _ hK => wp_load_cells ty x ho hx hu hd hi hc (hK _ _ h)

theorem quiet_load_cells {o : Oper} {act : Act} {C : World → Prop} {K : Act → Prop} (ty : TypeId) (x : Operand) (ho : o.op = .load ty x)
    (a : Addr) (hx : act.eval x = .pointer (some a)) (cs : List Value) {d : TypeDesc} (hu : P.underlying ty = some d) (hd : multi d = true)
    (hi : (P.info? ty).map (·.size) = some cs.length) (hc : ∀ w, C w → CellsAt w a cs) (h : K (act.put o.dst (.agg cs.toArray))) : o.quiet P act C K := by
  refine ⟨.agg cs.toArray, fun w hw => ?_, h⟩
  unfold Oper.quietAt execOp
  simp only [ho, hx, Instr.loadAt, Instr.sureAddr, Sem.run_bind, Sem.run_pure, Result.andThen_ok, run_loadVar_cells hu hd hi (hc w hw)]
  exact ⟨rfl, rfl⟩
end

/-- Bytes as cells. -/
def u8s (l : List Int) : List Value := l.map (Value.int .u8)
theorem u8s_length (l : List Int) : (u8s l).length = l.length := by simp [u8s]

section
variable {P : Program} {n : Nat} (w : World)
theorem run_part_u8 {e : TypeId} {k : IntKind} (he : P.underlying e = some (.int k)) (xs : List Int) (i : Nat) (hi : i < xs.length) :
    (part e (u8s xs).toArray i).run P w = .ok (.int .u8 xs[i]) w := by
  have hagg : (isAgg e).run P w = .ok false w := by
    unfold isAgg
    rw [Sem.run_bind, run_underlying he w]
    rfl
  have hg : (u8s xs).toArray[i]? = some (.int .u8 xs[i]) := by simp [u8s, hi]
  simp [part, Sem.run_bind, hagg, hg]

theorem run_eq_loop {e : TypeId} {k : IntKind} (he : P.underlying e = some (.int k)) (d : Nat) (xs ys : List Int) :
    ∀ (m i : Nat), i + m = xs.length → i + m = ys.length →
      (forIn (List.range' i m) ((none, ()) : Option Bool × Unit) fun i _ => do
        let a ← part e (u8s xs).toArray (i * 1)
        let b ← part e (u8s ys).toArray (i * 1)
        let r ← Op.equalIn (d + 1) e a b
        if (!r) = true then pure (ForInStep.done (some false, ())) else pure (ForInStep.yield (none, ())) : Sem _).run P w =
      .ok (if xs.drop i = ys.drop i then (none, ()) else (some false, ())) w := by
  intro m
  induction m with
  | zero =>
    intro i h1 h2
    have e1 : xs.drop i = [] := List.drop_eq_nil_of_le (by omega)
    have e2 : ys.drop i = [] := List.drop_eq_nil_of_le (by omega)
    simp [e1, e2]
  | succ m ih =>
    intro i h1 h2
    have hx : i < xs.length := by omega
    have hy : i < ys.length := by omega
    rw [List.range'_succ, List.forIn_cons]
    have hd : (xs.drop i = ys.drop i) ↔ (xs[i] = ys[i] ∧ xs.drop (i + 1) = ys.drop (i + 1)) := by
      conv => lhs; rw [List.drop_eq_getElem_cons hx, List.drop_eq_getElem_cons hy]
      exact List.cons_eq_cons
    simp only [Nat.mul_one, Sem.run_bind, run_part_u8 w he xs i hx, run_part_u8 w he ys i hy, Result.andThen_ok, run_equalIn_int w d e .u8 k _ _ he]
    by_cases hxy : xs[i] = ys[i]
    · have hih := ih (i + 1) (by omega) (by omega)
      simp only [Nat.mul_one] at hih
      have hb : (!(xs[i] == ys[i])) = false := by simp [hxy]
      simp only [hb, Bool.false_eq_true, if_false, Sem.run_pure, Result.andThen_ok, hih]
      by_cases hr : xs.drop (i + 1) = ys.drop (i + 1)
      · rw [if_pos hr, if_pos (hd.2 ⟨hxy, hr⟩)]
      · rw [if_neg hr, if_neg (fun h => hr (hd.1 h).2)]
    · have hb : (!(xs[i] == ys[i])) = true := by simp [hxy]
      simp only [hb, if_true, Sem.run_pure, Result.andThen_ok]
      rw [if_neg (fun h => hxy (hd.1 h).1)]

theorem run_equalIn_u8s {t e : TypeId} {k : IntKind} {i : TypeInfo} (ht : P.underlying t = some (.array n e)) (he : P.underlying e = some (.int k)) (hi : P.info? e = some i) (hs : i.size = 1) (d : Nat) (xs ys : List Int)
    (hx : xs.length = n) (hy : ys.length = n) : (Op.equalIn (d + 2) t (.agg (u8s xs).toArray) (.agg (u8s ys).toArray)).run P w = .ok (decide (xs = ys)) w := by
  have hl := run_eq_loop w he d xs ys n 0 (by omega) (by omega)
  simp only [List.drop_zero] at hl
  rw [show d + 2 = d + 1 + 1 from rfl, Op.equalIn]
  simp only [Sem.run_bind, run_underlying ht, Result.andThen_ok, sizeOf, typeInfo, run_program, hi, Sem.run_pure, hs]
  simp only [Std.Legacy.Range.forIn_eq_forIn_range', Std.Legacy.Range.size]
  have hn : (n - 0 + 1 - 1) / 1 = n := by simp
  rw [hn, hl]
  simp only [Result.andThen_ok]
  by_cases hxy : xs = ys
  · simp [hxy]
  · simp [hxy]

theorem run_eql_u8s {t e : TypeId} {k : IntKind} {i : TypeInfo} (ht : P.underlying t = some (.array n e)) (he : P.underlying e = some (.int k)) (hi : P.info? e = some i) (hs : i.size = 1) (xs ys : List Int)
    (hx : xs.length = n) (hy : ys.length = n) : (binOp .eql t (.agg (u8s xs).toArray) (.agg (u8s ys).toArray)).run P w = .ok (.bool (decide (xs = ys))) w := by
  simp only [binOp]
  simp [Op.equal, Op.maxDepth, run_equalIn_u8s w ht he hi hs 9998 xs ys hx hy]
theorem run_neq_u8s {t e : TypeId} {k : IntKind} {i : TypeInfo} (ht : P.underlying t = some (.array n e)) (he : P.underlying e = some (.int k)) (hi : P.info? e = some i) (hs : i.size = 1) (xs ys : List Int)
    (hx : xs.length = n) (hy : ys.length = n) : (binOp .neq t (.agg (u8s xs).toArray) (.agg (u8s ys).toArray)).run P w = .ok (.bool (!decide (xs = ys))) w := by
  simp only [binOp]
  simp [Op.equal, Op.maxDepth, run_equalIn_u8s w ht he hi hs 9998 xs ys hx hy]
/-- A part that is an array, out of a struct's cells. -/
theorem run_part_cells {t : TypeId} {d : TypeDesc} {i : TypeInfo} (hu : P.underlying t = some d) (hd : multi d = true) (hi : P.info? t = some i)
    (cs : List Value) (off : Nat) : (part t cs.toArray off).run P w = .ok (.agg ((cs.drop off).take i.size).toArray) w := by
  have hagg : (isAgg t).run P w = .ok true w := by
    unfold isAgg
    rw [Sem.run_bind, run_underlying hu w]
    cases d <;> simp_all [multi]
  simp [part, Sem.run_bind, hagg, sizeOf, typeInfo, hi]
theorem run_part_one {t : TypeId} {d : TypeDesc} (hu : P.underlying t = some d) (hd : multi d = false)
    (cs : List Value) (off : Nat) {v : Value} (hv : cs[off]? = some v) : (part t cs.toArray off).run P w = .ok v w := by
  have hagg : (isAgg t).run P w = .ok false w := by
    unfold isAgg
    rw [Sem.run_bind, run_underlying hu w]
    cases d <;> simp_all [multi]
  have hg : cs.toArray[off]? = some v := by simpa using hv
  simp [part, Sem.run_bind, hagg, hg]

/-- The fields' comparison, by the three things of a field that it looks at. -/
def eqF (d : Nat) (xs ys : Array Value) : List (String × TypeId × Nat) → Sem Bool
  | [] => pure true
  | f :: fs =>
    if f.1 ≠ "_" then do
      let a ← part f.2.1 xs f.2.2
      let b ← part f.2.1 ys f.2.2
      let r ← Op.equalIn d f.2.1 a b
      if (!r) = true then pure false else eqF d xs ys fs
    else eqF d xs ys fs
theorem eqFields_eq (d : Nat) (xs ys : Array Value) (fs : List Field) : Op.eqFields d xs ys fs = eqF d xs ys (fs.map fun f => (f.name, f.type, f.offset)) := by
  induction fs with
  | nil => rfl
  | cons f fs ih => simp only [Op.eqFields, List.map_cons, eqF, ih]
theorem run_eqF_cons {d : Nat} {xs ys : Array Value} {n : String} {t : TypeId} {o : Nat} {fs : List (String × TypeId × Nat)} {a b : Value} {r x : Bool} (hn : n ≠ "_")
    (ha : (part t xs o).run P w = .ok a w) (hb : (part t ys o).run P w = .ok b w) (hr : (Op.equalIn d t a b).run P w = .ok r w)
    (hx : r = true → (eqF d xs ys fs).run P w = .ok x w) : (eqF d xs ys ((n, t, o) :: fs)).run P w = .ok (r && x) w := by
  simp only [eqF, ne_eq, hn, not_false_eq_true, if_true, Sem.run_bind, ha, hb, hr, Result.andThen_ok]
  cases r
  · simp
  · simp [hx rfl]
theorem run_eqF_nil {d : Nat} {xs ys : Array Value} : (eqF d xs ys []).run P w = .ok true w := rfl
end

/-- The cells of block n. -/
def row (W : World) (n : Nat) : Array Value := match W.heap[n]? with
  | some (.cells cs _ _) => cs
  | _ => #[]
/-- Block n holds cells, none frozen. -/
def free (W : World) (n : Nat) : Bool := match W.heap[n]? with
  | some (.cells _ _ fr) => fr == (0, 0)
  | _ => false
/-- Each takes one cell. -/
def ones (cs : Array Value) : Bool := cs.all (·.oneCell')
/-- cs laid over cur from o on. -/
def splice (cur : Array Value) (o : Nat) (cs : Array Value) : Array Value := (cur.toList.take o ++ cs.toList ++ cur.toList.drop (o + cs.size)).toArray

theorem free_iff {W : World} {n : Nat} (h : free W n = true) : ∃ t, W.heap[n]? = some (.cells (row W n) t (0, 0)) := by
  unfold free at h
  unfold row
  split at h
  · rename_i cs t fr hh
    rw [hh]
    exact ⟨t, by simp only [beq_iff_eq] at h; rw [h]⟩
  · cases h
theorem free_of {W : World} {n : Nat} {cs : Array Value} {t : TypeId} (h : W.heap[n]? = some (.cells cs t (0, 0))) : free W n = true := by simp [free, h]
theorem row_of {W : World} {n : Nat} {cs : Array Value} {t : TypeId} {fr : Nat × Nat} (h : W.heap[n]? = some (.cells cs t fr)) : row W n = cs := by simp [row, h]

section
variable (W : World) (n : Nat)
theorem row_drew : row W.drew n = row W n := rfl
theorem row_drewN (k : Nat) : row (W.drewN k) n = row W n := rfl
theorem free_drew : free W.drew n = free W n := rfl
theorem free_drewN (k : Nat) : free (W.drewN k) n = free W n := rfl
theorem row_alloc_at (cs : Array Value) (t : TypeId) (h : n = W.heap.size) : row (W.alloc (.cells cs t)) n = cs := by subst h; exact row_of (heap_alloc_new W _)
theorem row_alloc_past (o : Obj) (h : n < W.heap.size) : row (W.alloc o) n = row W n := by unfold row; rw [Below.heap_alloc W o n h]
theorem free_alloc_at (cs : Array Value) (t : TypeId) (h : n = W.heap.size) : free (W.alloc (.cells cs t)) n = true := by subst h; exact free_of (heap_alloc_new W _)
theorem free_alloc_past (o : Obj) (h : n < W.heap.size) : free (W.alloc o) n = free W n := by unfold free; rw [Below.heap_alloc W o n h]
theorem row_setCell_past (p : Addr) (v : Value) (h : n ≠ p.block) : row (W.setCell p v) n = row W n := by unfold row; rw [Below.heap_setCell W p v n h]
theorem free_setCell_past (p : Addr) (v : Value) (h : n ≠ p.block) : free (W.setCell p v) n = free W n := by unfold free; rw [Below.heap_setCell W p v n h]
theorem setRow_drew (cs : Array Value) : W.drew.setRow n cs = (W.setRow n cs).drew := rfl
theorem setRow_alloc_at (cs cs' : Array Value) (t : TypeId) (h : n = W.heap.size) : (W.alloc (.cells cs t)).setRow n cs' = W.alloc (.cells cs' t) := by
  subst h
  unfold World.setRow World.alloc
  congr 1
  apply Array.ext
  · simp
  · intro k h1 h2
    simp only [Array.getElem_modify]
    split
    · rename_i hk; subst hk; simp
    · rename_i hk
      simp only [Array.size_modify, Array.size_push] at h1
      rw [Array.getElem_push_lt (by omega), Array.getElem_push_lt (by omega)]
theorem setRow_alloc_past (o : Obj) (cs : Array Value) (h : n < W.heap.size) : (W.alloc o).setRow n cs = (W.setRow n cs).alloc o := by
  unfold World.setRow World.alloc
  congr 1
  apply Array.ext
  · simp
  · intro k h1 h2
    simp only [Array.size_modify, Array.size_push] at h1 h2
    by_cases hk : k = W.heap.size
    · subst hk
      simp only [Array.getElem_modify, Array.getElem_push]
      rw [if_neg (by omega)]
      simp
    · simp only [Array.getElem_modify, Array.getElem_push]
      have : k < W.heap.size := by omega
      simp [this]
theorem size_setRow' (cs : Array Value) : (W.setRow n cs).heap.size = W.heap.size := by simp

theorem run_load_row {P : Program} {ty : TypeId} {d : TypeDesc} {sz : Nat} (hu : P.underlying ty = some d) (hd : multi d = true) (hi : (P.info? ty).map (·.size) = some sz) (o : Nat)
    (hf : free W n = true) (hl : o + sz ≤ (row W n).size) : (loadVar ty ⟨n, o, none⟩).run P W = .ok (.agg ((row W n).extract o (o + sz))) W := by
  obtain ⟨t, ht⟩ := free_iff hf
  have e : (row W n).extract o (o + sz) = (((row W n).extract o (o + sz)).toList).toArray := Array.toArray_toList.symm
  rw [e]
  refine run_loadVar_cells hu hd (by rw [hi]; simp; omega) ?_
  intro j v hv
  have hadd : (⟨n, o, none⟩ : Addr).add j = ⟨n, o + j, none⟩ := Addr.add_lit n o j
  rw [hadd, cell_of_row W n (o + j) _ _ _ ht]
  simp only [Array.getElem?_toList, Array.getElem?_extract] at hv
  split at hv
  · exact hv
  · cases hv
theorem run_store_row {P : Program} {ty : TypeId} {sz : Nat} (hi : (P.info? ty).map (·.size) = some sz) (o : Nat) (cs : Array Value) (h1 : ones cs = true) (hs : cs.size = sz)
    (hf : free W n = true) (hl : o + sz ≤ (row W n).size) : (storeVar ty ⟨n, o, none⟩ (.agg cs)).run P W = .ok () (W.setRow n (splice (row W n) o cs)) := by
  obtain ⟨t, ht⟩ := free_iff hf
  have h := run_storeCells_at P n o t cs.toList 0 (row W n) W ht (by simp; omega) (fun v hv => (Array.all_eq_true_iff_forall_mem.1 h1) v (by simpa using hv))
  cases hq : P.info? ty with
  | none => simp [hq] at hi
  | some i =>
    have hsz : cs.size = i.size := by simp [hq] at hi; omega
    have hst : (storeCells ⟨n, o, none⟩ cs.toList).run P W = .ok () (W.setRow n (splice (row W n) o cs)) := by
      unfold splice
      have h' := h
      simp only [Nat.add_zero, Array.length_toList] at h'
      exact h'
    simp [storeVar, sizeOf, typeInfo, hq, Value.cells, hsz, hst]
end

/-- All that lay in w lies in W as it did. -/
structure Later (w W : World) : Prop where
  size : w.heap.size ≤ W.heap.size
  same : ∀ g, g < w.heap.size → W.heap[g]? = w.heap[g]?
section
variable {w W : World}
theorem later_refl (w : World) : Later w w := ⟨Nat.le_refl _, fun _ _ => rfl⟩
theorem later_drew (h : Later w W) : Later w W.drew := ⟨h.size, h.same⟩
theorem later_drewN (h : Later w W) (k : Nat) : Later w (W.drewN k) := ⟨h.size, h.same⟩
theorem later_alloc (h : Later w W) (o : Obj) : Later w (W.alloc o) := ⟨by have := h.size; simp; omega, fun g hg => (Below.heap_alloc W o g (by have := h.size; omega)).trans (h.same g hg)⟩
theorem later_setCell (h : Later w W) (p : Addr) (v : Value) (hp : w.heap.size ≤ p.block) : Later w (W.setCell p v) := ⟨by have := h.size; simpa using this, fun g hg => (Below.heap_setCell W p v g (by omega)).trans (h.same g hg)⟩
theorem later_setRow (h : Later w W) (n : Nat) (cs : Array Value) (hp : w.heap.size ≤ n) : Later w (W.setRow n cs) := ⟨by have := h.size; simpa using this, fun g hg => (setRow_other W n g cs (by omega)).trans (h.same g hg)⟩
theorem Later.trans {V : World} (h : Later w W) (k : Later W V) : Later w V := ⟨Nat.le_trans h.size k.size, fun g hg => (k.same g (Nat.lt_of_lt_of_le hg h.size)).trans (h.same g hg)⟩
theorem Later.cell (h : Later w W) {p : Addr} (hp : p.block < w.heap.size) : W.cell? p = w.cell? p := World.cell?_of_block (h.same _ hp)
theorem later_of_below {B : Nat} (h : Below B w W) (hB : w.heap.size ≤ B) : Later w W := ⟨h.size, fun g hg => h.block g (by omega)⟩
end

theorem foldl_set (cs : List Value) : ∀ (k : Nat) (base : Array Value), k + cs.length ≤ base.size →
    (cs.zipIdx k).foldl (fun acc x => acc.setIfInBounds (0 + x.2) x.1) base = (base.toList.take k ++ cs ++ base.toList.drop (k + cs.length)).toArray := by
  induction cs with
  | nil => intro k base _; simp
  | cons c cs ih =>
    intro k base h
    simp only [List.length_cons] at h
    rw [List.zipIdx_cons, List.foldl_cons, ih (k + 1) _ (by simp; omega)]
    apply Array.ext'
    apply List.ext_getElem?
    intro j
    simp only [Nat.zero_add, Array.toList_setIfInBounds, List.getElem?_append, List.length_append, List.length_take, List.length_set, Array.length_toList, List.length_cons]
    rw [show min (k + 1) base.size = k + 1 by omega, show min k base.size = k by omega]
    by_cases h1 : j < k
    · rw [if_pos (by omega), if_pos (by omega), if_pos (by omega), if_pos h1]
      rw [List.getElem?_take, List.getElem?_take, if_pos (by omega), if_pos h1, List.getElem?_set_ne (by omega)]
    · by_cases h2 : j = k
      · subst h2
        rw [if_pos (by omega), if_pos (by omega), if_pos (by omega), if_neg (by omega)]
        rw [List.getElem?_take, if_pos (by omega), List.getElem?_set_self (by simp; omega)]
        simp
      · by_cases h3 : j < k + 1 + cs.length
        · rw [if_pos h3, if_neg (by omega), if_pos (by omega), if_neg (by omega)]
          rw [show j - k = (j - (k + 1)) + 1 by omega]
          simp
        · rw [if_neg h3, if_neg (by omega)]
          rw [List.getElem?_drop, List.getElem?_drop, List.getElem?_set_ne (by omega)]
          congr 1
          omega

theorem run_build_one {P : Program} (W : World) {t e : TypeId} {sz : Nat} (hu : P.underlying t = some (.slice e)) (hsz : (P.info? e).map (·.size) = some sz) (hz : ((P.info? e).bind (·.zero)).isSome = true)
    (cs : Array Value) (hs : cs.size = sz) (h0 : 0 < sz) (h24 : sz ≤ 2 ^ 24) :
    (Instr.buildSlice t 1 #[(0, .agg cs)]).run P W = .ok (.slice (some ⟨W.heap.size, 0, none⟩) 1 1) (W.alloc (.cells cs e)) := by
  cases hie : P.info? e with
  | none => simp [hie] at hsz
  | some ie =>
    simp only [hie, Option.map_some, Option.some.injEq, Option.bind_some] at hsz hz
    obtain ⟨z, hzz⟩ := Option.isSome_iff_exists.1 hz
    refine run_buildSlice W t e 1 _ cs ie z hu hie hzz (by rw [hsz]; omega) (by rw [hsz]; omega) ?_
    have hb : ((Array.range (1 * ie.size)).map (z.cells[· % z.cells.size]!)).size = sz := by simp [hsz]
    simp only [Instr.fill, Value.cells, Nat.zero_mul, hsz, hs]
    rw [if_neg (by simp)]
    congr 1
    rw [← Array.foldl_toList, Array.toList_zipIdx]
    have h := foldl_set cs.toList 0 ((Array.range (1 * sz)).map (z.cells[· % z.cells.size]!)) (by simp; omega)
    refine h.trans ?_
    rw [List.drop_eq_nil_of_le (by simp; omega)]
    simp
section
variable (w : World) (a b c d : Obj)
theorem later_a1 : Later w (w.alloc a) := later_alloc (later_refl w) a
theorem later_a2 : Later w ((w.alloc a).alloc b) := later_alloc (later_a1 w a) b
theorem later_a3 : Later w (((w.alloc a).alloc b).alloc c) := later_alloc (later_a2 w a b) c
theorem later_a4 : Later w ((((w.alloc a).alloc b).alloc c).alloc d) := later_alloc (later_a3 w a b c) d
theorem later_drew_iff (W : World) : Later w W.drew = Later w W := propext ⟨fun h => ⟨h.size, h.same⟩, later_drew⟩
theorem later_drewN_iff (W : World) (k : Nat) : Later w (W.drewN k) = Later w W := propext ⟨fun h => ⟨h.size, h.same⟩, fun h => later_drewN h k⟩
end
theorem new_cells (W : World) (cs : List Value) (t : TypeId) (n : Nat) (hn : n = W.heap.size) : ∀ j u, cs[j]? = some u → (W.alloc (.cells cs.toArray t)).cell? ((⟨n, 0, none⟩ : Addr).add j) = some u := by
  intro j u hu
  subst hn
  rw [Addr.add_lit, Nat.zero_add]
  simpa using hu
theorem small_len {n : Nat} (h : n ≤ 1048576) : n ≤ maxLen := by unfold maxLen; omega

/-- The slice at A, below block B, holds the one-cell values xs. -/
def Rv (B : Nat) (w : World) (A : Option Addr) (xs : List Value) : Prop := ∀ k x, xs[k]? = some x → ∃ ad : Addr, A = some ad ∧ ad.block < B ∧ w.cell? (ad.add k) = some x
section
variable {B : Nat} {w w' : World} {A : Option Addr} {xs : List Value}
theorem Rv.keep (h : Rv B w A xs) (hk : ∀ p : Addr, p.block < B → w'.cell? p = w.cell? p) : Rv B w' A xs := fun k x hx => by
  obtain ⟨ad, e, hb, hc⟩ := h k x hx
  exact ⟨ad, e, hb, (hk _ (by rw [block_add]; exact hb)).trans hc⟩
theorem Rv.below (h : Rv B w A xs) (hb : Below B w w') : Rv B w' A xs := h.keep fun _ hp => hb.cell hp
theorem Rv.more (h : Rv B w A xs) {C : Nat} (hc : B ≤ C) : Rv C w A xs := fun k x hx => by
  obtain ⟨ad, e, hb, hcell⟩ := h k x hx
  exact ⟨ad, e, by omega, hcell⟩
theorem Rv.drewN (h : Rv B w A xs) (n : Nat) : Rv B (w.drewN n) A xs := h.keep fun _ _ => rfl
theorem Rv.at_ (h : Rv B w A xs) {k : Nat} {x : Value} (hx : xs[k]? = some x) : ∃ ad : Addr, A = some ad ∧ ad.block < B ∧ w.cell? (ad.add k) = some x := h k x hx
theorem Rv.some_ (h : Rv B w A xs) (hne : 0 < xs.length) : ∃ ad : Addr, A = some ad ∧ ad.block < B ∧ ∀ k x, xs[k]? = some x → w.cell? (ad.add k) = some x := by
  obtain ⟨ad, e, hb, _⟩ := h 0 xs[0] (List.getElem?_eq_getElem hne)
  refine ⟨ad, e, hb, fun k x hx => ?_⟩
  obtain ⟨ad', e', _, hc⟩ := h k x hx
  obtain rfl : ad = ad' := by rw [e] at e'; injection e'
  exact hc
theorem Rv.nil : Rv B w A [] := fun k x hx => by simp at hx
/-- A part of it, from k on. -/
theorem Rv.part (h : Rv B w A xs) (k : Nat) {ad : Addr} (e : A = some ad) (n : Nat) : Rv B w (some (ad.add k)) ((xs.drop k).take n) := fun j x hx => by
  have hx' : xs[k + j]? = some x := by
    rw [List.getElem?_take] at hx
    split at hx
    · simpa using hx
    · cases hx
  obtain ⟨ad', e', hb, hc⟩ := h (k + j) x hx'
  obtain rfl : ad = ad' := by rw [e] at e'; injection e'
  exact ⟨_, rfl, by rw [block_add]; exact hb, by rw [add_add]; exact hc⟩
theorem own_rv {C : Nat} {e : TypeId} {size : Nat} {v : Value} {n : Nat} (h : w.ownsRow C e size v n xs) : ∃ D d, v = .slice D n d ∧ (D = none → d = 0) ∧ Rv w.heap.size w D xs := by
  rcases h.2 with ⟨rfl, h0⟩ | ⟨b, cap, cur, rfl, hb, hh, hcap, hrest⟩
  · have hl : xs = [] := by have := h.1; rw [h0, Nat.zero_mul] at this; exact List.eq_nil_of_length_eq_zero this
    subst hl h0
    exact ⟨none, 0, rfl, fun _ => rfl, Rv.nil⟩
  · refine ⟨some ⟨b, 0, none⟩, cap, rfl, (fun e => by cases e), fun k x hx => ⟨⟨b, 0, none⟩, rfl, (Array.getElem?_eq_some_iff.1 hh).1, ?_⟩⟩
    have hk : k < xs.length := (List.getElem?_eq_some_iff.1 hx).1
    have h1 := h.cellAt (g := b) k (by rw [h.1] at hk; exact hk)
    rw [Addr.add_lit, Nat.zero_add]
    exact h1.trans hx
end
theorem below_dr {B : Nat} {a w : World} (h : Below B a w) (n : Nat) : Below B a (w.drewN n) := ⟨h.os, h.tape, h.output, h.size, h.block⟩
def ints (l : List Int) : List Value := l.map (Value.int .i64)
def strs (l : List ByteArray) : List Value := l.map Value.string
theorem own_one {w : World} {B : Nat} {e : TypeId} {size : Nat} {v : Value} {n : Nat} {xs : List Value} (h : w.ownsRow B e size v n xs) : v.oneCell' = true := by
  rcases h.2 with ⟨rfl, _⟩ | ⟨b, cap, cur, rfl, _⟩ <;> rfl
section
variable {P : Program} {w : World}
/-- A store of one cell, the world behind it by a name. -/
theorem wpList_store1 {ops : Array Oper} {rest : List Oper} {o : Oper} {a : Act} {Q : Exit → Act → World → Prop} (hgd : o.guard = none) (ty : TypeId) (x y : Operand) (ho : o.op = .store ty x y)
    (p : Addr) (hx : a.eval x = .pointer (some p)) (v old : Value) (hy : a.eval y = v) (h1 : v.oneCell' = true) (hi : (P.info? ty).map (·.size) = some 1) (hc : w.cell? p = some old) (hf : w.frozen? p = false)
    (hd : o.dst = none) (h : ∀ W, W = w.setCell p v → wpList P ops Q rest a W) : wpList P ops Q (o :: rest) a w := by
  have h : ∀ W, W = w.setCell p v → wpList P ops Q rest (a.put o.dst undef) W := by rw [hd]; exact h
  refine wpList_plain hgd fun K hK => ?_
  cases hq : P.info? ty with
  | none => simp [hq] at hi
  | some i =>
    have hs : i.size = 1 := by simpa [hq] using hi
    have hv : v.cells = #[v] := by cases v <;> first | rfl | simp [Value.oneCell'] at h1
    have hst : (store p v).run P w = .ok () (w.setCell p v) := by
      rw [run_store P w p v _ h1, hc]
      simp [hf]
    unfold Oper.wp execOp
    simp only [ho, hx, hy, Instr.storeAt, Instr.sureAddr, Sem.run_bind, Sem.run_pure, Result.andThen_ok, storeVar, sizeOf, typeInfo, run_program, hq, hs, hv]
    simp [storeCells, hst, Addr.add_zero']
    exact hK _ _ (h _ rfl)
end
end Go.Proofs.YtbmpidacoohdmaaGreat
namespace Go.Proofs.YtbmpidacoohdmaaGreat
open Go.RowKit

def bs (l : List UInt8) : ByteArray := ⟨l.toArray⟩
def bys (l : List UInt8) : List Value := l.map fun b => Value.int .u8 (b.toNat : Int)
theorem bs_size (l : List UInt8) : (bs l).size = l.length := by simp [bs, ByteArray.size]
theorem bs_append (l k : List UInt8) : bs l ++ bs k = bs (l ++ k) := by
  apply ByteArray.ext
  simp [bs]
theorem bs_of (s : ByteArray) : bs s.data.toList = s := by
  apply ByteArray.ext
  simp [bs]
theorem bs_at {p : List UInt8} {k : Nat} (h : k < (bs p).size) : (bs p)[k] = p.getD k 0 := by
  have hp : k < p.length := by rw [bs_size] at h; exact h
  simp [bs, hp, ByteArray.getElem_eq_getElem_data]
theorem bys_at {l : List UInt8} {k : Nat} (h : k < l.length) : (bys l)[k]? = some (.int .u8 ((l.getD k 0).toNat : Int)) := by simp [bys, h]
theorem bys_len (l : List UInt8) : (bys l).length = l.length := by simp [bys]
theorem bys_app (a b : List UInt8) : bys a ++ bys b = bys (a ++ b) := by simp [bys]
theorem bys_one (l : List UInt8) : ∀ u ∈ bys l, u.oneCell' = true := by simp [bys, Value.oneCell']
theorem bys_part (l : List UInt8) (k n : Nat) : ((bys l).drop k).take n = bys ((l.drop k).take n) := by simp [bys, List.map_take, List.map_drop]
def by8 (n : Nat) : UInt8 := UInt8.ofNat (n % 256)
theorem by8_nat (n : Nat) : (by8 n).toNat = n % 256 := by simp [by8]
/-- A slice type t of elements e, each of so many cells and bytes. -/
structure Sl (P : Program) (t e : TypeId) (size bytes : Nat) : Prop where
  und : P.underlying t = some (.slice e)
  inf : (P.info? e).map (fun i => (i.zero.map (·.cells.size), i.size, i.bytes)) = some (some size, size, bytes)
  pos : 0 < size
theorem Sl.parts {P : Program} {t e : TypeId} {size bytes : Nat} (h : Sl P t e size bytes) : ∃ i z, P.info? e = some i ∧ i.zero = some z ∧ i.size = size ∧ i.bytes = bytes ∧ z.cells.size = size := by
  have h2 := h.inf
  cases hq : P.info? e with
  | none => simp [hq] at h2
  | some i =>
    simp only [hq, Option.map_some, Option.some.injEq, Prod.mk.injEq] at h2
    obtain ⟨a, b, c⟩ := h2
    obtain ⟨z, hz, hs⟩ := Option.map_eq_some_iff.1 a
    exact ⟨i, z, rfl, hz, b, c, hs⟩

/-- What an append does to the value and to the world. -/
structure Apd (v v2 : Value) (w w2 : World) : Prop where
  grown : w.grownBy w2 v.ownBlock
  here : v2.ownBlock = v.ownBlock ∨ v2.ownBlock = some w.heap.size

section
variable {P : Program} {w : World}
theorem run_app {t e : TypeId} {size bytes : Nat} (sl : Sl P t e size bytes) (ty : TypeId) (base : Nat) (v : Value) (n : Nat) (xs : List Value) (hown : w.ownsRow base e size v n xs)
    {B : Nat} (A : Option Addr) (m c : Nat) (news : List Value) (hnone : A = none → c = 0) (hl : news.length = m * size) (hr : Rv B w A news) (h1 : ∀ u ∈ news, u.oneCell' = true)
    (h63 : n + m ≤ maxLen) (hbytes : (n + m) * bytes ≤ 140737488355328) (hbase : base ≤ w.heap.size) :
    ∃ v2 w2, (Builtin.append_ #[t, t] ty #[v, .slice A m c]).run P w = .ok v2 w2 ∧ w2.ownsRow base e size v2 (n + m) (xs ++ news) ∧ Apd v v2 w w2 := by
  obtain ⟨i, z, hi, hz, hs1, hb, hzs⟩ := sl.parts
  rcases A with _ | ad
  · have hm : m = 0 := by
      rcases Nat.eq_zero_or_pos m with h0 | h0
      · exact h0
      · have : 0 < news.length := by rw [hl]; exact Nat.mul_pos h0 sl.pos
        obtain ⟨_, e, _⟩ := hr 0 _ (List.getElem?_eq_getElem this)
        cases e
    subst hm
    obtain rfl := hnone rfl
    have hn : news = [] := List.eq_nil_of_length_eq_zero (by simpa using hl)
    subst hn
    refine ⟨v, w, run_append_owned_none (P := P) (w := w) base t ty e i size sl.und hi v n xs hown, by simpa using hown, ⟨⟨rfl, rfl, rfl, Nat.le_refl _, fun _ _ _ => rfl⟩, .inl rfl⟩⟩
  · obtain ⟨v2, w2, hr2, h2, h3, _, h5⟩ := run_append_own_at (P := P) (w := w) base t ty e i z size bytes sl.und hi hz hs1 hb hzs sl.pos v n xs hown ad m c news hl (fun j u hu => by
      obtain ⟨ad2, e, _, hc⟩ := hr j u hu
      cases e
      exact hc) h1 h63 hbytes hbase
    exact ⟨v2, w2, hr2, h2, h3, h5⟩
theorem wpList_app {ops : Array Oper} {rest : List Oper} {o : Oper} {a : Act} {Q : Exit → Act → World → Prop} {t e : TypeId} {size bytes : Nat} (sl : Sl P t e size bytes) (hgd : o.guard = none) (s x : Operand)
    (ho : o.op = .call { callee := .builtin .append, args := #[s, x], argTypes := #[t, t] }) (base : Nat) (v : Value) (n : Nat) (xs : List Value) (hs : a.eval s = v) (hown : w.ownsRow base e size v n xs)
    {B : Nat} (A : Option Addr) (m c : Nat) (news : List Value) (hx : a.eval x = .slice A m c) (hnone : A = none → c = 0) (hl : news.length = m * size) (hr : Rv B w A news) (h1 : ∀ u ∈ news, u.oneCell' = true)
    (h63 : n + m ≤ maxLen) (hbytes : (n + m) * bytes ≤ 140737488355328) (hbase : base ≤ w.heap.size)
    (h : ∀ v2 w2, w2.ownsRow base e size v2 (n + m) (xs ++ news) → Apd v v2 w w2 → wpList P ops Q rest (a.put o.dst v2) w2) : wpList P ops Q (o :: rest) a w := by
  refine wpList_plain hgd fun K hK => ?_
  obtain ⟨v2, w2, hr2, h2, h3⟩ := run_app sl o.type base v n xs hown A m c news hnone hl hr h1 h63 hbytes hbase
  unfold Oper.wp execOp
  simp only [ho, resolve, invoke, builtin, Sem.run_bind, Sem.run_pure, Result.andThen_ok, List.map_toArray, List.map_cons, List.map_nil, hs, hx, hr2]
  exact hK _ _ (h v2 w2 h2 h3)
/-- A slice of n zeros. -/
theorem make_zero {t e bytes : Nat} {z : Value} (sl : Sl P t e 1 bytes) (hz : (P.info? e).bind (·.zero) = some z) (h1 : z.cells = #[z]) (lo n : Nat) (hlo : lo ≤ n) (hb : n * bytes ≤ 140737488355328) (hm : n ≤ 4611686018427387904) (W : World) :
    (Instr.makeSlice t (.int .i64 lo) (.int .i64 n)).run P W = .ok (.slice (some ⟨W.heap.size, 0, none⟩) lo n) (W.alloc (.cells (List.replicate n z).toArray e)) := by
  obtain ⟨i, z2, hi, hz2, hs1, hb2, hzs⟩ := sl.parts
  obtain rfl : z2 = z := by simpa [hi, hz2] using hz
  have h := run_make (P := P) W t e i z2 sl.und hi hz2 .i64 .i64 lo n (by omega) (by omega) (by rw [hb2, Int.mul_comm]; exact Int.le_trans (by rw [← Int.natCast_mul]; exact Int.ofNat_le.2 hb) (by decide : ((140737488355328 : Nat) : Int) ≤ 281474976710656)) (by omega)
  rw [h, hs1]
  have e : (madeCells z2.cells ((n : Int).toNat * 1)) = (List.replicate n z2).toArray := by
    apply Array.ext'
    simp only [Int.toNat_natCast, Nat.mul_one]
    rw [h1, toList_madeCells_one]
  rw [e]
  simp
end

theorem own_all {w : World} {C : Nat} {e : TypeId} {size : Nat} {v : Value} {n : Nat} {xs : List Value} (h : w.ownsRow C e size v n xs) : ∃ D d, v = .slice D n d ∧ (D = none → d = 0) ∧ n ≤ d ∧ Rv w.heap.size w D xs ∧ ∀ ad, D = some ad → C ≤ ad.block ∧ ad.block < w.heap.size := by
  obtain ⟨D, d, rfl, hD, hR⟩ := own_rv h
  refine ⟨D, d, rfl, hD, ?_, hR, ?_⟩
  · rcases h.2 with ⟨e1, e2⟩ | ⟨g, cap, cur, e1, _, _, hc, _⟩
    · omega
    · injection e1 with _ _ e3; omega
  · rcases h.2 with ⟨e1, e2⟩ | ⟨g, cap, cur, e1, hb, hg, hc, _⟩
    · intro ad e3; subst e3; cases e1
    · intro ad e3
      injection e1 with e4 _ _
      rw [e3] at e4
      injection e4 with e4
      subst e4
      exact ⟨hb, (Array.getElem?_eq_some_iff.1 hg).1⟩
theorem own_block {w : World} {C : Nat} {e : TypeId} {v : Value} {n : Nat} {xs : List Value} (h : w.ownsRow C e 1 v n xs) (hn : 0 < n) : ∃ b cap, v = .slice (some ⟨b, 0, none⟩) n cap ∧ C ≤ b ∧ b < w.heap.size ∧ n ≤ cap ∧ ∀ j x, xs[j]? = some x → w.cell? ⟨b, j, none⟩ = some x := by
  rcases h.2 with ⟨_, h0⟩ | ⟨b, cap, cur, rfl, hb, hh, hc, hrest⟩
  · omega
  · refine ⟨b, cap, rfl, hb, (Array.getElem?_eq_some_iff.1 hh).1, hc, fun j x hx => ?_⟩
    have hj : j < xs.length := (List.getElem?_eq_some_iff.1 hx).1
    have h1 := h.cellAt (g := b) j (by rw [h.1] at hj; exact hj)
    exact h1.trans hx
theorem own_far {w : World} {C : Nat} {e : TypeId} {size : Nat} {v : Value} {n : Nat} {xs : List Value} (h : w.ownsRow C e size v n xs) {g : Nat} (hg : g < C) : some g ≠ v.ownBlock := fun e1 => by have := (h.lt g e1.symm).1; omega
theorem own_less {w : World} {B C : Nat} {e : TypeId} {size : Nat} {v : Value} {n : Nat} {xs : List Value} (h : w.ownsRow C e size v n xs) (hb : B ≤ C) : w.ownsRow B e size v n xs := by
  refine ⟨h.1, ?_⟩
  rcases h.2 with h2 | ⟨b, cap, cur, hv, hc, hrest⟩
  · exact .inl h2
  · exact .inr ⟨b, cap, cur, hv, by omega, hrest⟩
theorem conv_rv {P : Program} {src dst e : TypeId} (hs : P.underlying src = some (.slice e)) (he : P.underlying e = some (.int .u8)) (hd : P.underlying dst = some .string) {B : Nat} {w : World} {D : Option Addr} {l : List UInt8} (d : Nat) (h : Rv B w D (bys l)) :
    (convert src dst (.slice D l.length d)).run P w = .ok (.string (bs l)) w := by
  rcases D with _ | ad
  · have hl : l = [] := by
      rcases l with _ | ⟨x, l⟩
      · rfl
      · obtain ⟨_, e, _⟩ := h 0 _ rfl
        cases e
    subst hl
    exact Lib.run_convert_nil_bytes w src dst e d hs he hd
  · refine run_convert_bytes_back w src dst e ad d l hs he hd (fun j hj => ?_)
    obtain ⟨ad2, e2, _, hc⟩ := h j (.int .u8 (l[j].toNat : Int)) (by simp [bys, hj])
    cases e2
    exact hc
theorem new_rv (w : World) (cs : List Value) (t : TypeId) (ad : Addr) (h : ad = ⟨w.heap.size, 0, none⟩) : Rv (w.heap.size + 1) (w.alloc (.cells cs.toArray t)) (some ad) cs := fun k x hx =>
  ⟨ad, rfl, by subst h; simp, by subst h; exact new_cells w cs t _ rfl k x hx⟩
theorem cell_heap {w w2 : World} {p : Addr} (h : w2.heap[p.block]? = w.heap[p.block]?) : w2.cell? p = w.cell? p := World.cell?_of_block h
theorem below_of_grown {B : Nat} {w w2 : World} {r : Option Nat} (h : w.grownBy w2 r) (hB : B ≤ w.heap.size) (hr : ∀ k, r = some k → B ≤ k) : Below B w w2 :=
  ⟨h.os, h.tape, h.output, h.size, fun k hk => h.block k (by omega) (fun e => by have := hr k e.symm; omega)⟩

/-- A struct (of type t) in block g whose one field is a slice v of elements e (one cell each) that it owns: xs. -/
structure Box1 (w : World) (B g : Nat) (t e : TypeId) (v : Value) (xs : List Value) : Prop where
  blk : w.heap[g]? = some (.cells #[v] t (0, 0))
  own : w.ownsRow B e 1 v xs.length xs
  off : v.ownBlock ≠ some g
/-- From v in w to v2 in w2: only block g and the slice's own array have turned. -/
structure Stp (g : Nat) (v : Value) (w : World) (v2 : Value) (w2 : World) : Prop where
  os : w2.os = w.os
  tape : w2.tape = w.tape
  output : w2.output = w.output
  size : w.heap.size ≤ w2.heap.size
  block : ∀ k, k < w.heap.size → k ≠ g → v.ownBlock ≠ some k → w2.heap[k]? = w.heap[k]?
  here : v2.ownBlock = v.ownBlock ∨ ∃ b, v2.ownBlock = some b ∧ w.heap.size ≤ b
section
variable {w w2 w3 : World} {B g : Nat} {t e : TypeId} {v v2 v3 : Value} {xs : List Value}
theorem Box1.lt (h : Box1 w B g t e v xs) : g < w.heap.size := (Array.getElem?_eq_some_iff.1 h.blk).1
theorem Box1.cell (h : Box1 w B g t e v xs) : w.cell? ⟨g, 0, none⟩ = some v := by rw [cell_of_row w g 0 _ _ _ h.blk]; rfl
theorem Box1.frozen (h : Box1 w B g t e v xs) : w.frozen? ⟨g, 0, none⟩ = false := frozen_of_row w g 0 _ _ h.blk
theorem Box1.keep (h : Box1 w B g t e v xs) (hk : ∀ k, (k = g ∨ v.ownBlock = some k) → k < w.heap.size → w2.heap[k]? = w.heap[k]?) : Box1 w2 B g t e v xs := by
  refine ⟨(hk g (.inl rfl) h.lt).trans h.blk, ?_, h.off⟩
  refine ⟨h.own.1, ?_⟩
  rcases h.own.2 with h2 | ⟨b, cap, cur, hv, hb, hh, hrest⟩
  · exact .inl h2
  · exact .inr ⟨b, cap, cur, hv, hb, (hk b (.inr (by rw [hv]; rfl)) (Array.getElem?_eq_some_iff.1 hh).1).trans hh, hrest⟩
theorem Box1.alloc (h : Box1 w B g t e v xs) (o : Obj) : Box1 (w.alloc o) B g t e v xs := h.keep fun k _ hk => Below.heap_alloc w o k hk
theorem Box1.drewN (h : Box1 w B g t e v xs) (n : Nat) : Box1 (w.drewN n) B g t e v xs := h.keep fun _ _ _ => rfl
theorem Box1.old (h : Box1 w B g t e v xs) {k : Nat} (hk : v.ownBlock = some k) : B ≤ k ∧ k < w.heap.size := h.own.lt k hk
theorem Stp.refl (g : Nat) (v : Value) (w : World) : Stp g v w v w := ⟨rfl, rfl, rfl, Nat.le_refl _, fun _ _ _ _ => rfl, .inl rfl⟩
theorem Stp.trans (h : Stp g v w v2 w2) (k : Stp g v2 w2 v3 w3) : Stp g v w v3 w3 := by
  refine ⟨k.os.trans h.os, k.tape.trans h.tape, k.output.trans h.output, Nat.le_trans h.size k.size, fun j hj hg hv => ?_, ?_⟩
  · refine (k.block j (Nat.lt_of_lt_of_le hj h.size) hg (fun e => ?_)).trans (h.block j hj hg hv)
    rcases h.here with e2 | ⟨b, e2, hb⟩
    · exact hv (e2 ▸ e)
    · rw [e2] at e; injection e with e; omega
  · have hs := h.size
    rcases k.here with e2 | ⟨b, e2, hb⟩
    · rw [e2]; exact h.here
    · exact .inr ⟨b, e2, by omega⟩
theorem Stp.alloc (h : Stp g v w v2 w2) (o : Obj) : Stp g v w v2 (w2.alloc o) := by
  refine ⟨h.os, h.tape, h.output, by have := h.size; simp; omega, fun j hj hg hv => ?_, h.here⟩
  exact (Below.heap_alloc w2 o j (Nat.lt_of_lt_of_le hj h.size)).trans (h.block j hj hg hv)
theorem Stp.drewN (h : Stp g v w v2 w2) (n : Nat) : Stp g v w v2 (w2.drewN n) := ⟨h.os, h.tape, h.output, h.size, h.block, h.here⟩
theorem Stp.below (h : Stp g v w v2 w2) (C : Nat) (hC : C ≤ w.heap.size) (hg : C ≤ g) (hv : ∀ k, v.ownBlock = some k → C ≤ k) : Below C w w2 :=
  ⟨h.os, h.tape, h.output, h.size, fun k hk => h.block k (by omega) (by omega) (fun e => by have := hv k e; omega)⟩
/-- What lies in no block that turns stays. -/
theorem Stp.keep (h : Stp g v w v2 w2) {k : Nat} (hk : k < w.heap.size) (hg : k ≠ g) (hv : v.ownBlock ≠ some k) : w2.heap[k]? = w.heap[k]? := h.block k hk hg hv
/-- The field has been appended to, and is stored back. -/
theorem Box1.appended (h : Box1 w B g t e v xs) {ys : List Value} (hown : w2.ownsRow B e 1 v2 (xs ++ ys).length (xs ++ ys)) (ha : Apd v v2 w w2) :
    Box1 (w2.setCell ⟨g, 0, none⟩ v2) B g t e v2 (xs ++ ys) ∧ Stp g v w v2 (w2.setCell ⟨g, 0, none⟩ v2) := by
  have hlt := h.lt
  have hblk : w2.heap[g]? = some (.cells #[v] t (0, 0)) := (ha.grown.block g hlt (fun e => h.off e.symm)).trans h.blk
  have hng : v2.ownBlock ≠ some g := by
    rcases ha.here with e1 | e1 <;> rw [e1]
    · exact h.off
    · intro e2; injection e2 with e2; omega
  have hset := heap_setCell_same w2 g 0 #[v] t v2 hblk
  refine ⟨⟨by simpa using hset, ?_, hng⟩, ha.grown.os, ha.grown.tape, ha.grown.output, by have := ha.grown.size; simpa using this, fun k hk hg hv => ?_, ?_⟩
  · refine ⟨hown.1, ?_⟩
    rcases hown.2 with h2 | ⟨b, cap, cur, hv, hb, hh, hrest⟩
    · exact .inl h2
    · refine .inr ⟨b, cap, cur, hv, hb, ?_, hrest⟩
      rw [Below.heap_setCell w2 ⟨g, 0, none⟩ v2 b (fun e => hng (by rw [hv, e]; rfl))]
      exact hh
  · rw [Below.heap_setCell w2 ⟨g, 0, none⟩ v2 k hg]
    exact ha.grown.block k hk (fun e => hv e.symm)
  · rcases ha.here with e1 | e1
    · exact .inl e1
    · exact .inr ⟨_, e1, Nat.le_refl _⟩
theorem Box1.mid (h : Box1 w B g t e v xs) (ha : Apd v v2 w w2) : w2.cell? ⟨g, 0, none⟩ = some v ∧ w2.frozen? ⟨g, 0, none⟩ = false := by
  have hblk : w2.heap[g]? = some (.cells #[v] t (0, 0)) := (ha.grown.block g h.lt (fun e => h.off e.symm)).trans h.blk
  exact ⟨by rw [cell_of_row w2 g 0 _ _ _ hblk]; rfl, frozen_of_row w2 g 0 _ _ hblk⟩
end
theorem below_row {B : Nat} {a w : World} (h : Below B a w) (g : Nat) (cs : Array Value) (hg : B ≤ g) : Below B a (w.setRow g cs) :=
  ⟨h.os, h.tape, h.output, by have := h.size; simpa using this, fun k hk => (setRow_other w g k cs (by omega)).trans (h.block k hk)⟩
/-- Block g (of type t) holds just the cells cs. -/
def Ar (W : World) (g : Nat) (t : TypeId) (cs : List Value) : Prop := W.heap[g]? = some (.cells cs.toArray t (0, 0))
section
variable {P : Program} {W V : World} {g : Nat} {t : TypeId} {cs ds : List Value}
theorem Ar.lt (h : Ar W g t cs) : g < W.heap.size := (Array.getElem?_eq_some_iff.1 h).1
theorem Ar.cell (h : Ar W g t cs) {k : Nat} {v : Value} (hv : cs[k]? = some v) : W.cell? ⟨g, k, none⟩ = some v := by rw [cell_of_row W g k _ _ _ h]; simpa using hv
theorem Ar.frozen (h : Ar W g t cs) (k : Nat) : W.frozen? ⟨g, k, none⟩ = false := frozen_of_row W g k _ _ h
theorem Ar.load (h : Ar W g t cs) {n : Nat} (hn : cs.length = n) {ty : TypeId} {d : TypeDesc} (hu : P.underlying ty = some d) (hd : multi d = true) (hi : (P.info? ty).map (·.size) = some n) : (loadVar ty ⟨g, 0, none⟩).run P W = .ok (.agg cs.toArray) W :=
  run_loadVar_cells hu hd (by rw [hi, hn]) (fun j v hv => by rw [Addr.add_lit, Nat.zero_add]; exact h.cell hv)
theorem Ar.store (h : Ar W g t cs) {n : Nat} (hn : cs.length = n) (hm : ds.length = n) (h1 : ∀ u ∈ ds, u.oneCell' = true) {ty : TypeId} (hi : (P.info? ty).map (·.size) = some n) : (storeVar ty ⟨g, 0, none⟩ (.agg ds.toArray)).run P W = .ok () (W.setRow g ds.toArray) :=
  run_storeVar_row W g t ty cs.toArray ds.toArray h (by rw [hi]; simp [hm]) (by simp [hn, hm]) (by simpa using h1)
theorem Ar.setRow (h : Ar W g t cs) (ds : List Value) : Ar (W.setRow g ds.toArray) g t ds := setRow_heap W g _ _ t (0, 0) h
theorem Ar.past (h : Ar W g t cs) (m : Nat) (ds : Array Value) (hm : g ≠ m) : Ar (W.setRow m ds) g t cs := (setRow_other W m g ds hm).trans h
theorem Ar.new (W : World) (cs : List Value) (t : TypeId) : Ar (W.alloc (.cells cs.toArray t)) W.heap.size t cs := heap_alloc_new W _
theorem Ar.alloc (h : Ar W g t cs) (o : Obj) : Ar (W.alloc o) g t cs := (Below.heap_alloc W o g h.lt).trans h
theorem Ar.other (h : Ar W g t cs) (p : Addr) (v : Value) (hp : g ≠ p.block) : Ar (W.setCell p v) g t cs := (Below.heap_setCell W p v g hp).trans h
theorem Ar.set (h : Ar W g t cs) (k : Nat) (v : Value) : Ar (W.setCell ⟨g, k, none⟩ v) g t (cs.set k v) := by
  have := heap_setCell_same W g k _ t v h
  rw [List.setIfInBounds_toArray] at this
  exact this
theorem Ar.drewN (h : Ar W g t cs) (k : Nat) : Ar (W.drewN k) g t cs := h
theorem Ar.below (h : Ar W g t cs) {B : Nat} (hb : Below B W V) (hg : g < B) : Ar V g t cs := (hb.block g hg).trans h
theorem Ar.later (h : Ar W g t cs) {r : Option Nat} (hb : W.grownBy V r) (hg : some g ≠ r) : Ar V g t cs := (hb.block g h.lt hg).trans h
theorem Ar.rv (h : Ar W g t cs) : Rv W.heap.size W (some ⟨g, 0, none⟩) cs := fun k x hx => ⟨_, rfl, h.lt, by rw [Addr.add_lit, Nat.zero_add]; exact h.cell hx⟩
end
end Go.Proofs.YtbmpidacoohdmaaGreat

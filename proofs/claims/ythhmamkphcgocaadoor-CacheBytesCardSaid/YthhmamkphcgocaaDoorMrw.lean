/- Rows and origins in memory: whole loads and stores, comparisons. Slice literals of rows and origins, appends of them: names for the walk. -/
import Derived.Test.YthhmamkphcgocaaDoorLot
import Derived.Test.YthhmamkphcgocaaDoorHss
namespace Go.Proofs.YthhmamkphcgocaaDoor
section
open Go.RowKit

def ldT (ty : TypeId) (a : Addr) : Sem Value := loadVar ty a
def stT (ty : TypeId) (a : Addr) (v : Value) : Sem Unit := storeVar ty a v
def nwT (ty : TypeId) : Sem Value := Instr.alloc ty true (.tuple #[])
def bxT (ty : TypeId) (v : Value) : Sem Value := Instr.box ty v
def bdT (ty : TypeId) (ps : Array (Nat × Value)) : Sem Value := Instr.build ty ps
theorem ldT47 (a : Addr) : loadVar 47 a = ldT 47 a := rfl
theorem ldT73 (a : Addr) : loadVar 73 a = ldT 73 a := rfl
theorem ldT52 (a : Addr) : loadVar 52 a = ldT 52 a := rfl
theorem ldT44 (a : Addr) : loadVar 44 a = ldT 44 a := rfl
theorem ldT71 (a : Addr) : loadVar 71 a = ldT 71 a := rfl
theorem ldT94 (a : Addr) : loadVar 94 a = ldT 94 a := rfl
theorem stT47 (a : Addr) (v : Value) : storeVar 47 a v = stT 47 a v := rfl
theorem stT73 (a : Addr) (v : Value) : storeVar 73 a v = stT 73 a v := rfl
theorem stT52 (a : Addr) (v : Value) : storeVar 52 a v = stT 52 a v := rfl
theorem stT94 (a : Addr) (v : Value) : storeVar 94 a v = stT 94 a v := rfl
theorem nwT47 : Instr.alloc 47 true (.tuple #[]) = nwT 47 := rfl
theorem nwT73 : Instr.alloc 73 true (.tuple #[]) = nwT 73 := rfl
theorem nwT52 : Instr.alloc 52 true (.tuple #[]) = nwT 52 := rfl
theorem nwT94 : Instr.alloc 94 true (.tuple #[]) = nwT 94 := rfl
theorem bxT47 (v : Value) : Instr.box 47 v = bxT 47 v := rfl
theorem bxT73 (v : Value) : Instr.box 73 v = bxT 73 v := rfl
theorem bxT52 (v : Value) : Instr.box 52 v = bxT 52 v := rfl
theorem bxT42 (v : Value) : Instr.box 42 v = bxT 42 v := rfl
theorem bxT44 (v : Value) : Instr.box 44 v = bxT 44 v := rfl
theorem bdT47 (ps : Array (Nat × Value)) : Instr.build 47 ps = bdT 47 ps := rfl
theorem bdT73 (ps : Array (Nat × Value)) : Instr.build 73 ps = bdT 73 ps := rfl
theorem bdT52 (ps : Array (Nat × Value)) : Instr.build 52 ps = bdT 52 ps := rfl
theorem bdT94 (ps : Array (Nat × Value)) : Instr.build 94 ps = bdT 94 ps := rfl
theorem run_bxT (ty : TypeId) (W : World) (cs : Array Value) : (bxT ty (.agg cs)).run Tryd.prog W = .ok (.pointer (some ⟨W.heap.size, 0, none⟩)) (W.alloc (.cells cs ty)) := by
  simp [bxT, Instr.box, newVar, newRow, Value.cells]
/-- The zero row, the zero origin, the zero key. -/
def zM : Mot := ⟨⟨List.replicate 32 0, [], 0, false, false, false, []⟩, none, 0⟩
def zO : Org := ⟨List.replicate 32 0, [], 0⟩
theorem zM_len : zM.cells.length = 38 := rfl
theorem zO_len : zO.cells.length = 34 := rfl
theorem z47_info : (Tryd.prog.info? 47).map (·.zero) = some (some (.agg zM.cells.toArray)) := by kernel_rfl
theorem z73_info : (Tryd.prog.info? 73).map (·.zero) = some (some (.agg zM.cells.toArray)) := by kernel_rfl
theorem z52_info : (Tryd.prog.info? 52).map (·.zero) = some (some (.agg zO.cells.toArray)) := by kernel_rfl
theorem z94_info : (Tryd.prog.info? 94).map (·.zero) = some (some (.agg zM.r.head.toArray)) := by kernel_rfl
theorem run_nwT {ty : TypeId} {cs : Array Value} (h : (Tryd.prog.info? ty).map (·.zero) = some (some (.agg cs))) (W : World) : (nwT ty).run Tryd.prog W = .ok (.pointer (some ⟨W.heap.size, 0, none⟩)) (W.alloc (.cells cs ty)) := by
  obtain ⟨i, hi, hz⟩ := Option.map_eq_some_iff.1 h
  simp [nwT, Instr.alloc, zeroValue, typeInfo, hi, hz, newVar, newRow, Value.cells]
theorem run_nw47 (W : World) : (nwT 47).run Tryd.prog W = .ok (.pointer (some ⟨W.heap.size, 0, none⟩)) (W.alloc (.cells zM.cells.toArray 47)) := run_nwT z47_info W
theorem run_nw73 (W : World) : (nwT 73).run Tryd.prog W = .ok (.pointer (some ⟨W.heap.size, 0, none⟩)) (W.alloc (.cells zM.cells.toArray 73)) := run_nwT z73_info W
theorem run_nw52 (W : World) : (nwT 52).run Tryd.prog W = .ok (.pointer (some ⟨W.heap.size, 0, none⟩)) (W.alloc (.cells zO.cells.toArray 52)) := run_nwT z52_info W
theorem run_nw94 (W : World) : (nwT 94).run Tryd.prog W = .ok (.pointer (some ⟨W.heap.size, 0, none⟩)) (W.alloc (.cells zM.r.head.toArray 94)) := run_nwT z94_info W
theorem inf47 : (Tryd.prog.info? 47).map (·.size) = some 38 := by kernel_rfl
theorem inf73 : (Tryd.prog.info? 73).map (·.size) = some 38 := by kernel_rfl
theorem inf52 : (Tryd.prog.info? 52).map (·.size) = some 34 := by kernel_rfl
theorem inf44 : (Tryd.prog.info? 44).map (·.size) = some 4 := by kernel_rfl
theorem inf71 : (Tryd.prog.info? 71).map (·.size) = some 4 := by kernel_rfl
theorem inf94 : (Tryd.prog.info? 94).map (·.size) = some 37 := by kernel_rfl
section
variable {w : World} {a : Addr} {m : Mot} {o : Org}
theorem ldM47 (h : CellsAt w a m.cells) (hid : m.r.id.length = 32) : (ldT 47 a).run Tryd.prog w = .ok (.agg m.cells.toArray) w := run_loadVar_cells Tryd.underlying47 rfl (by rw [Mot.len hid]; exact inf47) h
theorem ldM73 (h : CellsAt w a m.cells) (hid : m.r.id.length = 32) : (ldT 73 a).run Tryd.prog w = .ok (.agg m.cells.toArray) w := run_loadVar_cells Tryd.underlying73 rfl (by rw [Mot.len hid]; exact inf73) h
theorem ldO52 (h : CellsAt w a o.cells) (hid : o.id.length = 32) : (ldT 52 a).run Tryd.prog w = .ok (.agg o.cells.toArray) w := run_loadVar_cells Tryd.underlying52 rfl (by rw [Org.len hid]; exact inf52) h
theorem ldMid (h : CellsAt w a m.cells) (hid : m.r.id.length = 32) : (load42 a).run Tryd.prog w = .ok (.agg (bys m.r.id).toArray) w := by
  have := h.take 32
  rw [Mot.c_id hid] at this
  exact run_loadVar_cells Tryd.underlying42 rfl (by rw [bys_len, hid]; exact inf42) this
theorem ldOid (h : CellsAt w a o.cells) (hid : o.id.length = 32) : (load42 a).run Tryd.prog w = .ok (.agg (bys o.id).toArray) w := by
  have := h.take 32
  rw [Org.c_id hid] at this
  exact run_loadVar_cells Tryd.underlying42 rfl (by rw [bys_len, hid]; exact inf42) this
theorem add_succ (a : Addr) (n : Nat) (hn : 0 < n) : a.add n = ⟨a.block, a.off + n, none⟩ := by
  obtain ⟨k, rfl⟩ : ∃ k, n = k + 1 := ⟨n - 1, by omega⟩
  exact Addr.add_succ' a k
theorem optAt (h : CellsAt w a m.cells) (hid : m.r.id.length = 32) : CellsAt w ⟨a.block, a.off + 33, none⟩ [.int .i64 m.r.algo, .bool m.r.de, .bool m.r.mo, .bool m.r.co] := by
  have := (h.part 33).take 4
  rw [Mot.c_opt hid, add_succ a 33 (by omega)] at this
  exact this
theorem ldM44 (h : CellsAt w a m.cells) (hid : m.r.id.length = 32) : (ldT 44 ⟨a.block, a.off + 33, none⟩).run Tryd.prog w = .ok (.agg #[.int .i64 m.r.algo, .bool m.r.de, .bool m.r.mo, .bool m.r.co]) w := run_loadVar_cells Tryd.underlying44 rfl inf44 (optAt h hid)
theorem ldM71 (h : CellsAt w a m.cells) (hid : m.r.id.length = 32) : (ldT 71 ⟨a.block, a.off + 33, none⟩).run Tryd.prog w = .ok (.agg #[.int .i64 m.r.algo, .bool m.r.de, .bool m.r.mo, .bool m.r.co]) w := run_loadVar_cells Tryd.underlying71 rfl inf71 (optAt h hid)
theorem mPath (h : CellsAt w a m.cells) (hid : m.r.id.length = 32) : w.cell? ⟨a.block, a.off + 32, none⟩ = some (.string (bs m.r.path)) := h.succ 31 (Mot.c_tail hid 0)
theorem mAlgo (h : CellsAt w a m.cells) (hid : m.r.id.length = 32) : w.cell? ⟨a.block, a.off + 33, none⟩ = some (.int .i64 m.r.algo) := h.succ 32 (Mot.c_tail hid 1)
theorem mDe (h : CellsAt w a m.cells) (hid : m.r.id.length = 32) : w.cell? ⟨a.block, a.off + 34, none⟩ = some (.bool m.r.de) := h.succ 33 (Mot.c_tail hid 2)
theorem mMo (h : CellsAt w a m.cells) (hid : m.r.id.length = 32) : w.cell? ⟨a.block, a.off + 35, none⟩ = some (.bool m.r.mo) := h.succ 34 (Mot.c_tail hid 3)
theorem mCo (h : CellsAt w a m.cells) (hid : m.r.id.length = 32) : w.cell? ⟨a.block, a.off + 36, none⟩ = some (.bool m.r.co) := h.succ 35 (Mot.c_tail hid 4)
theorem mOs (h : CellsAt w a m.cells) (hid : m.r.id.length = 32) : w.cell? ⟨a.block, a.off + 37, none⟩ = some (.slice m.A m.r.os.length m.c) := h.succ 36 (Mot.c_tail hid 5)
theorem oPath (h : CellsAt w a o.cells) (hid : o.id.length = 32) : w.cell? ⟨a.block, a.off + 32, none⟩ = some (.string (bs o.path)) := h.succ 31 (Org.c_path hid)
theorem oLine (h : CellsAt w a o.cells) (hid : o.id.length = 32) : w.cell? ⟨a.block, a.off + 33, none⟩ = some (.int .i64 o.line) := h.succ 32 (Org.c_line hid)
end
theorem Ar.at0 {W : World} {g : Nat} {t : TypeId} {cs : List Value} (h : Ar W g t cs) : CellsAt W ⟨g, 0, none⟩ cs := fun j v hv => by
  rw [Addr.add_lit, Nat.zero_add]
  exact h.cell hv
section
variable {W : World} {g : Nat} {m n : Mot} {o p : Org}
theorem stM47 (h : Ar W g 47 m.cells) (hm : m.r.id.length = 32) (hn : n.r.id.length = 32) : (stT 47 ⟨g, 0, none⟩ (.agg n.cells.toArray)).run Tryd.prog W = .ok () (W.setRow g n.cells.toArray) := h.store (Mot.len hm) (Mot.len hn) n.one inf47
theorem stM73 (h : Ar W g 73 m.cells) (hm : m.r.id.length = 32) (hn : n.r.id.length = 32) : (stT 73 ⟨g, 0, none⟩ (.agg n.cells.toArray)).run Tryd.prog W = .ok () (W.setRow g n.cells.toArray) := h.store (Mot.len hm) (Mot.len hn) n.one inf73
theorem stO52 (h : Ar W g 52 o.cells) (hm : o.id.length = 32) (hn : p.id.length = 32) : (stT 52 ⟨g, 0, none⟩ (.agg p.cells.toArray)).run Tryd.prog W = .ok () (W.setRow g p.cells.toArray) := h.store (Org.len hm) (Org.len hn) p.one inf52
theorem stK94 {r s : Lot} (h : Ar W g 94 r.head) (hm : r.id.length = 32) (hn : s.id.length = 32) : (stT 94 ⟨g, 0, none⟩ (.agg s.head.toArray)).run Tryd.prog W = .ok () (W.setRow g s.head.toArray) := h.store (Lot.len hm) (Lot.len hn) s.one inf94
end
section
variable {W : World} {g : Nat} {t : TypeId} {m : Mot} {o : Org}
theorem bId (h : Ar W g t m.cells) (hid : m.r.id.length = 32) : (load42 ⟨g, 0, none⟩).run Tryd.prog W = .ok (.agg (bys m.r.id).toArray) W := ldMid h.at0 hid
theorem bPath (h : Ar W g t m.cells) (hid : m.r.id.length = 32) : W.cell? ⟨g, 32, none⟩ = some (.string (bs m.r.path)) := h.cell (Mot.c_tail hid 0)
theorem bAlgo (h : Ar W g t m.cells) (hid : m.r.id.length = 32) : W.cell? ⟨g, 33, none⟩ = some (.int .i64 m.r.algo) := h.cell (Mot.c_tail hid 1)
theorem bOs (h : Ar W g t m.cells) (hid : m.r.id.length = 32) : W.cell? ⟨g, 37, none⟩ = some (.slice m.A m.r.os.length m.c) := h.cell (Mot.c_tail hid 5)
theorem bOpt44 (h : Ar W g t m.cells) (hid : m.r.id.length = 32) : (ldT 44 ⟨g, 33, none⟩).run Tryd.prog W = .ok (.agg #[.int .i64 m.r.algo, .bool m.r.de, .bool m.r.mo, .bool m.r.co]) W := by
  have := ldM44 h.at0 hid
  rwa [show (⟨g, 0, none⟩ : Addr).off + 33 = 33 from Nat.zero_add 33] at this
theorem bOpt71 (h : Ar W g t m.cells) (hid : m.r.id.length = 32) : (ldT 71 ⟨g, 33, none⟩).run Tryd.prog W = .ok (.agg #[.int .i64 m.r.algo, .bool m.r.de, .bool m.r.mo, .bool m.r.co]) W := by
  have := ldM71 h.at0 hid
  rwa [show (⟨g, 0, none⟩ : Addr).off + 33 = 33 from Nat.zero_add 33] at this
theorem b47 (h : Ar W g t m.cells) (hid : m.r.id.length = 32) : (ldT 47 ⟨g, 0, none⟩).run Tryd.prog W = .ok (.agg m.cells.toArray) W := ldM47 h.at0 hid
theorem b73 (h : Ar W g t m.cells) (hid : m.r.id.length = 32) : (ldT 73 ⟨g, 0, none⟩).run Tryd.prog W = .ok (.agg m.cells.toArray) W := ldM73 h.at0 hid
theorem boId (h : Ar W g t o.cells) (hid : o.id.length = 32) : (load42 ⟨g, 0, none⟩).run Tryd.prog W = .ok (.agg (bys o.id).toArray) W := ldOid h.at0 hid
theorem boPath (h : Ar W g t o.cells) (hid : o.id.length = 32) : W.cell? ⟨g, 32, none⟩ = some (.string (bs o.path)) := h.cell (Org.c_path hid)
theorem boLine (h : Ar W g t o.cells) (hid : o.id.length = 32) : W.cell? ⟨g, 33, none⟩ = some (.int .i64 o.line) := h.cell (Org.c_line hid)
end
/-- The new row, filled. -/
theorem new_set (W : World) (cs ds : List Value) (t : TypeId) : (W.alloc (.cells cs.toArray t)).setRow W.heap.size ds.toArray = W.alloc (.cells ds.toArray t) := setRow_alloc_at W W.heap.size _ _ t rfl

/-- Comparisons. -/
theorem und_opt (t : TypeId) : t = 44 ∨ t = 71 → (Tryd.prog.fieldsOf t).toList.map (fun f => (f.name, f.type, f.offset)) = [("Algo", 3, 0), ("Detect", 4, 1), ("Moves", 4, 2), ("Copies", 4, 3)] ∧ Tryd.prog.stoodInHeld t = false ∧ Tryd.prog.underlying t = some (.struct (Tryd.prog.fieldsOf t)) := by
  rintro (rfl | rfl)
  · exact ⟨by kernel_rfl, by kernel_rfl, by kernel_rfl⟩
  · exact ⟨by kernel_rfl, by kernel_rfl, by kernel_rfl⟩
def optE (a b : Int) (d d2 m m2 c c2 : Bool) : Bool := decide (a = b) && ((d == d2) && ((m == m2) && (c == c2)))
theorem eqIn_opt {t : TypeId} (ht : t = 44 ∨ t = 71) (a b : Int) (d d2 m m2 c c2 : Bool) (n : Nat) (w : World) :
    (Op.equalIn (n + 2) t (.agg #[.int .i64 a, .bool d, .bool m, .bool c]) (.agg #[.int .i64 b, .bool d2, .bool m2, .bool c2])).run Tryd.prog w = .ok (optE a b d d2 m m2 c c2) w := by
  obtain ⟨h1, h2, h3⟩ := und_opt t ht
  rw [run_equalIn_struct w (n + 1) t #[.int .i64 a, .bool d, .bool m, .bool c] #[.int .i64 b, .bool d2, .bool m2, .bool c2] h3 h2, eqFields_eq, h1]
  have u3 := Tryd.underlying3
  have u4 := Tryd.underlying4
  have h := run_eqF_cons w (P := Tryd.prog) (d := n + 1) (n := "Algo") (by decide) (run_part_one w u3 rfl [.int .i64 a, .bool d, .bool m, .bool c] 0 rfl) (run_part_one w u3 rfl [.int .i64 b, .bool d2, .bool m2, .bool c2] 0 rfl) (run_equalIn_int w n _ .i64 _ a b u3) fun _ =>
    run_eqF_cons w (n := "Detect") (by decide) (run_part_one w u4 rfl [.int .i64 a, .bool d, .bool m, .bool c] 1 rfl) (run_part_one w u4 rfl [.int .i64 b, .bool d2, .bool m2, .bool c2] 1 rfl) (run_equalIn_bool w n _ d d2 u4) fun _ =>
    run_eqF_cons w (n := "Moves") (by decide) (run_part_one w u4 rfl [.int .i64 a, .bool d, .bool m, .bool c] 2 rfl) (run_part_one w u4 rfl [.int .i64 b, .bool d2, .bool m2, .bool c2] 2 rfl) (run_equalIn_bool w n _ m m2 u4) fun _ =>
    run_eqF_cons w (n := "Copies") (by decide) (run_part_one w u4 rfl [.int .i64 a, .bool d, .bool m, .bool c] 3 rfl) (run_part_one w u4 rfl [.int .i64 b, .bool d2, .bool m2, .bool c2] 3 rfl) (run_equalIn_bool w n _ c c2 u4) fun _ => run_eqF_nil w
  refine h.trans (congrArg (fun b => Result.ok b w) ?_)
  unfold optE
  rw [Bool.and_true]
  congr 1
theorem run_eql_opt {t : TypeId} (ht : t = 44 ∨ t = 71) (a b : Int) (d d2 m m2 c c2 : Bool) (w : World) :
    (binOp .eql t (.agg #[.int .i64 a, .bool d, .bool m, .bool c]) (.agg #[.int .i64 b, .bool d2, .bool m2, .bool c2])).run Tryd.prog w = .ok (.bool (optE a b d d2 m m2 c c2)) w := by
  rw [run_eql_struct, eqIn_opt ht]; rfl
theorem run_neq_opt {t : TypeId} (ht : t = 44 ∨ t = 71) (a b : Int) (d d2 m m2 c c2 : Bool) (w : World) :
    (binOp .neq t (.agg #[.int .i64 a, .bool d, .bool m, .bool c]) (.agg #[.int .i64 b, .bool d2, .bool m2, .bool c2])).run Tryd.prog w = .ok (.bool (!optE a b d d2 m m2 c c2)) w := by
  rw [run_neq_struct, eqIn_opt ht]; rfl
def intsU (l : List UInt8) : List Int := l.map fun b => (b.toNat : Int)
theorem ints_u8s (l : List UInt8) : bys l = u8s (intsU l) := by simp [bys, u8s, intsU]
theorem ints_inj (a b : List UInt8) : intsU a = intsU b ↔ a = b := by
  constructor
  · intro h
    have := congrArg (List.map fun x : Int => UInt8.ofNat x.toNat) h
    simp only [intsU, List.map_map] at this
    have e : ((fun x : Int => UInt8.ofNat x.toNat) ∘ fun b : UInt8 => (b.toNat : Int)) = id := funext fun b => by simp
    rwa [e, List.map_id, List.map_id] at this
  · rintro rfl; rfl
theorem inf5 : (Tryd.prog.info? 5).map (·.size) = some 1 := by kernel_rfl
section
variable (a b : List UInt8) (ha : a.length = 32) (hb : b.length = 32) (w : World)
include ha hb
theorem eqIn_id (n : Nat) : (Op.equalIn (n + 2) 42 (.agg (bys a).toArray) (.agg (bys b).toArray)).run Tryd.prog w = .ok (decide (a = b)) w := by
  obtain ⟨i, hi, hs⟩ := Option.map_eq_some_iff.1 inf5
  rw [ints_u8s, ints_u8s, run_equalIn_u8s w Tryd.underlying42 Tryd.underlying5 hi hs n (intsU a) (intsU b) (by simp [intsU, ha]) (by simp [intsU, hb])]
  exact congrArg (fun x => Result.ok x w) (decide_eq_decide.2 (ints_inj a b))
theorem run_eql_id : (binOp .eql 42 (.agg (bys a).toArray) (.agg (bys b).toArray)).run Tryd.prog w = .ok (.bool (decide (a = b))) w := by
  obtain ⟨i, hi, hs⟩ := Option.map_eq_some_iff.1 inf5
  rw [ints_u8s, ints_u8s, run_eql_u8s w Tryd.underlying42 Tryd.underlying5 hi hs (intsU a) (intsU b) (by simp [intsU, ha]) (by simp [intsU, hb])]
  exact congrArg (fun x => Result.ok (Value.bool x) w) (decide_eq_decide.2 (ints_inj a b))
theorem run_neq_id : (binOp .neq 42 (.agg (bys a).toArray) (.agg (bys b).toArray)).run Tryd.prog w = .ok (.bool (!decide (a = b))) w := by
  obtain ⟨i, hi, hs⟩ := Option.map_eq_some_iff.1 inf5
  rw [ints_u8s, ints_u8s, run_neq_u8s w Tryd.underlying42 Tryd.underlying5 hi hs (intsU a) (intsU b) (by simp [intsU, ha]) (by simp [intsU, hb])]
  exact congrArg (fun x => Result.ok (Value.bool !x) w) (decide_eq_decide.2 (ints_inj a b))
end
theorem eqIn_str (a b : List UInt8) (n : Nat) (w : World) : (Op.equalIn (n + 1) 9 (.string (bs a)) (.string (bs b))).run Tryd.prog w = .ok (decide (a = b)) w := by
  rw [run_equalIn_string w n _ _ _ Tryd.underlying9, str_beq]
  exact congrArg (fun x => Result.ok x w) (decide_eq_decide.2 ⟨bs_inj, fun h => by rw [h]⟩)
theorem fields94 : (Tryd.prog.fieldsOf 94).toList.map (fun f => (f.name, f.type, f.offset)) = [("id", 42, 0), ("path", 9, 32), ("o", 44, 33)] := by kernel_rfl
theorem fields52 : (Tryd.prog.fieldsOf 52).toList.map (fun f => (f.name, f.type, f.offset)) = [("Commit", 42, 0), ("Path", 9, 32), ("Line", 3, 33)] := by kernel_rfl
theorem stood94 : Tryd.prog.stoodInHeld 94 = false := by kernel_rfl
theorem stood52 : Tryd.prog.stoodInHeld 52 = false := by kernel_rfl
theorem head_id {r : Lot} (h : r.id.length = 32) : (r.head.drop 0).take 32 = bys r.id := by rw [List.drop_zero]; exact List.take_left' (by rw [bys_len, h])
theorem head_opt {r : Lot} (h : r.id.length = 32) : (r.head.drop 33).take 4 = [.int .i64 r.algo, .bool r.de, .bool r.mo, .bool r.co] := by
  have e : r.head = (bys r.id ++ [.string (bs r.path)]) ++ [.int .i64 r.algo, .bool r.de, .bool r.mo, .bool r.co] := by simp [Lot.head]
  rw [e, List.drop_left' (by simp [bys_len, h])]
  rfl
theorem run_eql_key (r s : Lot) (hr : r.id.length = 32) (hs : s.id.length = 32) (w : World) : (binOp .eql 94 (.agg r.head.toArray) (.agg s.head.toArray)).run Tryd.prog w = .ok (.bool (keyE r s)) w := by
  rw [run_eql_struct, run_equalIn_struct w 9999 94 r.head.toArray s.head.toArray (by kernel_rfl) stood94, eqFields_eq, fields94]
  obtain ⟨i42, hi42, hs42⟩ := Option.map_eq_some_iff.1 inf42
  obtain ⟨i44, hi44, hs44⟩ := Option.map_eq_some_iff.1 inf44
  have u42 := Tryd.underlying42
  have u44 := Tryd.underlying44
  have u9 := Tryd.underlying9
  have po : ∀ (x : Lot), x.id.length = 32 → (part 42 x.head.toArray 0).run Tryd.prog w = .ok (.agg (bys x.id).toArray) w := fun x hx => by
    rw [run_part_cells w u42 rfl hi42, hs42, head_id hx]
  have pq : ∀ (x : Lot), x.id.length = 32 → (part 44 x.head.toArray 33).run Tryd.prog w = .ok (.agg #[.int .i64 x.algo, .bool x.de, .bool x.mo, .bool x.co]) w := fun x hx => by
    rw [run_part_cells w u44 rfl hi44, hs44, head_opt hx]
  have h := run_eqF_cons w (P := Tryd.prog) (d := 9999) (n := "id") (by decide) (po r hr) (po s hs) (eqIn_id _ _ hr hs w 9997) fun _ =>
    run_eqF_cons w (n := "path") (by decide) (run_part_one w u9 rfl r.head 32 (Lot.c_tail hr 0)) (run_part_one w u9 rfl s.head 32 (Lot.c_tail hs 0)) (eqIn_str _ _ 9998 w) fun _ =>
    run_eqF_cons w (n := "o") (by decide) (pq r hr) (pq s hs) (eqIn_opt (.inl rfl) _ _ _ _ _ _ _ _ 9997 w) fun _ => run_eqF_nil w
  rw [h]
  simp only [Result.andThen_ok, Bool.and_true]
  rfl
/-- Are two origins one? -/
def orgE (a b : Org) : Bool := decide (a.id = b.id) && (decide (a.path = b.path) && decide (a.line = b.line))
theorem run_neq_org (r s : Org) (hr : r.id.length = 32) (hs : s.id.length = 32) (w : World) : (binOp .neq 52 (.agg r.cells.toArray) (.agg s.cells.toArray)).run Tryd.prog w = .ok (.bool (!orgE r s)) w := by
  rw [run_neq_struct, run_equalIn_struct w 9999 52 r.cells.toArray s.cells.toArray (by kernel_rfl) stood52, eqFields_eq, fields52]
  obtain ⟨i42, hi42, hs42⟩ := Option.map_eq_some_iff.1 inf42
  have u42 := Tryd.underlying42
  have u3 := Tryd.underlying3
  have u9 := Tryd.underlying9
  have po : ∀ (x : Org), x.id.length = 32 → (part 42 x.cells.toArray 0).run Tryd.prog w = .ok (.agg (bys x.id).toArray) w := fun x hx => by
    rw [run_part_cells w u42 rfl hi42, hs42, List.drop_zero, Org.c_id hx]
  have h := run_eqF_cons w (P := Tryd.prog) (d := 9999) (n := "Commit") (by decide) (po r hr) (po s hs) (eqIn_id _ _ hr hs w 9997) fun _ =>
    run_eqF_cons w (n := "Path") (by decide) (run_part_one w u9 rfl r.cells 32 (Org.c_path hr)) (run_part_one w u9 rfl s.cells 32 (Org.c_path hs)) (eqIn_str _ _ 9998 w) fun _ =>
    run_eqF_cons w (n := "Line") (by decide) (run_part_one w u3 rfl r.cells 33 (Org.c_line hr)) (run_part_one w u3 rfl s.cells 33 (Org.c_line hs)) (run_equalIn_int w 9998 _ .i64 _ _ _ u3) fun _ => run_eqF_nil w
  rw [h]
  simp only [Result.andThen_ok, Bool.and_true]
  rfl
/-- Struct values built. -/
theorem of32 {l : List UInt8} (h : l.length = 32) : ∃ f : Fin 32 → UInt8, l = List.ofFn f := ⟨fun i => l.getD i.val 0, List.ext_getElem (by rw [List.length_ofFn, h]) fun i h1 h2 => by rw [List.getElem_ofFn, List.getD_eq_getElem?_getD, List.getElem?_eq_getElem h1]; rfl⟩
theorem run_bd94 (r : Lot) (hr : r.id.length = 32) (W : World) : (bdT 94 #[(0, .agg (bys r.id).toArray), (1, .string (bs r.path)), (2, .agg #[.int .i64 r.algo, .bool r.de, .bool r.mo, .bool r.co])]).run Tryd.prog W = .ok (.agg r.head.toArray) W := by
  obtain ⟨id, path, algo, de, mo, co, os⟩ := r
  obtain ⟨f, rfl⟩ := of32 hr
  exact run_build W _ _ _ (by kernel_rfl)
theorem run_bd73 (m : Mot) (hr : m.r.id.length = 32) (W : World) : (bdT 73 #[(0, .agg (bys m.r.id).toArray), (1, .string (bs m.r.path)), (2, .agg #[.int .i64 m.r.algo, .bool m.r.de, .bool m.r.mo, .bool m.r.co]), (3, .slice m.A m.r.os.length m.c)]).run Tryd.prog W = .ok (.agg m.cells.toArray) W := by
  obtain ⟨⟨id, path, algo, de, mo, co, os⟩, A, c⟩ := m
  obtain ⟨f, rfl⟩ := of32 hr
  exact run_build W _ _ _ (by kernel_rfl)
theorem run_bd52 (id path : List UInt8) (line : Int) (hr : id.length = 32) (W : World) : (bdT 52 #[(0, .agg (bys id).toArray), (1, .string (bs path)), (2, .int .i64 line)]).run Tryd.prog W = .ok (.agg (Org.mk id path line).cells.toArray) W := by
  obtain ⟨f, rfl⟩ := of32 hr
  exact run_build W _ _ _ (by kernel_rfl)
theorem run_bd52a (id : List UInt8) (hr : id.length = 32) (W : World) : (bdT 52 #[(0, .agg (bys id).toArray)]).run Tryd.prog W = .ok (.agg (Org.mk id [] 0).cells.toArray) W := by
  obtain ⟨f, rfl⟩ := of32 hr
  exact run_build W _ _ _ (by kernel_rfl)
theorem run_bd47 (id path : List UInt8) (hr : id.length = 32) (W : World) : (bdT 47 #[(0, .agg (bys id).toArray), (1, .string (bs path))]).run Tryd.prog W = .ok (.agg (Mot.mk ⟨id, path, 0, false, false, false, []⟩ none 0).cells.toArray) W := by
  obtain ⟨f, rfl⟩ := of32 hr
  exact run_build W _ _ _ (by kernel_rfl)
theorem run_bd73a (id : List UInt8) (hr : id.length = 32) (W : World) : (bdT 73 #[(0, .agg (bys id).toArray)]).run Tryd.prog W = .ok (.agg (Mot.mk ⟨id, [], 0, false, false, false, []⟩ none 0).cells.toArray) W := by
  obtain ⟨f, rfl⟩ := of32 hr
  exact run_build W _ _ _ (by kernel_rfl)
theorem run_bd47z (W : World) : (bdT 47 #[]).run Tryd.prog W = .ok (.agg zM.cells.toArray) W := run_build W _ _ _ (by kernel_rfl)
end
section
open Go.RowKit

def bsT (ty : TypeId) (n : Nat) (ps : Array (Nat × Value)) : Sem Value := Instr.buildSlice ty n ps
def apT (t ty : TypeId) (args : Array Value) : Sem Value := Builtin.append_ #[t, t] ty args
theorem bsT24 (ps : Array (Nat × Value)) : Instr.buildSlice 24 1 ps = bsT 24 1 ps := rfl
theorem bsT28 (ps : Array (Nat × Value)) : Instr.buildSlice 28 1 ps = bsT 28 1 ps := rfl
theorem bsT45 (ps : Array (Nat × Value)) : Instr.buildSlice 45 1 ps = bsT 45 1 ps := rfl
theorem apT24 (ty : TypeId) (args : Array Value) : Builtin.append_ #[24, 24] ty args = apT 24 ty args := rfl
theorem apT28 (ty : TypeId) (args : Array Value) : Builtin.append_ #[28, 28] ty args = apT 28 ty args := rfl
theorem apT45 (ty : TypeId) (args : Array Value) : Builtin.append_ #[45, 45] ty args = apT 45 ty args := rfl
theorem run_bs24 {m : Mot} (h : m.r.id.length = 32) (W : World) : (bsT 24 1 #[(0, .agg m.cells.toArray)]).run Tryd.prog W = .ok (.slice (some ⟨W.heap.size, 0, none⟩) 1 1) (W.alloc (.cells m.cells.toArray 47)) :=
  run_build_one W Tryd.underlying24 inf47 (by kernel_rfl) m.cells.toArray (by simp [Mot.len h]) (by omega) (by omega)
theorem run_bs28 {m : Mot} (h : m.r.id.length = 32) (W : World) : (bsT 28 1 #[(0, .agg m.cells.toArray)]).run Tryd.prog W = .ok (.slice (some ⟨W.heap.size, 0, none⟩) 1 1) (W.alloc (.cells m.cells.toArray 73)) :=
  run_build_one W Tryd.underlying28 inf73 (by kernel_rfl) m.cells.toArray (by simp [Mot.len h]) (by omega) (by omega)
theorem run_bs45 {o : Org} (h : o.id.length = 32) (W : World) : (bsT 45 1 #[(0, .agg o.cells.toArray)]).run Tryd.prog W = .ok (.slice (some ⟨W.heap.size, 0, none⟩) 1 1) (W.alloc (.cells o.cells.toArray 52)) :=
  run_build_one W Tryd.underlying45 inf52 (by kernel_rfl) o.cells.toArray (by simp [Org.len h]) (by omega) (by omega)
theorem sl24 : Sl Tryd.prog 24 47 38 88 := ⟨Tryd.underlying24, by kernel_rfl, by decide⟩
theorem sl28 : Sl Tryd.prog 28 73 38 88 := ⟨Tryd.underlying28, by kernel_rfl, by decide⟩
theorem sl45 : Sl Tryd.prog 45 52 34 56 := ⟨Tryd.underlying45, by kernel_rfl, by decide⟩
end
end Go.Proofs.YthhmamkphcgocaaDoor

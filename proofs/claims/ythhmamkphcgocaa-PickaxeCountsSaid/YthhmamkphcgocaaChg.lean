/- A change as data and as cells; that two are compared as their parts are. -/
import Derived.Test.YthhmamkphcgocaaProg
import Derived.Test.YthhmamkphcgocaaBase
namespace Go.Proofs.Ythhmamkphcgocaa
open Go.RowKit

structure Chg where
  kind : Int
  old : ByteArray
  new : ByteArray
  om : Int
  nm : Int
  oid : List Int
  nid : List Int
  score : Int
  deriving DecidableEq

def Chg.cells (c : Chg) : List Value :=
  .int .i64 c.kind :: .string c.old :: .string c.new :: .int .i64 c.om :: .int .i64 c.nm :: (u8s c.oid ++ (u8s c.nid ++ [.int .i64 c.score]))
structure Chg.ok (c : Chg) : Prop where
  oid : c.oid.length = 32
  nid : c.nid.length = 32
  old : c.old.size ≤ maxLen
  new : c.new.size ≤ maxLen
theorem Chg.cells_length (c : Chg) (h : c.ok) : c.cells.length = 70 := by simp [Chg.cells, u8s_length, h.oid, h.nid]
theorem Chg.oid_part (c : Chg) (h : c.ok) : ((c.cells.drop 5).take 32) = u8s c.oid := by
  simp only [Chg.cells, List.drop_succ_cons, List.drop_zero]
  exact List.take_left' (by rw [u8s_length, h.oid])
theorem Chg.nid_part (c : Chg) (h : c.ok) : ((c.cells.drop 37).take 32) = u8s c.nid := by
  have e : c.cells.drop 37 = (u8s c.oid ++ (u8s c.nid ++ [Value.int .i64 c.score])).drop 32 := rfl
  rw [e, List.drop_left' (by rw [u8s_length, h.oid])]
  exact List.take_left' (by rw [u8s_length, h.nid])
theorem Chg.score_at (c : Chg) (h : c.ok) : c.cells[69]? = some (.int .i64 c.score) := by
  have e : c.cells[69]? = (u8s c.oid ++ (u8s c.nid ++ [Value.int .i64 c.score]))[64]? := rfl
  rw [e, List.getElem?_append_right (by rw [u8s_length, h.oid]; omega), List.getElem?_append_right (by rw [u8s_length, u8s_length, h.oid, h.nid]; omega)]
  simp [u8s_length, h.oid, h.nid]

theorem info5 : (Try.prog.info? 5).map (·.size) = some 1 := by kernel_rfl
theorem info44 : (Try.prog.info? 44).map (·.size) = some 32 := by kernel_rfl
theorem info46 : (Try.prog.info? 46).map (·.size) = some 70 := by kernel_rfl
theorem stood46 : Try.prog.stoodInHeld 46 = false := by kernel_rfl
theorem stood44 : Try.prog.stoodInHeld 44 = false := by kernel_rfl
theorem fields46 : (Try.prog.fieldsOf 46).toList.map (fun f => (f.name, f.type, f.offset)) = [("Kind", 3, 0), ("Old", 9, 1), ("New", 9, 2), ("OldMode", 3, 3), ("NewMode", 3, 4), ("OldID", 44, 5), ("NewID", 44, 37), ("Score", 3, 69)] := by kernel_rfl

theorem run_eql_id (xs ys : List Int) (hx : xs.length = 32) (hy : ys.length = 32) (w : World) :
    (binOp .eql 44 (.agg (u8s xs).toArray) (.agg (u8s ys).toArray)).run Try.prog w = .ok (.bool (decide (xs = ys))) w := by
  obtain ⟨i, hi, hs⟩ := Option.map_eq_some_iff.1 info5
  exact run_eql_u8s w Try.underlying44 Try.underlying5 hi hs xs ys hx hy
theorem run_neq_id (xs ys : List Int) (hx : xs.length = 32) (hy : ys.length = 32) (w : World) :
    (binOp .neq 44 (.agg (u8s xs).toArray) (.agg (u8s ys).toArray)).run Try.prog w = .ok (.bool (!decide (xs = ys))) w := by
  obtain ⟨i, hi, hs⟩ := Option.map_eq_some_iff.1 info5
  exact run_neq_u8s w Try.underlying44 Try.underlying5 hi hs xs ys hx hy

theorem run_equalIn_chg (c d : Chg) (hc : c.ok) (hd : d.ok) (w : World) : (Op.equalIn 10000 46 (.agg c.cells.toArray) (.agg d.cells.toArray)).run Try.prog w = .ok (decide (c = d)) w := by
  obtain ⟨i5, hi5, hs5⟩ := Option.map_eq_some_iff.1 info5
  obtain ⟨i44, hi44, hs44⟩ := Option.map_eq_some_iff.1 info44
  rw [run_equalIn_struct w 9999 46 c.cells.toArray d.cells.toArray (by kernel_rfl) stood46, eqFields_eq, fields46]
  have u3 := Try.underlying3
  have u9 := Try.underlying9
  have u44 := Try.underlying44
  have po : ∀ (x : Chg), x.ok → (part 44 x.cells.toArray 5).run Try.prog w = .ok (.agg (u8s x.oid).toArray) w := fun x hx => by
    rw [run_part_cells w u44 rfl hi44, hs44, x.oid_part hx]
  have pn : ∀ (x : Chg), x.ok → (part 44 x.cells.toArray 37).run Try.prog w = .ok (.agg (u8s x.nid).toArray) w := fun x hx => by
    rw [run_part_cells w u44 rfl hi44, hs44, x.nid_part hx]
  have eqi : ∀ (a b : Int), (Op.equalIn 9999 3 (.int .i64 a) (.int .i64 b)).run Try.prog w = .ok (a == b) w := fun a b => run_equalIn_int w 9998 3 .i64 _ a b u3
  have eqs : ∀ (a b : ByteArray), (Op.equalIn 9999 9 (.string a) (.string b)).run Try.prog w = .ok (a.toList == b.toList) w := fun a b => run_equalIn_string w 9998 9 a b u9
  have eqa : ∀ (a b : List Int), a.length = 32 → b.length = 32 → (Op.equalIn 9999 44 (.agg (u8s a).toArray) (.agg (u8s b).toArray)).run Try.prog w = .ok (decide (a = b)) w := fun a b ha hb => run_equalIn_u8s w u44 Try.underlying5 hi5 hs5 9997 a b ha hb
  have h := run_eqF_cons w (P := Try.prog) (d := 9999) (n := "Kind") (by decide) (run_part_one w u3 rfl c.cells 0 rfl) (run_part_one w u3 rfl d.cells 0 rfl) (eqi _ _) fun _ =>
    run_eqF_cons w (n := "Old") (by decide) (run_part_one w u9 rfl c.cells 1 rfl) (run_part_one w u9 rfl d.cells 1 rfl) (eqs _ _) fun _ =>
    run_eqF_cons w (n := "New") (by decide) (run_part_one w u9 rfl c.cells 2 rfl) (run_part_one w u9 rfl d.cells 2 rfl) (eqs _ _) fun _ =>
    run_eqF_cons w (n := "OldMode") (by decide) (run_part_one w u3 rfl c.cells 3 rfl) (run_part_one w u3 rfl d.cells 3 rfl) (eqi _ _) fun _ =>
    run_eqF_cons w (n := "NewMode") (by decide) (run_part_one w u3 rfl c.cells 4 rfl) (run_part_one w u3 rfl d.cells 4 rfl) (eqi _ _) fun _ =>
    run_eqF_cons w (n := "OldID") (by decide) (po c hc) (po d hd) (eqa _ _ hc.oid hd.oid) fun _ =>
    run_eqF_cons w (n := "NewID") (by decide) (pn c hc) (pn d hd) (eqa _ _ hc.nid hd.nid) fun _ =>
    run_eqF_cons w (n := "Score") (by decide) (run_part_one w u3 rfl c.cells 69 (c.score_at hc)) (run_part_one w u3 rfl d.cells 69 (d.score_at hd)) (eqi _ _) fun _ => run_eqF_nil w
  refine h.trans (congrArg (fun b => Result.ok b w) ?_)
  simp only [str_beq]
  rw [Bool.eq_iff_iff]
  simp only [Bool.and_eq_true, beq_iff_eq, decide_eq_true_eq, and_true]
  cases c; cases d
  simp only [Chg.mk.injEq]

theorem run_neq_chg (c d : Chg) (hc : c.ok) (hd : d.ok) (w : World) : (binOp .neq 46 (.agg c.cells.toArray) (.agg d.cells.toArray)).run Try.prog w = .ok (.bool (!decide (c = d))) w := by
  rw [run_neq_struct, run_equalIn_chg c d hc hd]; rfl
theorem run_eql_chg (c d : Chg) (hc : c.ok) (hd : d.ok) (w : World) : (binOp .eql 46 (.agg c.cells.toArray) (.agg d.cells.toArray)).run Try.prog w = .ok (.bool (decide (c = d))) w := by
  rw [run_eql_struct, run_equalIn_chg c d hc hd]; rfl
end Go.Proofs.Ythhmamkphcgocaa

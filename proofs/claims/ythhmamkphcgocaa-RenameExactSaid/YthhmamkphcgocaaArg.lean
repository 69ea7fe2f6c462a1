/- A drawn list of changes, opened: it is a list of Chg. -/
import Derived.Test.YthhmamkphcgocaaChg
import Derived.Test.YthhmamkphcgocaaFnd
import Derived.Test.YthhmamkphcgocaaFlat
import Derived.ProofKit
import Derived.Deep.Slices
import Derived.OpenShut
namespace Go.Proofs.Ythhmamkphcgocaa
open Go.ChangeShapes Go.WideShapes Go.ChangeAt Go.RowKit Go.Deep

theorem cutAt {α : Type} (cs : List α) (a n b : Nat) (h : b = a + n) : cs.drop a = (cs.drop a).take n ++ cs.drop b := by
  subst h
  rw [← List.drop_drop, List.take_append_drop]

theorem all_u8 : ∀ (cs : List Value), (∀ i, i < cs.length → ∃ n, cs[i]? = some (.int .u8 n)) → ∃ l : List Int, cs = u8s l ∧ l.length = cs.length
  | [], _ => ⟨[], rfl, rfl⟩
  | c :: cs, h => by
    obtain ⟨n, hn⟩ := h 0 (by simp)
    obtain ⟨l, hl, hs⟩ := all_u8 cs (fun i hi => by
      obtain ⟨m, hm⟩ := h (i + 1) (by simpa using hi)
      exact ⟨m, by simpa using hm⟩)
    simp only [List.getElem?_cons_zero, Option.some.injEq] at hn
    refine ⟨n :: l, ?_, by simp [hs]⟩
    rw [hn, hl]; rfl

section
variable {H : Type} {enc : TypeId × Value → H} {w : World} {base : Nat} {spare : Nat → Bool} {held : Bool}

theorem cells5 : Try.prog.cellsOf 5 = 1 := by kernel_rfl
theorem cells3 : Try.prog.cellsOf 3 = 1 := by kernel_rfl
theorem cells9 : Try.prog.cellsOf 9 = 1 := by kernel_rfl
theorem cells44 : Try.prog.cellsOf 44 = 32 := by kernel_rfl
theorem cells46 : Try.prog.cellsOf 46 = 70 := by kernel_rfl

theorem trod_id {n : Nat} {cs : List Value} {x : DataW H × List MemPlace} (h : DataW.trod enc Try.prog w base spare held n 44 cs = some x) :
    ∃ l : List Int, cs = u8s l ∧ l.length = 32 := by
  obtain ⟨xs, m, _, _, hlen, hx, hi⟩ := DataW.trod_array Try.underlying44 h
  rw [cells44] at hlen
  obtain ⟨l, h1, h2⟩ := all_u8 cs (fun i hi' => by
    have := hi i (by omega)
    rw [cells5, Nat.mul_one, List.getElem?_eq_getElem (by omega)] at this
    obtain ⟨k, hk, _⟩ := DataW.trod_int Try.underlying5 this
    refine ⟨k, ?_⟩
    have e := congrArg (fun l => l[0]?) hk
    simpa [List.getElem?_take, List.getElem?_drop] using e)
  exact ⟨l, h1, by omega⟩

theorem trod_chg {n : Nat} {cs : List Value} {x : DataW H × List MemPlace} (h : DataW.trod enc Try.prog w base spare held n 46 cs = some x) :
    ∃ c : Chg, c.ok ∧ cs = c.cells := by
  obtain ⟨xs, m, _, _, hlen, hx, hi⟩ := DataW.trod_struct Try.underlying46 h
  rw [cells46] at hlen
  have look : ∀ i, i < 8 → xs[i]? = some (xs.getD i (.nil, [])) := fun i hi' => by
    have hx8 : xs.length = 8 := hx
    rw [List.getD_eq_getElem?_getD, List.getElem?_eq_getElem (by omega)]; rfl
  have g0 : DataW.trod enc Try.prog w base spare held m 3 (List.take (Try.prog.cellsOf 3) (List.drop 0 cs)) = some (xs.getD 0 (.nil, [])) := (hi 0 _ rfl).trans (look 0 (by decide))
  have g1 : DataW.trod enc Try.prog w base spare held m 9 (List.take (Try.prog.cellsOf 9) (List.drop 1 cs)) = some (xs.getD 1 (.nil, [])) := (hi 1 _ rfl).trans (look 1 (by decide))
  have g2 : DataW.trod enc Try.prog w base spare held m 9 (List.take (Try.prog.cellsOf 9) (List.drop 2 cs)) = some (xs.getD 2 (.nil, [])) := (hi 2 _ rfl).trans (look 2 (by decide))
  have g3 : DataW.trod enc Try.prog w base spare held m 3 (List.take (Try.prog.cellsOf 3) (List.drop 3 cs)) = some (xs.getD 3 (.nil, [])) := (hi 3 _ rfl).trans (look 3 (by decide))
  have g4 : DataW.trod enc Try.prog w base spare held m 3 (List.take (Try.prog.cellsOf 3) (List.drop 4 cs)) = some (xs.getD 4 (.nil, [])) := (hi 4 _ rfl).trans (look 4 (by decide))
  have g5 : DataW.trod enc Try.prog w base spare held m 44 (List.take (Try.prog.cellsOf 44) (List.drop 5 cs)) = some (xs.getD 5 (.nil, [])) := (hi 5 _ rfl).trans (look 5 (by decide))
  have g6 : DataW.trod enc Try.prog w base spare held m 44 (List.take (Try.prog.cellsOf 44) (List.drop 37 cs)) = some (xs.getD 6 (.nil, [])) := (hi 6 _ rfl).trans (look 6 (by decide))
  have g7 : DataW.trod enc Try.prog w base spare held m 3 (List.take (Try.prog.cellsOf 3) (List.drop 69 cs)) = some (xs.getD 7 (.nil, [])) := (hi 7 _ rfl).trans (look 7 (by decide))
  rw [cells3] at g0 g3 g4 g7
  rw [cells9] at g1 g2
  rw [cells44] at g5 g6
  obtain ⟨kind, e0, _⟩ := DataW.trod_int Try.underlying3 g0
  obtain ⟨old, e1, _, o1⟩ := DataW.trod_string Try.underlying9 g1
  obtain ⟨new, e2, _, o2⟩ := DataW.trod_string Try.underlying9 g2
  obtain ⟨om, e3, _⟩ := DataW.trod_int Try.underlying3 g3
  obtain ⟨nm, e4, _⟩ := DataW.trod_int Try.underlying3 g4
  obtain ⟨oid, e5, l5⟩ := trod_id g5
  obtain ⟨nid, e6, l6⟩ := trod_id g6
  obtain ⟨score, e7, _⟩ := DataW.trod_int Try.underlying3 g7
  refine ⟨⟨kind, old, new, om, nm, oid, nid, score⟩, ⟨l5, l6, o1, o2⟩, ?_⟩
  have t : cs.drop 70 = [] := List.drop_of_length_le (by omega)
  have s0 := cutAt cs 0 1 1 rfl
  rw [e0, cutAt cs 1 1 2 rfl, e1, cutAt cs 2 1 3 rfl, e2, cutAt cs 3 1 4 rfl, e3, cutAt cs 4 1 5 rfl, e4, cutAt cs 5 32 37 rfl, e5, cutAt cs 37 32 69 rfl, e6, cutAt cs 69 1 70 rfl, e7, t] at s0
  simpa [Chg.cells] using s0

theorem trod_chgs {n : Nat} {A : Option Addr} {len cap : Nat} {x : DataW H × List MemPlace}
    (h : DataW.trod enc Try.prog w base spare held n 22 [.slice A len cap] = some x) :
    ∃ l : List Chg, l.length = len ∧ LReads w w.heap.size A l ∧ Oks l ∧ (A = none → cap = 0) := by
  rcases open_slice Try.underlying22 h with ⟨hcs, _⟩ | ⟨a, len', cap', m, n', D, Pl, hcs, hb, hl, _, hm, _, hel⟩
  · simp only [List.cons.injEq, Value.slice.injEq, and_true] at hcs
    obtain ⟨rfl, rfl, rfl⟩ := hcs
    exact ⟨[], rfl, fun k c hc => by simp at hc, fun k c hc => by simp at hc, fun _ => rfl⟩
  · simp only [List.cons.injEq, Value.slice.injEq, and_true] at hcs
    obtain ⟨rfl, rfl, rfl⟩ := hcs
    have hlm : len ≤ m := by rw [hm]; split <;> omega
    have each : ∀ i, i < len → ∃ c : Chg, c.ok ∧ CellsAt w (a.add (i * 70)) c.cells := fun i hi => by
      obtain ⟨cs', h1, h2⟩ := hel i (by omega)
      obtain ⟨c, hc, rfl⟩ := trod_chg h2
      rw [cells46] at h1
      obtain ⟨_, hlen, hcell⟩ := World.cells?_some h1
      refine ⟨c, hc, fun j v hv => ?_⟩
      have hj : j < 70 := by
        have := (List.getElem?_eq_some_iff.1 hv).1
        omega
      rw [hcell j hj, hv]
    have pick : ∃ f : Nat → Chg, ∀ i, i < len → (f i).ok ∧ CellsAt w (a.add (i * 70)) (f i).cells :=
      ⟨fun i => if hi : i < len then (each i hi).choose else default, fun i hi => by
        simp only [dif_pos hi]
        exact (each i hi).choose_spec⟩
    obtain ⟨f, hf⟩ := pick
    have at' : ∀ k c, ((List.range len).map f)[k]? = some c → k < len ∧ c = f k := fun k c hc => by
      have hk : k < len := by simpa using (List.getElem?_eq_some_iff.1 hc).1
      refine ⟨hk, ?_⟩
      simp [List.getElem?_map, List.getElem?_range hk] at hc
      exact hc.symm
    refine ⟨(List.range len).map f, by simp, fun k c hc => ?_, fun k c hc => ?_, fun hn => by cases hn⟩
    · obtain ⟨hk, rfl⟩ := at' k c hc
      refine ⟨a, rfl, ?_, (hf k hk).2⟩
      have h0 : w.cell? ((a.add (k * 70)).add 0) = some (.int .i64 (f k).kind) := (hf k hk).2 0 _ rfl
      have := World.block_lt_of_cell? w _ h0
      rwa [block_add, block_add] at this
    · obtain ⟨hk, rfl⟩ := at' k c hc
      exact (hf k hk).1
end
end Go.Proofs.Ythhmamkphcgocaa

/- What the laws of rename need of lists of changes, apart from the searches. sleuthlaw26.plain, and what a load of a part of a block reads. sleuthlaw26.works, by a contract. A drawn list of changes, opened: it is a list of Chg. -/
import Derived.Test.YtbmpidacoohdmaaGreatF23
import Derived.Test.YtbmpidacoohdmaaGreatF18
import Derived.Test.YtbmpidacoohdmaaGreatF15
import Derived.Test.YtbmpidacoohdmaaGreatF16
import Derived.Test.YtbmpidacoohdmaaGreatF22
import Derived.ProofKit
import Derived.Deep.Slices
import Derived.OpenShut
namespace Go.Proofs.YtbmpidacoohdmaaGreat
open Go.RowKit Op
open Rn (Chg LReads CellsAt Oks)

theorem LReads.gs {w w2 : World} {B gs : Nat} {A : Option Addr} {l : List Chg} (h : LReads w B A l) (hB : B ≤ w.heap.size) (hc : Chs (fun k => k = gs) w w2) (hA : ∀ ad, A = some ad → ad.block ≠ gs) : LReads w2 B A l := fun k x hx => by
  obtain ⟨ad, e, hb, hcs⟩ := h k x hx
  exact ⟨ad, e, hb, hcs.keep fun p hp => World.cell?_of_block (hc.block p.block (by rw [hp, block_add]; omega) (fun q => hA ad e (by rw [← q, hp, block_add])))⟩
theorem inf43 : (Tryz.prog.info? 43).map (·.size) = some 3 := by kernel_rfl
theorem ld28_eq (a : Addr) : loadVar 28 a = ldT 28 a := rfl
theorem inf28 : (Tryz.prog.info? 28).map (·.size) = some 6 := by kernel_rfl
theorem same_true (w : World) (a : List Chg) (A D : Option Addr) (c d : Nat) {Ba Bb : Nat} (ha : LReads w Ba A a) (hb : LReads w Bb D a) (ok : Oks a) (hn : a.length ≤ 40) :
    Calls Tryz.prog 10 #[.slice A a.length c, .slice D a.length d] w fun e w' => e = .returned (.bool true) ∧ Below w.heap.size w w' := by
  have h := Rn.same_any w a a A D c d Ba Bb ha hb ok ok hn (by omega)
  rw [show decide (a = a) = true from decide_eq_true rfl] at h
  exact h.mono fun e w' ⟨he, m, hm⟩ => ⟨he, by subst hm; exact Rn.below_drewN (Below.refl _ _) m⟩
theorem LReads.chs {w w2 : World} {gs : Nat} {A : Option Addr} {l : List Chg} (h : LReads w w.heap.size A l) (hc : Chs (fun k => k = gs) w w2) (hA : ∀ ad, A = some ad → ad.block ≠ gs) : LReads w2 w2.heap.size A l := (LReads.gs h (Nat.le_refl _) hc hA).more hc.size
theorem LReads.off {w w2 : World} {g B : Nat} {A : Option Addr} {l : List Chg} {cs : Array Value} {ty : TypeId} {f : Nat × Nat} (h : LReads w B A l) (hB : B ≤ w.heap.size) (ok : Oks l) (hc : Chs (fun q => q = g) w w2) (hg : w.heap[g]? = some (.cells cs ty f)) (hs : cs.size < 70) : LReads w2 B A l := fun k x hx => by
  obtain ⟨ad, e, hb, hcs⟩ := h k x hx
  refine ⟨ad, e, hb, hcs.keep fun p hp => World.cell?_of_block (hc.block p.block (by rw [hp, block_add]; omega) (fun q => ?_))⟩
  have hl : x.cells[69]? = some (.int .i64 x.score) := Rn.Chg.score_at _ (ok k x hx)
  have hc69 := hcs 69 _ hl
  rw [hp, block_add] at q
  rw [Addr.add_add, show ad.add (k * 70 + 69) = ⟨g, ad.off + (k * 70 + 69), none⟩ by unfold Addr.add; rw [if_neg (by omega), ← q], cell_of_row w g _ _ _ _ hg] at hc69
  have := (Array.getElem?_eq_some_iff.1 hc69).1
  omega
theorem Below.chs {C g : Nat} {w0 w w2 : World} (hb : Below C w0 w) (hc : Chs (fun q => q = g) w w2) (hg : C ≤ g) (hC : C ≤ w0.heap.size) : Below C w0 w2 :=
  ⟨hc.os.trans hb.os, hc.tape.trans hb.tape, hc.output.trans hb.output, Nat.le_trans hb.size hc.size, fun k hk => (hc.block k (by have := hb.size; omega) (by omega)).trans (hb.block k hk)⟩
theorem chg_cells {u : World} {A : Option Addr} {l : List Chg} (h : LReads u u.heap.size A l) {k : Nat} (hk : k < l.length) : ∃ ad, A = some ad ∧ ∀ W, Below u.heap.size u W → CellsAt W (ad.add (k * 70)) (l.getD k default).cells := by
  obtain ⟨ad, e, hb, hc⟩ := h k (l.getD k default) (by simp [hk])
  exact ⟨ad, e, fun W hW => hc.keep fun p hp => hW.cell (by rw [hp, block_add]; exact hb)⟩
theorem infoC : (Tryz.prog.info? 53).map (·.size) = some 70 := by kernel_rfl
theorem ld53_eq (a : Addr) : loadVar 53 a = ldT 53 a := rfl
theorem ldC {W : World} {a : Addr} {x : Chg} (ok : x.ok) (hc : CellsAt W a x.cells) : (ldT 53 a).run Tryz.prog W = .ok (.agg x.cells.toArray) W := run_loadVar_cells Tryz.underlying53 rfl (by rw [Chg.cells_length _ ok]; exact infoC) hc
theorem Ar.cellsW {W : World} {g : Nat} {t : TypeId} {cs : List Value} (h : Ar W g t cs) : CellsAt W ⟨g, 0, none⟩ cs := fun j v hv => by
  rw [Addr.add_lit, Nat.zero_add]
  exact h.cell hv
end Go.Proofs.YtbmpidacoohdmaaGreat
namespace Go.Proofs.YtbmpidacoohdmaaGreat.Rn
open Lib renaming hid → hI
open Go.RowKit

def id1 : List Int := 1 :: List.replicate 31 0
def id0 : List Int := List.replicate 32 0
def txa : ByteArray := ⟨#[97]⟩
def txb : ByteArray := ⟨#[98]⟩
def wk1 : Chg := ⟨2, txa, ByteArray.empty, 1, 0, id1, id0, 0⟩
def wk2 : Chg := ⟨1, ByteArray.empty, txb, 0, 1, id0, id1, 0⟩
def wk3 : Chg := ⟨4, txa, txb, 1, 1, id1, id1, 1000⟩
theorem wk1_ok : wk1.ok := ⟨rfl, rfl, by decide, by decide⟩
theorem wk2_ok : wk2.ok := ⟨rfl, rfl, by decide, by decide⟩
theorem wk3_ok : wk3.ok := ⟨rfl, rfl, by decide, by decide⟩
def wks : Array Value := wk1.row ++ wk2.row

def bld44 (p : Nat × Value) : Sem Value := Instr.build 51 #[p]
def bld46d (p q r s : Nat × Value) : Sem Value := Instr.build 53 #[p, q, r, s]
def bld46h (p q r s t u v x : Nat × Value) : Sem Value := Instr.build 53 #[p, q, r, s, t, u, v, x]
def lit22b (p q : Nat × Value) : Sem Value := Instr.buildSlice 23 2 #[p, q]
section
variable {α : Type} (f : α → Nat × Value) (p q r s t u v x : α)
theorem bld44_eq : Instr.build 51 (Array.map f #[p]) = bld44 (f p) := by simp [bld44]
theorem bld46d_eq : Instr.build 53 (Array.map f #[p, q, r, s]) = bld46d (f p) (f q) (f r) (f s) := by simp [bld46d]
theorem bld46h_eq : Instr.build 53 (Array.map f #[p, q, r, s, t, u, v, x]) = bld46h (f p) (f q) (f r) (f s) (f t) (f u) (f v) (f x) := by simp [bld46h]
theorem lit22b_eq : Instr.buildSlice 23 2 (Array.map f #[p, q]) = lit22b (f p) (f q) := by simp [lit22b]
end
theorem run_bld44 (w : World) : (bld44 (0, .int .u8 1)).run Tryz.prog w = .ok (.agg (u8s id1).toArray) w := run_build w 51 _ _ (by kernel_rfl)
theorem run_wk1 (w : World) : (bld46d (0, .int .i64 2) (1, .string ⟨#[97]⟩) (3, .int .i64 1) (5, .agg (u8s id1).toArray)).run Tryz.prog w = .ok (.agg wk1.row) w := run_build w 53 _ _ (by kernel_rfl)
theorem run_wk2 (w : World) : (bld46d (0, .int .i64 1) (2, .string ⟨#[98]⟩) (4, .int .i64 1) (6, .agg (u8s id1).toArray)).run Tryz.prog w = .ok (.agg wk2.row) w := run_build w 53 _ _ (by kernel_rfl)
theorem run_wk3 (w : World) : (bld46h (0, .int .i64 4) (1, .string ⟨#[97]⟩) (3, .int .i64 1) (5, .agg (u8s id1).toArray) (2, .string ⟨#[98]⟩) (4, .int .i64 1) (6, .agg (u8s id1).toArray) (7, .int .i64 1000)).run Tryz.prog w = .ok (.agg wk3.row) w := run_build w 53 _ _ (by kernel_rfl)
theorem run_wks (w : World) : (lit22b (0, .agg wk1.row) (1, .agg wk2.row)).run Tryz.prog w = .ok (.slice (some ⟨w.heap.size, 0, none⟩) 2 2) (w.alloc (.cells wks 53)) := by kernel_rfl
theorem exact_wks : exactL [wk1, wk2] = [wk3] := by decide +kernel
theorem wks_cells : wks = ([wk1, wk2].flatMap Chg.cells).toArray := by simp [wks, Chg.row]

theorem wks_oks : Oks [wk1, wk2] := oks_of_mem (by intro x hx; simp at hx; rcases hx with rfl | rfl; exact wk1_ok; exact wk2_ok)
theorem wks_reads (w : World) : LReads (w.alloc (.cells wks 53)) (w.alloc (.cells wks 53)).heap.size (some ⟨w.heap.size, 0, none⟩) [wk1, wk2] := by
  intro k c hc
  refine ⟨_, rfl, by simp, fun j v hv => ?_⟩
  rw [add_add, wks_cells]
  exact new_cells w _ 53 w.heap.size rfl _ _ (flat_at _ wks_oks k c j v hc hv)

attribute [local go_sem ↓] load44_eq load46_eq bld44_eq bld46d_eq bld46h_eq lit22b_eq
attribute [local go_sem] run_bld44 run_wk1 run_wk2 run_wk3 run_wks later_refl

set_option maxRecDepth 100000 in
set_option maxHeartbeats 1000000 in
theorem works_any (w : World) : Calls Tryz.prog 11 #[] w fun e w' => e = .returned (.bool true) ∧ Below w.heap.size w w' := by
  have hc := prog_any (c := 2) (wks_reads w) wks_oks (by decide)
  rw [exact_wks] at hc
  have HC := hI hc
  have hq : ∀ W, (Op.equalIn 10000 53 (.agg wk3.row) (.agg wk3.row)).run Tryz.prog W = .ok true W := fun W => by
    have h := run_equalIn_chg wk3 wk3 wk3_ok wk3_ok W
    rw [show decide (wk3 = wk3) = true from decide_eq_true rfl] at h
    exact h
  clear hc
  go_enter Tryz.func11, Tryz.ntmps11
  go_wp2_with (go_at_call 26; refine HC.out.mono ?_; rintro e w1 ⟨D, d, rfl, hr, hb⟩; obtain ⟨ad, rfl, _, hld⟩ := run_load46_old hr (Nat.le_refl _) 0 (by decide) wk3_ok; have hld' := hld; simp only [Nat.zero_mul, Addr.add_zero'] at hld'; have HB := hI hb; clear hld hr hb)
  go_ret
  exact ⟨rfl, ((Below.refl _ _).alloc (Nat.le_refl _) _).trans (HB.out.mono (by simp))⟩
end Go.Proofs.YtbmpidacoohdmaaGreat.Rn
namespace Go.Proofs.YtbmpidacoohdmaaGreat.Rn
open Lib renaming hid → hI
open Go.ChangeShapes Go.WideShapes Go.ChangeAt Go.RowKit Go.Deep

theorem cutAt {α : Type} (cs : List α) (a n b : Nat) (h : b = a + n) : cs.drop a = (cs.drop a).take n ++ cs.drop b := by
  subst h
  rw [← List.drop_drop, List.take_append_drop]

theorem all_u8 : ∀ (cs : List Value), (∀ i, i < cs.length → ∃ n : Int, cs[i]? = some (.int .u8 n) ∧ 0 ≤ n ∧ n < 256) → ∃ l : List Int, cs = u8s l ∧ l.length = cs.length ∧ Byt l
  | [], _ => ⟨[], rfl, rfl, fun x hx => by cases hx⟩
  | c :: cs, h => by
    obtain ⟨n, hn, hr⟩ := h 0 (by simp)
    obtain ⟨l, hl, hs, hb⟩ := all_u8 cs (fun i hi => by
      obtain ⟨m, hm, hq⟩ := h (i + 1) (by simpa using hi)
      exact ⟨m, by simpa using hm, hq⟩)
    simp only [List.getElem?_cons_zero, Option.some.injEq] at hn
    refine ⟨n :: l, ?_, by simp [hs], fun x hx => by rcases List.mem_cons.1 hx with rfl | hx; exact hr; exact hb x hx⟩
    rw [hn, hl]; rfl

section
variable {H : Type} {enc : TypeId × Value → H} {w : World} {base : Nat} {spare : Nat → Bool} {held : Bool}

theorem cells5 : Tryz.prog.cellsOf 5 = 1 := by kernel_rfl
theorem cells3 : Tryz.prog.cellsOf 3 = 1 := by kernel_rfl
theorem cells9 : Tryz.prog.cellsOf 9 = 1 := by kernel_rfl
theorem cells44 : Tryz.prog.cellsOf 51 = 32 := by kernel_rfl
theorem cells46 : Tryz.prog.cellsOf 53 = 70 := by kernel_rfl

theorem trod_id {n : Nat} {cs : List Value} {x : DataW H × List MemPlace} (h : DataW.trod enc Tryz.prog w base spare held n 51 cs = some x) :
    ∃ l : List Int, cs = u8s l ∧ l.length = 32 ∧ Byt l := by
  obtain ⟨xs, m, _, _, hlen, hx, hi⟩ := DataW.trod_array Tryz.underlying51 h
  rw [cells44] at hlen
  obtain ⟨l, h1, h2, h3⟩ := all_u8 cs (fun i hi' => by
    have := hi i (by omega)
    rw [cells5, Nat.mul_one, List.getElem?_eq_getElem (by omega)] at this
    obtain ⟨k, hk, _, hwf⟩ := DataW.trod_int Tryz.underlying5 this
    refine ⟨k, ?_, by simp [Lit.wf] at hwf; have e1 : IntKind.u8.min = 0 := rfl; omega, by simp [Lit.wf] at hwf; have e2 : IntKind.u8.max = 255 := rfl; omega⟩
    have e := congrArg (fun l => l[0]?) hk
    simpa [List.getElem?_take, List.getElem?_drop] using e)
  exact ⟨l, h1, by omega, h3⟩

theorem trod_chg {n : Nat} {cs : List Value} {x : DataW H × List MemPlace} (h : DataW.trod enc Tryz.prog w base spare held n 53 cs = some x) :
    ∃ c : Chg, (c.ok ∧ Byt c.oid ∧ Byt c.nid) ∧ cs = c.cells := by
  obtain ⟨xs, m, _, _, hlen, hx, hi⟩ := DataW.trod_struct Tryz.underlying53 h
  rw [cells46] at hlen
  have look : ∀ i, i < 8 → xs[i]? = some (xs.getD i (.nil, [])) := fun i hi' => by
    have hx8 : xs.length = 8 := hx
    rw [List.getD_eq_getElem?_getD, List.getElem?_eq_getElem (by omega)]; rfl
  have g0 : DataW.trod enc Tryz.prog w base spare held m 3 (List.take (Tryz.prog.cellsOf 3) (List.drop 0 cs)) = some (xs.getD 0 (.nil, [])) := (hi 0 _ rfl).trans (look 0 (by decide))
  have g1 : DataW.trod enc Tryz.prog w base spare held m 9 (List.take (Tryz.prog.cellsOf 9) (List.drop 1 cs)) = some (xs.getD 1 (.nil, [])) := (hi 1 _ rfl).trans (look 1 (by decide))
  have g2 : DataW.trod enc Tryz.prog w base spare held m 9 (List.take (Tryz.prog.cellsOf 9) (List.drop 2 cs)) = some (xs.getD 2 (.nil, [])) := (hi 2 _ rfl).trans (look 2 (by decide))
  have g3 : DataW.trod enc Tryz.prog w base spare held m 3 (List.take (Tryz.prog.cellsOf 3) (List.drop 3 cs)) = some (xs.getD 3 (.nil, [])) := (hi 3 _ rfl).trans (look 3 (by decide))
  have g4 : DataW.trod enc Tryz.prog w base spare held m 3 (List.take (Tryz.prog.cellsOf 3) (List.drop 4 cs)) = some (xs.getD 4 (.nil, [])) := (hi 4 _ rfl).trans (look 4 (by decide))
  have g5 : DataW.trod enc Tryz.prog w base spare held m 51 (List.take (Tryz.prog.cellsOf 51) (List.drop 5 cs)) = some (xs.getD 5 (.nil, [])) := (hi 5 _ rfl).trans (look 5 (by decide))
  have g6 : DataW.trod enc Tryz.prog w base spare held m 51 (List.take (Tryz.prog.cellsOf 51) (List.drop 37 cs)) = some (xs.getD 6 (.nil, [])) := (hi 6 _ rfl).trans (look 6 (by decide))
  have g7 : DataW.trod enc Tryz.prog w base spare held m 3 (List.take (Tryz.prog.cellsOf 3) (List.drop 69 cs)) = some (xs.getD 7 (.nil, [])) := (hi 7 _ rfl).trans (look 7 (by decide))
  rw [cells3] at g0 g3 g4 g7
  rw [cells9] at g1 g2
  rw [cells44] at g5 g6
  obtain ⟨kind, e0, _⟩ := DataW.trod_int Tryz.underlying3 g0
  obtain ⟨old, e1, _, o1⟩ := DataW.trod_string Tryz.underlying9 g1
  obtain ⟨new, e2, _, o2⟩ := DataW.trod_string Tryz.underlying9 g2
  obtain ⟨om, e3, _⟩ := DataW.trod_int Tryz.underlying3 g3
  obtain ⟨nm, e4, _⟩ := DataW.trod_int Tryz.underlying3 g4
  obtain ⟨oid, e5, l5, b5⟩ := trod_id g5
  obtain ⟨nid, e6, l6, b6⟩ := trod_id g6
  obtain ⟨score, e7, _⟩ := DataW.trod_int Tryz.underlying3 g7
  refine ⟨⟨kind, old, new, om, nm, oid, nid, score⟩, ⟨⟨l5, l6, o1, o2⟩, b5, b6⟩, ?_⟩
  have t : cs.drop 70 = [] := List.drop_of_length_le (by omega)
  have s0 := cutAt cs 0 1 1 rfl
  rw [e0, cutAt cs 1 1 2 rfl, e1, cutAt cs 2 1 3 rfl, e2, cutAt cs 3 1 4 rfl, e3, cutAt cs 4 1 5 rfl, e4, cutAt cs 5 32 37 rfl, e5, cutAt cs 37 32 69 rfl, e6, cutAt cs 69 1 70 rfl, e7, t] at s0
  simpa [Chg.cells] using s0

theorem trod_chgs {n : Nat} {A : Option Addr} {len cap : Nat} {x : DataW H × List MemPlace}
    (h : DataW.trod enc Tryz.prog w base spare held n 23 [.slice A len cap] = some x) :
    ∃ l : List Chg, l.length = len ∧ LReads w w.heap.size A l ∧ Oks l ∧ (A = none → cap = 0) ∧ BytL l ∧ len ≤ maxLen := by
  rcases open_slice Tryz.underlying23 h with ⟨hcs, _⟩ | ⟨a, len', cap', m, n', D, Pl, hcs, hb, hl, hmx, hm, _, hel⟩
  · simp only [List.cons.injEq, Value.slice.injEq, and_true] at hcs
    obtain ⟨rfl, rfl, rfl⟩ := hcs
    exact ⟨[], rfl, fun k c hc => by simp at hc, fun k c hc => by simp at hc, fun _ => rfl, fun k c hc => by simp at hc, Nat.zero_le _⟩
  · simp only [List.cons.injEq, Value.slice.injEq, and_true] at hcs
    obtain ⟨rfl, rfl, rfl⟩ := hcs
    have hlm : len ≤ m := by rw [hm]; split <;> omega
    have each : ∀ i, i < len → ∃ c : Chg, (c.ok ∧ Byt c.oid ∧ Byt c.nid) ∧ CellsAt w (a.add (i * 70)) c.cells := fun i hi => by
      obtain ⟨cs', h1, h2⟩ := hel i (by omega)
      obtain ⟨c, hc, rfl⟩ := trod_chg h2
      rw [cells46] at h1
      obtain ⟨_, hlen, hcell⟩ := World.cells?_some h1
      refine ⟨c, hc, fun j v hv => ?_⟩
      have hj : j < 70 := by
        have := (List.getElem?_eq_some_iff.1 hv).1
        omega
      rw [hcell j hj, hv]
    have pick : ∃ f : Nat → Chg, ∀ i, i < len → ((f i).ok ∧ Byt (f i).oid ∧ Byt (f i).nid) ∧ CellsAt w (a.add (i * 70)) (f i).cells :=
      ⟨fun i => if hi : i < len then (each i hi).choose else default, fun i hi => by
        simp only [dif_pos hi]
        exact (each i hi).choose_spec⟩
    obtain ⟨f, hf⟩ := pick
    have at' : ∀ k c, ((List.range len).map f)[k]? = some c → k < len ∧ c = f k := fun k c hc => by
      have hk : k < len := by simpa using (List.getElem?_eq_some_iff.1 hc).1
      refine ⟨hk, ?_⟩
      simp [List.getElem?_map, List.getElem?_range hk] at hc
      exact hc.symm
    refine ⟨(List.range len).map f, by simp, fun k c hc => ?_, fun k c hc => ?_, (fun hn => by cases hn), fun k c hc => ?_, by omega⟩
    · obtain ⟨hk, rfl⟩ := at' k c hc
      refine ⟨a, rfl, ?_, (hf k hk).2⟩
      have h0 : w.cell? ((a.add (k * 70)).add 0) = some (.int .i64 (f k).kind) := (hf k hk).2 0 _ rfl
      have := World.block_lt_of_cell? w _ h0
      rwa [block_add, block_add] at this
    · obtain ⟨hk, rfl⟩ := at' k c hc
      exact (hf k hk).1.1
    · obtain ⟨hk, rfl⟩ := at' k c hc
      exact (hf k hk).1.2
end
end Go.Proofs.YtbmpidacoohdmaaGreat.Rn
namespace Go.Proofs.YtbmpidacoohdmaaGreat
open Lib renaming hid → hI
open Go.RowKit Op
open Rn (Chg LReads CellsAt Oks)

theorem ldP {W : World} {g n k : Nat} {t ty : TypeId} {cs ds : List Value} (h : Ar W g t cs) (hd : (cs.drop k).take n = ds) (hn : ds.length = n) {d : TypeDesc} (hu : Tryz.prog.underlying ty = some d) (hm : multi d = true) (hi : (Tryz.prog.info? ty).map (·.size) = some n) : (ldT ty ⟨g, k, none⟩).run Tryz.prog W = .ok (.agg ds.toArray) W :=
  run_loadVar_cells hu hm (by rw [hn]; exact hi) (fun j v hv => by
    have hj : j < ds.length := (List.getElem?_eq_some_iff.1 hv).1
    rw [Addr.add_lit]
    refine h.cell ?_
    rw [← hd, List.getElem?_take] at hv
    split at hv
    · rw [List.getElem?_drop] at hv; exact hv
    · cases hv)
set_option maxHeartbeats 1000000 in
theorem plain_any (w : World) (o1 o2 : Int) (o3 : Bool) : Calls Tryz.prog 9 #[.agg #[.int .i64 o1, .int .i64 o2, .bool o3]] w fun e w2 => e = .returned (.agg #[.int .i64 o1, .int .i64 o2, .bool o3]) ∧ Below w.heap.size w w2 := by
  go_enter Tryz.func9, Tryz.ntmps9
  go_wp2_with fail
  have R := Ar.new (w.alloc (.cells #[.int .i64 o1, .int .i64 o2, .bool o3] 26)) [.int .i64 o1, .int .i64 o2, .bool o3] 43
  rw [show (w.alloc (.cells #[.int .i64 o1, .int .i64 o2, .bool o3] 26)).heap.size = w.heap.size + 1 by simp] at R
  refine bodyPost_ret (results_cell_row rfl _ _ (w.heap.size + 1) 43 _ (0, 0) _ rfl R Tryz.underlying43 rfl inf43) rfl ?_
  exact ⟨rfl, ((Below.refl _ _).alloc (Nat.le_refl _) _).alloc (by simp) _⟩
theorem chgAt_ok {ids : List (List UInt8)} {ps : List (UInt8 × UInt8)} {L : List Chg} {k : Nat} (hk : k < L.length) (hL : Oks L) (hB : BytL L) (hi : ∀ x ∈ ids, x.length = 32) (hn : ids ≠ []) : (chgAt ids ps L k).ok ∧ Byt (chgAt ids ps L k).oid ∧ Byt (chgAt ids ps L k).nid := by
  have byt : ∀ l : List UInt8, Byt (intsU l) := fun l x hx => by
    obtain ⟨b, _, rfl⟩ := List.mem_map.1 hx
    have := b.toNat_lt
    omega
  have h32 : ∀ n : Nat, (ids.getD (n % ids.length) []).length = 32 := fun n => by
    have hp : 0 < ids.length := List.length_pos_iff.2 hn
    have hl := Nat.mod_lt n hp
    rw [show ids.getD (n % ids.length) [] = ids[n % ids.length] by simp [hl]]
    exact hi _ (List.getElem_mem _)
  have hat : L[k]? = some (L.getD k default) := by simp [hk]
  unfold chgAt
  split
  · exact ⟨ok_ids (hL k _ hat) (h32 _) (h32 _), byt _, byt _⟩
  · exact ⟨hL k _ hat, (hB k _ hat).1, (hB k _ hat).2⟩
theorem chgTo_ok {ids : List (List UInt8)} {ps : List (UInt8 × UInt8)} {L : List Chg} (hL : Oks L) (hB : BytL L) (hi : ∀ x ∈ ids, x.length = 32) (hn : ids ≠ []) : ∀ k, k ≤ L.length → ∀ x ∈ chgTo ids ps L k, x.ok ∧ Byt x.oid ∧ Byt x.nid
  | 0, _, x, hx => by cases hx
  | k + 1, hk, x, hx => by
    rw [chgTo] at hx
    rcases List.mem_append.1 hx with hx | hx
    · exact chgTo_ok hL hB hi hn k (by omega) x hx
    · obtain rfl := List.mem_singleton.1 hx
      exact chgAt_ok (by omega) hL hB hi hn
end Go.Proofs.YtbmpidacoohdmaaGreat

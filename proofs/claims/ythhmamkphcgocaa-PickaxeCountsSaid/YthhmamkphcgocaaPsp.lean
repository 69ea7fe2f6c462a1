/- line.Split, by a contract. -/
import Derived.RangeFuncBox
import Derived.Maps.AppendAt
import Derived.Test.YthhmamkphcgocaaItr
namespace Go.Proofs.Ythhmamkphcgocaa
open Go.RowKit
attribute [local go_sem] Oper.semAt_some

def Bx (w : World) (pre : List (List UInt8)) (W : World) : Prop := (∃ v u, Boxed W w.heap.size 34 v ∧ Boxed W (w.heap.size + 1) 27 u ∧ W.ownsRow w.heap.size 9 1 v pre.length (strs (sbs pre))) ∧ Below w.heap.size w W
theorem Bx.abs (w : World) {B : Nat} (hB : w.heap.size + 2 ≤ B) : Abs B (Bx w) where
  new := by
    rintro s W o ⟨⟨v, u, h1, h1', h2⟩, h3⟩
    exact ⟨⟨v, u, h1.alloc o, h1'.alloc o, h2.alloc o⟩, h3.alloc h3.size o⟩
  put := by
    rintro s W l o o' hl ho hc ⟨⟨v, u, h1, h1', h2⟩, h3⟩
    refine ⟨⟨v, u, ?_, ?_, ownsRow_putObj h2 o' ho hc⟩, h3.grown (grownBy_putObj' W l o') h3.size (fun k e => by cases e; omega)⟩
    · exact (World.putObj_heap_other (by omega)).trans h1
    · exact (World.putObj_heap_other (by omega)).trans h1'
theorem Bx.put {w : World} {pre : List (List UInt8)} {W : World} (v : Value) (h : Bx w pre W) : Bx w pre (W.setCell ⟨w.heap.size + 1, 0, none⟩ v) := by
  obtain ⟨⟨x, u, h1, h1', h2⟩, h3⟩ := h
  refine ⟨⟨x, v, h1.kept (grownBy_setCell' W _ v) (by simp), h1'.set v, h2.kept (grownBy_setCell' W _ v) (.inr (h1'.not_row (by decide) h2).symm)⟩, h3.setCell (p := ⟨w.heap.size + 1, 0, none⟩) (Nat.le_succ _) v⟩

set_option maxRecDepth 100000 in
set_option maxHeartbeats 2000000 in
theorem split_any (w : World) (A : Option Addr) (c : Nat) (l : List UInt8) (h : Rv w.heap.size w A (bys l)) (hl : l.length ≤ 390) (hcap : l.length ≤ c) :
    Calls Try.prog 23 #[.slice A l.length c] w fun e w' => ∃ v, e = .returned v ∧ w'.ownsRow w.heap.size 9 1 v (splitB [] l).length (strs (sbs (splitB [] l))) ∧ Below w.heap.size w w' := by
  obtain ⟨i9, hi9, hz9, hs9, hb9⟩ := info_parts info9b
  refine (callsIn_wide (n := 3)).1 ?_
  refine callsIn_of_wp_marks Try.func23 rfl trivial ?_ rfl
  simp only [Try.ntmps23, List.size_toArray, List.length_cons, List.length_nil, Nat.reduceAdd, Nat.reduceSub, Array.replicate_succ, Array.replicate_zero, List.push_toArray, List.append_toArray, List.nil_append, List.cons_append]
  gi_wp2_with (refine ⟨trivial, ?_⟩; refine (callsIn_wide.2 (lines_any _ A l.length c)).mono ?_; rintro e w' ⟨rfl, rfl⟩)
  have bO := Boxed.new w 34 (.slice none 0 0)
  have bN := Boxed.new (w.alloc (.cells #[.slice none 0 0] 34)) 27 (.slice A l.length c)
  rw [World.size_alloc] at bN
  have hB0 : Below w.heap.size w ((w.alloc (.cells #[.slice none 0 0] 34)).alloc (.cells #[.slice A l.length c] 27)) := ((Below.refl _ w).alloc (Nat.le_refl _) _).alloc (by simp) _
  refine wpIn_range_box (F := Fence.wide) (n := 3) rfl (by decide) (gf := 52) (lb := #[.pointer (some ⟨w.heap.size + 1, 0, none⟩)]) rfl trivial (enters_of Try.func52 (by kernel_rfl) rfl) (encs := fun x => #[.string (bs x)]) (fun x => ?_)
    (w.heap.size + 1) (by simp) (splitB [] l) (fun W => Rv w.heap.size W A (bys l)) ?seq (Bx w) (Bx.abs w (by simp)) (fun s W v h => h.put v) (fun s W hh => h.below hh.2) ⟨⟨_, _, bO.alloc _, bN, World.ownsRow_nil _ _ _ _⟩, hB0⟩
    (fun x => ⟨#[.slice A l.length c, undef, .slice none 0 0, .pointer (some ⟨w.heap.size, 0, none⟩), .string (bs x), .slice A l.length c, .func (.func 52) #[] #[.pointer (some ⟨w.heap.size + 1, 0, none⟩)], .string (bs x), undef, undef, undef, undef, undef], []⟩) ?assign ?body ?done
  · rfl
  case seq =>
    intro L J W hJX hK hY h0 hx hf
    refine iter_in _ L (w.heap.size + 1) w.heap.size l A c (by omega) hcap J hJX hK hY W h0 (hx.trans bN.cell) (hf.trans bN.frozen)
  case assign =>
    intro l x W K hK
    gi_wp2
    exact hK
  case body =>
    intro L pre x W hsz hlt hI
    have hlen := splitB_len l []
    obtain ⟨⟨v, u, hv, hu, hrow⟩, hB⟩ := hI
    have hc := hv.cell
    gi_wp2_with (gi_at_builtin; go_loud (refine wpListIn_append_own _ rfl _ _ 34 rfl w.heap.size 9 i9 (.string ByteArray.empty) 1 16 Try.underlying34 hi9 hz9 hs9 hb9 rfl (by decide) _ _ _ rfl (hrow.alloc _) ⟨W.heap.size, 0, none⟩ 1 1 [.string (bs x)] rfl rfl (cell_one_new _ _ _) (by simp [Value.oneCell']) (by unfold maxLen; omega) (by omega) (by have := hB.size; simp; omega) ?_; intro v' w1 hown' hgrow _; obtain ⟨g', cap', rfl⟩ := ownsRow_succ hown'; obtain ⟨hv1, hv2, hr2, hk2, hb2⟩ := hv.appended (by decide) hrow hB.size (Nat.le_refl _) hown' hgrow; have hc1 := hv1.cell; have hf1 := hv1.frozen; have hu1 : Boxed w1 (w.heap.size + 1) 27 u := (hu.alloc _).kept hgrow (hu.not_row (by decide) hrow)))
    have hu2 := hu1.kept (grownBy_setCell' w1 w.heap.size (.slice (some ⟨g', 0, none⟩) (pre.length + 1) cap')) (by simp)
    refine ⟨hu2.trans hu.symm, ⟨_, _, hv2, hu2, ?_⟩, hB.trans hb2⟩
    simpa [sbs, strs] using hr2
  case done =>
    intro D W hD hI hK
    obtain ⟨⟨v, u, hv, hu, hrow⟩, hB⟩ := hI
    have hc := hv.cell
    gi_wp2
    refine ⟨by simp, .inl ⟨_, _, rfl, run_takeDeferred hK, ?_⟩⟩
    exact ⟨_, results_tmp rfl _ _ _, v, rfl, ownsRow_putObj hrow _ hK rfl, hB.grown (grownBy_putObj' W D _) hB.size (fun k e => by cases e; simp at hD; omega)⟩
end Go.Proofs.Ythhmamkphcgocaa

/- What a law over made changes knows behind its first call of rename.Find. sleuthref26.ahead, by a contract. -/
import Derived.Test.YtbmpidacoohdmaaGreatF24
import Derived.Test.YtbmpidacoohdmaaGreatF35
namespace Go.Proofs.YtbmpidacoohdmaaGreat
open Go.RowKit Op
open Rn (Chg LReads CellsAt Oks ne_of_types)

structure CD (b g gd h : Nat) (ov : Value) (cs : List Value) (W : World) : Prop where
  own : ∃ cl, W.heap[b]? = some (.cells #[.pointer (some ⟨g, 0, none⟩), .pointer (some ⟨gd, 0, none⟩), .slice none 0 0, .slice none 0 0, .slice none 0 0, .bool cl, .bool false, ov, .bool false] 40 (0, 0))
  ask : Ar W h 28 cs
theorem CD.store {b g gd h : Nat} {ov : Value} {cs : List Value} {W : World} (H : CD b g gd h ov cs W) : W.cell? ⟨b, 0, none⟩ = some (.pointer (some ⟨g, 0, none⟩)) := by
  obtain ⟨cl, hb⟩ := H.own
  rw [cell_of_row W b 0 _ _ _ hb]; rfl
theorem CD.store2 {b g gd h : Nat} {ov : Value} {cs : List Value} {W : World} (H : CD b g gd h ov cs W) : W.cell? ⟨b, 1, none⟩ = some (.pointer (some ⟨gd, 0, none⟩)) := by
  obtain ⟨cl, hb⟩ := H.own
  rw [cell_of_row W b 1 _ _ _ hb]; rfl
theorem CD.keep {b g gd h : Nat} {ov : Value} {cs : List Value} {W W2 : World} (H : CD b g gd h ov cs W) (hb : W2.heap[b]? = W.heap[b]?) (hh : W2.heap[h]? = W.heap[h]?) : CD b g gd h ov cs W2 := by
  obtain ⟨cl, h1⟩ := H.own
  exact ⟨⟨cl, hb.trans h1⟩, hh.trans H.ask⟩
theorem CD.lt {b g gd h : Nat} {ov : Value} {cs : List Value} {W : World} (H : CD b g gd h ov cs W) : b < W.heap.size ∧ h < W.heap.size := by
  obtain ⟨cl, h1⟩ := H.own
  exact ⟨(Array.getElem?_eq_some_iff.1 h1).1, H.ask.lt⟩
theorem CD.below {b g gd h : Nat} {ov : Value} {cs : List Value} {W W2 : World} (H : CD b g gd h ov cs W) (hb : Below W.heap.size W W2) : CD b g gd h ov cs W2 := H.keep (hb.block _ H.lt.1) (hb.block _ H.lt.2)
theorem CD.chs {b g gd h q : Nat} {ov : Value} {cs : List Value} {W W2 : World} (H : CD b g gd h ov cs W) (hb : Chs (fun k => k = q) W W2) (h1 : b ≠ q) (h2 : h ≠ q) : CD b g gd h ov cs W2 := H.keep (hb.block _ H.lt.1 h1) (hb.block _ H.lt.2 h2)
/-- All that is known behind 'made', of the stores, the input and the changes. -/
structure Mde (w w1 : World) (b g gd : Nat) (ov : Value) (cs : List Value) (l : List Chg) (D : Option Addr) (f : List UInt8 → Option (List UInt8)) : Prop where
  low : w.heap.size ≤ g ∧ w.heap.size ≤ gd
  cd : CD b g gd w.heap.size ov cs w1
  psp : ∃ m l0 t kn, Psp w1 g m l0 t kn ∧ Cnt l0 f
  rsp : ∃ l0 A c fr t, Rsp w1 gd l0 A c fr t ∧ Cnt l0 f
  rd : LReads w1 w1.heap.size D l
  nb : b ≠ g ∧ b ≠ gd
  nh : w.heap.size ≠ g ∧ w.heap.size ≠ gd
  ng : gd ≠ g
  nd : ∀ ad, D = some ad → ad.block ≠ g ∧ ad.block ≠ gd
  bel : Below w.heap.size w w1
theorem mde_of {w w0 w1 : World} {b g m gd n k : Nat} {ov v : Value} {ks : List Kpt} {cs : List Value} {l : List Chg} {f : List UInt8 → Option (List UInt8)} (hw0 : Below w.heap.size w w0) (hq : Ar w0 w.heap.size 28 cs) (h : Bth w1 w0.heap.size b g m gd ov ks n f) (ho : w1.ownsRow w0.heap.size 53 70 v k (l.flatMap Chg.cells)) (hk : l.length = k) (hb : Below w0.heap.size w0 w1) (ok : Oks l) : ∃ D d, v = .slice D l.length d ∧ Mde w w1 b g gd ov cs l D f := by
  obtain ⟨l0, kn, t, hp, _, _, hc⟩ := h.psp
  obtain ⟨l2, A2, c2, fr2, t2, hr, _, _, hc2⟩ := h.rsp
  obtain ⟨lb, lg, lm, lgd⟩ := h.low
  obtain ⟨cl, hblk⟩ := h.blk
  obtain ⟨D, d, hv, hrd⟩ := Rn.own_reads ok (by rw [hk]; exact ho)
  have hq1 := hq.below hb hq.lt
  have hs := hw0.size
  have nd : ∀ ad, D = some ad → ad.block ≠ g ∧ ad.block ≠ gd := fun ad e => by
    obtain ⟨cs9, fr9, h9⟩ := own_typ ho ad.block (by rw [hv, e]; rfl)
    refine ⟨fun q => ?_, fun q => ?_⟩
    · have := (h9.symm.trans (q ▸ hp.blk))
      injection this with this
      injection this with _ this
      revert this
      decide
    · have := (h9.symm.trans (q ▸ hr.blk))
      injection this with this
      injection this with _ this
      revert this
      decide
  exact ⟨D, d, hv, ⟨by omega, by omega⟩, ⟨⟨cl, hblk⟩, hq1⟩, ⟨m, l0, t, kn, hp, hc⟩, ⟨l2, A2, c2, fr2, t2, hr, hc2⟩, hrd, ⟨ne_of_types hblk hp.blk (by decide), ne_of_types hblk hr.blk (by decide)⟩, ⟨ne_of_types hq1 hp.blk (by decide), ne_of_types hq1 hr.blk (by decide)⟩, ne_of_types hr.blk hp.blk (by decide), nd, hw0.trans (hb.mono hs)⟩
end Go.Proofs.YtbmpidacoohdmaaGreat
namespace Go.Proofs.YtbmpidacoohdmaaGreat
open Lib renaming hid → hI
open Go.RowKit Op
open Rn (Chg St)

def encW (x : Rw) : List Value := [.int .i64 (x.1 : Int), .int .i64 (x.2.1 : Int), .int .i64 (x.2.2.1 : Int), .bool x.2.2.2]
set_option maxRecDepth 100000 in
set_option maxHeartbeats 1000000 in
theorem ahead_any (w : World) (x y : Rw) : Calls Tryz.prog 57 #[.agg (encW x).toArray, .agg (encW y).toArray] w fun e w2 => e = .returned (.bool (ahd x y)) ∧ ∃ os, w2 = Sort.grow w os := by
  obtain ⟨x1, x2, x3, x4⟩ := x
  obtain ⟨y1, y2, y3, y4⟩ := y
  have X0 := (Ar.new w (encW (x1, x2, x3, x4)) 130).alloc (.cells (encW (y1, y2, y3, y4)).toArray 130)
  have hsz : (w.alloc (.cells (encW (x1, x2, x3, x4)).toArray 130)).heap.size = w.heap.size + 1 := by simp
  have Y0 := Ar.new (w.alloc (.cells (encW (x1, x2, x3, x4)).toArray 130)) (encW (y1, y2, y3, y4)) 130
  rw [hsz] at Y0
  have GR : Hid (∃ os, (w.alloc (.cells (encW (x1, x2, x3, x4)).toArray 130)).alloc (.cells (encW (y1, y2, y3, y4)).toArray 130) = Sort.grow w os) := hI ⟨_, by rw [Sort.alloc_eq_grow, Sort.alloc_eq_grow, Sort.grow_grow]⟩
  have p0 := X0.cell (k := 0) rfl
  have p1 := X0.cell (k := 1) rfl
  have p2 := X0.cell (k := 2) rfl
  have p3 := X0.cell (k := 3) rfl
  have q0 := Y0.cell (k := 0) rfl
  have q1 := Y0.cell (k := 1) rfl
  have q2 := Y0.cell (k := 2) rfl
  have q3 := Y0.cell (k := 3) rfl
  have HR : Hid (ahd (x1, x2, x3, x4) (y1, y2, y3, y4) = if x3 ≠ y3 then decide (y3 < x3) else if x4 ≠ y4 then x4 else if x1 ≠ y1 then decide (x1 < y1) else decide (x2 < y2)) := hI rfl
  generalize ahd (x1, x2, x3, x4) (y1, y2, y3, y4) = r at *
  clear hsz X0 Y0
  unfold encW at *
  generalize hw : ((w.alloc _).alloc _) = w0 at *
  go_enter Tryz.func57, Tryz.ntmps57
  by_cases c3 : x3 = y3
  · subst c3
    cases x4 <;> cases y4
    case false.true =>
      have E := hI (HR.out.trans (by rw [if_neg (by simp), if_pos (by simp)]) : r = false)
      clear HR
      go_wp2_with fail
      go_ret
      exact ⟨by rw [E.out]; first | rfl | simp, GR.out⟩
    case true.false =>
      have E := hI (HR.out.trans (by rw [if_neg (by simp), if_pos (by simp)]) : r = true)
      clear HR
      go_wp2_with fail
      go_ret
      exact ⟨by rw [E.out]; first | rfl | simp, GR.out⟩
    all_goals
      by_cases c1 : x1 = y1
      · subst c1
        have E := hI (HR.out.trans (by rw [if_neg (by simp), if_neg (by simp), if_neg (by simp)]) : r = decide (x2 < y2))
        clear HR
        go_wp2_with fail
        go_ret
        exact ⟨by rw [E.out]; first | rfl | simp, GR.out⟩
      · have E := hI (HR.out.trans (by rw [if_neg (by simp), if_neg (by simp), if_pos c1]) : r = decide (x1 < y1))
        have b1 : ((x1 : Int) != (y1 : Int)) = true := bne_iff_ne.2 (by omega)
        clear HR
        go_wp2_with fail
        go_ret
        exact ⟨by rw [E.out]; first | rfl | simp, GR.out⟩
  · have E := hI (HR.out.trans (by rw [if_pos c3]) : r = decide (y3 < x3))
    have b3 : ((x3 : Int) != (y3 : Int)) = true := bne_iff_ne.2 (by omega)
    clear HR
    go_wp2_with fail
    go_ret
    exact ⟨by rw [E.out]; first | rfl | simp, GR.out⟩
end Go.Proofs.YtbmpidacoohdmaaGreat

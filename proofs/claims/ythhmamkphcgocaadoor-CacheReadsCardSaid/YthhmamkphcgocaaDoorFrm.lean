/- sleuthref33.Read: what holds within the reading of a row. -/
import Derived.Test.YthhmamkphcgocaaDoorRed
import Derived.Test.YthhmamkphcgocaaDoorFck
import Derived.Test.YthhmamkphcgocaaDoorRfd
import Derived.Deep.Cut
namespace Go.Proofs.YthhmamkphcgocaaDoor
open Go.RowKit

theorem bdT67 (ps : Array (Nat × Value)) : Instr.build 67 ps = bdT 67 ps := rfl
theorem bxT67 (v : Value) : Instr.box 67 v = bxT 67 v := rfl
theorem run_bd67 (A : Option Addr) (n c : Nat) (k : Int) (W : World) : (bdT 67 #[(0, .slice A n c), (1, .int .i64 k)]).run Tryd.prog W = .ok (.agg #[.slice A n c, .int .i64 k, .int .i64 0]) W := run_build W _ _ _ (by kernel_rfl)
/-- A new Reader. -/
theorem rf_new {w : World} {ad : Addr} {c : Nat} {l : List UInt8} (h : Rv w.heap.size w (some ad) (bys l)) (had : ad.block < w.heap.size) (hc : l.length ≤ c) (hl : l.length ≤ 1000000000) (k : Nat) (hk : k ≤ l.length) :
    Rf (w.alloc (.cells #[.slice (some ad) l.length c, .int .i64 k, .int .i64 0] 67)) w.heap.size (some ad) c l k 0 := by
  have hb := (Below.refl w.heap.size w).alloc (Nat.le_refl _) (.cells #[.slice (some ad) l.length c, .int .i64 k, .int .i64 0] 67)
  exact ⟨heap_alloc_new w _, h.low hb hb.size, fun a e => (by have := Option.some.inj e; subst this; omega), hc, fun e => (by cases e), hk, hl⟩
/-- Within the reading of a row: the Reader, the row that is being made (at X), what lay at the round's start. -/
structure Tf (w w5 wr W : World) (g : Nat) (A : Option Addr) (c : Nat) (l : List UInt8) (X : Nat) (m : Mot) (k e : Nat) : Prop where
  rp : Rf W g A c l k e
  rx : Ar W X 73 m.cells
  hX : wr.heap.size ≤ X
  kp : ∀ {t : TypeId} {s : Nat} {v : Value} {n : Nat} {xs : List Value}, wr.ownsRow w5.heap.size t s v n xs → W.ownsRow w5.heap.size t s v n xs
  bel : Below w.heap.size w W
structure Fx (w w5 wr : World) (g : Nat) (A : Option Addr) (c : Nat) (l : List UInt8) (k0 : Nat) : Prop where
  r5 : Rf w5 g A c l k0 0
  hg : w.heap.size ≤ g
  h5 : w.heap.size ≤ w5.heap.size
  hr : w5.heap.size ≤ wr.heap.size
section
variable {w w5 wr W W2 : World} {g : Nat} {A : Option Addr} {c : Nat} {l : List UInt8} {X : Nat} {m m2 : Mot} {k e k2 e2 k0 : Nat}
theorem Tf.read (h : Tf w w5 wr W g A c l X m k e) (f : Fx w w5 wr g A c l k0) (hp : Rf W2 g A c l k2 e2) (hg : W.grownBy W2 (some g)) : Tf w w5 wr W2 g A c l X m k2 e2 := by
  have h1 := f.r5.lt
  have h2 := f.hr
  have h3 := h.hX
  exact ⟨hp, h.rx.later hg (by intro q; have := Option.some.inj q; omega), h.hX, fun ho => own_low (h.kp ho) hg h1, h.bel.trans (below_of_grown hg h.bel.size (fun q hq => by have := Option.some.inj hq; have := f.hg; omega))⟩
theorem Tf.aside (h : Tf w w5 wr W g A c l X m k e) (f : Fx w w5 wr g A c l k0) {r : Option Nat} (hg : W.grownBy W2 r) (hr : ∀ q, r = some q → X < q) : Tf w w5 wr W2 g A c l X m k e := by
  have h2 := f.hr
  have h3 := h.hX
  have h4 := f.h5
  refine ⟨Rd.aside f.r5 h.rp hg (fun q hq => by have := hr q hq; omega), h.rx.later hg (by intro q; have := hr _ q.symm; omega), h.hX, fun ho => (h.kp ho).kept hg ?_, h.bel.trans (below_of_grown hg h.bel.size (fun q hq => by have := hr q hq; omega))⟩
  rename_i t s v n xs
  cases hv : v.ownBlock with
  | none => exact .inl rfl
  | some b =>
    right
    intro q
    have := hr _ q.symm
    have := (ho.lt b hv).2
    omega
theorem Tf.set (h : Tf w w5 wr W g A c l X m k e) (f : Fx w w5 wr g A c l k0) (j : Nat) (v : Value) (hs : m.cells.set j v = m2.cells) : Tf w w5 wr (W.setCell ⟨X, j, none⟩ v) g A c l X m2 k e := by
  have h2 := f.hr
  have h3 := h.hX
  have h4 := f.h5
  refine ⟨Rd.past f.r5 h.rp (grown_cell W X j v) (by omega), by rw [← hs]; exact h.rx.set j v, h.hX, fun ho => (h.kp ho).kept (grown_cell W X j v) ?_, h.bel.setCell (p := ⟨X, j, none⟩) (show w.heap.size ≤ X by omega) v⟩
  rename_i t s u n xs
  cases hv : u.ownBlock with
  | none => exact .inl rfl
  | some b =>
    right
    intro q
    have := Option.some.inj q
    have := (ho.lt b hv).2
    omega
end
theorem rVar_bad (l : List UInt8) (most k e : Nat) : (rVar l most k e).2.2 ≠ 0 → (rVar l most k e).1 = 0 := by
  unfold rVar
  split
  · intro _; rfl
  · generalize numF 0 0 (l.drop k) = q
    obtain ⟨n, s, f⟩ := q
    dsimp only
    split
    · intro _; rfl
    · split
      · intro _; rfl
      · intro h; exact absurd rfl h
theorem oset (id : List UInt8) (tl : List Value) (hid : id.length = 32) (j : Nat) (v : Value) : (bys id ++ tl).set (32 + j) v = bys id ++ tl.set j v := mset id tl hid j v
theorem setOPath (id path p : List UInt8) (n : Int) (h : id.length = 32) : (Org.mk id path n).cells.set 32 (.string (bs p)) = (Org.mk id p n).cells := oset id _ h 0 _
theorem setOLine (id path : List UInt8) (n k : Int) (h : id.length = 32) : (Org.mk id path n).cells.set 33 (.int .i64 k) = (Org.mk id path k).cells := oset id _ h 1 _

/-- Within the reading of an origin: that, what was appended so far (at v), the origin that is being made (at Y). -/
structure Tg (w w5 wr W : World) (g : Nat) (A : Option Addr) (c : Nat) (l : List UInt8) (X : Nat) (m : Mot) (k e : Nat) (v : Value) (n : Nat) (xs : List Value) (Y : Nat) (o : Org) : Prop where
  tf : Tf w w5 wr W g A c l X m k e
  ow : W.ownsRow (X + 1) 52 34 v n xs
  ry : Ar W Y 52 o.cells
  hY : X < Y
  dY : ∀ q, v.ownBlock = some q → q ≠ Y
section
variable {w w5 wr W W2 : World} {g : Nat} {A : Option Addr} {c : Nat} {l : List UInt8} {X Y : Nat} {m m2 : Mot} {k e k2 e2 k0 n : Nat} {v : Value} {xs : List Value} {o o2 : Org}
theorem Tg.new (h : Tf w w5 wr W g A c l X m k e) (f : Fx w w5 wr g A c l k0) (ho : W.ownsRow (X + 1) 52 34 v n xs) (o : Org) : Tg w w5 wr (W.alloc (.cells o.cells.toArray 52)) g A c l X m k e v n xs W.heap.size o :=
  ⟨h.aside f (grown_alloc (grown_refl W none) _) (fun q hq => by cases hq), ho.alloc _, Ar.new W _ _, h.rx.lt, fun q hq => by have := (ho.lt q hq).2; omega⟩
theorem Tg.read (h : Tg w w5 wr W g A c l X m k e v n xs Y o) (f : Fx w w5 wr g A c l k0) (hp : Rf W2 g A c l k2 e2) (hg : W.grownBy W2 (some g)) : Tg w w5 wr W2 g A c l X m k2 e2 v n xs Y o := by
  have h1 := f.r5.lt
  have h2 := f.hr
  have h3 := h.tf.hX
  have h4 := h.hY
  exact ⟨h.tf.read f hp hg, own_low h.ow hg (by omega), h.ry.later hg (by intro q; have := Option.some.inj q; omega), h.hY, h.dY⟩
theorem Tg.set (h : Tg w w5 wr W g A c l X m k e v n xs Y o) (f : Fx w w5 wr g A c l k0) (j : Nat) (u : Value) (hs : o.cells.set j u = o2.cells) : Tg w w5 wr (W.setCell ⟨Y, j, none⟩ u) g A c l X m k e v n xs Y o2 := by
  have h4 := h.hY
  refine ⟨h.tf.aside f (grown_cell W Y j u) (fun q hq => by have := Option.some.inj hq; omega), h.ow.kept (grown_cell W Y j u) ?_, by rw [← hs]; exact h.ry.set j u, h.hY, h.dY⟩
  cases hv : v.ownBlock with
  | none => exact .inl rfl
  | some b =>
    right
    intro q
    have := Option.some.inj q
    exact h.dY b hv (by omega)
/-- The origin is appended; the row has the longer slice. -/
theorem Tf.more (h : Tf w w5 wr W g A c l X m k e) (f : Fx w w5 wr g A c l k0) (ho : W.ownsRow (X + 1) 52 34 v n xs) (hg : W.grownBy W2 v.ownBlock) : Tf w w5 wr W2 g A c l X m k e := by
  refine h.aside f hg (fun q hq => ?_)
  have := (ho.lt q hq).1
  omega
theorem Tf.own_set (j : Nat) (u : Value) (ho : W.ownsRow (X + 1) 52 34 v n xs) : (W.setCell ⟨X, j, none⟩ u).ownsRow (X + 1) 52 34 v n xs := own_low ho (grown_cell W X j u) (by omega)
end
theorem Mv.of_own3 {W : World} {B : Nat} {A : Option Addr} {c : Nat} {ms : List Mot} (h : W.ownsRow B 73 38 (.slice A ms.length c) ms.length (mots ms)) (hm : ∀ m ∈ ms, gotL m.r ∧ W.ownsRow B 52 34 (.slice m.A m.r.os.length m.c) m.r.os.length (orgs m.r.os)) : Mv W A ms := by
  obtain ⟨D, d, hv, hD, hd, hr, _⟩ := own_all h
  injection hv with h1 h2 h3
  subst h1
  exact ⟨hr, fun m hm2 => (hm m hm2).1.ok, fun m hm2 => Ov.of_own (hm m hm2).2 (hm m hm2).1.ok.os⟩
def FrOut (w : World) (R : List Lot × Nat) (e : Ending) (w2 : World) : Prop := RdOut w R e w2
end Go.Proofs.YthhmamkphcgocaaDoor

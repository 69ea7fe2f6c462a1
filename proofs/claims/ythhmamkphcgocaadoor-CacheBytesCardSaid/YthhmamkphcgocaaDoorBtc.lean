/- octet.Writer's contracts, with what lies beside; lengths of rows' bytes. -/
import Derived.Test.YthhmamkphcgocaaDoorPid
import Derived.Test.YthhmamkphcgocaaDoorPur
import Derived.Test.YthhmamkphcgocaaDoorMrw
import Derived.Test.YthhmamkphcgocaaDoorHss
namespace Go.Proofs.YthhmamkphcgocaaDoor
open Go.RowKit

theorem flat_le {α : Type} (f : α → List UInt8) (n : Nat) : ∀ l : List α, (∀ x ∈ l, (f x).length ≤ n) → (l.flatMap f).length ≤ l.length * n
  | [], _ => by simp
  | x :: l, h => by
    have h1 := h x (by simp)
    have h2 := flat_le f n l (fun y hy => h y (by simp [hy]))
    rw [List.flatMap_cons, List.length_append, List.length_cons, Nat.succ_mul]
    omega
theorem orgB_len {o : Org} (h : fitO o) : (orgB o).length ≤ 172 := by
  obtain ⟨h1, h2, h3, h4⟩ := h
  have a := varB_ten (n := o.path.length) (by omega)
  have b := varB_ten (n := o.line.toNat) (by omega)
  simp only [orgB, List.length_append]
  omega
/-- A row's bytes ahead of its origins. -/
def rowH (r : Lot) : List UInt8 := r.id ++ ((varB r.path.length ++ r.path) ++ (by8 r.algo.toNat :: by8 (flN r.de r.mo r.co 3) :: varB r.os.length))
theorem lotB_row (r : Lot) : lotB r = rowH r ++ r.os.flatMap orgB := by simp [lotB, rowH]
theorem rowH_len {r : Lot} (h : fitL r) : (rowH r).length ≤ 174 := by
  obtain ⟨h1, h2, h3, h4, h5, h6⟩ := h
  have a := varB_ten (n := r.path.length) (by omega)
  have b := varB_ten (n := r.os.length) (by omega)
  simp only [rowH, List.length_append, List.length_cons]
  omega
theorem orgs_le {r : Lot} (h : fitL r) (j : Nat) : ((r.os.take j).flatMap orgB).length ≤ 68800 := by
  have h1 := flat_le orgB 172 (r.os.take j) (fun o ho => orgB_len (h.2.2.2.2.2 o (List.mem_of_mem_take ho)))
  have h2 : (r.os.take j).length ≤ 400 := by rw [List.length_take]; have := h.2.2.2.2.1; omega
  exact Nat.le_trans h1 (Nat.mul_le_mul_right 172 h2)
theorem lotB_le {r : Lot} (h : fitL r) : (lotB r).length ≤ 70000 := by
  have h1 := rowH_len h
  have h2 := orgs_le h r.os.length
  rw [List.take_length] at h2
  rw [lotB_row, List.length_append]
  omega
theorem lots_le {l : List Lot} (h : ∀ x ∈ l, fitL x) (hl : l.length ≤ 64) (k : Nat) : ((l.take k).flatMap lotB).length ≤ 4480000 := by
  have h1 := flat_le lotB 70000 (l.take k) (fun o ho => lotB_le (h o (List.mem_of_mem_take ho)))
  have h2 : (l.take k).length ≤ 64 := by rw [List.length_take]; omega
  exact Nat.le_trans h1 (Nat.mul_le_mul_right 70000 h2)
theorem flat_next {α β : Type} [Inhabited α] (f : α → List β) (l : List α) (k : Nat) (h : k < l.length) : (l.take (k + 1)).flatMap f = (l.take k).flatMap f ++ f (l.getD k default) := by
  rw [List.take_add_one, List.flatMap_append, List.getElem?_eq_getElem h]
  simp [h]

/-- Blocks of other things than bytes stay. -/
structure Kp (W W2 : World) (g : Nat) : Prop where
  size : W.heap.size ≤ W2.heap.size
  ar : ∀ (X : Nat) (t : TypeId) (cs : List Value), Ar W X t cs → t ≠ 5 → X ≠ g → Ar W2 X t cs
/-- A Writer at g, made behind w, has written l. -/
structure Bt (w W : World) (g : Nat) (l : List UInt8) : Prop where
  ex : ∃ v, Wr W w.heap.size g v l
  bel : Below w.heap.size w W
  hg : w.heap.size ≤ g
section
variable {w W W2 : World} {g : Nat} {l m : List UInt8}
theorem Bt.lt (h : Bt w W g l) : g < W.heap.size := by
  obtain ⟨v, hv⟩ := h.ex
  exact Box1.lt hv
theorem Bt.next (h : Bt w W g l) {v : Value} (hv : Wr W w.heap.size g v l) {e : Ending} (hw : Wrote W w.heap.size g v m e W2) : e = .returned (.tuple #[]) ∧ Bt w W2 g m ∧ Kp W W2 g := by
  obtain ⟨rfl, v2, h1, h2⟩ := hw
  refine ⟨rfl, ⟨⟨v2, h1⟩, h.bel.trans (h2.below w.heap.size h.bel.size h.hg (fun k hk => (hv.old hk).1)), h.hg⟩, h2.size, fun X t cs ha ht hx => (h2.keep ha.lt hx (fun q => ?_)).trans ha⟩
  rcases hv.own.2 with ⟨e1, _⟩ | ⟨b, cap, cur, e1, _, hb, _⟩
  · rw [e1] at q; cases q
  · rw [e1] at q
    have q := Option.some.inj q
    dsimp only at q
    subst q
    have hh : W.heap[b]? = some (.cells cs.toArray t (0, 0)) := ha
    rw [hb] at hh
    injection hh with hh
    injection hh with _ hh
    exact ht hh.symm
theorem Bt.alloc (h : Bt w W g l) (o : Obj) : Bt w (W.alloc o) g l := by
  obtain ⟨v, hv⟩ := h.ex
  exact ⟨⟨v, Box1.alloc hv o⟩, h.bel.alloc h.bel.size o, h.hg⟩
theorem Bt.row (h : Bt w W g l) {X : Nat} {t : TypeId} {cs : List Value} (hx : Ar W X t cs) (ht : t ≠ 5) (hg : X ≠ g) (hX : w.heap.size ≤ X) (ds : Array Value) : Bt w (W.setRow X ds) g l := by
  obtain ⟨v, hv⟩ := h.ex
  refine ⟨⟨v, Box1.keep hv fun k hk hlt => setRow_other W X k ds (fun q => ?_)⟩, below_row h.bel X ds hX, h.hg⟩
  subst q
  rcases hk with rfl | hk
  · exact hg rfl
  · rcases hv.own.2 with ⟨e1, _⟩ | ⟨b, cap, cur, e1, _, hb, _⟩
    · rw [e1] at hk; cases hk
    · rw [e1] at hk
      have q := Option.some.inj hk
      dsimp only at q
      subst q
      have hh : W.heap[b]? = some (.cells cs.toArray t (0, 0)) := hx
      rw [hb] at hh
      injection hh with hh
      injection hh with _ hh
      exact ht hh.symm
theorem Bt.below (h : Bt w W g l) (hb : Below W.heap.size W W2) : Bt w W2 g l := by
  obtain ⟨v, hv⟩ := h.ex
  exact ⟨⟨v, Box1.keep hv fun k _ hlt => hb.block k hlt⟩, h.bel.trans (hb.mono h.bel.size), h.hg⟩
theorem btraw (h : Bt w W g l) (A : Option Addr) (c C : Nat) (hl : l.length ≤ 100000000) (hm : m.length ≤ 100000000) (hr : Rv C W A (bys m)) (hn : A = none → c = 0) :
    Calls Tryd.prog 34 #[.pointer (some ⟨g, 0, none⟩), .slice A m.length c] W fun e W2 => e = .returned (.tuple #[]) ∧ Bt w W2 g (l ++ m) ∧ Kp W W2 g := by
  obtain ⟨v, hv⟩ := h.ex
  exact (wraw_any W w.heap.size g v l m A c C hv h.bel.size (by omega) (by omega) hr hn).mono fun _ _ hw => h.next hv hw
theorem bttext (h : Bt w W g l) (hl : l.length ≤ 10000000) (hm : m.length ≤ 10000000) :
    Calls Tryd.prog 36 #[.pointer (some ⟨g, 0, none⟩), .string (bs m)] W fun e W2 => e = .returned (.tuple #[]) ∧ Bt w W2 g (l ++ (varB m.length ++ m)) ∧ Kp W W2 g := by
  obtain ⟨v, hv⟩ := h.ex
  exact (wtext_any W w.heap.size g v l m hv h.bel.size hl hm).mono fun _ _ hw => h.next hv hw
theorem btbyte (h : Bt w W g l) (x : Int) (c : UInt8) (hx : x = (c.toNat : Int)) (hl : l.length ≤ 100000000) :
    Calls Tryd.prog 37 #[.pointer (some ⟨g, 0, none⟩), .int .u8 x] W fun e W2 => e = .returned (.tuple #[]) ∧ Bt w W2 g (l ++ [c]) ∧ Kp W W2 g := by
  obtain ⟨v, hv⟩ := h.ex
  exact (wbyte_int W w.heap.size g v l x c hx hv h.bel.size (by omega)).mono fun _ _ hw => h.next hv hw
theorem btvar (h : Bt w W g l) (n : Nat) (hn : n < 18446744073709551616) (hl : l.length ≤ 100000000) :
    Calls Tryd.prog 39 #[.pointer (some ⟨g, 0, none⟩), .int .u64 n] W fun e W2 => e = .returned (.tuple #[]) ∧ Bt w W2 g (l ++ varB n) ∧ Kp W W2 g := by
  obtain ⟨v, hv⟩ := h.ex
  exact (wvar_any W w.heap.size g v l n hv h.bel.size hl hn).mono fun _ _ hw => h.next hv hw
theorem btu32 (h : Bt w W g l) (n : Nat) (hn : n < 4294967296) (hl : l.length ≤ 100000000) :
    Calls Tryd.prog 35 #[.pointer (some ⟨g, 0, none⟩), .int .u32 n] W fun e W2 => e = .returned (.tuple #[]) ∧ Bt w W2 g (l ++ be4 n) ∧ Kp W W2 g := by
  obtain ⟨v, hv⟩ := h.ex
  exact (wu32_any W w.heap.size g v l n hv h.bel.size hl hn).mono fun _ _ hw => h.next hv hw
theorem btbytes (h : Bt w W g l) (hl : l.length ≤ 100000000) :
    Calls Tryd.prog 40 #[.pointer (some ⟨g, 0, none⟩)] W fun e W2 => ∃ u, e = .returned u ∧ W2.ownsRow W.heap.size 5 1 u l.length (bys l) ∧ Bt w W2 g l ∧ Below W.heap.size W W2 := by
  obtain ⟨v, hv⟩ := h.ex
  refine (wbytes_any W w.heap.size g v l hv hl).mono fun _ W2 ⟨u, he, ho, hb⟩ => ⟨u, he, ho, h.below hb, hb⟩
end
theorem Rv.of_ar {W : World} {g : Nat} {t : TypeId} {cs : List Value} (h : Ar W g t cs) {n : Nat} {l : List UInt8} (hc : cs.take n = bys l) : Rv W.heap.size W (some ⟨g, 0, none⟩) (bys l) := fun k x hx => by
  refine ⟨_, rfl, h.lt, ?_⟩
  rw [Addr.add_lit, Nat.zero_add]
  refine h.cell ?_
  rw [← hc, List.getElem?_take] at hx
  split at hx
  · exact hx
  · cases hx
end Go.Proofs.YthhmamkphcgocaaDoor

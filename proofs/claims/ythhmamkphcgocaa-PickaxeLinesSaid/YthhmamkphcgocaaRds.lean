/- Plain laws on memory: slices of one-cell values that are read (Rv), from whatever block below B. No program. -/
import Derived.Test.YthhmamkphcgocaaRow
import Derived.Maps.AppendAt
import Derived.Laws.OwnMore
namespace Go.Proofs.Ythhmamkphcgocaa
open Go.RowKit

/-- The slice at A, below block B, holds the one-cell values xs. -/
def Rv (B : Nat) (w : World) (A : Option Addr) (xs : List Value) : Prop := ∀ k x, xs[k]? = some x → ∃ ad : Addr, A = some ad ∧ ad.block < B ∧ w.cell? (ad.add k) = some x
section
variable {B : Nat} {w w' : World} {A : Option Addr} {xs : List Value}
theorem Rv.keep (h : Rv B w A xs) (hk : ∀ p : Addr, p.block < B → w'.cell? p = w.cell? p) : Rv B w' A xs := fun k x hx => by
  obtain ⟨ad, e, hb, hc⟩ := h k x hx
  exact ⟨ad, e, hb, (hk _ (by rw [block_add]; exact hb)).trans hc⟩
theorem Rv.below (h : Rv B w A xs) (hb : Below B w w') : Rv B w' A xs := h.keep fun _ hp => hb.cell hp
theorem Rv.more (h : Rv B w A xs) {C : Nat} (hc : B ≤ C) : Rv C w A xs := fun k x hx => by
  obtain ⟨ad, e, hb, hcell⟩ := h k x hx
  exact ⟨ad, e, by omega, hcell⟩
theorem Rv.drewN (h : Rv B w A xs) (n : Nat) : Rv B (w.drewN n) A xs := h.keep fun _ _ => rfl
theorem Rv.at_ (h : Rv B w A xs) {k : Nat} {x : Value} (hx : xs[k]? = some x) : ∃ ad : Addr, A = some ad ∧ ad.block < B ∧ w.cell? (ad.add k) = some x := h k x hx
theorem Rv.some_ (h : Rv B w A xs) (hne : 0 < xs.length) : ∃ ad : Addr, A = some ad ∧ ad.block < B ∧ ∀ k x, xs[k]? = some x → w.cell? (ad.add k) = some x := by
  obtain ⟨ad, e, hb, _⟩ := h 0 xs[0] (List.getElem?_eq_getElem hne)
  refine ⟨ad, e, hb, fun k x hx => ?_⟩
  obtain ⟨ad', e', _, hc⟩ := h k x hx
  obtain rfl : ad = ad' := by rw [e] at e'; injection e'
  exact hc
theorem Rv.nil : Rv B w A [] := fun k x hx => by simp at hx
/-- A part of it, from k on. -/
theorem Rv.part (h : Rv B w A xs) (k : Nat) {ad : Addr} (e : A = some ad) (n : Nat) : Rv B w (some (ad.add k)) ((xs.drop k).take n) := fun j x hx => by
  have hx' : xs[k + j]? = some x := by
    rw [List.getElem?_take] at hx
    split at hx
    · simpa using hx
    · cases hx
  obtain ⟨ad', e', hb, hc⟩ := h (k + j) x hx'
  obtain rfl : ad = ad' := by rw [e] at e'; injection e'
  exact ⟨_, rfl, by rw [block_add]; exact hb, by rw [add_add]; exact hc⟩
theorem own_rv {C : Nat} {e : TypeId} {size : Nat} {v : Value} {n : Nat} (h : w.ownsRow C e size v n xs) : ∃ D d, v = .slice D n d ∧ (D = none → d = 0) ∧ Rv w.heap.size w D xs := by
  rcases h.2 with ⟨rfl, h0⟩ | ⟨b, cap, cur, rfl, hb, hh, hcap, hrest⟩
  · have hl : xs = [] := by have := h.1; rw [h0, Nat.zero_mul] at this; exact List.eq_nil_of_length_eq_zero this
    subst hl h0
    exact ⟨none, 0, rfl, fun _ => rfl, Rv.nil⟩
  · refine ⟨some ⟨b, 0, none⟩, cap, rfl, (fun e => by cases e), fun k x hx => ⟨⟨b, 0, none⟩, rfl, (Array.getElem?_eq_some_iff.1 hh).1, ?_⟩⟩
    have hk : k < xs.length := (List.getElem?_eq_some_iff.1 hx).1
    have h1 := h.cellAt (g := b) k (by rw [h.1] at hk; exact hk)
    rw [Addr.add_lit, Nat.zero_add]
    exact h1.trans hx
end
theorem below_dr {B : Nat} {a w : World} (h : Below B a w) (n : Nat) : Below B a (w.drewN n) := ⟨h.os, h.tape, h.output, h.size, h.block⟩
def ints (l : List Int) : List Value := l.map (Value.int .i64)
def strs (l : List ByteArray) : List Value := l.map Value.string
theorem ints_len (l : List Int) : (ints l).length = l.length := by simp [ints]
theorem strs_len (l : List ByteArray) : (strs l).length = l.length := by simp [strs]
theorem ints_at {xs : List Int} {k : Nat} (h : k < xs.length) : (ints xs)[k]? = some (.int .i64 (xs.getD k 0)) := by simp [ints, h]
theorem strs_at {xs : List ByteArray} {k : Nat} (h : k < xs.length) : (strs xs)[k]? = some (.string (xs.getD k ByteArray.empty)) := by simp [strs, h]
theorem ints_snoc (l : List Int) (x : Int) : ints (l ++ [x]) = ints l ++ [.int .i64 x] := by simp [ints]
theorem strs_snoc (l : List ByteArray) (x : ByteArray) : strs (l ++ [x]) = strs l ++ [.string x] := by simp [strs]
end Go.Proofs.Ythhmamkphcgocaa

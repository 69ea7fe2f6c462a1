/- The prefixes of a needle that end a text, plain: what backs and Count reckon. -/
import Derived.Test.YthhmamkphcgocaaCnt
namespace Go.Proofs.Ythhmamkphcgocaa
open Go.RowKit

/-- k is the longest beginning of p that ends u. -/
structure Mx (p u : List UInt8) (k : Nat) : Prop where
  le : k ≤ p.length
  suf : p.take k <:+ u
  max : ∀ m, m ≤ p.length → p.take m <:+ u → m ≤ k
/-- .. of those that c may continue, none is longer than k. -/
structure Ex (p u : List UInt8) (c : UInt8) (k : Nat) : Prop where
  le : k ≤ p.length
  suf : p.take k <:+ u
  max : ∀ m, m < p.length → p.getD m 0 = c → p.take m <:+ u → m ≤ k
/-- The longest beginning that ends the first k bytes, itself left out. -/
def Bk (p : List UInt8) (k b : Nat) : Prop := Mx p ((p.take k).drop 1) b

section
variable {p u : List UInt8} {c : UInt8} {k b : Nat}
theorem Mx.ex (h : Mx p u k) : Ex p u c k := ⟨h.le, h.suf, fun m hm _ hs => h.max m (Nat.le_of_lt hm) hs⟩
theorem mx_nil : Mx p [] 0 := by
  refine ⟨Nat.zero_le _, by simp, fun m hm h => ?_⟩
  have := h.length_le
  rw [List.length_take, List.length_nil] at this
  omega
theorem Bk.lt (h : Bk p k b) (hk : 0 < k) (hp : k ≤ p.length) : b < k := by
  have := h.suf.length_le
  have hb := h.le
  rw [List.length_take, List.length_drop, List.length_take] at this
  omega
theorem Ex.back (h : Ex p u c k) (hk : 0 < k) (hn : k = p.length ∨ p.getD k 0 ≠ c) (hb : Bk p k b) : Ex p u c b := by
  have hd : (p.take k).drop 1 <:+ p.take k := List.drop_suffix _ _
  refine ⟨hb.le, (hb.suf.trans hd).trans h.suf, fun m hm hc hs => ?_⟩
  have h1 := h.max m hm hc hs
  have h2 : m ≠ k := by
    rintro rfl
    rcases hn with h | h
    · omega
    · exact h hc
  have hkl := h.le
  have h3 : p.take m <:+ p.take k := List.suffix_of_suffix_length_le hs h.suf (by simp; omega)
  exact hb.max m (Nat.le_of_lt hm) (List.suffix_of_suffix_length_le h3 hd (by simp; omega))
theorem take_next (h : k < p.length) : p.take (k + 1) = p.take k ++ [p.getD k 0] := by
  rw [List.take_succ_eq_append_getElem h]; simp [h]
theorem Ex.hit (h : Ex p u c k) (hk : k < p.length) (hc : p.getD k 0 = c) : Mx p (u ++ [c]) (k + 1) := by
  refine ⟨hk, ?_, fun m hm hs => ?_⟩
  · obtain ⟨t, ht⟩ := h.suf
    exact ⟨t, by rw [take_next hk, hc, ← List.append_assoc, ht]⟩
  · rcases m with _ | m
    · omega
    · obtain ⟨t, ht⟩ := hs
      rw [take_next (by omega), ← List.append_assoc] at ht
      obtain ⟨h1, h2⟩ := List.append_inj' ht rfl
      have := h.max m (by omega) (by simpa using h2) ⟨t, h1⟩
      omega
theorem Ex.miss (h : Ex p u c 0) (hc : 0 < p.length → p.getD 0 0 ≠ c) : Mx p (u ++ [c]) 0 := by
  refine ⟨Nat.zero_le _, by simp, fun m hm hs => ?_⟩
  rcases m with _ | m
  · omega
  · obtain ⟨t, ht⟩ := hs
    rw [take_next (by omega), ← List.append_assoc] at ht
    obtain ⟨h1, h2⟩ := List.append_inj' ht rfl
    have h2' : p.getD m 0 = c := by simpa using h2
    have := h.max m (by omega) h2' ⟨t, h1⟩
    obtain rfl : m = 0 := by omega
    exact absurd h2' (hc (by omega))
theorem Mx.full (h : Mx p u k) : k = p.length ↔ p <:+ u := by
  constructor
  · rintro rfl
    have := h.suf
    rwa [List.take_length] at this
  · intro hs
    have := h.max p.length (Nat.le_refl _) (by rw [List.take_length]; exact hs)
    have := h.le
    omega
end
theorem suffix_all {nd l : List UInt8} (h : nd.length = l.length) : nd <:+ l ↔ nd = l :=
  ⟨fun hs => hs.eq_of_length h, fun e => e ▸ List.suffix_refl _⟩
theorem cnt_snoc (nd : List UInt8) (hne : nd ≠ []) (c : UInt8) : ∀ u, cnt nd (u ++ [c]) = cnt nd u + if nd <:+ u ++ [c] then 1 else 0 := by
  have hp : 0 < nd.length := List.length_pos_iff.2 hne
  intro u
  induction u with
  | nil =>
    simp only [List.nil_append, cnt, Nat.add_zero, Nat.zero_add]
    have e : (nd ≠ [] ∧ List.take nd.length [c] = nd) ↔ nd <:+ [c] := by
      constructor
      · rintro ⟨_, h⟩; rw [← h]; rw [List.take_of_length_le (by simp; omega)]; exact List.suffix_refl _
      · intro h
        refine ⟨hne, ?_⟩
        have h1 := h.length_le
        have : nd = [c] := h.eq_of_length (by simp at h1 ⊢; omega)
        rw [this]; rfl
    by_cases h : nd <:+ [c]
    · rw [if_pos (e.2 h), if_pos h]
    · rw [if_neg (fun x => h (e.1 x)), if_neg h]
  | cons x u ih =>
    rw [List.cons_append, cnt, cnt, ih]
    by_cases h1 : nd.length ≤ u.length + 1
    · have e1 : List.take nd.length (x :: (u ++ [c])) = List.take nd.length (x :: u) := by
        rw [← List.cons_append, List.take_append_of_le_length (by simpa using h1)]
      have e2 : (nd <:+ x :: (u ++ [c])) ↔ nd <:+ u ++ [c] := by
        rw [List.suffix_cons_iff]
        constructor
        · rintro (rfl | h)
          · simp at h1; omega
          · exact h
        · exact Or.inr
      rw [e1]
      by_cases h : nd <:+ u ++ [c]
      · rw [if_pos h, if_pos (e2.2 h)]; omega
      · rw [if_neg h, if_neg (fun y => h (e2.1 y))]; omega
    · have e1 : ¬ nd <:+ u ++ [c] := fun h => by have := h.length_le; simp at this; omega
      have e2 : ¬ (nd ≠ [] ∧ List.take nd.length (x :: u) = nd) := fun h => by have := congrArg List.length h.2; simp at this; omega
      have e3 : (nd ≠ [] ∧ List.take nd.length (x :: (u ++ [c])) = nd) ↔ nd <:+ x :: (u ++ [c]) := by
        rw [List.suffix_cons_iff]
        constructor
        · rintro ⟨_, h⟩
          left
          rw [List.take_of_length_le (by simp; omega)] at h
          exact h.symm
        · rintro (h | h)
          · exact ⟨hne, by rw [h]; exact List.take_of_length_le (Nat.le_refl _)⟩
          · exact absurd h e1
      rw [if_neg e1, if_neg e2]
      by_cases h : nd <:+ x :: (u ++ [c])
      · rw [if_pos h, if_pos (e3.2 h)]; omega
      · rw [if_neg h, if_neg (fun y => h (e3.1 y))]; omega
theorem cnt_mx {nd u : List UInt8} {c : UInt8} {k : Nat} (hne : nd ≠ []) (h : Mx nd (u ++ [c]) k) : cnt nd (u ++ [c]) = cnt nd u + if k = nd.length then 1 else 0 := by
  rw [cnt_snoc nd hne]
  by_cases e : k = nd.length
  · rw [if_pos e, if_pos (h.full.1 e)]
  · rw [if_neg e, if_neg (fun x => e (h.full.2 x))]
/-- The needle's own first bytes, one more. -/
theorem bk_next {p : List UInt8} {i : Nat} (h1 : 1 ≤ i) (h : i < p.length) : (p.take (i + 1)).drop 1 = (p.take i).drop 1 ++ [p.getD i 0] := by
  rw [take_next h, List.drop_append_of_le_length (by simp; omega)]
theorem bk_one (p : List UInt8) : Bk p 1 0 := by
  have : (p.take 1).drop 1 = [] := List.drop_eq_nil_of_le (by simp; omega)
  unfold Bk
  rw [this]
  exact mx_nil
end Go.Proofs.Ythhmamkphcgocaa

/- The plain law: the program's finder and the reference find the same renames. No walk. -/
import Derived.Test.YthhmamkphcgocaaTwo
namespace Go.Proofs.Ythhmamkphcgocaa

theorem ff_bd (p : Nat → Bool) : ∀ m i, firstFrom p m i = -1 ∨ ∃ j : Nat, i ≤ j ∧ j < i + m ∧ p j = true ∧ firstFrom p m i = j := by
  intro m
  induction m with
  | zero => intro i; exact .inl rfl
  | succ m ih =>
    intro i
    unfold firstFrom
    by_cases h : p i = true
    · rw [if_pos h]; exact .inr ⟨i, Nat.le_refl _, by omega, h, rfl⟩
    · rw [if_neg h]
      rcases ih (i + 1) with h1 | ⟨j, h1, h2, h3, h4⟩
      · exact .inl h1
      · exact .inr ⟨j, by omega, by omega, h3, h4⟩
theorem ff_none (p : Nat → Bool) : ∀ m i, firstFrom p m i = -1 → ∀ j, i ≤ j → j < i + m → p j = false := by
  intro m
  induction m with
  | zero => intro i _ j h1 h2; omega
  | succ m ih =>
    intro i h j h1 h2
    unfold firstFrom at h
    by_cases hp : p i = true
    · rw [if_pos hp] at h; omega
    · rw [if_neg hp] at h
      by_cases hj : j = i
      · subst hj; simpa using hp
      · exact ih (i + 1) h j (by omega) (by omega)
theorem ff_snoc (p : Nat → Bool) : ∀ m i, firstFrom p (m + 1) i = if 0 ≤ firstFrom p m i then firstFrom p m i else if p (i + m) then ((i + m : Nat) : Int) else -1 := by
  intro m
  induction m with
  | zero => intro i; simp [firstFrom]
  | succ m ih =>
    intro i
    have e1 : firstFrom p (m + 1 + 1) i = if p i then (i : Int) else firstFrom p (m + 1) (i + 1) := rfl
    have e2 : firstFrom p (m + 1) i = if p i then (i : Int) else firstFrom p m (i + 1) := rfl
    rw [e1, e2, ih (i + 1)]
    by_cases hp : p i = true
    · simp [hp]
    · simp only [hp, if_false, Bool.false_eq_true]
      rw [show i + 1 + m = i + (m + 1) by omega]

theorem hit_true (l : List Chg) (s : St) (k i : Nat) : hit l s k true i = (cand l s k i && isNamed l i k) := by simp [hit, cand]
theorem hit_false (l : List Chg) (s : St) (k i : Nat) : hit l s k false i = cand l s k i := by simp [hit, cand]

theorem refAt_eq (l : List Chg) (s : St) (k : Nat) : ∀ i, refAt l s k i = if firstFrom (hit l s k true) i 0 < 0 then firstFrom (hit l s k false) i 0 else firstFrom (hit l s k true) i 0 := by
  intro i
  induction i with
  | zero => simp [refAt, firstFrom]
  | succ i ih =>
    show refNext l s k (refAt l s k i) i = _
    rw [ff_snoc, ff_snoc, ih]
    simp only [Nat.zero_add, hit_true, hit_false]
    unfold refNext
    rcases ff_bd (hit l s k true) i 0 with hT | ⟨t, _, ht2, ht3, hT⟩
    · have hno := ff_none _ _ _ hT
      rw [hT]
      rcases ff_bd (hit l s k false) i 0 with hb | ⟨b, _, hb2, hb3, hb⟩
      · rw [hb]
        by_cases hc : cand l s k i = true <;> by_cases hn : isNamed l i k = true <;> simp [hc, hn] <;> omega
      · have hnb := hno b (by omega) (by omega)
        rw [hit_true] at hnb
        rw [hit_false] at hb3
        have hnm : isNamed l b k = false := by simpa [hb3] using hnb
        rw [hb]
        by_cases hc : cand l s k i = true <;> by_cases hn : isNamed l i k = true <;> simp [hc, hn, hnm] <;> omega
    · rw [hit_true] at ht3
      have hnm : isNamed l t k = true := by
        simp only [Bool.and_eq_true] at ht3
        exact ht3.2
      rw [hT]
      have ht0 : ¬ ((t : Int) < 0) := by omega
      have ht1 : (0 : Int) ≤ (t : Int) := by omega
      rw [if_neg ht0, if_pos ht1, if_neg ht0]
      by_cases hc : cand l s k i = true
      · rw [if_pos hc, if_neg ht0, Int.toNat_natCast, hnm]
        simp
      · rw [if_neg hc, if_neg ht0]

theorem found_eq (l : List Chg) (s : St) (k : Nat) : foundAt l s k = refAt l s k l.length := (refAt_eq l s k l.length).symm

/-- What the two states agree in. -/
structure Agree (l : List Chg) (s r : St) (k : Nat) : Prop where
  kd : s.kd = r.kd
  sc : s.sc = r.sc
  tk : s.tk = r.tk
  lF : s.fr.length = l.length
  rF : r.fr.length = l.length
  lK : s.kd.length = l.length
  fr : ∀ j, 0 < s.kd.getD j 0 → ∃ i : Nat, i < l.length ∧ s.fr.getD j 0 = i ∧ r.fr.getD j 0 = i
  zero : ∀ j, k ≤ j → s.kd.getD j 0 = 0

theorem refAt_tk (l : List Chg) (s r : St) (k : Nat) (h : s.tk = r.tk) : ∀ i, refAt l s k i = refAt l r k i := by
  intro i
  induction i with
  | zero => rfl
  | succ i ih =>
    show refNext l s k (refAt l s k i) i = refNext l r k (refAt l r k i) i
    rw [ih]
    unfold refNext cand isSource
    rw [h]

theorem agree (l : List Chg) : ∀ k, k ≤ l.length → Agree l (exactTo l (st0 l.length 0) k) (refTo l k) k := by
  intro k
  induction k with
  | zero =>
    intro _
    refine ⟨rfl, rfl, rfl, by simp [exactTo, st0], by simp [refTo, refTo.st0], by simp [exactTo, st0], ?_, ?_⟩
    · intro j hj
      exfalso
      have : (List.replicate l.length (0 : Int)).getD j 0 = 0 := by simp [List.getD_eq_getElem?_getD, List.getElem?_replicate]; split <;> rfl
      simp only [exactTo, st0] at hj
      omega
    · intro j _
      simp [exactTo, st0, List.getD_eq_getElem?_getD, List.getElem?_replicate]
      split <;> rfl
  | succ k ih =>
    intro hk
    have h := ih (by omega)
    show Agree l (exactStep l (exactTo l (st0 l.length 0) k) k) (refStep l (refTo l k) k) (k + 1)
    generalize exactTo l (st0 l.length 0) k = s at *
    generalize refTo l k = r at *
    have hz := h.zero k (Nat.le_refl _)
    unfold exactStep refStep
    by_cases hkind : (l.getD k default).kind = 1
    · have ht : isTarget l s k = true := by simp only [isTarget, hz, hkind]; rfl
      rw [if_pos hkind, if_pos ht, found_eq, refAt_tk l s r k h.tk]
      rcases refAt_bd l r k l.length with ha | ⟨j, hj, ha⟩
      · rw [ha, if_neg (by omega), if_neg (by omega)]
        exact ⟨h.kd, h.sc, h.tk, h.lF, h.rF, h.lK, h.fr, fun j hj => h.zero j (by omega)⟩
      · rw [ha, if_pos (by omega), if_pos (by omega), Int.toNat_natCast]
        refine ⟨by simp [pairSt, refStep.pairS, h.kd], by simp [pairSt, refStep.pairS, h.sc], by simp [pairSt, refStep.pairS, h.tk], by simp [pairSt, h.lF], by simp [refStep.pairS, h.rF], by simp [pairSt, h.lK], ?_, ?_⟩
        · intro m hm
          by_cases hmk : m = k
          · subst hmk
            have hml : m < l.length := by omega
            refine ⟨j, hj, ?_, ?_⟩
            · simp [pairSt, List.getD_eq_getElem?_getD, h.lF, hml]
            · simp [refStep.pairS, List.getD_eq_getElem?_getD, h.rF, hml]
          · have hm' : 0 < s.kd.getD m 0 := by
              simpa [pairSt, List.getD_eq_getElem?_getD, List.getElem?_set_ne (fun e => hmk e.symm)] using hm
            obtain ⟨i, h1, h2, h3⟩ := h.fr m hm'
            refine ⟨i, h1, ?_, ?_⟩
            · simpa [pairSt, List.getD_eq_getElem?_getD, List.getElem?_set_ne (fun e => hmk e.symm)] using h2
            · simpa [refStep.pairS, List.getD_eq_getElem?_getD, List.getElem?_set_ne (fun e => hmk e.symm)] using h3
        · intro m hm
          have hmk : k ≠ m := by omega
          have := h.zero m (by omega)
          simpa [pairSt, List.getD_eq_getElem?_getD, List.getElem?_set_ne hmk] using this
    · have ht : ¬ isTarget l s k = true := by
        intro ht
        simp only [isTarget, Bool.and_eq_true, beq_iff_eq] at ht
        exact hkind ht.1
      rw [if_neg hkind, if_neg ht]
      exact ⟨h.kd, h.sc, h.tk, h.lF, h.rF, h.lK, h.fr, fun j hj => h.zero j (by omega)⟩

theorem new_eq (l : List Chg) {s r : St} {k : Nat} (h : Agree l s r l.length) : newChg l s k = newChg l r k := by
  unfold newChg
  rw [← h.kd, ← h.sc]
  by_cases hk : 0 < s.kd.getD k 0
  · obtain ⟨i, _, h2, h3⟩ := h.fr k hk
    rw [if_pos hk, if_pos hk, h2, h3]
  · rw [if_neg hk, if_neg hk]
theorem out_eq (l : List Chg) {s r : St} (h : Agree l s r l.length) : ∀ k, outTo l s k = outTo l r k := by
  intro k
  induction k with
  | zero => rfl
  | succ k ih => unfold outTo; rw [ih, h.tk, new_eq l h]

theorem same_out (l : List Chg) : outTo l (exactTo l (st0 l.length 0) l.length) l.length = outTo l (refTo l l.length) l.length := out_eq l (agree l l.length (Nat.le_refl _)) _
theorem fr_prog (l : List Chg) : ∀ k, 0 < (exactTo l (st0 l.length 0) l.length).kd.getD k 0 → ∃ i : Nat, i < l.length ∧ (exactTo l (st0 l.length 0) l.length).fr.getD k 0 = i := fun k hk => by
  obtain ⟨i, h1, h2, _⟩ := (agree l l.length (Nat.le_refl _)).fr k hk
  exact ⟨i, h1, h2⟩
theorem fr_ref (l : List Chg) : ∀ k, 0 < (refTo l l.length).kd.getD k 0 → ∃ i : Nat, i < l.length ∧ (refTo l l.length).fr.getD k 0 = i := fun k hk => by
  have h := agree l l.length (Nat.le_refl _)
  rw [← h.kd] at hk
  obtain ⟨i, h1, _, h3⟩ := h.fr k hk
  exact ⟨i, h1, h3⟩
end Go.Proofs.Ythhmamkphcgocaa

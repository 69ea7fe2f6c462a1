/- Lines of a text and of what it begins, plain. -/
import Derived.Test.YthhmamkphcgocaaLin
import Derived.Test.YthhmamkphcgocaaMap
namespace Go.Proofs.Ythhmamkphcgocaa
open Go.RowKit

theorem splitB_join (B : List UInt8) (X : List UInt8) : ∀ cur, splitB cur (X ++ [10] ++ B) = splitB cur (X ++ [10]) ++ splitB [] B := by
  induction X with
  | nil => intro cur; simp [splitB]
  | cons x X ih =>
    intro cur
    simp only [List.cons_append, splitB]
    split
    · rw [ih]; rfl
    · exact ih _

theorem fstI_app (s : ByteArray) (m : List ByteArray) (l : List ByteArray) : ∀ k : Nat, 0 ≤ fstI s l k → fstI s (l ++ m) k = fstI s l k := by
  induction l with
  | nil => intro k h; simp [fstI] at h
  | cons x l ih =>
    intro k h
    rw [fstI] at h
    rw [List.cons_append, fstI, fstI]
    split
    · rfl
    · rename_i hx
      rw [if_neg hx] at h
      exact ih _ h
theorem kn_ext (l : List ByteArray) (x : ByteArray) : ∃ m, kn l x = l ++ m := by
  unfold kn
  split
  · exact ⟨_, rfl⟩
  · exact ⟨[], by simp⟩
theorem kn_in (l : List ByteArray) (x : ByteArray) : 0 ≤ fstI x (kn l x) 0 := by
  unfold kn
  split
  · rename_i h
    rw [fstI_snoc, if_pos h, if_pos rfl]; omega
  · omega
theorem nums_gen (l : List ByteArray) : ∀ st : List ByteArray × List Int, (∃ m, (l.foldl nst st).1 = st.1 ++ m) ∧ (l.foldl nst st).2 = st.2 ++ l.map (fun x => fstI x (l.foldl nst st).1 0) ∧ ∀ x ∈ l, 0 ≤ fstI x (l.foldl nst st).1 0 := by
  induction l with
  | nil => intro st; exact ⟨⟨[], by simp⟩, by simp, fun x hx => by simp at hx⟩
  | cons x l ih =>
    intro st
    obtain ⟨⟨m, h1⟩, h2, h3⟩ := ih (nst st x)
    obtain ⟨m0, h0⟩ := kn_ext st.1 x
    simp only [List.foldl_cons]
    have e1 : (nst st x).1 = kn st.1 x := rfl
    have hx : fstI x (l.foldl nst (nst st x)).1 0 = fstI x (kn st.1 x) 0 := by rw [h1, e1]; exact fstI_app _ _ _ _ (kn_in _ _)
    refine ⟨⟨m0 ++ m, by rw [h1, e1, h0, List.append_assoc]⟩, ?_, ?_⟩
    · rw [h2, List.map_cons, hx]
      simp [nst]
    · intro y hy
      rcases List.mem_cons.1 hy with rfl | hy
      · rw [hx]; exact kn_in _ _
      · exact h3 y hy
theorem numsF_map (k l : List ByteArray) : (∃ m, (numsF k l).1 = k ++ m) ∧ (numsF k l).2 = l.map (fun x => fstI x (numsF k l).1 0) ∧ ∀ x ∈ l, 0 ≤ fstI x (numsF k l).1 0 := by
  have := nums_gen l (k, [])
  simpa [numsF] using this
theorem nums_first (P S : List (List UInt8)) : ∃ t, numY P (P ++ S) = numX P ++ t ∧ t.length = S.length := by
  obtain ⟨_, h2, h3⟩ := numsF_map [] (sbs P)
  obtain ⟨⟨m, g1⟩, g2, _⟩ := numsF_map (numsF [] (sbs P)).1 (sbs (P ++ S))
  have e : sbs (P ++ S) = sbs P ++ sbs S := by simp [sbs]
  unfold numY numX
  rw [g2, h2, e, List.map_append]
  refine ⟨_, congrArg (· ++ _) (List.map_congr_left fun x hx => ?_), by simp [sbs]⟩
  rw [← e, g1]
  exact fstI_app _ _ _ _ (h3 x hx)
theorem nums_last (P S : List (List UInt8)) : ∃ t, numX (P ++ S) = numY (P ++ S) P ++ t ∧ t.length = S.length := by
  obtain ⟨_, h2, h3⟩ := numsF_map [] (sbs (P ++ S))
  obtain ⟨⟨m, g1⟩, g2, _⟩ := numsF_map (numsF [] (sbs (P ++ S))).1 (sbs P)
  have e : sbs (P ++ S) = sbs P ++ sbs S := by simp [sbs]
  unfold numY numX
  rw [g2, h2]
  generalize numsF [] (sbs (P ++ S)) = K at *
  rw [e, List.map_append]
  refine ⟨_, congrArg (· ++ _) (List.map_congr_left fun x hx => ?_), by simp [sbs]⟩
  rw [g1]
  exact (fstI_app _ _ _ _ (h3 x (by rw [e]; exact List.mem_append_left _ hx))).symm

theorem keeps_rest_b (a b : List Int) (n : Nat) : ∀ i k, b.length - k ≤ n → a.length ≤ i → keeps a b i k = [] := by
  induction n with
  | zero => intro i k h hi; exact keeps_end a b hi (by omega)
  | succ n ih =>
    intro i k h hi
    by_cases hk : k < b.length
    · rw [keeps_b a b (fun h => by omega) (fun h => by omega) hk]
      exact ih i (k + 1) (by omega) hi
    · exact keeps_end a b hi (by omega)
theorem keeps_rest_a (a b : List Int) (n : Nat) : ∀ i k, a.length - i ≤ n → b.length ≤ k → keeps a b i k = [] := by
  induction n with
  | zero => intro i k h hk; exact keeps_end a b (by omega) hk
  | succ n ih =>
    intro i k h hk
    by_cases hi : i < a.length
    · rw [keeps_a a b hi (fun h => by omega) (dst_less a b hi hk)]
      exact ih (i + 1) k (by omega) hk
    · exact keeps_end a b (by omega) hk
theorem hunks_first (p t : List Int) (n : Nat) : ∀ i, p.length - i ≤ n → i ≤ p.length →
    hunks i i (keeps p (p ++ t) i i ++ [(p.length, (p ++ t).length)]) = if t = [] then [] else [((p.length : Int), 0, (p.length : Int), (t.length : Int))] := by
  have fin : hunks (p.length : Int) p.length (keeps p (p ++ t) p.length p.length ++ [(p.length, (p ++ t).length)]) = if t = [] then [] else [((p.length : Int), 0, (p.length : Int), (t.length : Int))] := by
    rw [keeps_rest_b p (p ++ t) _ p.length p.length (Nat.le_refl _) (Nat.le_refl _), List.nil_append, hunks, hunks, List.append_nil]
    by_cases ht : t = []
    · subst ht; simp
    · have : 0 < t.length := List.length_pos_iff.2 ht
      rw [if_pos (by right; simp; omega), if_neg ht, List.length_append]
      congr 1
      ext <;> simp
      omega
  induction n with
  | zero => intro i h hi; obtain rfl : i = p.length := (by omega); exact fin
  | succ n ih =>
    intro i h hi
    by_cases hlt : i < p.length
    · rw [keeps_same p (p ++ t) hlt (by simp; omega) (by simp [hlt, List.getElem?_append_left]), List.cons_append, hunks, if_neg (by omega), List.nil_append]
      exact ih (i + 1) (by omega) hlt
    · obtain rfl : i = p.length := (by omega); exact fin
theorem hunks_last (p t : List Int) (n : Nat) : ∀ i, p.length - i ≤ n → i ≤ p.length →
    hunks i i (keeps (p ++ t) p i i ++ [((p ++ t).length, p.length)]) = if t = [] then [] else [((p.length : Int), (t.length : Int), (p.length : Int), 0)] := by
  have fin : hunks (p.length : Int) p.length (keeps (p ++ t) p p.length p.length ++ [((p ++ t).length, p.length)]) = if t = [] then [] else [((p.length : Int), (t.length : Int), (p.length : Int), 0)] := by
    rw [keeps_rest_a (p ++ t) p _ p.length p.length (Nat.le_refl _) (Nat.le_refl _), List.nil_append, hunks, hunks, List.append_nil]
    by_cases ht : t = []
    · subst ht; simp
    · have : 0 < t.length := List.length_pos_iff.2 ht
      rw [if_pos (by left; simp; omega), if_neg ht, List.length_append]
      congr 1
      ext <;> simp
      omega
  induction n with
  | zero => intro i h hi; obtain rfl : i = p.length := (by omega); exact fin
  | succ n ih =>
    intro i h hi
    by_cases hlt : i < p.length
    · rw [keeps_same (p ++ t) p (by simp; omega) hlt (by simp [hlt, List.getElem?_append_left]), List.cons_append, hunks, if_neg (by omega), List.nil_append]
      exact ih (i + 1) (by omega) hlt
    · obtain rfl : i = p.length := (by omega); exact fin
theorem lines_first (P S : List (List UInt8)) (nd : List UInt8) : (blocks (numX P) (numY P (P ++ S))).any (hitH nd P (P ++ S)) = hasL nd S := by
  obtain ⟨t, e, ht⟩ := nums_first P S
  have hb : blocks (numX P) (numX P ++ t) = _ := hunks_first (numX P) t _ 0 (Nat.le_refl _) (Nat.zero_le _)
  rw [e, hb, numX_len, ht]
  by_cases h : t = []
  · have : S = [] := List.eq_nil_of_length_eq_zero (by rw [← ht, h]; rfl)
    rw [if_pos h, this]; rfl
  · rw [if_neg h]
    simp [hitH, hasL]
theorem lines_last (P S : List (List UInt8)) (nd : List UInt8) : (blocks (numX (P ++ S)) (numY (P ++ S) P)).any (hitH nd (P ++ S) P) = hasL nd S := by
  obtain ⟨t, e, ht⟩ := nums_last P S
  have hb : blocks (numY (P ++ S) P ++ t) (numY (P ++ S) P) = _ := hunks_last (numY (P ++ S) P) t _ 0 (Nat.le_refl _) (Nat.zero_le _)
  rw [e, hb, numY_len, ht]
  by_cases h : t = []
  · have : S = [] := List.eq_nil_of_length_eq_zero (by rw [← ht, h]; rfl)
    rw [if_pos h, this]; rfl
  · rw [if_neg h]
    simp [hitH, hasL]
theorem linesB_first (X B nd : List UInt8) : linesB (X ++ [10]) (X ++ [10] ++ B) nd = hasL nd (splitB [] B) := by
  unfold linesB
  rw [splitB_join]
  exact lines_first _ _ nd
theorem linesB_last (X B nd : List UInt8) : linesB (X ++ [10] ++ B) (X ++ [10]) nd = hasL nd (splitB [] B) := by
  unfold linesB
  rw [splitB_join]
  exact lines_last _ _ nd
theorem linesB_nil (B nd : List UInt8) : linesB [] B nd = hasL nd (splitB [] B) := lines_first [] (splitB [] B) nd
theorem works_lines : linesB [97, 10, 98, 10] [97, 10] [98] = true := by
  have := linesB_last [97] [98, 10] [98]
  rw [show [97] ++ [10] ++ [98, 10] = ([97, 10, 98, 10] : List UInt8) from rfl, show [97] ++ [10] = ([97, 10] : List UInt8) from rfl] at this
  rw [this]
  decide +kernel
theorem works_count : cnt [97, 97] [97, 97, 97] = 2 := by decide +kernel
end Go.Proofs.Ythhmamkphcgocaa

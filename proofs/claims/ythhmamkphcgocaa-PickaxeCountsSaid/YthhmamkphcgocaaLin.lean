/- The document's answer for Lines (linesB), plain; sleuthref31.Lines, by a contract. -/
import Derived.Test.YthhmamkphcgocaaCnt
import Derived.Test.YthhmamkphcgocaaRdf
import Derived.Test.YthhmamkphcgocaaHnk
import Derived.Test.YthhmamkphcgocaaAft
namespace Go.Proofs.Ythhmamkphcgocaa
open Go.RowKit

def splitB (cur : List UInt8) : List UInt8 → List (List UInt8)
  | [] => if cur = [] then [] else [cur]
  | x :: l => if x = 10 then (cur ++ [x]) :: splitB [] l else splitB (cur ++ [x]) l
theorem splitA_eq (l : List UInt8) : ∀ cur, splitA cur l = sbs (splitB cur l) := by
  induction l with
  | nil => intro cur; unfold splitA splitB; split <;> simp [sbs]
  | cons x l ih =>
    intro cur
    unfold splitA splitB
    split
    · rw [ih]; simp [sbs]
    · exact ih _
theorem splitB_len (l : List UInt8) : ∀ cur, (splitB cur l).length ≤ l.length + 1 := by
  intro cur
  have h := splitA_len l cur
  rw [splitA_eq] at h
  simpa [sbs] using h
theorem splitB_each (l : List UInt8) : ∀ cur, ∀ s ∈ splitB cur l, s.length ≤ cur.length + l.length := by
  induction l with
  | nil =>
    intro cur s hs
    unfold splitB at hs
    split at hs
    · simp at hs
    · simp at hs; subst hs; simp
  | cons x l ih =>
    intro cur s hs
    unfold splitB at hs
    simp only [List.length_cons]
    split at hs
    · rcases List.mem_cons.1 hs with rfl | hs
      · simp
      · have := ih [] s hs; simp at this; omega
    · have := ih _ s hs; simp at this; omega

/-- Has a line, within a block on either side, the text? -/
def hitH (nd : List UInt8) (a b : List (List UInt8)) (h : Int × Int × Int × Int) : Bool :=
  hasL nd ((a.drop h.1.toNat).take h.2.1.toNat) || hasL nd ((b.drop h.2.2.1.toNat).take h.2.2.2.toNat)
def numX (a : List (List UInt8)) : List Int := (numsF [] (sbs a)).2
def numY (a b : List (List UInt8)) : List Int := (numsF (numsF [] (sbs a)).1 (sbs b)).2
def linesB (old now nd : List UInt8) : Bool := (blocks (numX (splitB [] old)) (numY (splitB [] old) (splitB [] now))).any (hitH nd (splitB [] old) (splitB [] now))
theorem numX_len (a : List (List UInt8)) : (numX a).length = a.length := by rw [numX, (numsF_len _ _).2]; simp [sbs]
theorem numY_len (a b : List (List UInt8)) : (numY a b).length = b.length := by rw [numY, (numsF_len _ _).2]; simp [sbs]

theorem hunks_in (a b : List Int) (N : Nat) : ∀ i k i0 k0 : Nat, (a.length - i) + (b.length - k) ≤ N → i0 ≤ i → i ≤ a.length → k0 ≤ k → k ≤ b.length →
    ∀ h ∈ hunks i0 k0 (keeps a b i k ++ [(a.length, b.length)]), ∃ p n q m : Nat, h = ((p : Int), (n : Int), (q : Int), (m : Int)) ∧ p + n ≤ a.length ∧ q + m ≤ b.length := by
  have one : ∀ (i0 k0 x y : Nat), i0 ≤ x → x ≤ a.length → k0 ≤ y → y ≤ b.length → ∀ h ∈ (if (i0 : Int) < x ∨ (k0 : Int) < y then [((i0 : Int), (x : Int) - i0, (k0 : Int), (y : Int) - k0)] else []), ∃ p n q m : Nat, h = ((p : Int), (n : Int), (q : Int), (m : Int)) ∧ p + n ≤ a.length ∧ q + m ≤ b.length := by
    intro i0 k0 x y h1 h2 h3 h4 h hh
    split at hh
    · simp only [List.mem_singleton] at hh
      subst hh
      refine ⟨i0, x - i0, k0, y - k0, ?_, by omega, by omega⟩
      rw [show ((x - i0 : Nat) : Int) = (x : Int) - i0 by omega, show ((y - k0 : Nat) : Int) = (y : Int) - k0 by omega]
    · simp at hh
  have fin : ∀ (i k i0 k0 : Nat), a.length ≤ i → b.length ≤ k → i0 ≤ i → i ≤ a.length → k0 ≤ k → k ≤ b.length → ∀ h ∈ hunks i0 k0 (keeps a b i k ++ [(a.length, b.length)]), ∃ p n q m : Nat, h = ((p : Int), (n : Int), (q : Int), (m : Int)) ∧ p + n ≤ a.length ∧ q + m ≤ b.length := by
    intro i k i0 k0 h1 h2 h3 h4 h5 h6 h hh
    rw [keeps_end a b h1 h2, List.nil_append, hunks, hunks, List.append_nil] at hh
    exact one i0 k0 a.length b.length (by omega) (Nat.le_refl _) (by omega) (Nat.le_refl _) h hh
  induction N with
  | zero => intro i k i0 k0 h h1 h2 h3 h4; exact fin i k i0 k0 (by omega) (by omega) h1 h2 h3 h4
  | succ N ih =>
    intro i k i0 k0 hn h1 h2 h3 h4
    by_cases c1 : i < a.length ∧ k < b.length ∧ a.getD i 0 = b.getD k 0
    · obtain ⟨x, y, z⟩ := c1
      rw [keeps_same a b x y z, List.cons_append, hunks]
      intro h hh
      rcases List.mem_append.1 hh with hh | hh
      · exact one i0 k0 i k h1 h2 h3 h4 h hh
      · exact ih (i + 1) (k + 1) (i + 1) (k + 1) (by omega) (Nat.le_refl _) (by omega) (Nat.le_refl _) (by omega) h hh
    · by_cases c2 : i < a.length ∧ dst a b (i + 1) k < dst a b i k
      · rw [keeps_a a b c2.1 (fun h => c1 ⟨c2.1, h⟩) c2.2]
        exact ih (i + 1) k i0 k0 (by omega) (by omega) (by omega) h3 h4
      · by_cases c3 : k < b.length
        · rw [keeps_b a b c1 c2 c3]
          exact ih i (k + 1) i0 k0 (by omega) h1 h2 (by omega) (by omega)
        · by_cases c4 : i < a.length
          · exact absurd ⟨c4, dst_less a b c4 (by omega)⟩ c2
          · exact fin i k i0 k0 (by omega) (by omega) h1 h2 h3 h4
theorem blocks_in (a b : List Int) : ∀ h ∈ blocks a b, ∃ p n q m : Nat, h = ((p : Int), (n : Int), (q : Int), (m : Int)) ∧ p + n ≤ a.length ∧ q + m ≤ b.length :=
  hunks_in a b _ 0 0 0 0 (Nat.le_refl _) (Nat.le_refl _) (Nat.zero_le _) (Nat.le_refl _) (Nat.zero_le _)
theorem blocks_len (a b : List Int) : (blocks a b).length ≤ a.length + 1 := by
  have h1 := hunks_len (keeps a b 0 0 ++ [(a.length, b.length)]) 0 0
  have h2 := (keeps_in a b _ 0 0 (Nat.le_refl _) (Nat.zero_le _) (Nat.zero_le _)).1
  simp only [List.length_append, List.length_cons, List.length_nil] at h1
  unfold blocks
  omega
theorem hkCells_at (L : List (Int × Int × Int × Int)) (k : Nat) (h : k < L.length) : (hkCells L)[k * 4]? = some (.int .i64 (L.getD k (0, 0, 0, 0)).1) ∧ (hkCells L)[k * 4 + 1]? = some (.int .i64 (L.getD k (0, 0, 0, 0)).2.1) ∧
    (hkCells L)[k * 4 + 2]? = some (.int .i64 (L.getD k (0, 0, 0, 0)).2.2.1) ∧ (hkCells L)[k * 4 + 3]? = some (.int .i64 (L.getD k (0, 0, 0, 0)).2.2.2) := by
  induction L generalizing k with
  | nil => simp at h
  | cons p L ih =>
    rcases k with _ | k
    · simp [hkCells]
    · have := ih k (by simpa using h)
      have e : hkCells (p :: L) = .int .i64 p.1 :: .int .i64 p.2.1 :: .int .i64 p.2.2.1 :: .int .i64 p.2.2.2 :: hkCells L := by simp [hkCells]
      rw [e, show (k + 1) * 4 = k * 4 + 1 + 1 + 1 + 1 by omega, show k * 4 + 1 + 1 + 1 + 1 + 1 = (k * 4 + 1) + 1 + 1 + 1 + 1 by omega, show k * 4 + 1 + 1 + 1 + 1 + 2 = (k * 4 + 2) + 1 + 1 + 1 + 1 by omega, show k * 4 + 1 + 1 + 1 + 1 + 3 = (k * 4 + 3) + 1 + 1 + 1 + 1 by omega]
      simpa using this
end Go.Proofs.Ythhmamkphcgocaa

/- Plain laws, no program: the field's rows, reckoned (tabS), are right (Good); the pairs that a shortest script keeps (keeps), and what stands between them (hunks). No condition but the lists' length. -/
import Derived.Test.YthhmamkphcgocaaDst
namespace Go.Proofs.Ythhmamkphcgocaa

section
variable (a b : List Int)
/-- How much further the end is in a than in b. -/
def endD : Int := (a.length : Int) - b.length
/-- Row d, as the program reckons it. -/
def tabS : Nat → Int → Int
  | 0, off => bestV a b 0 (endD a b + off) far far far
  | 1, off => bestV a b 1 (endD a b + off) far (if off + 1 = 0 then bestV a b 0 (endD a b + (off + 1)) far far far else far) (if off - 1 = 0 then bestV a b 0 (endD a b + (off - 1)) far far far else far)
  | d + 2, off => bestV a b ((d : Int) + 2) (endD a b + off) (if off < -(d : Int) ∨ (d : Int) < off then far else tabS d off)
      (if off + 1 < -((d : Int) + 1) ∨ (d : Int) + 1 < off + 1 then far else tabS (d + 1) (off + 1)) (if off - 1 < -((d : Int) + 1) ∨ (d : Int) + 1 < off - 1 then far else tabS (d + 1) (off - 1))
/-- What at tells. -/
def atT (d off : Int) : Int := if d < 0 ∨ off < -d ∨ d < off then far else tabS a b d.toNat off

theorem atT_in {d : Nat} {off : Int} (h1 : -(d : Int) ≤ off) (h2 : off ≤ d) : atT a b d off = tabS a b d off := by
  unfold atT; rw [if_neg (by omega)]; simp
theorem tabS_eq (d : Nat) (off : Int) (h1 : -(d : Int) ≤ off) (h2 : off ≤ d) :
    tabS a b d off = bestV a b d (endD a b + off) (atT a b ((d : Int) - 2) off) (atT a b ((d : Int) - 1) (off + 1)) (atT a b ((d : Int) - 1) (off - 1)) := by
  rcases d with _ | _ | d
  · have e1 : atT a b (((0 : Nat) : Int) - 2) off = far := by unfold atT; rw [if_pos (by omega)]
    have e2 : atT a b (((0 : Nat) : Int) - 1) (off + 1) = far := by unfold atT; rw [if_pos (by omega)]
    have e3 : atT a b (((0 : Nat) : Int) - 1) (off - 1) = far := by unfold atT; rw [if_pos (by omega)]
    rw [e1, e2, e3]; rfl
  · have e1 : atT a b (((0 + 1 : Nat) : Int) - 2) off = far := by unfold atT; rw [if_pos (by omega)]
    have e2 : atT a b (((0 + 1 : Nat) : Int) - 1) (off + 1) = if off + 1 = 0 then bestV a b 0 (endD a b + (off + 1)) far far far else far := by
      unfold atT
      by_cases h : off + 1 = 0
      · rw [if_neg (by omega), if_pos h]; rfl
      · rw [if_pos (by omega), if_neg h]
    have e3 : atT a b (((0 + 1 : Nat) : Int) - 1) (off - 1) = if off - 1 = 0 then bestV a b 0 (endD a b + (off - 1)) far far far else far := by
      unfold atT
      by_cases h : off - 1 = 0
      · rw [if_neg (by omega), if_pos h]; rfl
      · rw [if_pos (by omega), if_neg h]
    rw [e1, e2, e3]; rfl
  · have e1 : atT a b (((d + 2 : Nat) : Int) - 2) off = if off < -(d : Int) ∨ (d : Int) < off then far else tabS a b d off := by
      unfold atT
      rw [show (((d + 2 : Nat) : Int) - 2).toNat = d by omega]
      by_cases h : off < -(d : Int) ∨ (d : Int) < off
      · rw [if_pos h, if_pos (by omega)]
      · rw [if_neg h, if_neg (by omega)]
    have e2 : ∀ o : Int, atT a b (((d + 2 : Nat) : Int) - 1) o = if o < -((d : Int) + 1) ∨ (d : Int) + 1 < o then far else tabS a b (d + 1) o := by
      intro o
      unfold atT
      rw [show (((d + 2 : Nat) : Int) - 1).toNat = d + 1 by omega]
      by_cases h : o < -((d : Int) + 1) ∨ (d : Int) + 1 < o
      · rw [if_pos h, if_pos (by omega)]
      · rw [if_neg h, if_neg (by omega)]
    rw [e1, e2, e2]
    show tabS a b (d + 2) off = _
    rw [tabS]
    rfl

theorem tab_good (hn : (a.length : Int) < far) (n : Nat) : ∀ (d off : Int), d ≤ n → Good a b d (endD a b + off) (atT a b d off) := by
  induction n with
  | zero =>
    intro d off hd
    unfold endD
    by_cases h : d < 0 ∨ off < -d ∨ d < off
    · unfold atT; rw [if_pos h]; exact Good.out a b (by omega)
    · obtain rfl : d = 0 := by omega
      obtain rfl : off = 0 := by omega
      have e : atT a b 0 0 = bestV a b 0 (endD a b + 0) (atT a b (0 - 2) 0) (atT a b (0 - 1) (0 + 1)) (atT a b (0 - 1) (0 - 1)) := by
        have h1 : atT a b 0 0 = tabS a b 0 0 := by unfold atT; rw [if_neg (by omega)]; rfl
        rw [h1]
        exact tabS_eq a b 0 0 (by omega) (by omega)
      rw [e]
      unfold endD
      refine good_step a b hn (by omega) (by omega) ?_ ?_ ?_ <;> (unfold atT; rw [if_pos (by omega)]; exact Good.out a b (by omega))
  | succ n ih =>
    intro d off hd
    by_cases hle : d ≤ n
    · exact ih d off hle
    · obtain rfl : d = ((n + 1 : Nat) : Int) := by omega
      by_cases h : off < -((n + 1 : Nat) : Int) ∨ ((n + 1 : Nat) : Int) < off
      · unfold atT; rw [if_pos (.inr h)]; exact Good.out a b (by unfold endD; omega)
      · rw [atT_in a b (by omega) (by omega), tabS_eq a b _ _ (by omega) (by omega)]
        refine good_step a b hn (by unfold endD; omega) (by unfold endD; omega) (ih _ _ (by omega)) ?_ ?_
        · have := ih (((n + 1 : Nat) : Int) - 1) (off + 1) (by omega)
          rwa [show endD a b + off + 1 = endD a b + (off + 1) by omega]
        · have := ih (((n + 1 : Nat) : Int) - 1) (off - 1) (by omega)
          rwa [show endD a b + off - 1 = endD a b + (off - 1) by omega]

theorem atT_range (hn : (a.length : Int) < far) (d off : Int) : 0 ≤ atT a b d off ∧ (atT a b d off ≤ a.length ∨ atT a b d off = far) := by
  rcases (tab_good a b hn d.toNat d off (by omega)).sound with h | ⟨i, k, h, ho, _⟩
  · rw [h]; unfold far; omega
  · have := ho.1; omega

/-- The pairs that are kept, from two places on. -/
def keeps (i k : Nat) : List (Nat × Nat) :=
  if i < a.length ∧ k < b.length ∧ a.getD i 0 = b.getD k 0 then (i, k) :: keeps (i + 1) (k + 1)
  else if i < a.length ∧ dst a b (i + 1) k < dst a b i k then keeps (i + 1) k
  else if k < b.length then keeps i (k + 1)
  else []
  termination_by (a.length - i) + (b.length - k)
  decreasing_by all_goals omega

theorem keeps_same {i k : Nat} (h1 : i < a.length) (h2 : k < b.length) (h3 : a.getD i 0 = b.getD k 0) : keeps a b i k = (i, k) :: keeps a b (i + 1) (k + 1) := by
  rw [keeps, if_pos ⟨h1, h2, h3⟩]
theorem keeps_a {i k : Nat} (h1 : i < a.length) (h : ¬ (k < b.length ∧ a.getD i 0 = b.getD k 0)) (h2 : dst a b (i + 1) k < dst a b i k) : keeps a b i k = keeps a b (i + 1) k := by
  rw [keeps, if_neg (fun h' => h h'.2), if_pos ⟨h1, h2⟩]
theorem keeps_b {i k : Nat} (h : ¬ (i < a.length ∧ k < b.length ∧ a.getD i 0 = b.getD k 0)) (h2 : ¬ (i < a.length ∧ dst a b (i + 1) k < dst a b i k)) (h3 : k < b.length) : keeps a b i k = keeps a b i (k + 1) := by
  rw [keeps, if_neg h, if_neg h2, if_pos h3]
theorem keeps_end {i k : Nat} (h1 : a.length ≤ i) (h2 : b.length ≤ k) : keeps a b i k = [] := by
  rw [keeps, if_neg (by omega), if_neg (by omega), if_neg (by omega)]
/-- Where b is at its end and a is not, a thing goes. -/
theorem dst_less {i k : Nat} (h1 : i < a.length) (h2 : b.length ≤ k) : dst a b (i + 1) k < dst a b i k := by
  rw [dst_at_m a b h2, dst_at_m a b h2]; omega
/-- Where nothing is alike, one of both goes. -/
theorem dst_dec {i k : Nat} (hk : k ≤ b.length) (h : ¬ (i < a.length ∧ k < b.length ∧ a.getD i 0 = b.getD k 0)) (h2 : ¬ (i < a.length ∧ dst a b (i + 1) k < dst a b i k)) (h3 : i < a.length ∨ k < b.length) : k < b.length ∧ dst a b i k = dst a b i (k + 1) + 1 := by
  have hkb : k < b.length := by
    by_cases hkb : k < b.length
    · exact hkb
    · exact absurd ⟨by omega, dst_less a b (by omega) (by omega)⟩ h2
  refine ⟨hkb, ?_⟩
  by_cases hi : i < a.length
  · have := dst_other a b hi hkb (fun e => h ⟨hi, hkb, e⟩)
    omega
  · rw [dst_at_n a b (by omega), dst_at_n a b (by omega)]; omega
theorem dst_zero {i k : Nat} (hi : i ≤ a.length) (hk : k ≤ b.length) (h : ¬ (i < a.length ∧ k < b.length ∧ a.getD i 0 = b.getD k 0)) : dst a b i k = 0 ↔ ¬ (i < a.length ∨ k < b.length) := by
  constructor
  · intro h0 h3
    by_cases h2 : i < a.length ∧ dst a b (i + 1) k < dst a b i k
    · omega
    · have := (dst_dec a b hk h h2 h3).2; omega
  · intro h3
    exact dst_end a b (by omega) (by omega)
end

/-- What stands between pairs, from two places on: (A, An, B, Bn). -/
def hunks (i k : Int) : List (Nat × Nat) → List (Int × Int × Int × Int)
  | [] => []
  | (x, y) :: l => (if i < x ∨ k < y then [(i, x - i, k, y - k)] else []) ++ hunks (x + 1) (y + 1) l
def blocks (a b : List Int) : List (Int × Int × Int × Int) := hunks 0 0 (keeps a b 0 0 ++ [(a.length, b.length)])
end Go.Proofs.Ythhmamkphcgocaa

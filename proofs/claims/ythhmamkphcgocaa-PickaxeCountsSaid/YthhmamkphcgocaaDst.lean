/- Plain laws, no program: the least number of insertions and removals between two lists (dist), the field of Myers (Good, exc) with its step, and the pairs that a shortest script keeps. No condition. -/
import Derived.WalkKit
namespace Go.Proofs.Ythhmamkphcgocaa

/-- How many things go or come at least, from one list to another. -/
def dist : List Int → List Int → Nat
  | [], b => b.length
  | _ :: a, [] => a.length + 1
  | x :: a, y :: b => if x = y then dist a b else 1 + min (dist a (y :: b)) (dist (x :: a) b)
  termination_by a b => a.length + b.length

theorem dist_nil (b : List Int) : dist [] b = b.length := by simp [dist]
theorem dist_nil2 (a : List Int) : dist a [] = a.length := by cases a <;> simp [dist]
theorem dist_eq (x : Int) (a b : List Int) : dist (x :: a) (x :: b) = dist a b := by simp [dist]
theorem dist_ne {x y : Int} (h : x ≠ y) (a b : List Int) : dist (x :: a) (y :: b) = 1 + min (dist a (y :: b)) (dist (x :: a) b) := by simp [dist, h]

theorem dist_parity (n : Nat) : ∀ (a b : List Int), a.length + b.length ≤ n → dist a b % 2 = (a.length + b.length) % 2 := by
  induction n with
  | zero => intro a b h; rw [List.eq_nil_of_length_eq_zero (by omega : a.length = 0), dist_nil]; simp
  | succ n ih =>
    intro a b h
    rcases a with _ | ⟨x, a⟩
    · simp [dist_nil]
    · rcases b with _ | ⟨y, b⟩
      · simp [dist_nil2]
      · simp only [List.length_cons] at *
        by_cases hxy : x = y
        · subst hxy; rw [dist_eq]; have := ih a b (by omega); omega
        · rw [dist_ne hxy]
          have h1 := ih a (y :: b) (by simp; omega)
          have h2 := ih (x :: a) b (by simp; omega)
          simp only [List.length_cons] at *
          omega

theorem dist_le (n : Nat) : ∀ (a b : List Int), a.length + b.length ≤ n → dist a b ≤ a.length + b.length := by
  induction n with
  | zero => intro a b h; rw [List.eq_nil_of_length_eq_zero (by omega : a.length = 0), dist_nil]; simp
  | succ n ih =>
    intro a b h
    rcases a with _ | ⟨x, a⟩
    · simp [dist_nil]
    · rcases b with _ | ⟨y, b⟩
      · simp [dist_nil2]
      · simp only [List.length_cons] at *
        by_cases hxy : x = y
        · subst hxy; rw [dist_eq]; have := ih a b (by omega); omega
        · rw [dist_ne hxy]
          have h1 := ih a (y :: b) (by simp; omega)
          simp only [List.length_cons] at *
          omega

theorem dist_ge (n : Nat) : ∀ (a b : List Int), a.length + b.length ≤ n → a.length ≤ b.length + dist a b ∧ b.length ≤ a.length + dist a b := by
  induction n with
  | zero => intro a b h; rw [List.eq_nil_of_length_eq_zero (by omega : a.length = 0), dist_nil]; simp
  | succ n ih =>
    intro a b h
    rcases a with _ | ⟨x, a⟩
    · simp [dist_nil]
    · rcases b with _ | ⟨y, b⟩
      · simp [dist_nil2]
      · simp only [List.length_cons] at *
        by_cases hxy : x = y
        · subst hxy; rw [dist_eq]; have := ih a b (by omega); omega
        · rw [dist_ne hxy]
          have h1 := ih a (y :: b) (by simp; omega)
          have h2 := ih (x :: a) b (by simp; omega)
          simp only [List.length_cons] at *
          omega

theorem dist_near (n : Nat) : ∀ (a b : List Int), a.length + b.length ≤ n → (∀ y, dist a b ≤ dist a (y :: b) + 1) ∧ (∀ y, dist a (y :: b) ≤ dist a b + 1) ∧ (∀ x, dist a b ≤ dist (x :: a) b + 1) ∧ (∀ x, dist (x :: a) b ≤ dist a b + 1) := by
  induction n with
  | zero =>
    intro a b h
    rw [List.eq_nil_of_length_eq_zero (by omega : a.length = 0), List.eq_nil_of_length_eq_zero (by omega : b.length = 0)]
    simp [dist_nil, dist_nil2]
  | succ n ih =>
    intro a b h
    refine ⟨fun y => ?_, fun y => ?_, fun x => ?_, fun x => ?_⟩
    · rcases a with _ | ⟨x, a⟩
      · simp [dist_nil]; omega
      · simp only [List.length_cons] at h
        obtain ⟨p1, p2, p3, p4⟩ := ih a b (by omega)
        have h4 := p4 x
        by_cases hxy : x = y
        · subst hxy; rw [dist_eq]; exact h4
        · rw [dist_ne hxy]; have h1 := p1 y; omega
    · rcases a with _ | ⟨x, a⟩
      · simp [dist_nil]
      · simp only [List.length_cons] at h
        obtain ⟨p1, p2, p3, p4⟩ := ih a b (by omega)
        have h3 := p3 x
        by_cases hxy : x = y
        · subst hxy; rw [dist_eq]; exact h3
        · rw [dist_ne hxy]; omega
    · rcases b with _ | ⟨y, b⟩
      · simp [dist_nil2]; omega
      · simp only [List.length_cons] at h
        obtain ⟨p1, p2, p3, p4⟩ := ih a b (by omega)
        have h2 := p2 y
        by_cases hxy : x = y
        · subst hxy; rw [dist_eq]; exact h2
        · rw [dist_ne hxy]; have h3 := p3 x; omega
    · rcases b with _ | ⟨y, b⟩
      · simp [dist_nil2]
      · simp only [List.length_cons] at h
        obtain ⟨p1, p2, p3, p4⟩ := ih a b (by omega)
        have h1 := p1 y
        by_cases hxy : x = y
        · subst hxy; rw [dist_eq]; exact h1
        · rw [dist_ne hxy]; omega

theorem dist_diag (x y : Int) (a b : List Int) : dist a b ≤ dist (x :: a) (y :: b) := by
  obtain ⟨p1, p2, p3, p4⟩ := dist_near _ a b (Nat.le_refl _)
  by_cases hxy : x = y
  · subst hxy; rw [dist_eq]; exact Nat.le_refl _
  · rw [dist_ne hxy]; have := p1 y; have := p3 x; omega

section
variable (a b : List Int)

/-- The same, of the rests from two places on. -/
def dst (i k : Nat) : Nat := dist (a.drop i) (b.drop k)

theorem dst_end {i k : Nat} (hi : i = a.length) (hk : k = b.length) : dst a b i k = 0 := by
  subst hi hk; simp [dst, dist_nil]
theorem dst_at_n {i k : Nat} (hi : a.length ≤ i) : dst a b i k = b.length - k := by
  simp [dst, List.drop_eq_nil_of_le hi, dist_nil]
theorem dst_at_m {i k : Nat} (hk : b.length ≤ k) : dst a b i k = a.length - i := by
  simp [dst, List.drop_eq_nil_of_le hk, dist_nil2]
theorem drop_getD {l : List Int} {i : Nat} (h : i < l.length) : l.drop i = l.getD i 0 :: l.drop (i + 1) := by
  rw [List.drop_eq_getElem_cons h]; simp [h]
theorem dst_same {i k : Nat} (hi : i < a.length) (hk : k < b.length) (h : a.getD i 0 = b.getD k 0) : dst a b i k = dst a b (i + 1) (k + 1) := by
  unfold dst; rw [drop_getD hi, drop_getD hk, h, dist_eq]
theorem dst_other {i k : Nat} (hi : i < a.length) (hk : k < b.length) (h : a.getD i 0 ≠ b.getD k 0) : dst a b i k = 1 + min (dst a b (i + 1) k) (dst a b i (k + 1)) := by
  unfold dst; rw [drop_getD hi, drop_getD hk, dist_ne h]
theorem dst_parity (i k : Nat) : dst a b i k % 2 = ((a.length - i) + (b.length - k)) % 2 := by
  have := dist_parity _ (a.drop i) (b.drop k) (Nat.le_refl _)
  simpa [dst] using this
theorem dst_le (i k : Nat) : dst a b i k ≤ (a.length - i) + (b.length - k) := by
  have := dist_le _ (a.drop i) (b.drop k) (Nat.le_refl _)
  simpa [dst] using this
theorem dst_ge (i k : Nat) : a.length - i ≤ (b.length - k) + dst a b i k ∧ b.length - k ≤ (a.length - i) + dst a b i k := by
  have := dist_ge _ (a.drop i) (b.drop k) (Nat.le_refl _)
  simpa [dst] using this
theorem dst_i {i : Nat} (k : Nat) (hi : i < a.length) : dst a b (i + 1) k ≤ dst a b i k + 1 ∧ dst a b i k ≤ dst a b (i + 1) k + 1 := by
  unfold dst
  rw [drop_getD hi]
  obtain ⟨p1, p2, p3, p4⟩ := dist_near _ (a.drop (i + 1)) (b.drop k) (Nat.le_refl _)
  exact ⟨p3 _, p4 _⟩
theorem dst_k (i : Nat) {k : Nat} (hk : k < b.length) : dst a b i (k + 1) ≤ dst a b i k + 1 ∧ dst a b i k ≤ dst a b i (k + 1) + 1 := by
  unfold dst
  rw [drop_getD hk]
  obtain ⟨p1, p2, p3, p4⟩ := dist_near _ (a.drop i) (b.drop (k + 1)) (Nat.le_refl _)
  exact ⟨p1 _, p2 _⟩
theorem dst_diag {i k : Nat} (hi : i < a.length) (hk : k < b.length) : dst a b (i + 1) (k + 1) ≤ dst a b i k := by
  unfold dst
  rw [drop_getD hi, drop_getD hk]
  exact dist_diag _ _ _ _
theorem dst_along {i k : Nat} (t : Nat) (hi : i + t ≤ a.length) (hk : k + t ≤ b.length) : dst a b (i + t) (k + t) ≤ dst a b i k := by
  induction t with
  | zero => exact Nat.le_refl _
  | succ t ih =>
    have := dst_diag a b (i := i + t) (k := k + t) (by omega) (by omega)
    have := ih (by omega) (by omega)
    simp only [Nat.add_assoc] at *
    omega

/-- Is a place on a diagonal (how much further it is in a than in b) and inside? -/
def On (dg : Int) (i k : Nat) : Prop := i ≤ a.length ∧ k ≤ b.length ∧ (i : Int) - k = dg
/-- From a place on an edge nearer the corner, in no more steps. -/
def Exc (d dg : Int) : Prop := (∃ K : Nat, K ≤ b.length ∧ (K : Int) < -dg ∧ (dst a b 0 K : Int) + (-dg - K) ≤ d) ∨ (∃ I : Nat, I ≤ a.length ∧ (I : Int) < dg ∧ (dst a b I 0 : Int) + (dg - I) ≤ d)
def far : Int := 1073741824
/-- What the field's numbers are. -/
structure Good (d dg x : Int) : Prop where
  sound : x = far ∨ ∃ i k : Nat, x = i ∧ On a b dg i k ∧ (dst a b i k : Int) ≤ d
  full : ∀ i k : Nat, On a b dg i k → (dst a b i k : Int) ≤ d → ((d - dst a b i k) % 2 = 0) → x ≤ i ∨ Exc a b d dg

theorem on_parity {dg : Int} {i k : Nat} (h : On a b dg i k) : ((dst a b i k : Int) - (dg - ((a.length : Int) - b.length))) % 2 = 0 := by
  obtain ⟨h1, h2, h3⟩ := h
  have := dst_parity a b i k
  omega
theorem on_ge {dg : Int} {i k : Nat} (h : On a b dg i k) : dg - ((a.length : Int) - b.length) ≤ dst a b i k ∧ -(dg - ((a.length : Int) - b.length)) ≤ dst a b i k := by
  obtain ⟨h1, h2, h3⟩ := h
  have := dst_ge a b i k
  omega

/-- Outside the rows there is nothing. -/
theorem Good.out {d dg : Int} (h : d < 0 ∨ dg - ((a.length : Int) - b.length) < -d ∨ d < dg - ((a.length : Int) - b.length)) : Good a b d dg far :=
  ⟨.inl rfl, fun i k ho hd _ => by have := on_ge a b ho; omega⟩

/-- Back over what is alike. -/
def slide (dg : Int) : Nat → Nat
  | 0 => 0
  | i + 1 => if 0 < ((i + 1 : Nat) : Int) - dg ∧ a.getD i 0 = b.getD (((i + 1 : Nat) : Int) - dg - 1).toNat 0 then slide dg i else i + 1

theorem slide_le (dg : Int) (i : Nat) : slide a b dg i ≤ i := by
  induction i with
  | zero => exact Nat.le_refl _
  | succ i ih => unfold slide; split <;> omega
theorem slide_on (dg : Int) (i k : Nat) (h : On a b dg i k) : ∃ k', On a b dg (slide a b dg i) k' ∧ dst a b (slide a b dg i) k' = dst a b i k := by
  induction i generalizing k with
  | zero => exact ⟨k, h, rfl⟩
  | succ i ih =>
    unfold slide
    split
    · rename_i hc
      obtain ⟨h1, h2, h3⟩ := h
      obtain ⟨hc1, hc2⟩ := hc
      obtain ⟨k', rfl⟩ : ∃ k', k = k' + 1 := ⟨k - 1, by omega⟩
      have e : (((i + 1 : Nat) : Int) - dg - 1).toNat = k' := by omega
      rw [e] at hc2
      obtain ⟨k2, g1, g2⟩ := ih k' ⟨by omega, by omega, by omega⟩
      exact ⟨k2, g1, by rw [g2, dst_same a b (by omega) (by omega) hc2]⟩
    · exact ⟨k, h, rfl⟩
/-- Over a run that is alike it slides to its beginning at least. -/
theorem slide_run (dg : Int) (j kj : Nat) (i : Nat) (t : Nat) (hi : i = j + t) (hj : On a b dg j kj) (hr : ∀ s, s < t → a.getD (j + s) 0 = b.getD (kj + s) 0) : slide a b dg i ≤ j := by
  induction t generalizing i with
  | zero => have := slide_le a b dg i; omega
  | succ t ih =>
    obtain ⟨h1, h2, h3⟩ := hj
    subst hi
    rw [show j + (t + 1) = (j + t) + 1 from rfl]
    unfold slide
    have e : (((j + t + 1 : Nat) : Int) - dg - 1).toNat = kj + t := by omega
    rw [if_pos ⟨by omega, by rw [e]; exact hr t (by omega)⟩]
    exact ih (j + t) rfl (fun s hs => hr s (by omega))

/-- Along a diagonal over what is alike, as far as it goes. -/
theorem run_exists (dg : Int) (n : Nat) : ∀ (j k : Nat), a.length - j ≤ n → On a b dg j k → ∃ t, On a b dg (j + t) (k + t) ∧ (∀ s, s < t → a.getD (j + s) 0 = b.getD (k + s) 0) ∧
    (j + t = a.length ∨ k + t = b.length ∨ a.getD (j + t) 0 ≠ b.getD (k + t) 0) ∧ dst a b (j + t) (k + t) = dst a b j k := by
  induction n with
  | zero =>
    intro j k hn ho
    obtain ⟨h1, h2, h3⟩ := ho
    exact ⟨0, ⟨h1, h2, h3⟩, fun s hs => absurd hs (by omega), .inl (by omega), rfl⟩
  | succ n ih =>
    intro j k hn ho
    obtain ⟨h1, h2, h3⟩ := ho
    by_cases e1 : j = a.length
    · exact ⟨0, ⟨h1, h2, h3⟩, fun s hs => absurd hs (by omega), .inl e1, rfl⟩
    · by_cases e2 : k = b.length
      · exact ⟨0, ⟨h1, h2, h3⟩, fun s hs => absurd hs (by omega), .inr (.inl e2), rfl⟩
      · by_cases e3 : a.getD j 0 = b.getD k 0
        · obtain ⟨t, g1, g2, g3, g4⟩ := ih (j + 1) (k + 1) (by omega) ⟨by omega, by omega, by omega⟩
          have q1 : j + (t + 1) = j + 1 + t := by omega
          have q2 : k + (t + 1) = k + 1 + t := by omega
          refine ⟨t + 1, ?_, ?_, ?_, ?_⟩
          · rw [q1, q2]; exact g1
          · intro s hs
            rcases s with _ | s
            · exact e3
            · rw [show j + (s + 1) = j + 1 + s by omega, show k + (s + 1) = k + 1 + s by omega]; exact g2 s (by omega)
          · rw [q1, q2]; exact g3
          · rw [q1, q2, g4, dst_same a b (by omega) (by omega) e3]
        · exact ⟨0, ⟨h1, h2, h3⟩, fun s hs => absurd hs (by omega), .inr (.inr e3), rfl⟩

/-- The least of what the rows before give. -/
def best0 (n d : Int) : Int := if d = 0 then n else far
def best1 (n d x1 : Int) : Int := if x1 < best0 n d then x1 else best0 n d
def best2 (n m d dg x1 x2 : Int) : Int := if x2 < far ∧ 0 ≤ x2 - 1 ∧ x2 - 1 < best1 n d x1 ∧ x2 - 1 - dg ≤ m then x2 - 1 else best1 n d x1
def best3 (n m d dg x1 x2 x3 : Int) : Int := if x3 < far ∧ 0 ≤ x3 - dg ∧ x3 < best2 n m d dg x1 x2 then x3 else best2 n m d dg x1 x2
def bestV (d dg x1 x2 x3 : Int) : Int :=
  if best3 a.length b.length d dg x1 x2 x3 = far then far else slide a b dg (best3 a.length b.length d dg x1 x2 x3).toNat

theorem best_le (n m d dg x1 x2 x3 : Int) : (d = 0 → best3 n m d dg x1 x2 x3 ≤ n) ∧ best3 n m d dg x1 x2 x3 ≤ x1 ∧ (x2 < far → 0 ≤ x2 - 1 → x2 - 1 - dg ≤ m → best3 n m d dg x1 x2 x3 ≤ x2 - 1) ∧
    (x3 < far → 0 ≤ x3 - dg → best3 n m d dg x1 x2 x3 ≤ x3) := by
  unfold best3 best2 best1 best0
  refine ⟨fun h => ?_, ?_, fun h1 h2 h3 => ?_, fun h1 h2 => ?_⟩ <;> (repeat' split) <;> omega
theorem best_of (n m d dg x1 x2 x3 : Int) (C : Int → Prop) (h0 : d = 0 → C n) (h1 : x1 < far → C x1) (h2 : x2 < far → 0 ≤ x2 - 1 → x2 - 1 - dg ≤ m → C (x2 - 1)) (h3 : x3 < far → 0 ≤ x3 - dg → C x3) (hn : n < far) :
    best3 n m d dg x1 x2 x3 = far ∨ C (best3 n m d dg x1 x2 x3) := by
  have e0 : best0 n d = far ∨ (C (best0 n d) ∧ best0 n d < far) := by
    unfold best0; split
    · rename_i h; exact .inr ⟨h0 h, hn⟩
    · exact .inl rfl
  have e1 : best1 n d x1 = far ∨ (C (best1 n d x1) ∧ best1 n d x1 < far) := by
    unfold best1; split
    · rename_i h
      have : x1 < far := by rcases e0 with e | e <;> omega
      exact .inr ⟨h1 this, this⟩
    · exact e0
  have e2 : best2 n m d dg x1 x2 = far ∨ (C (best2 n m d dg x1 x2) ∧ best2 n m d dg x1 x2 < far) := by
    unfold best2; split
    · rename_i h; exact .inr ⟨h2 h.1 h.2.1 h.2.2.2, by have := h.1; omega⟩
    · exact e1
  unfold best3; split
  · rename_i h; exact .inr (h3 h.1 h.2.1)
  · exact e2.imp id And.left

theorem best_point (hn : (a.length : Int) < far) {d dg x1 x2 x3 : Int} (h1 : -d ≤ dg - ((a.length : Int) - b.length)) (h2 : dg - ((a.length : Int) - b.length) ≤ d)
    (g1 : Good a b (d - 2) dg x1) (g2 : Good a b (d - 1) (dg + 1) x2) (g3 : Good a b (d - 1) (dg - 1) x3) : best3 a.length b.length d dg x1 x2 x3 = far ∨ ∃ i k : Nat, best3 a.length b.length d dg x1 x2 x3 = i ∧ On a b dg i k ∧ (dst a b i k : Int) ≤ d := by
  refine best_of _ _ _ _ _ _ _ (fun x => ∃ i k : Nat, x = i ∧ On a b dg i k ∧ (dst a b i k : Int) ≤ d) ?_ ?_ ?_ ?_ hn
  · intro h
    exact ⟨a.length, b.length, rfl, ⟨Nat.le_refl _, Nat.le_refl _, by omega⟩, by rw [dst_end a b rfl rfl]; omega⟩
  · intro h
    rcases g1.sound with e | ⟨i, k, e, ho, hle⟩
    · omega
    · exact ⟨i, k, e, ho, by omega⟩
  · intro h hp hm
    rcases g2.sound with e | ⟨i, k, e, ho, hle⟩
    · omega
    · obtain ⟨o1, o2, o3⟩ := ho
      obtain ⟨i', rfl⟩ : ∃ i', i = i' + 1 := ⟨i - 1, by omega⟩
      have := (dst_i a b (i := i') k (by omega)).2
      exact ⟨i', k, by omega, ⟨by omega, o2, by omega⟩, by omega⟩
  · intro h hp
    rcases g3.sound with e | ⟨i, k, e, ho, hle⟩
    · omega
    · obtain ⟨o1, o2, o3⟩ := ho
      obtain ⟨k', rfl⟩ : ∃ k', k = k' + 1 := ⟨k - 1, by omega⟩
      have := (dst_k a b i (k := k') (by omega)).2
      exact ⟨i, k', by omega, ⟨o1, by omega, by omega⟩, by omega⟩

theorem good_step (hn : (a.length : Int) < far) {d dg x1 x2 x3 : Int} (h1 : -d ≤ dg - ((a.length : Int) - b.length)) (h2 : dg - ((a.length : Int) - b.length) ≤ d)
    (g1 : Good a b (d - 2) dg x1) (g2 : Good a b (d - 1) (dg + 1) x2) (g3 : Good a b (d - 1) (dg - 1) x3) : Good a b d dg (bestV a b d dg x1 x2 x3) := by
  have hof := best_point a b hn h1 h2 g1 g2 g3
  obtain ⟨l0, l1, l2, l3⟩ := best_le a.length b.length d dg x1 x2 x3
  unfold bestV
  generalize best3 (a.length : Int) b.length d dg x1 x2 x3 = y at hof l0 l1 l2 l3 ⊢
  refine ⟨?_, ?_⟩
  · split
    · exact .inl rfl
    · rename_i hy
      rcases hof with e | ⟨i, k, e, ho, hle⟩
      · exact absurd e hy
      · subst e
        obtain ⟨k', ho', he⟩ := slide_on a b dg i k ho
        exact .inr ⟨_, k', by simp, ho', by rw [he]; exact hle⟩
  · intro j kj ho hle hpar
    refine (Classical.em (Exc a b d dg)).elim .inr fun hex => .inl ?_
    obtain ⟨o1, o2, o3⟩ := id ho
    have key : ∃ t, (∀ s, s < t → a.getD (j + s) 0 = b.getD (kj + s) 0) ∧ y ≤ ((j + t : Nat) : Int) ∧ j + t ≤ a.length := by
      by_cases he : (dst a b j kj : Int) ≤ d - 2
      · rcases g1.full j kj ho he (by omega) with h | h
        · exact ⟨0, fun s hs => absurd hs (by omega), by omega, by omega⟩
        · exfalso; apply hex
          rcases h with ⟨K, k1, k2, k3⟩ | ⟨I, i1, i2, i3⟩
          · exact .inl ⟨K, k1, k2, by omega⟩
          · exact .inr ⟨I, i1, i2, by omega⟩
      · have hed : (dst a b j kj : Int) = d := by omega
        obtain ⟨t, r1, r2, r3, r4⟩ := run_exists a b dg _ j kj (Nat.le_refl _) ho
        refine ⟨t, r2, ?_, r1.1⟩
        obtain ⟨q1, q2, q3⟩ := id r1
        have hcorner : ∀ I : Nat, I ≤ a.length → (I : Int) = dg → d - 2 < (dst a b I 0 : Int) := by
          intro I hI e
          have := dst_along a b (i := I) (k := 0) kj (by omega) (by omega)
          rw [show I + kj = j by omega, Nat.zero_add] at this
          omega
        have hcorner2 : ∀ K : Nat, K ≤ b.length → (K : Int) = -dg → d - 2 < (dst a b 0 K : Int) := by
          intro K hK e
          have := dst_along a b (i := 0) (k := K) j (by omega) (by omega)
          rw [show K + j = kj by omega, Nat.zero_add] at this
          omega
        have caseA : j + t < a.length → (dst a b (j + t + 1) (kj + t) : Int) = d - 1 → y ≤ ((j + t : Nat) : Int) := by
          intro hlt hda
          rcases g2.full (j + t + 1) (kj + t) ⟨by omega, q2, by omega⟩ (by omega) (by omega) with h | h
          · rcases g2.sound with e | ⟨i, k, e, ho2, hle2⟩
            · unfold far at e hn; omega
            · obtain ⟨p1, p2, p3⟩ := ho2
              rcases i with _ | i
              · exact absurd (.inl ⟨k, p2, by omega, by omega⟩) hex
              · have := l2 (by omega) (by omega) (by omega); omega
          · exfalso
            rcases h with ⟨K, k1, k2, k3⟩ | ⟨I, i1, i2, i3⟩
            · exact hex (.inl ⟨K, k1, by omega, by omega⟩)
            · by_cases e : (I : Int) = dg
              · have := hcorner I i1 e; omega
              · exact hex (.inr ⟨I, i1, by omega, by omega⟩)
        have caseB : kj + t < b.length → (dst a b (j + t) (kj + t + 1) : Int) = d - 1 → y ≤ ((j + t : Nat) : Int) := by
          intro hlt hda
          rcases g3.full (j + t) (kj + t + 1) ⟨q1, by omega, by omega⟩ (by omega) (by omega) with h | h
          · rcases g3.sound with e | ⟨i, k, e, ho2, hle2⟩
            · unfold far at e hn; omega
            · obtain ⟨p1, p2, p3⟩ := ho2
              rcases k with _ | k
              · exact absurd (.inr ⟨i, p1, by omega, by omega⟩) hex
              · have := l3 (by omega) (by omega); omega
          · exfalso
            rcases h with ⟨K, k1, k2, k3⟩ | ⟨I, i1, i2, i3⟩
            · by_cases e : (K : Int) = -dg
              · have := hcorner2 K k1 e; omega
              · exact hex (.inl ⟨K, k1, by omega, by omega⟩)
            · exact hex (.inr ⟨I, i1, by omega, by omega⟩)
        rcases r3 with e | e | e
        · have hD := dst_at_n a b (i := j + t) (k := kj + t) (by omega)
          by_cases hk : kj + t < b.length
          · have hD2 := dst_at_n a b (i := j + t) (k := kj + t + 1) (by omega)
            exact caseB hk (by omega)
          · have := l0 (by omega); omega
        · have hD := dst_at_m a b (i := j + t) (k := kj + t) (by omega)
          by_cases hk : j + t < a.length
          · have hD2 := dst_at_m a b (i := j + t + 1) (k := kj + t) (by omega)
            exact caseA hk (by omega)
          · have := l0 (by omega); omega
        · by_cases hj : j + t < a.length
          · by_cases hk : kj + t < b.length
            · have hD := dst_other a b hj hk e
              by_cases hm : dst a b (j + t + 1) (kj + t) ≤ dst a b (j + t) (kj + t + 1)
              · exact caseA hj (by omega)
              · exact caseB hk (by omega)
            · have hD := dst_at_m a b (i := j + t) (k := kj + t) (by omega)
              have hD2 := dst_at_m a b (i := j + t + 1) (k := kj + t) (by omega)
              exact caseA hj (by omega)
          · have hD := dst_at_n a b (i := j + t) (k := kj + t) (by omega)
            by_cases hk : kj + t < b.length
            · have hD2 := dst_at_n a b (i := j + t) (k := kj + t + 1) (by omega)
              exact caseB hk (by omega)
            · have := l0 (by omega); omega
    obtain ⟨t, r2, hy, hjt⟩ := key
    have hyf : y ≠ far := by unfold far at hn ⊢; omega
    rw [if_neg hyf]
    rcases hof with e | ⟨i, k, e, ho2, hle2⟩
    · exact absurd e hyf
    · subst e
      simp only [Int.toNat_natCast]
      by_cases hij : i ≤ j
      · have := slide_le a b dg i; omega
      · have := slide_run a b dg j kj i (i - j) (by omega) ho (fun s hs => r2 s (by omega))
        omega

theorem dst_from_k (K : Nat) (hK : K ≤ b.length) : dst a b 0 0 ≤ dst a b 0 K + K := by
  induction K with
  | zero => exact Nat.le_refl _
  | succ K ih => have := (dst_k a b 0 (k := K) (by omega)).2; have := ih (by omega); omega
theorem dst_from_i (I : Nat) (hI : I ≤ a.length) : dst a b 0 0 ≤ dst a b I 0 + I := by
  induction I with
  | zero => exact Nat.le_refl _
  | succ I ih => have := (dst_i a b (i := I) 0 (by omega)).2; have := ih (by omega); omega

/-- The beginning is reached just at its distance. -/
theorem good_zero {d x : Int} (g : Good a b d 0 x) : (x = 0 → (dst a b 0 0 : Int) ≤ d) ∧ (d = dst a b 0 0 → x = 0) := by
  constructor
  · intro e
    rcases g.sound with h | ⟨i, k, h, ho, hle⟩
    · unfold far at h; omega
    · obtain ⟨o1, o2, o3⟩ := ho
      obtain rfl : i = 0 := by omega
      obtain rfl : k = 0 := by omega
      exact hle
  · intro e
    rcases g.full 0 0 ⟨by omega, by omega, by omega⟩ (by omega) (by omega) with h | h
    · rcases g.sound with h2 | ⟨i, k, h2, _⟩
      · unfold far at h2; omega
      · omega
    · rcases h with ⟨K, k1, k2, k3⟩ | ⟨I, i1, i2, i3⟩ <;> omega

/-- On a shortest way: what the row tells of the place behind a removal. -/
theorem good_near (hn : (a.length : Int) < far) {i k : Nat} {r r' x : Int} (hi : i < a.length) (hk : k ≤ b.length) (hr : (dst a b i k : Int) = r + 1)
    (hinv : (i : Int) - k + dst a b i k ≤ dst a b 0 0 ∧ (k : Int) - i + dst a b i k ≤ dst a b 0 0)
    (hr' : r' ≤ r) (hpar : (r' - ((i : Int) + 1 - k - ((a.length : Int) - b.length))) % 2 = 0) (hr2 : r - 1 ≤ r') (g : Good a b r' ((i : Int) + 1 - k) x) :
    x ≤ (i : Int) + 1 ↔ dst a b (i + 1) k < dst a b i k := by
  have ho : On a b ((i : Int) + 1 - k) (i + 1) k := ⟨by omega, hk, by omega⟩
  have hp := on_parity a b ho
  constructor
  · intro hx
    rcases g.sound with h | ⟨i2, k2, h, ho2, hle⟩
    · exfalso
      omega
    · obtain ⟨p1, p2, p3⟩ := ho2
      have := dst_along a b (i := i2) (k := k2) (i + 1 - i2) (by omega) (by omega)
      rw [show i2 + (i + 1 - i2) = i + 1 by omega, show k2 + (i + 1 - i2) = k by omega] at this
      omega
  · intro hlt
    rcases g.full (i + 1) k ho (by omega) (by omega) with h | h
    · omega
    · exfalso
      rcases h with ⟨K, k1, k2, k3⟩ | ⟨I, i1, i2, i3⟩
      · have := dst_from_k a b K k1; omega
      · have := dst_from_i a b I i1; omega
end
end Go.Proofs.Ythhmamkphcgocaa

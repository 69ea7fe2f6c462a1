/- The stable sort's parts as maps of places, in plain Lean: exchange of two ranges, rotation, merge of two sorted parts. slices.SortStableFunc's helpers at alike.Row: exchange of two ranges, rotation: by contracts. -/
import Derived.Sort.LotA
import Derived.Test.YtbmpidacoohdmaaGreatF00
import Derived.Test.YtbmpidacoohdmaaGreatF12
import Derived.Shelf.SlSortCmp.KitK
namespace Go.Proofs.YtbmpidacoohdmaaGreat
open Go.Sort
/-- x < y ≤ z, and x ≤ y < z. -/
theorem SWO.lt_le {α : Type} {lt : α → α → Bool} (hS : SWO lt) {x y z : α} (h : lt x y = true) (k : lt z y = false) : lt x z = true := by
  cases q : lt x z
  · have := hS.ntrans x z y q k
    rw [h] at this
    cases this
  · rfl
theorem SWO.le_lt {α : Type} {lt : α → α → Bool} (hS : SWO lt) {x y z : α} (h : lt y x = false) (k : lt y z = true) : lt x z = true := by
  cases q : lt x z
  · have := hS.ntrans y x z h q
    rw [k] at this
    cases this
  · rfl
theorem SWO.as {α : Type} {lt : α → α → Bool} (hS : SWO lt) {x y : α} (h : lt x y = true) : lt y x = false := by
  cases q : lt y x
  · rfl
  · have := hS.trans x y x h q
    rw [hS.irrefl] at this
    cases this
variable {α : Type} [Inhabited α]

/-- A permutation of the part a ≤ i < b. -/
theorem insInner_perm (lt : α → α → Bool) (a b : Nat) : ∀ (j : Nat) (d : Array α), a ≤ j → j < b → b ≤ d.size → PermIn a b d (insInner lt a j d)
  | 0, d, _, _, _ => permIn_refl d a b
  | j + 1, d, ha, hj, hb => by
    unfold insInner
    split
    · rename_i hc
      have h1 : a ≤ j := by simp at hc; omega
      exact permIn_trans _ _ _ _ _ (swp_permIn d a b (j + 1) j ha hj h1 (by omega) hb) (insInner_perm lt a b j _ h1 (by omega) (by rw [size_swp]; exact hb))
    · exact permIn_refl d a b
theorem insInner_same (lt lt2 : α → α → Bool) (a : Nat) : ∀ (j : Nat) (d : Array α), j < d.size → (∀ p, a ≤ p → p < j → lt d[j]! d[p]! = lt2 d[j]! d[p]!) → insInner lt a j d = insInner lt2 a j d
  | 0, d, _, _ => rfl
  | j + 1, d, hj, h => by
    unfold insInner
    by_cases hc : j + 1 > a
    · rw [h j (by omega) (by omega)]
      have ih := insInner_same lt lt2 a j (swp d (j + 1) j) (by rw [size_swp]; omega) (fun p hp hpj => by
        rw [swp_right _ _ _ (by omega), swp_other _ _ _ _ (by omega) (by omega)]
        exact h p hp (by omega))
      rw [ih]
    · rw [show decide (j + 1 > a) = false from decide_eq_false hc]
      simp
theorem insOuter_yes (lt : α → α → Bool) {a b i : Nat} (h : i < b) (d : Array α) : insOuter lt a b i d = insOuter lt a b (i + 1) (insInner lt a i d) := by
  conv => lhs; rw [insOuter]
  rw [if_pos h]
theorem insOuter_no (lt : α → α → Bool) {a b i : Nat} (h : ¬ i < b) (d : Array α) : insOuter lt a b i d = d := by
  rw [insOuter, if_neg h]
theorem insOuter_same (lt lt2 : α → α → Bool) (a b : Nat) : ∀ (n i : Nat) (d : Array α), b - i = n → a ≤ i → b ≤ d.size → (∀ q p, i ≤ q → q < b → a ≤ p → p < q → lt d[q]! d[p]! = lt2 d[q]! d[p]!) → insOuter lt a b i d = insOuter lt2 a b i d
  | 0, i, d, hn, _, _, _ => by
    rw [insOuter_no _ (by omega), insOuter_no _ (by omega)]
  | n + 1, i, d, hn, hai, hb, h => by
    have hi : i < b := by omega
    rw [insOuter_yes _ hi, insOuter_yes _ hi]
    have e := insInner_same lt lt2 a i d (by omega) (fun p hp hpi => h i p (Nat.le_refl _) hi hp hpi)
    rw [e]
    have hp := insInner_perm lt2 a (i + 1) i d hai (by omega) (by omega)
    refine insOuter_same lt lt2 a b n (i + 1) _ (by omega) (by omega) (by rw [hp.1]; exact hb) (fun q p hq hqb hpa hpq => ?_)
    have hdq : (insInner lt2 a i d)[q]! = d[q]! := hp.2.1 q (.inr hq)
    rw [hdq]
    by_cases hpi : p < i + 1
    · exact permIn_all d _ a (i + 1) (fun x => lt d[q]! x = lt2 d[q]! x) (by omega) hp (fun x hx hxi => h q x (by omega) hqb hx (by omega)) p hpa hpi
    · rw [hp.2.1 p (.inr (by omega))]
      exact h q p (by omega) hqb hpa hpq
/-- The insertion sort asks only later against earlier: where two orders agree there, it does the same. -/
theorem insertion_same (lt lt2 : α → α → Bool) (d : Array α) (a b : Nat) (hb : b ≤ d.size) (h : ∀ q p, q < b → a ≤ p → p < q → lt d[q]! d[p]! = lt2 d[q]! d[p]!) : insertionSort lt d a b = insertionSort lt2 d a b :=
  insOuter_same lt lt2 a b _ (a + 1) d rfl (by omega) hb (fun q p _ hq ha hp => h q p hq ha hp)

/-- The places that the exchange of [a, a+n) and [b, b+n) reads. -/
def sig (a b n k : Nat) : Nat := if a ≤ k ∧ k < a + n then k + (b - a) else if b ≤ k ∧ k < b + n then k - (b - a) else k
def swR (d : Array α) (a b : Nat) : Nat → Array α
  | 0 => d
  | i + 1 => swp (swR d a b i) (a + i) (b + i)
theorem swR_size (d : Array α) (a b : Nat) : ∀ n, (swR d a b n).size = d.size
  | 0 => rfl
  | n + 1 => by rw [swR, size_swp]; exact swR_size d a b n
theorem swR_get (d : Array α) (a b : Nat) : ∀ n, a + n ≤ b → b + n ≤ d.size → ∀ k : Nat, (swR d a b n)[k]! = d[sig a b n k]!
  | 0, _, _, k => by
    unfold sig
    rw [if_neg (by omega), if_neg (by omega)]
    rfl
  | n + 1, h1, h2, k => by
    have ih := swR_get d a b n (by omega) (by omega)
    rw [swR]
    by_cases e1 : k = a + n
    · subst e1
      rw [swp_left _ _ _ (by rw [swR_size]; omega) (by omega), ih]
      unfold sig
      rw [if_neg (by omega), if_neg (by omega), if_pos (by omega)]
      congr 1
      omega
    · by_cases e2 : k = b + n
      · subst e2
        rw [swp_right _ _ _ (by rw [swR_size]; omega), ih]
        unfold sig
        rw [if_neg (by omega), if_neg (by omega), if_neg (by omega), if_pos (by omega)]
        congr 1
        omega
      · rw [swp_other _ _ _ _ e1 e2, ih]
        unfold sig
        congr 1
        repeat' split
        all_goals omega
theorem swR_perm (d : Array α) (a b lo hi : Nat) : ∀ n, lo ≤ a → a + n ≤ b → b + n ≤ hi → hi ≤ d.size → PermIn lo hi d (swR d a b n)
  | 0, _, _, _, _ => permIn_refl d lo hi
  | n + 1, h1, h2, h3, h4 => permIn_trans _ _ _ _ _ (swR_perm d a b lo hi n h1 (by omega) (by omega) h4) (swp_permIn _ lo hi (a + n) (b + n) (by omega) (by omega) (by omega) (by omega) (by rw [swR_size]; exact h4))

/-- The places that the rotation of [s, e) about m reads. -/
def rho (s m e k : Nat) : Nat := if s ≤ k ∧ k < s + (e - m) then k + (m - s) else if s + (e - m) ≤ k ∧ k < e then k - (e - m) else k
theorem rho2 {s m e x : Nat} (h : s ≤ x) (k : x < s + (e - m)) : rho s m e x = x + (m - s) := by
  unfold rho; rw [if_pos ⟨h, k⟩]
theorem rho3 {s m e x : Nat} (h : s + (e - m) ≤ x) (k : x < e) : rho s m e x = x - (e - m) := by
  unfold rho; rw [if_neg (by omega), if_pos ⟨h, k⟩]
theorem rho0 {s m e x : Nat} (h : x < s) : rho s m e x = x := by
  unfold rho; rw [if_neg (by omega), if_neg (by omega)]
theorem rho4 {s m e x : Nat} (h : e ≤ x) (h1 : s ≤ m) (h2 : m ≤ e) : rho s m e x = x := by
  unfold rho; rw [if_neg (by omega), if_neg (by omega)]
theorem rho_gt {i j m k : Nat} (hj : j < i) (him : i ≤ m) : sig (m - i) m j (rho (m - (i - j)) m (m + j) k) = rho (m - i) m (m + j) k := by
  unfold sig rho
  repeat' split
  all_goals omega
theorem rho_lt {i j m k : Nat} (hj : i < j) (him : i ≤ m) : sig (m - i) (m + j - i) i (rho (m - i) m (m + (j - i)) k) = rho (m - i) m (m + j) k := by
  unfold sig rho
  repeat' split
  all_goals omega
theorem rho_eq {i m k : Nat} (him : i ≤ m) : sig (m - i) m i k = rho (m - i) m (m + i) k := by
  unfold sig rho
  repeat' split
  all_goals omega
theorem rho_none {s m e k : Nat} (h : s = m ∨ m = e) (h1 : s ≤ m) (h2 : m ≤ e) : rho s m e k = k := by
  unfold rho
  repeat' split
  all_goals omega
/-- d2 is d rotated. -/
structure Rot (a b : Nat) (s m e : Nat) (d d2 : Array α) : Prop where
  perm : PermIn a b d d2
  get : ∀ k : Nat, d2[k]! = d[rho s m e k]!
theorem Rot.none {a b s m e : Nat} {d : Array α} (h : s = m ∨ m = e) (h1 : s ≤ m) (h2 : m ≤ e) : Rot a b s m e d d := ⟨permIn_refl d a b, fun k => by rw [rho_none h h1 h2]⟩
/-- One more step to the right, or to the left. -/
theorem Rot.right {a b s k : Nat} {d d2 : Array α} (h : Rot a b s (s + 1) (k + 1) d d2) (ha : a ≤ s) (hk : k + 1 < b) (hs : s ≤ k) (hb : b ≤ d.size) : Rot a b s (s + 1) (k + 2) d (swp d2 k (k + 1)) := by
  have hsz := h.perm.1
  refine ⟨permIn_trans _ _ _ _ _ h.perm (swp_permIn _ a b k (k + 1) (by omega) (by omega) (by omega) hk (by omega)), fun x => ?_⟩
  by_cases e1 : x = k
  · subst e1
    rw [swp_left _ _ _ (by omega) (by omega), h.get]
    congr 1
    unfold rho
    repeat' split
    all_goals omega
  · by_cases e2 : x = k + 1
    · subst e2
      rw [swp_right _ _ _ (by omega), h.get]
      congr 1
      unfold rho
      repeat' split
      all_goals omega
    · rw [swp_other _ _ _ _ e1 e2, h.get]
      congr 1
      unfold rho
      repeat' split
      all_goals omega
theorem Rot.left {a b k m : Nat} {d d2 : Array α} (h : Rot a b (k + 1) m (m + 1) d d2) (ha : a ≤ k) (hk : k + 1 ≤ m) (hm : m < b) (hb : b ≤ d.size) : Rot a b k m (m + 1) d (swp d2 (k + 1) k) := by
  have hsz := h.perm.1
  refine ⟨permIn_trans _ _ _ _ _ h.perm (swp_permIn _ a b (k + 1) k (by omega) (by omega) (by omega) (by omega) (by omega)), fun x => ?_⟩
  by_cases e1 : x = k + 1
  · subst e1
    rw [swp_left _ _ _ (by omega) (by omega), h.get]
    congr 1
    unfold rho
    repeat' split
    all_goals omega
  · by_cases e2 : x = k
    · subst e2
      rw [swp_right _ _ _ (by omega), h.get]
      congr 1
      unfold rho
      repeat' split
      all_goals omega
    · rw [swp_other _ _ _ _ e1 e2, h.get]
      congr 1
      unfold rho
      repeat' split
      all_goals omega

/-- What a merge is asked with: both parts sorted; how right is held against left is the order. -/
structure Mrg (lt lc : α → α → Bool) (a m b : Nat) (d : Array α) : Prop where
  size : b ≤ d.size
  left : SortedIn lt a m d
  right : SortedIn lt m b d
  ask : ∀ i j, a ≤ i → i < m → m ≤ j → j < b → lc d[j]! d[i]! = lt d[j]! d[i]!
theorem SortedIn.le {lt : α → α → Bool} (hS : SWO lt) {a b : Nat} {d : Array α} (h : SortedIn lt a b d) {i j : Nat} (ha : a ≤ i) (hij : i ≤ j) (hj : j < b) : lt d[j]! d[i]! = false := by
  rcases Nat.lt_or_eq_of_le hij with h1 | rfl
  · exact h i j ha h1 hj
  · exact hS.irrefl _
/-- One on the left is laid into its place. -/
theorem Mrg.one_left {lt lc : α → α → Bool} (hS : SWO lt) {a b i : Nat} {d d2 : Array α} (h : Mrg lt lc a (a + 1) b d) (hr : Rot a b a (a + 1) i d d2) (h1 : a + 1 ≤ i) (h2 : i ≤ b) (hl : i = a + 1 ∨ lc d[i - 1]! d[a]! = true) (hg : i = b ∨ lc d[i]! d[a]! = false) : SortedIn lt a b d2 := by
  have lo : ∀ x, a + 1 ≤ x → x < i → lt d[x]! d[a]! = true := fun x hx hxi => by
    rcases hl with hl | hl
    · omega
    · rw [h.ask a (i - 1) (Nat.le_refl _) (by omega) (by omega) (by omega)] at hl
      exact SWO.le_lt hS (SortedIn.le hS h.right hx (by omega) (by omega)) hl
  have up : ∀ x, i ≤ x → x < b → lt d[x]! d[a]! = false := fun x hx hxb => by
    rcases hg with hg | hg
    · omega
    · rw [h.ask a i (Nat.le_refl _) (by omega) (by omega) (by omega)] at hg
      exact hS.ntrans _ _ _ (SortedIn.le hS h.right (by omega) hx hxb) hg
  intro p q hp hpq hq
  rw [hr.get, hr.get]
  by_cases c1 : q < i - 1
  · rw [show rho a (a + 1) i q = q + 1 from (rho2 (by omega) (by omega)).trans (by omega), show rho a (a + 1) i p = p + 1 from (rho2 (by omega) (by omega)).trans (by omega)]
    exact h.right _ _ (by omega) (by omega) (by omega)
  · by_cases c2 : q = i - 1
    · rw [show rho a (a + 1) i q = a from (rho3 (by omega) (by omega)).trans (by omega), show rho a (a + 1) i p = p + 1 from (rho2 (by omega) (by omega)).trans (by omega)]
      exact SWO.as hS (lo _ (by omega) (by omega))
    · rw [show rho a (a + 1) i q = q from rho4 (by omega) (by omega) (by omega)]
      by_cases c3 : p < i - 1
      · rw [show rho a (a + 1) i p = p + 1 from (rho2 (by omega) (by omega)).trans (by omega)]
        exact SortedIn.le hS h.right (by omega) (by omega) (by omega)
      · by_cases c4 : p = i - 1
        · rw [show rho a (a + 1) i p = a from (rho3 (by omega) (by omega)).trans (by omega)]
          exact up q (by omega) hq
        · rw [show rho a (a + 1) i p = p from rho4 (by omega) (by omega) (by omega)]
          exact h.right _ _ (by omega) hpq hq
/-- One on the right is laid into its place. -/
theorem Mrg.one_right {lt lc : α → α → Bool} (hS : SWO lt) {a m i : Nat} {d d2 : Array α} (h : Mrg lt lc a m (m + 1) d) (hr : Rot a (m + 1) i m (m + 1) d d2) (h1 : a ≤ i) (h2 : i ≤ m) (hl : i = a ∨ lc d[m]! d[i - 1]! = false) (hg : i = m ∨ lc d[m]! d[i]! = true) : SortedIn lt a (m + 1) d2 := by
  have lo : ∀ x, a ≤ x → x < i → lt d[m]! d[x]! = false := fun x hx hxi => by
    rcases hl with hl | hl
    · omega
    · rw [h.ask (i - 1) m (by omega) (by omega) (Nat.le_refl _) (by omega)] at hl
      exact hS.ntrans _ _ _ hl (SortedIn.le hS h.left hx (by omega) (by omega))
  have up : ∀ x, i ≤ x → x < m → lt d[m]! d[x]! = true := fun x hx hxb => by
    rcases hg with hg | hg
    · omega
    · rw [h.ask i m (by omega) (by omega) (Nat.le_refl _) (by omega)] at hg
      exact SWO.lt_le hS hg (SortedIn.le hS h.left (by omega) hx hxb)
  intro p q hp hpq hq
  rw [hr.get, hr.get]
  by_cases c1 : q < i
  · rw [show rho i m (m + 1) q = q from rho0 (by omega), show rho i m (m + 1) p = p from rho0 (by omega)]
    exact h.left _ _ hp hpq (by omega)
  · by_cases c2 : q = i
    · rw [show rho i m (m + 1) q = m from (rho2 (by omega) (by omega)).trans (by omega), show rho i m (m + 1) p = p from rho0 (by omega)]
      exact lo p hp (by omega)
    · rw [show rho i m (m + 1) q = q - 1 from (rho3 (by omega) (by omega)).trans (by omega)]
      by_cases c3 : p < i
      · rw [show rho i m (m + 1) p = p from rho0 (by omega)]
        exact SortedIn.le hS h.left hp (by omega) (by omega)
      · by_cases c4 : p = i
        · rw [show rho i m (m + 1) p = m from (rho2 (by omega) (by omega)).trans (by omega)]
          exact SWO.as hS (up _ (by omega) (by omega))
        · rw [show rho i m (m + 1) p = p - 1 from (rho3 (by omega) (by omega)).trans (by omega)]
          exact h.left _ _ (by omega) (by omega) (by omega)
/-- Behind the rotation: two merges, and all of the first part ahead of all of the second. -/
structure Cut (lt lc : α → α → Bool) (a s k e b : Nat) (d : Array α) : Prop where
  m1 : Mrg lt lc a s k d
  m2 : Mrg lt lc k e b d
  apart : ∀ i j, a ≤ i → i < k → k ≤ j → j < b → lt d[j]! d[i]! = false
theorem Mrg.cut {lt lc : α → α → Bool} (hS : SWO lt) {a m b s e : Nat} {d d2 : Array α} (h : Mrg lt lc a m b d) (hr : Rot a b s m e d d2) (h1 : a ≤ s) (h2 : s ≤ m) (h3 : m ≤ e) (h4 : e ≤ b)
    (hl : s = a ∨ e = b ∨ lc d[e]! d[s - 1]! = false) (hg : s = m ∨ e = m ∨ lc d[e - 1]! d[s]! = true) : Cut lt lc a s (s + (e - m)) e b d2 := by
  have r1 : ∀ x, x < s → rho s m e x = x := fun x hx => rho0 hx
  have r2 : ∀ x, s ≤ x → x < s + (e - m) → rho s m e x = x + (m - s) := fun x hx hx2 => rho2 hx hx2
  have r3 : ∀ x, s + (e - m) ≤ x → x < e → rho s m e x = x - (e - m) := fun x hx hx2 => rho3 hx hx2
  have r4 : ∀ x, e ≤ x → rho s m e x = x := fun x hx => rho4 hx h2 h3
  have lo : ∀ x y, a ≤ x → x < s → e ≤ y → y < b → lt d[y]! d[x]! = false := fun x y hx hxs hy hyb => by
    rcases hl with hl | hl | hl
    · omega
    · omega
    · rw [h.ask (s - 1) e (by omega) (by omega) (by omega) (by omega)] at hl
      exact hS.ntrans _ _ _ (SortedIn.le hS h.right (by omega) hy hyb) (hS.ntrans _ _ _ hl (SortedIn.le hS h.left hx (by omega) (by omega)))
  have up : ∀ x y, s ≤ x → x < m → m ≤ y → y < e → lt d[y]! d[x]! = true := fun x y hx hxm hy hye => by
    rcases hg with hg | hg | hg
    · omega
    · omega
    · rw [h.ask s (e - 1) (by omega) (by omega) (by omega) (by omega)] at hg
      exact SWO.le_lt hS (SortedIn.le hS h.right hy (by omega) (by omega)) (SWO.lt_le hS hg (SortedIn.le hS h.left h1 hx hxm))
  have sz : b ≤ d2.size := by rw [hr.perm.1]; exact h.size
  refine ⟨⟨by omega, fun p q hp hpq hq => ?_, fun p q hp hpq hq => ?_, fun i j hi his hj hjk => ?_⟩, ⟨sz, fun p q hp hpq hq => ?_, fun p q hp hpq hq => ?_, fun i j hi his hj hjk => ?_⟩, fun i j hi hik hj hjb => ?_⟩
  · rw [hr.get, hr.get, r1 q hq, r1 p (by omega)]
    exact h.left p q hp hpq (by omega)
  · rw [hr.get, hr.get, r2 q (by omega) hq, r2 p hp (by omega)]
    exact h.right _ _ (by omega) (by omega) (by omega)
  · rw [hr.get j, hr.get i, r1 i his, r2 j hj hjk]
    exact h.ask i _ hi (by omega) (by omega) (by omega)
  · rw [hr.get, hr.get, r3 q (by omega) hq, r3 p hp (by omega)]
    exact h.left _ _ (by omega) (by omega) (by omega)
  · rw [hr.get, hr.get, r4 q (by omega), r4 p hp]
    exact h.right p q (by omega) hpq hq
  · rw [hr.get j, hr.get i, r3 i hi his, r4 j hj]
    exact h.ask _ j (by omega) (by omega) (by omega) hjk
  · rw [hr.get j, hr.get i]
    by_cases c1 : i < s
    · rw [r1 i c1]
      by_cases c2 : j < e
      · rw [r3 j hj c2]
        exact h.left _ _ hi (by omega) (by omega)
      · rw [r4 j (by omega)]
        exact lo i j hi c1 (by omega) hjb
    · rw [r2 i (by omega) hik]
      by_cases c2 : j < e
      · rw [r3 j hj c2]
        exact SWO.as hS (up _ _ (by omega) (by omega) (by omega) (by omega))
      · rw [r4 j (by omega)]
        exact h.right _ _ (by omega) (by omega) hjb
/-- The first merge is done. -/
theorem Cut.first {lt lc : α → α → Bool} {a s k e b : Nat} {d d2 : Array α} (h : Cut lt lc a s k e b d) (hp : PermIn a k d d2) (hs : SortedIn lt a k d2) (hk : k ≤ e) (he : e ≤ b) : Mrg lt lc k e b d2 ∧ SortedIn lt a k d2 ∧ (∀ i j, a ≤ i → i < k → k ≤ j → j < b → lt d2[j]! d2[i]! = false) ∧ PermIn a b d d2 := by
  have hsz := h.m2.size
  have same : ∀ x, k ≤ x → d2[x]! = d[x]! := fun x hx => hp.2.1 x (.inr hx)
  refine ⟨⟨by rw [hp.1]; exact hsz, fun p q h1 h2 h3 => ?_, fun p q h1 h2 h3 => ?_, fun i j h1 h2 h3 h4 => ?_⟩, hs, fun i j h1 h2 h3 h4 => ?_, permIn_mono d d2 a k a b (Nat.le_refl _) (by omega) hsz hp⟩
  · rw [same p h1, same q (by omega)]; exact h.m2.left p q h1 h2 h3
  · rw [same p (by omega), same q (by omega)]; exact h.m2.right p q h1 h2 h3
  · rw [same i h1, same j (by omega)]; exact h.m2.ask i j h1 h2 h3 h4
  · rw [same j h3]
    exact permIn_all d d2 a k (fun x => lt d[j]! x = false) (by omega) hp (fun x hx hxk => h.apart x j hx hxk h3 h4) i h1 h2
/-- .. and the second. -/
theorem Cut.second {lt lc : α → α → Bool} {a k e b : Nat} {d d2 : Array α} (hm : Mrg lt lc k e b d) (hs1 : SortedIn lt a k d) (hap : ∀ i j, a ≤ i → i < k → k ≤ j → j < b → lt d[j]! d[i]! = false) (hp : PermIn k b d d2) (hs : SortedIn lt k b d2) (hak : a ≤ k) : SortedIn lt a b d2 ∧ PermIn a b d d2 := by
  have hsz := hm.size
  have same : ∀ x, x < k → d2[x]! = d[x]! := fun x hx => hp.2.1 x (.inl hx)
  refine ⟨fun p q h1 h2 h3 => ?_, permIn_mono d d2 k b a b hak (Nat.le_refl _) hsz hp⟩
  by_cases c1 : q < k
  · rw [same p (by omega), same q c1]; exact hs1 p q h1 h2 c1
  · by_cases c2 : p < k
    · rw [same p c2]
      exact permIn_all d d2 k b (fun x => lt x d[p]! = false) hsz hp (fun x hx hxb => hap p x h1 c2 hx hxb) q (by omega) h3
    · exact hs p q (by omega) h2 h3
end Go.Proofs.YtbmpidacoohdmaaGreat
namespace Go.Proofs.YtbmpidacoohdmaaGreat
open Lib renaming hid → hI
open Go.Shelf Go.RowKit Go.Lib Go.Sort

variable {α : Type} [Inhabited α] {enc : α → List Value} {w0 : World} {blk off : Nat} {d0 : Array α}
set_option maxRecDepth 100000 in
set_option maxHeartbeats 1000000 in
theorem swapRange_any (k : Nat) (zE : ∀ w, (Go.sizeOf 120).run Tryz.prog w = .ok k w) (R : RowK enc k w0 blk off d0) (dk : Array α) (W : World) (h : SWK enc k w0 blk off dk W) (hs : dk.size = d0.size) (cap a b n : Nat) (fv : Value) (h1 : a + n ≤ b) (h2 : b + n ≤ dk.size) (hz : dk.size < 4611686018427387904) :
    Calls Tryz.prog 290 #[.slice (some ⟨blk, off, none⟩) dk.size cap, .int .i64 a, .int .i64 b, .int .i64 n, fv] W fun e w2 => e = .returned (.tuple #[]) ∧ SWK enc k w0 blk off (swR dk a b n) w2 := by
  have HR := hI R
  have H := hI h
  have aE := Tryz.isAgg120
  have mixed : Tryz.prog.follows .mixedOrders = true := by kernel_rfl
  clear R h
  go_enter Tryz.func290, Tryz.ntmps290
  go_wp2_with fail
  go_loopw [10] (fun iv wr => ∃ i : Nat, i ≤ n ∧ iv = .int .i64 i ∧ Hid (SWK enc k w0 blk off (swR dk a b i) wr)) (fun iv _ => n - (intOf iv).toNat)
  case atStart => exact ⟨0, Nat.zero_le _, rfl, H⟩
  case round =>
    obtain ⟨i, hi, rfl, hk⟩ := hrel
    by_cases hlt : i < n
    · have hz2 : (swR dk a b i).size = dk.size := swR_size dk a b i
      have NX : Hid (swR dk a b (i + 1) = swp (swR dk a b i) (a + i) (b + i)) := hI rfl
      have SW := hI (hk.out.swapped HR.out (a + i) (b + i) (by omega) (by omega))
      have e1 := HR.out.hk (swR dk a b i)[b + i]!
      have e2 := HR.out.hk (swR dk a b i)[a + i]!
      have l1 := hk.out.ld1 HR.out (by omega) Tryz.prog (b + i) (by omega)
      have l2 := hk.out.ld1 HR.out (by omega) Tryz.prog (a + i) (by omega)
      have s1 := hk.out.st1 HR.out (by omega) Tryz.prog (a + i) (by omega) (swR dk a b i)[b + i]!
      have s2 := hk.out.st2 HR.out (by omega) Tryz.prog (a + i) (b + i) (by omega) (by omega) (swR dk a b i)[b + i]! (swR dk a b i)[a + i]!
      generalize enc (swR dk a b i)[b + i]! = cB at *
      generalize enc (swR dk a b i)[a + i]! = cA at *
      have k1 : ((a : Int) + (i : Int)).toNat = a + i := by omega
      have k2 : ((b : Int) + (i : Int)).toNat = b + i := by omega
      go_wp2_with fail
      go_big_region_o
      all_goals go_wp2
      exact ⟨⟨i + 1, by omega, by go_num, hI (by rw [NX.out]; exact SW.out)⟩, by simp [intOf]; omega⟩
    · have hin : i = n := by omega
      subst hin
      go_wp2_with fail
      go_end0
      exact ⟨rfl, hk.out⟩
set_option maxRecDepth 100000 in
set_option maxHeartbeats 4000000 in
theorem rotate_any (k : Nat) (zE : ∀ w, (Go.sizeOf 120).run Tryz.prog w = .ok k w) (R : RowK enc k w0 blk off d0) (dk : Array α) (W : World) (h : SWK enc k w0 blk off dk W) (hs : dk.size = d0.size) (cap a m b : Nat) (fv : Value) (h1 : a < m) (h2 : m < b) (h3 : b ≤ dk.size) (hz : dk.size < 4611686018427387904) :
    Calls Tryz.prog 231 #[.slice (some ⟨blk, off, none⟩) dk.size cap, .int .i64 a, .int .i64 m, .int .i64 b, fv] W fun e w2 => e = .returned (.tuple #[]) ∧ ∃ d2, SWK enc k w0 blk off d2 w2 ∧ Rot a b a m b dk d2 := by
  have HR := hI R
  have H := hI h
  have HZ := hI zE
  have HS0 := hI hs
  clear R h zE hs
  obtain ⟨i0, hi0⟩ : ∃ i0, m - a = i0 := ⟨_, rfl⟩
  obtain ⟨j0, hj0⟩ : ∃ j0, b - m = j0 := ⟨_, rfl⟩
  have ei : (m : Int) - (a : Int) = (i0 : Int) := by omega
  have ej : (b : Int) - (m : Int) = (j0 : Int) := by omega
  have HI := hI (show m - i0 = a ∧ m + j0 = b by omega)
  have hia : a + i0 ≤ m := by omega
  have hjb : m + j0 ≤ b := by omega
  clear hi0 hj0
  go_enter Tryz.func231, Tryz.ntmps231
  go_wp2_with fail
  go_loopw [10, 11] (fun iv jv wr => ∃ (i j : Nat) (dj : Array α), iv = .int .i64 i ∧ jv = .int .i64 j ∧ 0 < i ∧ 0 < j ∧ i ≤ i0 ∧ j ≤ j0 ∧ dj.size = dk.size ∧ Hid (SWK enc k w0 blk off dj wr) ∧ Hid (PermIn a b dk dj) ∧ Hid (∀ x : Nat, dj[rho (m - i) m (m + j) x]! = dk[rho a m b x]!)) (fun iv jv _ => (intOf iv).toNat + (intOf jv).toNat)
  case atStart => exact ⟨i0, j0, dk, rfl, rfl, by omega, by omega, Nat.le_refl _, Nat.le_refl _, rfl, H, hI (permIn_refl _ _ _), hI (fun x => by rw [HI.out.1, HI.out.2])⟩
  case round =>
    obtain ⟨i, j, dj, rfl, rfl, hi, hj, hi2, hj2, hsz0, hk, hp, hg⟩ := hrel
    have HSZ := hI hsz0
    clear hsz0
    have him : i ≤ m := by omega
    obtain ⟨s, hse⟩ : ∃ s, m - i = s := ⟨_, rfl⟩
    have es : (m : Int) - (i : Int) = (s : Int) := by omega
    have HS := hI hse
    clear ei ej
    have hs1 : s + i ≤ m := by omega
    have hs2 : m ≤ s + i := by omega
    clear hse
    rcases Nat.lt_trichotomy j i with hij | hij | hij
    · have e2 : (i : Int) - (j : Int) = ((i - j : Nat) : Int) := by omega
      have hne : ((i : Int) != (j : Int)) = true := bne_iff_ne.2 (by omega)
      have SC := hI (swapRange_any k HZ.out HR.out dj wr hk.out (by rw [HSZ.out]; exact HS0.out) cap s m j fv (by omega) (by rw [HSZ.out]; omega) (by rw [HSZ.out]; omega))
      rw [HSZ.out] at SC
      go_wp2_with (go_at_call 290; refine SC.out.mono ?_; rintro e w2 ⟨rfl, hk2⟩; have K2 := hI hk2; clear hk2)
      refine ⟨⟨i - j, j, swR dj s m j, rfl, rfl, by omega, hj, by omega, hj2, by rw [swR_size]; exact HSZ.out, K2, hI ?_, hI fun x => ?_⟩, by simp [intOf]; omega⟩
      · exact permIn_trans _ _ _ _ _ hp.out (swR_perm dj s m a b j (by omega) (by omega) (by omega) (by rw [HSZ.out]; omega))
      · rw [swR_get dj s m j (by omega) (by rw [HSZ.out]; omega), ← HS.out, rho_gt hij him]
        exact hg.out x
    · subst hij
      have SC := hI (swapRange_any k HZ.out HR.out dj wr hk.out (by rw [HSZ.out]; exact HS0.out) cap s m j fv (by omega) (by rw [HSZ.out]; omega) (by rw [HSZ.out]; omega))
      rw [HSZ.out] at SC
      go_wp2_with (go_at_call 290; refine SC.out.mono ?_; rintro e w2 ⟨rfl, hk2⟩; have K2 := hI hk2; clear hk2)
      go_end0
      refine ⟨rfl, swR dj s m j, K2.out, ⟨permIn_trans _ _ _ _ _ hp.out (swR_perm dj s m a b j (by omega) (by omega) (by omega) (by rw [HSZ.out]; omega)), fun x => ?_⟩⟩
      rw [swR_get dj s m j (by omega) (by rw [HSZ.out]; omega), ← HS.out, rho_eq him]
      exact hg.out x
    · obtain ⟨t, hte⟩ : ∃ t, m + j - i = t := ⟨_, rfl⟩
      have et : (m : Int) + (j : Int) - (i : Int) = (t : Int) := by omega
      have e2 : (j : Int) - (i : Int) = ((j - i : Nat) : Int) := by omega
      have hne : ((i : Int) != (j : Int)) = true := bne_iff_ne.2 (by omega)
      have HT := hI hte
      have ht1 : t + i ≤ m + j := by omega
      have ht2 : m + j ≤ t + i := by omega
      clear hte
      have SC := hI (swapRange_any k HZ.out HR.out dj wr hk.out (by rw [HSZ.out]; exact HS0.out) cap s t i fv (by omega) (by rw [HSZ.out]; omega) (by rw [HSZ.out]; omega))
      rw [HSZ.out] at SC
      go_wp2_with (go_at_call 290; refine SC.out.mono ?_; rintro e w2 ⟨rfl, hk2⟩; have K2 := hI hk2; clear hk2)
      refine ⟨⟨i, j - i, swR dj s t i, rfl, rfl, hi, by omega, hi2, by omega, by rw [swR_size]; exact HSZ.out, K2, hI ?_, hI fun x => ?_⟩, by simp [intOf]; omega⟩
      · exact permIn_trans _ _ _ _ _ hp.out (swR_perm dj s t a b i (by omega) (by omega) (by omega) (by rw [HSZ.out]; omega))
      · rw [swR_get dj s t i (by omega) (by rw [HSZ.out]; omega), ← HS.out, ← HT.out, rho_lt hij him]
        exact hg.out x
end Go.Proofs.YtbmpidacoohdmaaGreat

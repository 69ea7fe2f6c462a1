/- How alike two texts are, as the document says it: pieces, their counts, what is in common; in plain Lean. alike: how often each piece stands in a text (counts), what two texts have in common, the score: by contracts. -/
import Derived.Sort.Walk0
import Derived.Test.YtbmpidacoohdmaaGreatF09
namespace Go.Proofs.YtbmpidacoohdmaaGreat

def cutStep (s : List (List UInt8) × List UInt8) (c : UInt8) : List (List UInt8) × List UInt8 :=
  if c.toNat = 10 ∨ s.2.length + 1 = 64 then (s.1 ++ [s.2 ++ [c]], []) else (s.1, s.2 ++ [c])
def cutTo (b : List UInt8) : List (List UInt8) × List UInt8 := b.foldl cutStep ([], [])
/-- A text's pieces. -/
def cutB (b : List UInt8) : List (List UInt8) := if (cutTo b).2 = [] then (cutTo b).1 else (cutTo b).1 ++ [(cutTo b).2]
theorem cutTo_snoc (b : List UInt8) (c : UInt8) : cutTo (b ++ [c]) = cutStep (cutTo b) c := by simp [cutTo, List.foldl_append]
theorem cutStep_flat (s : List (List UInt8) × List UInt8) (c : UInt8) : (cutStep s c).1.flatten ++ (cutStep s c).2 = s.1.flatten ++ s.2 ++ [c] := by
  unfold cutStep
  split <;> simp
theorem snoc_ind {α : Type} {p : List α → Prop} (h0 : p []) (h1 : ∀ l a, p l → p (l ++ [a])) (l : List α) : p l := by
  rw [← List.reverse_reverse l]
  induction l.reverse with
  | nil => exact h0
  | cons a r ih => rw [List.reverse_cons]; exact h1 _ _ ih
theorem cutTo_flat (b : List UInt8) : (cutTo b).1.flatten ++ (cutTo b).2 = b := by
  refine snoc_ind (p := fun b => (cutTo b).1.flatten ++ (cutTo b).2 = b) rfl (fun l a h => ?_) b
  rw [cutTo_snoc, cutStep_flat, h]
theorem cutTo_few (b : List UInt8) : (cutTo b).2.length < 64 := by
  refine snoc_ind (p := fun b => (cutTo b).2.length < 64) (by decide) (fun l a h => ?_) b
  rw [cutTo_snoc]
  unfold cutStep
  split
  · simp
  · rename_i hn
    simp only [List.length_append, List.length_cons, List.length_nil]
    omega
theorem cutB_flat (b : List UInt8) : (cutB b).flatten = b := by
  have h := cutTo_flat b
  unfold cutB
  split
  · rename_i h2
    rw [h2, List.append_nil] at h
    exact h
  · rw [List.flatten_append]
    simpa using h
theorem cutTo_le (b : List UInt8) : (cutTo b).1.length ≤ b.length := by
  refine snoc_ind (p := fun b => (cutTo b).1.length ≤ b.length) (by decide) (fun l a h => ?_) b
  rw [cutTo_snoc]
  unfold cutStep
  split <;> simp <;> omega
/-- How much of the text stands open. -/
theorem cutTo_open (b : List UInt8) : (cutTo b).2.length ≤ b.length := by
  have h := congrArg List.length (cutTo_flat b)
  rw [List.length_append] at h
  omega
theorem cutTo_drop (b : List UInt8) : (cutTo b).2 = b.drop (b.length - (cutTo b).2.length) := by
  have h := cutTo_flat b
  have h2 := congrArg List.length h
  rw [List.length_append] at h2
  generalize (cutTo b).1.flatten = x at *
  generalize (cutTo b).2 = y at *
  subst h
  rw [List.drop_append_of_le_length (by simp)]
  simp
theorem cutB_le (b : List UInt8) : (cutB b).length ≤ b.length := by
  have h := cutTo_flat b
  have hl : ∀ l : List UInt8, (cutTo l).1.length + (if (cutTo l).2 = [] then 0 else 1) ≤ l.length := fun l => by
    refine snoc_ind (p := fun l => (cutTo l).1.length + (if (cutTo l).2 = [] then 0 else 1) ≤ l.length) (by decide) (fun l a h => ?_) l
    rw [cutTo_snoc]
    unfold cutStep
    have h3 : (cutTo l).1.length ≤ l.length := cutTo_le l
    split
    · simp; omega
    · simp
      split at h <;> omega
  have h4 := hl b
  unfold cutB
  split
  · exact cutTo_le b
  · rename_i hn
    rw [if_neg hn] at h4
    simpa using h4

abbrev Pcs := List (List UInt8 × Nat)
/-- One more of a piece, in its place. -/
def insP (t : List UInt8) : Pcs → Pcs
  | [] => [(t, 1)]
  | (u, n) :: r => if Op.bytesLess u t = true then (u, n) :: insP t r else if u = t then (u, n + 1) :: r else (t, 1) :: (u, n) :: r
def pcsTo (l : List (List UInt8)) : Pcs := l.foldl (fun o t => insP t o) []
theorem pcsTo_snoc (l : List (List UInt8)) (t : List UInt8) : pcsTo (l ++ [t]) = insP t (pcsTo l) := by simp [pcsTo, List.foldl_append]
theorem less_irr : ∀ x : List UInt8, Op.bytesLess x x = false
  | [] => rfl
  | a :: x => by rw [bytesLess_eq]; exact decide_eq_false (List.lt_irrefl _)
theorem less_trans {x y z : List UInt8} (h : Op.bytesLess x y = true) (k : Op.bytesLess y z = true) : Op.bytesLess x z = true := by
  rw [bytesLess_eq] at *
  exact decide_eq_true (List.lt_trans (of_decide_eq_true h) (of_decide_eq_true k))
theorem less_tri {x y : List UInt8} (h : Op.bytesLess x y = false) (k : x ≠ y) : Op.bytesLess y x = true := by
  rw [bytesLess_eq] at *
  have h1 := of_decide_eq_false h
  exact decide_eq_true (Classical.byContradiction fun h2 => k (List.le_antisymm (List.not_lt.1 h2) (List.not_lt.1 h1)))
def upP (l : Pcs) : Prop := l.Pairwise fun p q => Op.bytesLess p.1 q.1 = true
theorem insP_mem {t : List UInt8} : ∀ {l : Pcs} {p}, p ∈ insP t l → p.1 = t ∨ ∃ q ∈ l, q.1 = p.1
  | [], p, h => by simp [insP] at h; subst h; exact .inl rfl
  | (u, n) :: r, p, h => by
    unfold insP at h
    split at h
    · rcases List.mem_cons.1 h with rfl | h
      · exact .inr ⟨_, List.mem_cons_self, rfl⟩
      · rcases insP_mem h with h | ⟨q, hq, e⟩
        · exact .inl h
        · exact .inr ⟨q, List.mem_cons_of_mem _ hq, e⟩
    · split at h
      · rename_i he
        rcases List.mem_cons.1 h with rfl | h
        · exact .inl he
        · exact .inr ⟨p, List.mem_cons_of_mem _ h, rfl⟩
      · rcases List.mem_cons.1 h with rfl | h
        · exact .inl rfl
        · exact .inr ⟨p, h, rfl⟩
theorem insP_up {t : List UInt8} : ∀ {l : Pcs}, upP l → upP (insP t l)
  | [], _ => by simp [insP, upP]
  | (u, n) :: r, h => by
    obtain ⟨h1, h2⟩ := List.pairwise_cons.1 h
    unfold insP
    split
    · rename_i hl
      refine List.pairwise_cons.2 ⟨fun p hp => ?_, insP_up h2⟩
      rcases insP_mem hp with e | ⟨q, hq, e⟩
      · rw [e]; exact hl
      · rw [← e]; exact h1 q hq
    · split
      · exact List.pairwise_cons.2 ⟨h1, h2⟩
      · rename_i hl hne
        have hlt := less_tri (by simpa using hl) hne
        refine List.pairwise_cons.2 ⟨fun p hp => ?_, h⟩
        rcases List.mem_cons.1 hp with rfl | hp
        · exact hlt
        · exact less_trans hlt (h1 p hp)
theorem pcsTo_up (l : List (List UInt8)) : upP (pcsTo l) := by
  refine snoc_ind (p := fun l => upP (pcsTo l)) (by simp [pcsTo, upP]) (fun l a h => ?_) l
  rw [pcsTo_snoc]; exact insP_up h
/-- How often a piece is there. -/
def hasP (l : Pcs) (t : List UInt8) : Nat := (l.map fun p => if p.1 = t then p.2 else 0).sum
theorem hasP_none {t : List UInt8} : ∀ {l : Pcs}, (∀ p ∈ l, p.1 ≠ t) → hasP l t = 0
  | [], _ => rfl
  | p :: r, h => by
    simp only [hasP, List.map_cons, List.sum_cons]
    rw [if_neg (h p List.mem_cons_self)]
    have := hasP_none (l := r) (t := t) fun q hq => h q (List.mem_cons_of_mem _ hq)
    unfold hasP at this
    omega
theorem hasP_ins (t u : List UInt8) : ∀ {l : Pcs}, upP l → hasP (insP t l) u = hasP l u + if t = u then 1 else 0
  | [], _ => by simp [insP, hasP]
  | (x, n) :: r, h => by
    obtain ⟨h1, h2⟩ := List.pairwise_cons.1 h
    have ih := hasP_ins t u h2
    unfold insP
    split
    · simp only [hasP, List.map_cons, List.sum_cons] at *
      omega
    · split
      · rename_i he
        subst he
        simp only [hasP, List.map_cons, List.sum_cons] at *
        split <;> omega
      · simp only [hasP, List.map_cons, List.sum_cons] at *
        omega
theorem hasP_pcs (l : List (List UInt8)) (t : List UInt8) : hasP (pcsTo l) t = l.count t := by
  refine snoc_ind (p := fun l => hasP (pcsTo l) t = l.count t) (by simp [pcsTo, hasP]) (fun l a h => ?_) l
  rw [pcsTo_snoc, hasP_ins _ _ (pcsTo_up l), h, List.count_append]
  congr 1
  by_cases e : a = t
  · subst e; simp
  · rw [if_neg e, List.count_singleton]; simp [e]
theorem hasP_mem {l : Pcs} (h : upP l) {p : List UInt8 × Nat} (hp : p ∈ l) : hasP l p.1 = p.2 := by
  induction l with
  | nil => cases hp
  | cons q r ih =>
    obtain ⟨h1, h2⟩ := List.pairwise_cons.1 h
    simp only [hasP, List.map_cons, List.sum_cons]
    rcases List.mem_cons.1 hp with rfl | hp
    · rw [if_pos rfl]
      have : hasP r p.1 = 0 := hasP_none fun x hx e => by
        have := h1 x hx
        rw [e, less_irr] at this
        cases this
      unfold hasP at this
      omega
    · have hne : q.1 ≠ p.1 := fun e => by
        have := h1 p hp
        rw [e, less_irr] at this
        cases this
      rw [if_neg hne]
      have := ih h2 hp
      unfold hasP at this
      omega
theorem insP_len (t : List UInt8) : ∀ l : Pcs, (insP t l).length ≤ l.length + 1
  | [] => by simp [insP]
  | (u, n) :: r => by
    have := insP_len t r
    unfold insP
    split <;> (try split) <;> simp <;> omega
theorem pcsTo_len (l : List (List UInt8)) : (pcsTo l).length ≤ l.length := by
  refine snoc_ind (p := fun l => (pcsTo l).length ≤ l.length) (by simp [pcsTo]) (fun l a h => ?_) l
  rw [pcsTo_snoc]
  have := insP_len a (pcsTo l)
  simp only [List.length_append, List.length_cons, List.length_nil]
  omega
theorem mem_pcs {l : List (List UInt8)} {p : List UInt8 × Nat} (hp : p ∈ pcsTo l) : p.2 = l.count p.1 := by
  rw [← hasP_pcs, hasP_mem (pcsTo_up l) hp]
theorem sumP_ins (t : List UInt8) : ∀ l : Pcs, ((insP t l).map fun p => p.2 * p.1.length).sum = (l.map fun p => p.2 * p.1.length).sum + t.length
  | [] => by simp [insP]
  | (u, n) :: r => by
    have ih := sumP_ins t r
    unfold insP
    split
    · simp only [List.map_cons, List.sum_cons]; omega
    · split
      · rename_i he
        subst he
        simp only [List.map_cons, List.sum_cons, Nat.add_mul, Nat.one_mul]; omega
      · simp only [List.map_cons, List.sum_cons, Nat.one_mul]; omega
theorem sumP_pcs (l : List (List UInt8)) : ((pcsTo l).map fun p => p.2 * p.1.length).sum = l.flatten.length := by
  refine snoc_ind (p := fun l => ((pcsTo l).map fun p => p.2 * p.1.length).sum = l.flatten.length) (by simp [pcsTo]) (fun l a h => ?_) l
  rw [pcsTo_snoc, sumP_ins, h]
  simp

/-- How many bytes two texts have in common. -/
def comB (a b : List UInt8) : Nat := ((pcsTo (cutB a)).map fun p => min p.2 ((cutB b).count p.1) * p.1.length).sum
theorem sum_le {α : Type} {f g : α → Nat} : ∀ {l : List α}, (∀ x ∈ l, f x ≤ g x) → (l.map f).sum ≤ (l.map g).sum
  | [], _ => Nat.le_refl _
  | x :: r, h => by
    have h1 := h x List.mem_cons_self
    have h2 := sum_le (l := r) fun y hy => h y (List.mem_cons_of_mem _ hy)
    simp only [List.map_cons, List.sum_cons]
    omega
theorem comB_left (a b : List UInt8) : comB a b ≤ a.length := by
  have h := sumP_pcs (cutB a)
  rw [cutB_flat] at h
  rw [← h]
  exact sum_le fun p _ => Nat.mul_le_mul_right _ (Nat.min_le_left _ _)
/-- The same sum, over the other text's pieces too. -/
def comX (x y : Pcs) : Nat := (x.map fun p => (y.map fun q => if p.1 = q.1 then min p.2 q.2 * p.1.length else 0).sum).sum
theorem inner_sum (p : List UInt8 × Nat) : ∀ {y : Pcs}, upP y → (y.map fun q => if p.1 = q.1 then min p.2 q.2 * p.1.length else 0).sum = min p.2 (hasP y p.1) * p.1.length
  | [], _ => by simp [hasP]
  | q :: r, h => by
    obtain ⟨h1, h2⟩ := List.pairwise_cons.1 h
    have ih := inner_sum p h2
    simp only [List.map_cons, List.sum_cons]
    by_cases e : p.1 = q.1
    · have h0 : hasP r p.1 = 0 := hasP_none fun x hx e2 => by
        have := h1 x hx
        rw [e2, ← e, less_irr] at this
        cases this
      rw [if_pos e, ih, h0]
      have : hasP (q :: r) p.1 = q.2 := by
        have h3 := h0
        simp only [hasP, List.map_cons, List.sum_cons] at *
        rw [if_pos e.symm]
        omega
      rw [this]
      simp
    · rw [if_neg e, ih]
      have : hasP (q :: r) p.1 = hasP r p.1 := by
        simp only [hasP, List.map_cons, List.sum_cons]
        rw [if_neg (fun h => e h.symm)]
        omega
      rw [this]
      omega
theorem comX_eq (a b : List UInt8) : comX (pcsTo (cutB a)) (pcsTo (cutB b)) = comB a b := by
  unfold comX comB
  congr 1
  refine List.map_congr_left fun p _ => ?_
  rw [inner_sum p (pcsTo_up _), hasP_pcs]
theorem sum_swap {α β : Type} (f : α → β → Nat) : ∀ (x : List α) (y : List β), (x.map fun p => (y.map fun q => f p q).sum).sum = (y.map fun q => (x.map fun p => f p q).sum).sum
  | [], y => by
    induction y with
    | nil => rfl
    | cons b r ih => simpa using ih
  | a :: x, y => by
    rw [List.map_cons, List.sum_cons, sum_swap f x y]
    induction y with
    | nil => rfl
    | cons b r ih =>
      simp only [List.map_cons, List.sum_cons] at *
      omega
theorem comB_comm (a b : List UInt8) : comB a b = comB b a := by
  rw [← comX_eq, ← comX_eq]
  unfold comX
  rw [sum_swap]
  congr 1
  refine List.map_congr_left fun p _ => ?_
  congr 1
  refine List.map_congr_left fun q _ => ?_
  by_cases e : q.1 = p.1
  · rw [if_pos e, if_pos e.symm, e, Nat.min_comm]
  · rw [if_neg e, if_neg (fun h => e h.symm)]
theorem comB_right (a b : List UInt8) : comB a b ≤ b.length := by rw [comB_comm]; exact comB_left b a
/-- How alike two texts are. -/
def scoB (a b : List UInt8) : Nat := if max a.length b.length = 0 then 1000 else 1000 * comB a b / max a.length b.length
/-- How alike texts of two lengths may be. -/
def mosB (a b : Nat) : Nat := if max a b = 0 then 1000 else 1000 * min a b / max a b
theorem scoB_most (a b : List UInt8) : scoB a b ≤ mosB a.length b.length := by
  have h1 := comB_left a b
  have h2 := comB_right a b
  unfold scoB mosB
  split
  · exact Nat.le_refl _
  · exact Nat.div_le_div_right (Nat.mul_le_mul_left _ (Nat.le_min.2 ⟨h1, h2⟩))
theorem mosB_le (a b : Nat) : mosB a b ≤ 1000 := by
  unfold mosB
  split
  · exact Nat.le_refl _
  · exact Nat.div_le_of_le_mul (by rw [Nat.mul_comm]; exact Nat.mul_le_mul_right _ (Nat.le_trans (Nat.min_le_left _ _) (Nat.le_max_left _ _)))
theorem scoB_le (a b : List UInt8) : scoB a b ≤ 1000 := Nat.le_trans (scoB_most a b) (mosB_le _ _)
end Go.Proofs.YtbmpidacoohdmaaGreat
namespace Go.Proofs.YtbmpidacoohdmaaGreat
open Lib renaming hid → hI
open Go.RowKit Op

/-- The pieces behind k bytes, and what stands open; the last byte ends a piece. -/
def ctP (b : List UInt8) (k : Nat) : List (List UInt8) := if k < b.length then (cutTo (b.take k)).1 else cutB b
def ctN (b : List UInt8) (k : Nat) : List UInt8 := if k < b.length then (cutTo (b.take k)).2 else []
theorem ct_start (b : List UInt8) : ctP b 0 = [] ∧ ctN b 0 = [] := by
  unfold ctP ctN
  cases b with
  | nil => exact ⟨rfl, rfl⟩
  | cons x b => rw [if_pos (by simp), if_pos (by simp)]; exact ⟨rfl, rfl⟩
theorem take_next (b : List UInt8) {k : Nat} (h : k < b.length) : b.take (k + 1) = b.take k ++ [b.getD k 0] := by
  rw [List.take_add_one, List.getElem?_eq_getElem h]
  simp [h]
theorem ctN_len (b : List UInt8) (k : Nat) : (ctN b k).length ≤ k ∧ (ctN b k).length < 64 := by
  unfold ctN
  split
  · have h1 := cutTo_open (b.take k)
    have h2 := cutTo_few (b.take k)
    rw [List.length_take] at h1
    omega
  · simp
theorem ctN_part (b : List UInt8) {k : Nat} (h : k < b.length) : ctN b k ++ [b.getD k 0] = (b.drop (k - (ctN b k).length)).take ((ctN b k).length + 1) := by
  have hl := ctN_len b k
  unfold ctN at hl ⊢
  rw [if_pos h] at hl ⊢
  have h2 := cutTo_drop (b.take k)
  rw [List.length_take, Nat.min_eq_left (by omega)] at h2
  generalize (cutTo (b.take k)).2 = n at *
  have h3 : n = (b.drop (k - n.length)).take n.length := by
    rw [List.drop_take, show k - (k - n.length) = n.length by omega] at h2
    exact h2
  have h4 : (b.drop (k - n.length)).take (n.length + 1) = (b.drop (k - n.length)).take n.length ++ [b.getD k 0] := by
    rw [List.take_add_one, List.getElem?_drop, show k - n.length + n.length = k by omega, List.getElem?_eq_getElem h]
    simp [h]
  rw [h4, ← h3]
theorem ct_end (b : List UInt8) {k : Nat} (h : k < b.length) (hc : (b.getD k 0).toNat = 10 ∨ (ctN b k).length + 1 = 64 ∨ k + 1 = b.length) :
    ctP b (k + 1) = ctP b k ++ [ctN b k ++ [b.getD k 0]] ∧ ctN b (k + 1) = [] := by
  have e := cutTo_snoc (b.take k) (b.getD k 0)
  rw [← take_next b h] at e
  unfold ctP ctN at *
  simp only [if_pos h] at *
  by_cases hl : k + 1 < b.length
  · rw [if_pos hl, if_pos hl, e]
    unfold cutStep
    rw [if_pos (by rcases hc with h | h | h; exact .inl h; exact .inr h; omega)]
    exact ⟨rfl, rfl⟩
  · rw [if_neg hl, if_neg hl]
    refine ⟨?_, rfl⟩
    rw [List.take_of_length_le (by omega)] at e
    unfold cutB
    rw [e]
    unfold cutStep
    by_cases hq : (b.getD k 0).toNat = 10 ∨ (cutTo (b.take k)).2.length + 1 = 64
    · rw [if_pos hq]; rfl
    · rw [if_neg hq, if_neg (by simp)]
theorem ct_on (b : List UInt8) {k : Nat} (h : k < b.length) (h1 : (b.getD k 0).toNat ≠ 10) (h2 : (ctN b k).length + 1 ≠ 64) (h3 : k + 1 ≠ b.length) :
    ctP b (k + 1) = ctP b k ∧ ctN b (k + 1) = ctN b k ++ [b.getD k 0] := by
  have e := cutTo_snoc (b.take k) (b.getD k 0)
  rw [← take_next b h] at e
  unfold ctP ctN at *
  simp only [if_pos h] at *
  rw [if_pos (by omega), if_pos (by omega), e]
  unfold cutStep
  rw [if_neg (by rintro (q | q); exact h1 q; exact h2 q)]
  exact ⟨rfl, rfl⟩
theorem ct_all (b : List UInt8) : ctP b b.length = cutB b := by unfold ctP; rw [if_neg (by omega)]

def keyT (t : List UInt8) : Lit := .string t
theorem keyT_key (t : List UInt8) : WideAt.IsKeyLit (keyT t) := trivial
theorem key_tx (t : List UInt8) (h : t.length ≤ 1000) : keyOf Tryz.prog 9 (.string (bs t)) = some (keyT t) := by
  have h2 : (bs t).size ≤ maxLen := by rw [bs_size]; unfold maxLen; omega
  have := WideMaps.keyOf_string_mk (P := Tryz.prog) Tryz.underlying9 h2
  simpa [bs, keyT] using this
theorem key_tinv {key : Value} {t : List UInt8} (h : keyOf Tryz.prog 9 key = some (keyT t)) : key = .string (bs t) := by
  obtain ⟨s, rfl, e, _⟩ := WideMaps.string_of_keyOf (P := Tryz.prog) Tryz.underlying9 h
  have e2 : s.data.toList = t := (Lit.string.inj e).symm
  rw [← bs_of s, e2]
noncomputable def RI : Value → Option (DataW Value × List MemPlace) := plainElem Tryz.prog 3
/-- The map holds how often each piece is there. -/
structure Cm (D : DataW Value) (ps : List (List UInt8)) : Prop where
  map : Maps.IsMap D
  has : ∀ kl, Maps.has D kl = true ↔ ∃ t ∈ ps, kl = keyT t
  at_ : ∀ t, D.atKey (keyT t) (.lit (.int .i64 0)) = .lit (.int .i64 (ps.count t : Int))
theorem Cm.nil : Cm (.map []) [] := ⟨⟨[], rfl⟩, fun kl => ⟨fun h => (by cases h), fun ⟨_, h, _⟩ => (by cases h)⟩, fun t => rfl⟩
theorem Cm.put {D : DataW Value} {ps : List (List UInt8)} (h : Cm D ps) (t : List UInt8) : Cm (D.put (keyT t) (.lit (.int .i64 ((ps.count t : Int) + 1)))) (ps ++ [t]) where
  map := h.map.put _ _
  has := fun kl => by
    by_cases e : kl = keyT t
    · subst e
      rw [Maps.has_put_same h.map (keyT_key t)]
      simp
    · rw [Maps.has_put_other e, h.has]
      constructor
      · rintro ⟨u, hu, e2⟩
        exact ⟨u, List.mem_append_left _ hu, e2⟩
      · rintro ⟨u, hu, e2⟩
        rcases List.mem_append.1 hu with hu | hu
        · exact ⟨u, hu, e2⟩
        · rw [List.mem_singleton.1 hu] at e2
          exact absurd e2 e
  at_ := fun u => by
    by_cases e : u = t
    · subst e
      rw [Maps.atKey_put_same h.map (keyT_key u), List.count_append]
      simp
    · rw [Maps.atKey_put_other (show keyT u ≠ keyT t from fun q => e (Lit.string.inj q)), h.at_, List.count_append, List.count_singleton]
      simp [Ne.symm e]
/-- Block m is a map that holds how often each of the pieces is there. -/
def Cmp (w : World) (m : Nat) (ps : List (List UInt8)) : Prop := ∃ n D, w.ownsMap Tryz.prog 9 RI m n D ∧ Cm D ps ∧ n ≤ ps.length
theorem Cmp.lt {w : World} {m : Nat} {ps : List (List UInt8)} (h : Cmp w m ps) : m < w.heap.size := by
  obtain ⟨_, _, h1, _⟩ := h
  exact h1.lt
theorem Cmp.of {w w2 : World} {m : Nat} {ps : List (List UInt8)} (h : Cmp w m ps) (hb : w2.heap[m]? = w.heap[m]?) : Cmp w2 m ps := by
  obtain ⟨n, D, ⟨es, clock, h1, h2⟩, h3, h4⟩ := h
  exact ⟨n, D, ⟨es, clock, hb.trans h1, h2⟩, h3, h4⟩
theorem Cmp.below {w w2 : World} {m : Nat} {ps : List (List UInt8)} (h : Cmp w m ps) (hb : Below w.heap.size w w2) : Cmp w2 m ps := h.of (hb.block m h.lt)
theorem keyS : Maps.Keyed Tryz.prog 9 := Maps.string_keyed Tryz.underlying9
theorem zeroI (w : World) : (zeroValue 3).run Tryz.prog w = .ok (.int .i64 0) w := Tryz.zeroValue3 w
theorem Cmp.look {w : World} {m : Nat} {ps : List (List UInt8)} (h : Cmp w m ps) (t : List UInt8) (ht : t.length ≤ 1000) : (Instr.lookup 192 (.map (some m)) (.string (bs t)) false).run Tryz.prog w = .ok (.int .i64 (ps.count t : Int)) w := by
  obtain ⟨n, D, h1, h2, _⟩ := h
  obtain ⟨c, hrun, hat, _⟩ := World.ownsMap.lookup_int h1 keyS Tryz.underlying192 Tryz.underlying3 (zeroI _) (key_tx t ht)
  have e := hat.symm.trans (h2.at_ t)
  obtain rfl : c = (ps.count t : Int) := (Lit.int.inj (DataW.lit.inj e)).2
  exact hrun
set_option maxRecDepth 100000 in
theorem wf_small (n : Nat) (h : n ≤ 1000000) : (Lit.int .i64 (n : Int)).wf = true := by
  have e : wrap64 (n : Int) = (n : Int) := by unfold wrap64; rw [← IntKind.wrap_i64]; exact wrap_small _ (Int.natCast_nonneg _) (by omega)
  rw [← e]
  exact wrap64_wf _
theorem wpList_cmput (w : World) {ops : Array Oper} {rest : List Oper} {o : Oper} {a : Act} {Q : Exit → Act → World → Prop} (hg : o.guard = none) (mo x v : Operand) (hop : o.op = Op.mapUpdate 192 mo x v) (m : Nat) (ps : List (List UInt8)) (hm : a.eval mo = .map (some m)) (h : Cmp w m ps) (hl : ps.length ≤ 1000) (t : List UInt8) (ht : t.length ≤ 1000) (hx : a.eval x = .string (bs t)) (c : Int) (hc : c = (ps.count t : Int) + 1) (hv : a.eval v = .int .i64 c)
    (hK : ∀ w', Cmp w' m (ps ++ [t]) → w.grownBy w' (some m) → wpList Tryz.prog ops Q rest (a.put o.dst undef) w') : wpList Tryz.prog ops Q (o :: rest) a w := by
  obtain ⟨n, D, h1, h2, h3⟩ := h
  subst hc
  have hcount : ps.count t ≤ ps.length := List.count_le_length
  refine wpList_mapUpdate_own w hg mo x v 192 hop 9 3 keyS Tryz.underlying192 RI m n D hm h1 (by unfold maxLen; omega) _ _ (keyT t) hx hv (key_tx t ht) (.lit (.int .i64 ((ps.count t : Int) + 1))) [] (plainElem_int Tryz.underlying3 (by have := wf_small (ps.count t + 1) (by omega); simpa using this)) ?_
  intro w' h4 h5
  exact hK w' ⟨n + 1, _, h4, h2.put t, by simp; omega⟩ h5
attribute [local go_sem] bs_append bs_size bs_toList
set_option maxRecDepth 100000 in
set_option maxHeartbeats 1000000 in
theorem counts_any (w : World) (A : Option Addr) (c : Nat) (b : List UInt8) (hr : Rv w.heap.size w A (bys b)) (hcap : b.length ≤ c) (hl : b.length ≤ 1000) :
    Calls Tryz.prog 100 #[.slice A b.length c] w fun e w2 => ∃ m, e = .returned (.map (some m)) ∧ w.heap.size ≤ m ∧ Cmp w2 m (cutB b) ∧ Below w.heap.size w w2 := by
  have hmm := @run_makeMap Tryz.prog
  have H := hI hr
  have CE := hI (ct_all b)
  clear hr
  obtain ⟨P, hP⟩ : ∃ P, cutB b = P := ⟨_, rfl⟩
  rw [hP] at CE ⊢
  clear hP
  go_enter Tryz.func100, Tryz.ntmps100
  go_wp2_with fail
  go_loopw [4, 10] (fun fv kv wr => ∃ k : Nat, k ≤ b.length ∧ kv = .int .i64 k ∧ fv = .int .i64 ((k - (ctN b k).length : Nat) : Int) ∧ Hid (Cmp wr w.heap.size (ctP b k)) ∧ Hid (Below w.heap.size w wr)) (fun _ kv _ => b.length - (intOf kv).toNat)
  case atStart => exact ⟨0, Nat.zero_le _, rfl, by simp, hI ⟨0, .map [], World.ownsMap_made _ _ _ _, by rw [(ct_start b).1]; exact Cm.nil, Nat.zero_le _⟩, hI ((Below.refl _ _).alloc (Nat.le_refl _) _)⟩
  case round =>
    obtain ⟨k, hk, rfl, rfl, hm, hb⟩ := hrel
    by_cases hlt : k < b.length
    · obtain ⟨ad, rfl, hab, hcell⟩ := H.out.at_ (bys_at hlt)
      have hcs := (hb.out.cell (p := ad.add k) (by rw [block_add]; exact hab)).trans hcell
      obtain ⟨hn1, hn2⟩ := ctN_len b k
      have hpt := (H.out.low hb.out hb.out.size).part (k - (ctN b k).length) rfl ((ctN b k).length + 1)
      rw [bys_part, ← ctN_part b hlt] at hpt
      have hcv := conv22 (c - (k - (ctN b k).length)) hpt
      rw [List.length_append, List.length_singleton, show (ctN b k).length + 1 = k + 1 - (k - (ctN b k).length) by omega] at hcv
      have hpl : (ctP b k).length ≤ 1000 := by
        unfold ctP
        split
        · have := cutTo_le (b.take k)
          rw [List.length_take] at this
          omega
        · have := cutB_le b
          omega
      have TL : Hid ((ctN b k ++ [b.getD k 0]).length ≤ 1000) := hI (by rw [List.length_append, List.length_singleton]; omega)
      have LK := hI (hm.out.look (ctN b k ++ [b.getD k 0]) TL.out)
      have CB := hI (List.count_le_length (a := ctN b k ++ [b.getD k 0]) (l := ctP b k))
      have NE := hI (fun h => ct_end b hlt h)
      have NO := hI (fun h1 h2 h3 => ct_on b hlt h1 h2 h3)
      clear hcell hpt
      generalize ctN b k = now at *
      generalize ctP b k = ps at *
      generalize b.getD k 0 = x at *
      have U : ∀ (h : x.toNat = 10 ∨ now.length + 1 = 64 ∨ k + 1 = b.length) (w7 : World), Cmp w7 w.heap.size (ps ++ [now ++ [x]]) → wr.grownBy w7 (some w.heap.size) → ∃ k2 : Nat, k2 ≤ b.length ∧ Value.int .i64 ((k : Int) + 1) = .int .i64 k2 ∧ Value.int .i64 ((k : Int) + 1) = .int .i64 ((k2 - (ctN b k2).length : Nat) : Int) ∧ Hid (Cmp w7 w.heap.size (ctP b k2)) ∧ Hid (Below w.heap.size w w7) := fun h w7 h7 g7 => by
        obtain ⟨e1, e2⟩ := NE.out h
        refine ⟨k + 1, by omega, by go_num, by rw [e2]; simp, hI (by rw [e1]; exact h7), hI (hb.out.grown g7 hb.out.size (fun q hq => by cases hq; exact Nat.le_refl _))⟩
      have UH := hI U
      have hlk := LK.out
      have hcb := CB.out
      clear U
      obtain ⟨f, hfe⟩ : ∃ f, k - now.length = f := ⟨_, rfl⟩
      rw [hfe] at hcv ⊢
      have hf1 : f + now.length ≤ k := by omega
      have hf2 : k ≤ f + now.length := by omega
      have HF := hI hfe
      clear hfe
      by_cases h10 : x.toNat = 10
      · have q10 : ((x.toNat : Int) == 10) = true := by rw [h10]; rfl
        have UU := hI (UH.out (.inl h10))
        clear h10
        go_wp2_with (at_mapUpdate; refine wpList_cmput wr rfl _ _ _ rfl w.heap.size ps rfl hm.out hpl (now ++ [x]) TL.out rfl _ rfl rfl ?_; intro w7 h7 g7; have H7 := hI h7; have G7 := hI g7; clear h7 g7)
        exact ⟨UU.out w7 H7.out G7.out, by simp [intOf]; omega⟩
      · have q10 : ((x.toNat : Int) == 10) = false := beq_eq_false_iff_ne.2 (by omega)
        by_cases h64 : now.length + 1 = 64
        · have UU := hI (UH.out (.inr (.inl h64)))
          have q64 : ((k : Int) + 1 - (f : Int) == 64) = true := beq_iff_eq.2 (by omega)
          clear h64
          go_wp2_with (at_mapUpdate; refine wpList_cmput wr rfl _ _ _ rfl w.heap.size ps rfl hm.out hpl (now ++ [x]) TL.out rfl _ rfl rfl ?_; intro w7 h7 g7; have H7 := hI h7; have G7 := hI g7; clear h7 g7)
          exact ⟨UU.out w7 H7.out G7.out, by simp [intOf]; omega⟩
        · have q64 : ((k : Int) + 1 - (f : Int) == 64) = false := beq_eq_false_iff_ne.2 (by omega)
          by_cases hkl : k + 1 = b.length
          · have UU := hI (UH.out (.inr (.inr hkl)))
            have qkl : ((k : Int) + 1 == (b.length : Int)) = true := beq_iff_eq.2 (by omega)
            clear h64 h10 hkl
            go_wp2_with (at_mapUpdate; refine wpList_cmput wr rfl _ _ _ rfl w.heap.size ps rfl hm.out hpl (now ++ [x]) TL.out rfl _ rfl rfl ?_; intro w7 h7 g7; have H7 := hI h7; have G7 := hI g7; clear h7 g7)
            exact ⟨UU.out w7 H7.out G7.out, by simp [intOf]; omega⟩
          · have qkl : ((k : Int) + 1 == (b.length : Int)) = false := beq_eq_false_iff_ne.2 (by omega)
            have NX := hI (NO.out h10 h64 hkl)
            clear h64 h10 hkl
            go_wp2_with fail
            obtain ⟨e1, e2⟩ := NX.out
            exact ⟨⟨k + 1, by omega, by go_num, by rw [e2, List.length_append, List.length_singleton]; congr 2; omega, hI (by rw [e1]; exact hm.out), hb⟩, by simp [intOf]; omega⟩
    · have hke : k = b.length := by omega
      subst hke
      rw [CE.out] at hm
      go_wp2_with fail
      go_ret
      exact ⟨_, rfl, Nat.le_refl _, hm.out, hb.out⟩
end Go.Proofs.YtbmpidacoohdmaaGreat

/- The field's memory (FSt): its rows, what is left of the last array; a row begun (Part), a cell stored, a row appended. And (*myers.field).row on it. -/
import Derived.Test.YthhmamkphcgocaaFil4
namespace Go.Proofs.Ythhmamkphcgocaa
open Go.RowKit

def svV : Option (Nat × Nat × Nat) → Value
  | none => .slice none 0 0
  | some (S, len, cap) => .slice (some ⟨S, 0, none⟩) len cap
def rowV (P : Nat → Nat × Nat) (j : Nat) : Value := .slice (some ⟨(P j).1, (P j).2, none⟩) (2 * j + 1) (2 * j + 1)
def rowVs (P : Nat → Nat × Nat) (d : Nat) : List Value := (List.range d).map (rowV P)

/-- Block g, beyond F, holds the numbers f from o on. -/
def RowIs (w : World) (F : Nat) (f : Nat → Int) (n g o : Nat) : Prop := F < g ∧ ∃ cur, w.heap[g]? = some (.cells cur 3 (0, 0)) ∧ o + n ≤ cur.size ∧ ∀ t, t < n → cur[o + t]? = some (.int .i64 (f t))

structure FSt (w : World) (F : Nat) (a b : List Int) (sa sb rv : Value) (d : Nat) (so : Option (Nat × Nat × Nat)) (P : Nat → Nat × Nat) : Prop where
  blk : w.heap[F]? = some (.cells #[sa, sb, rv, svV so] 106 (0, 0))
  own : w.ownsRow (F + 1) 51 1 rv d (rowVs P d)
  sto : ∀ S len cap, so = some (S, len, cap) → F < S ∧ len ≤ cap ∧ cap ≤ 1000000 ∧ ∃ cur, w.heap[S]? = some (.cells cur 3 (0, 0)) ∧ cur.size = cap
  rows : ∀ j, j < d → RowIs w F (fun t => tabS a b j ((t : Int) - j)) (2 * j + 1) (P j).1 (P j).2 ∧ ∀ S len cap, so = some (S, len, cap) → (P j).1 = S → (P j).2 + (2 * j + 1) ≤ len
/-- Row d is begun: k of its n numbers stand at o in block g, behind all rows that lie there. -/
def Part (w : World) (F : Nat) (a b : List Int) (d : Nat) (P : Nat → Nat × Nat) (g o n k : Nat) : Prop :=
  F < g ∧ (∃ cur, w.heap[g]? = some (.cells cur 3 (0, 0)) ∧ o + n ≤ cur.size ∧ ∀ t, t < k → cur[o + t]? = some (.int .i64 (tabS a b d ((t : Int) - d)))) ∧ ∀ j, j < d → (P j).1 = g → (P j).2 + (2 * j + 1) ≤ o

section
variable {w w' : World} {F : Nat} {a b : List Int} {sa sb rv : Value} {d : Nat} {so : Option (Nat × Nat × Nat)} {P : Nat → Nat × Nat}

theorem FSt.lt (h : FSt w F a b sa sb rv d so P) : F < w.heap.size := (Array.getElem?_eq_some_iff.1 h.blk).1
theorem FSt.cell (h : FSt w F a b sa sb rv d so P) (i : Nat) : w.cell? ⟨F, i, none⟩ = #[sa, sb, rv, svV so][i]? := by rw [cell_of_row w F i _ _ _ h.blk]
theorem FSt.frozen (h : FSt w F a b sa sb rv d so P) (i : Nat) : w.frozen? ⟨F, i, none⟩ = false := frozen_of_row w F i _ _ h.blk
theorem RowIs.keep {f : Nat → Int} {n g o : Nat} (h : RowIs w F f n g o) (hk : ∀ j, F ≤ j → j < w.heap.size → w'.heap[j]? = w.heap[j]?) : RowIs w' F f n g o := by
  obtain ⟨h1, cur, h2, h3⟩ := h
  exact ⟨h1, cur, (hk g (by omega) (Array.getElem?_eq_some_iff.1 h2).1).trans h2, h3⟩
theorem FSt.keep (h : FSt w F a b sa sb rv d so P) (hk : ∀ j, F ≤ j → j < w.heap.size → w'.heap[j]? = w.heap[j]?) : FSt w' F a b sa sb rv d so P := by
  refine ⟨(hk F (Nat.le_refl _) h.lt).trans h.blk, ⟨h.own.1, ?_⟩, fun S len cap e => ?_, fun j hj => ⟨(h.rows j hj).1.keep hk, (h.rows j hj).2⟩⟩
  · rcases h.own.2 with h2 | ⟨g, cap, cur, hv, hb, hh, hrest⟩
    · exact .inl h2
    · exact .inr ⟨g, cap, cur, hv, hb, (hk g (by omega) (Array.getElem?_eq_some_iff.1 hh).1).trans hh, hrest⟩
  · obtain ⟨s1, s2, s3, cur, s4, s5⟩ := h.sto S len cap e
    exact ⟨s1, s2, s3, cur, (hk S (by omega) (Array.getElem?_eq_some_iff.1 s4).1).trans s4, s5⟩
theorem FSt.drewN (h : FSt w F a b sa sb rv d so P) (n : Nat) : FSt (w.drewN n) F a b sa sb rv d so P := h.keep fun _ _ _ => rfl
theorem Part.keep {g o n k : Nat} (h : Part w F a b d P g o n k) (hk : ∀ j, F ≤ j → j < w.heap.size → w'.heap[j]? = w.heap[j]?) : Part w' F a b d P g o n k := by
  obtain ⟨h1, ⟨cur, h2, h3⟩, h4⟩ := h
  exact ⟨h1, ⟨cur, (hk g (by omega) (Array.getElem?_eq_some_iff.1 h2).1).trans h2, h3⟩, h4⟩
theorem Part.drewN {g o n k : Nat} (h : Part w F a b d P g o n k) (m : Nat) : Part (w.drewN m) F a b d P g o n k := h.keep fun _ _ _ => rfl

theorem FSt.tbl (h : FSt w F a b sa sb rv d so P) : Tbl w F a b d := by
  have c2 : w.cell? ⟨F, 2, none⟩ = some rv := h.cell 2
  rcases h.own.2 with ⟨rfl, h0⟩ | ⟨g, cap, cur, rfl, hb, hh, hrest⟩
  · exact ⟨none, 0, by rw [c2, h0], fun j hj => by omega⟩
  · refine ⟨some ⟨g, 0, none⟩, cap, c2, fun j hj => ⟨⟨g, 0, none⟩, (P j).1, (P j).2, rfl, ?_, fun t ht => ?_⟩⟩
    · have h1 := h.own.cellAt (g := g) j (by omega)
      rw [Addr.add_lit, Nat.zero_add]
      rw [h1]
      simp [rowVs, rowV, hj]
    · obtain ⟨⟨_, cu, r1, r2, r3⟩, _⟩ := h.rows j hj
      rw [cell_of_row w (P j).1 _ _ _ _ r1]
      exact r3 t (by omega)

/-- A store into a row of numbers leaves all else. -/
theorem FSt.stored (h : FSt w F a b sa sb rv d so P) {g o n k : Nat} (hp : Part w F a b d P g o n k) (hk : k < n) :
    FSt (w.setCell ⟨g, o + k, none⟩ (.int .i64 (tabS a b d ((k : Int) - d)))) F a b sa sb rv d so P ∧ Part (w.setCell ⟨g, o + k, none⟩ (.int .i64 (tabS a b d ((k : Int) - d)))) F a b d P g o n (k + 1) := by
  obtain ⟨h1, ⟨cur, h2, h3, h4⟩, h5⟩ := hp
  have same := heap_setCell_same w g (o + k) cur 3 (.int .i64 (tabS a b d ((k : Int) - d))) h2
  have other : ∀ j, j ≠ g → (w.setCell ⟨g, o + k, none⟩ (.int .i64 (tabS a b d ((k : Int) - d)))).heap[j]? = w.heap[j]? := fun j hj => Below.heap_setCell w ⟨g, o + k, none⟩ _ j hj
  refine ⟨⟨(other F (by omega)).trans h.blk, ⟨h.own.1, ?_⟩, fun S len cap e => ?_, fun j hj => ⟨?_, (h.rows j hj).2⟩⟩, h1, ⟨_, same, by simpa using h3, fun t ht => ?_⟩, h5⟩
  · rcases h.own.2 with h6 | ⟨r, cap, cu, hv, hb, hh, hrest⟩
    · exact .inl h6
    · refine .inr ⟨r, cap, cu, hv, hb, (other r ?_).trans hh, hrest⟩
      rintro rfl
      rw [h2] at hh
      simp at hh
  · obtain ⟨s1, s2, s3, cu, s4, s5⟩ := h.sto S len cap e
    by_cases hS : S = g
    · subst hS
      rw [h2] at s4
      obtain rfl : cur = cu := by simpa using s4
      exact ⟨s1, s2, s3, _, same, by simpa using s5⟩
    · exact ⟨s1, s2, s3, cu, (other S hS).trans s4, s5⟩
  · obtain ⟨⟨r0, cu, r1, r2, r3⟩, r4⟩ := h.rows j hj
    by_cases hS : (P j).1 = g
    · rw [hS] at r1 ⊢
      have hle := h5 j hj hS
      rw [h2] at r1
      obtain rfl : cur = cu := by simpa using r1
      refine ⟨h1, _, same, by simpa using r2, fun t ht => ?_⟩
      rw [Array.getElem?_setIfInBounds_ne (by omega)]
      exact r3 t ht
    · exact ⟨r0, cu, (other _ hS).trans r1, r2, r3⟩
  · by_cases ht' : t = k
    · subst ht'
      rw [Array.getElem?_setIfInBounds_self_of_lt (by omega)]
    · rw [Array.getElem?_setIfInBounds_ne (by omega)]
      exact h4 t (by omega)

/-- The whole row is appended to the rows. -/
theorem FSt.grown (h : FSt w F a b sa sb rv d so P) {g o : Nat} (hp : Part w F a b d P g o (2 * d + 1) (2 * d + 1)) (hso : ∀ S len cap, so = some (S, len, cap) → g = S → o + (2 * d + 1) ≤ len) {w1 w2 : World} {rv' : Value} {ob : Obj} (hw1 : w1 = w.alloc ob)
    (hown : w2.ownsRow (F + 1) 51 1 rv' (d + 1) (rowVs P d ++ [.slice (some ⟨g, o, none⟩) (2 * d + 1) (2 * d + 1)])) (hg : w1.grownBy w2 rv.ownBlock) (hat : rv'.ownBlock = rv.ownBlock ∨ rv'.ownBlock = some w1.heap.size) :
    FSt (w2.setCell ⟨F, 2, none⟩ rv') F a b sa sb rv' (d + 1) so (fun j => if j = d then (g, o) else P j) := by
  have hF := h.lt
  have nF : rv.ownBlock ≠ some F := fun e => by have := (h.own.lt F e).1; omega
  have nF' : rv'.ownBlock ≠ some F := by
    rcases hat with e | e <;> rw [e]
    · exact nF
    · intro e2; injection e2 with e2; rw [hw1] at e2; simp at e2; omega
  have old : ∀ j, j < w.heap.size → some j ≠ rv.ownBlock → w2.heap[j]? = w.heap[j]? := fun j hj hne => by
    rw [hg.block j (by rw [hw1]; simp; omega) hne, hw1]
    exact Below.heap_alloc w ob j hj
  have other : ∀ j, j ≠ F → (w2.setCell ⟨F, 2, none⟩ rv').heap[j]? = w2.heap[j]? := fun j hj => Below.heap_setCell w2 ⟨F, 2, none⟩ rv' j hj
  have nums : ∀ j cur, F < j → w.heap[j]? = some (.cells cur 3 (0, 0)) → (w2.setCell ⟨F, 2, none⟩ rv').heap[j]? = some (.cells cur 3 (0, 0)) := fun j cur hj hc => by
    rw [other j (by omega), old j (Array.getElem?_eq_some_iff.1 hc).1, hc]
    intro e
    rcases h.own.2 with ⟨hv, _⟩ | ⟨r, cap, cu, hv, hb, hh, hrest⟩
    · rw [hv] at e; cases e
    · rw [hv] at e
      simp only [Value.ownBlock, Option.some.injEq] at e
      rw [← e, hc] at hh
      simp at hh
  have hrows : rowVs (fun j => if j = d then (g, o) else P j) (d + 1) = rowVs P d ++ [.slice (some ⟨g, o, none⟩) (2 * d + 1) (2 * d + 1)] := by
    unfold rowVs
    rw [List.range_succ, List.map_append]
    congr 1
    · apply List.map_congr_left
      intro j hj
      have : j ≠ d := by have := List.mem_range.1 hj; omega
      simp [rowV, this]
    · simp [rowV]
  refine ⟨?_, ?_, fun S len cap e => ?_, fun j hj => ?_⟩
  · have hb := (old F hF (fun e => nF e.symm)).trans h.blk
    have := heap_setCell_same w2 F 2 _ 106 rv' hb
    simpa using this
  · rw [hrows]
    refine ⟨hown.1, ?_⟩
    rcases hown.2 with h2 | ⟨r, cap, cur, hv', hb, hh, hrest⟩
    · exact .inl h2
    · exact .inr ⟨r, cap, cur, hv', hb, by rw [other r (by omega)]; exact hh, hrest⟩
  · obtain ⟨s1, s2, s3, cu, s4, s5⟩ := h.sto S len cap e
    exact ⟨s1, s2, s3, cu, nums S cu s1 s4, s5⟩
  · by_cases hjd : j = d
    · subst hjd
      simp only [if_pos]
      obtain ⟨h1, ⟨cur, h2, h3, h4⟩, h5⟩ := hp
      exact ⟨⟨h1, cur, nums g cur h1 h2, h3, h4⟩, hso⟩
    · simp only [if_neg hjd]
      obtain ⟨⟨r0, cu, r1, r2, r3⟩, r4⟩ := h.rows j (by omega)
      exact ⟨⟨r0, cu, nums _ cu r0 r1, r2, r3⟩, r4⟩
end

section
variable {w : World} {F : Nat} {a b : List Int} {sa sb rv : Value} {d : Nat} {so : Option (Nat × Nat × Nat)} {P : Nat → Nat × Nat}
/-- The third field is stored; all else of the state is kept in w1. -/
theorem FSt.shifted (h : FSt w F a b sa sb rv d so P) {w1 w2 : World} {so' : Option (Nat × Nat × Nat)} (hb : w2.heap[F]? = some (.cells #[sa, sb, rv, svV so'] 106 (0, 0))) (hk : ∀ j, j ≠ F → j < w.heap.size → w1.heap[j]? = w.heap[j]?)
    (hk2 : ∀ j, j ≠ F → w2.heap[j]? = w1.heap[j]?)
    (hs : ∀ S len cap, so' = some (S, len, cap) → F < S ∧ len ≤ cap ∧ cap ≤ 1000000 ∧ ∃ cur, w2.heap[S]? = some (.cells cur 3 (0, 0)) ∧ cur.size = cap)
    (hr : ∀ j, j < d → ∀ S len cap, so' = some (S, len, cap) → (P j).1 = S → (P j).2 + (2 * j + 1) ≤ len) : FSt w2 F a b sa sb rv d so' P := by
  have all : ∀ j, F < j → j < w.heap.size → w2.heap[j]? = w.heap[j]? := fun j h1 h2 => (hk2 j (by omega)).trans (hk j (by omega) h2)
  refine ⟨hb, ⟨h.own.1, ?_⟩, hs, fun j hj => ⟨?_, hr j hj⟩⟩
  · rcases h.own.2 with h2 | ⟨g, cap, cur, hv, hb, hh, hrest⟩
    · exact .inl h2
    · exact .inr ⟨g, cap, cur, hv, hb, (all g (by omega) (Array.getElem?_eq_some_iff.1 hh).1).trans hh, hrest⟩
  · obtain ⟨⟨r0, cu, r1, r2⟩, _⟩ := h.rows j hj
    exact ⟨r0, cu, (all _ r0 (Array.getElem?_eq_some_iff.1 r1).1).trans r1, r2⟩

theorem row_any (h : FSt w F a b sa sb rv d so P) (hd : d ≤ 1000) :
    Calls Try.prog 67 #[.pointer (some ⟨F, 0, none⟩), .int .i64 ((2 * d + 1 : Nat) : Int)] w fun e w' => ∃ g o cap, e = .returned (.slice (some ⟨g, o, none⟩) (2 * d + 1) (2 * d + 1)) ∧
      FSt w' F a b sa sb rv d (some (g, o + (2 * d + 1), cap)) P ∧ Part w' F a b d P g o (2 * d + 1) 0 ∧ Below F w w' := by
  have hF := h.lt
  have fresh : (A : Option Addr) → (len cap : Nat) → svV so = .slice A len cap → cap < len + (2 * d + 1) → len ≤ cap →
      Calls Try.prog 67 #[.pointer (some ⟨F, 0, none⟩), .int .i64 ((2 * d + 1 : Nat) : Int)] w fun e w' => ∃ g o cap, e = .returned (.slice (some ⟨g, o, none⟩) (2 * d + 1) (2 * d + 1)) ∧
      FSt w' F a b sa sb rv d (some (g, o + (2 * d + 1), cap)) P ∧ Part w' F a b d P g o (2 * d + 1) 0 ∧ Below F w w' := by
    intro A len cap hv h1 h2
    refine (row_new w F sa sb rv (svV so) A len cap (2 * d + 1) hv h.blk (by omega) h1 h2 (by omega)).mono ?_
    rintro e w' ⟨rfl, m, rfl⟩
    have sz : (intCs (List.replicate 4096 0)).size = 4096 := by
      show (ints (List.replicate 4096 0)).toArray.size = 4096
      rw [List.size_toArray, ints_len, List.length_replicate]
    generalize intCs (List.replicate 4096 0) = Z at *
    have k1 : ∀ j, j ≠ F → j < w.heap.size → (w.alloc (.cells Z 3)).heap[j]? = w.heap[j]? := fun j _ hj => Below.heap_alloc w _ j hj
    have k2 : ∀ j, j ≠ F → ((((w.alloc (.cells Z 3)).setCell ⟨F, 3, none⟩ (.slice (some ⟨w.heap.size, 0, none⟩) 0 4096)).setCell ⟨F, 3, none⟩ (.slice (some ⟨w.heap.size, 0, none⟩) (2 * d + 1) 4096)).drewN m).heap[j]? = (w.alloc (.cells Z 3)).heap[j]? := fun j hj =>
      (Below.heap_setCell _ ⟨F, 3, none⟩ _ j hj).trans (Below.heap_setCell _ ⟨F, 3, none⟩ _ j hj)
    have hS := (k2 w.heap.size (by omega)).trans (heap_alloc_new w (.cells Z 3))
    have b1 := heap_setCell_same _ F 3 _ 106 (.slice (some ⟨w.heap.size, 0, none⟩) 0 4096) ((Below.heap_alloc w (.cells Z 3) F hF).trans h.blk)
    have b2 := heap_setCell_same _ F 3 _ 106 (.slice (some ⟨w.heap.size, 0, none⟩) (2 * d + 1) 4096) b1
    refine ⟨w.heap.size, 0, 4096, rfl, h.shifted (by simpa [svV] using b2) k1 k2 ?_ ?_, ⟨hF, ⟨Z, hS, by omega, fun t ht => by omega⟩, fun j hj e => ?_⟩, ?_⟩
    · intro S len cap e
      obtain ⟨rfl, rfl, rfl⟩ : w.heap.size = S ∧ 0 + (2 * d + 1) = len ∧ 4096 = cap := by simpa using e
      exact ⟨hF, by omega, by omega, Z, hS, sz⟩
    · intro j hj S len cap e hP
      exfalso
      obtain ⟨rfl, rfl, rfl⟩ : w.heap.size = S ∧ 0 + (2 * d + 1) = len ∧ 4096 = cap := by simpa using e
      obtain ⟨⟨_, cu, r1, _⟩, _⟩ := h.rows j hj
      have := (Array.getElem?_eq_some_iff.1 r1).1
      omega
    · exfalso
      obtain ⟨⟨_, cu, r1, _⟩, _⟩ := h.rows j hj
      have := (Array.getElem?_eq_some_iff.1 r1).1
      omega
    · exact ⟨rfl, rfl, rfl, by simp, fun j hj => (k2 j (by omega)).trans (k1 j (by omega) (by omega))⟩
  rcases so with _ | ⟨S, len, cap⟩
  · exact fresh none 0 0 rfl (by omega) (by omega)
  · obtain ⟨s1, s2, s3, cur, s4, s5⟩ := h.sto S len cap rfl
    by_cases hfit : len + (2 * d + 1) ≤ cap
    · refine (row_fit w F S sa sb rv len cap (2 * d + 1) h.blk (by omega) hfit s3).mono ?_
      rintro e w' ⟨rfl, m, rfl⟩
      have k2 : ∀ j, j ≠ F → ((w.setCell ⟨F, 3, none⟩ (.slice (some ⟨S, 0, none⟩) (len + (2 * d + 1)) cap)).drewN m).heap[j]? = w.heap[j]? := fun j hj => Below.heap_setCell w ⟨F, 3, none⟩ _ j hj
      have b2 := heap_setCell_same w F 3 _ 106 (.slice (some ⟨S, 0, none⟩) (len + (2 * d + 1)) cap) h.blk
      have hS := (k2 S (by omega)).trans s4
      refine ⟨S, len, cap, rfl, h.shifted (by simpa [svV] using b2) (fun j _ _ => rfl) k2 ?_ ?_, ⟨s1, ⟨cur, hS, by omega, fun t ht => by omega⟩, fun j hj e => (h.rows j hj).2 S len cap rfl e⟩, ?_⟩
      · intro S' len' cap' e
        obtain ⟨rfl, rfl, rfl⟩ : S = S' ∧ len + (2 * d + 1) = len' ∧ cap = cap' := by simpa using e
        exact ⟨s1, hfit, s3, cur, hS, s5⟩
      · intro j hj S' len' cap' e hP
        obtain ⟨rfl, rfl, rfl⟩ : S = S' ∧ len + (2 * d + 1) = len' ∧ cap = cap' := by simpa using e
        have := (h.rows j hj).2 S len cap rfl hP
        omega
      · exact ⟨rfl, rfl, rfl, by simp, fun j hj => k2 j (by omega)⟩
    · exact fresh (some ⟨S, 0, none⟩) len cap rfl (by omega) s2
theorem row_any' (h : FSt w F a b sa sb rv d so P) (hd : d ≤ 1000) :
    Calls Try.prog 67 #[.pointer (some ⟨F, 0, none⟩), .int .i64 (2 * (d : Int) + 1)] w fun e w' => ∃ g o cap, e = .returned (.slice (some ⟨g, o, none⟩) (2 * d + 1) (2 * d + 1)) ∧
      FSt w' F a b sa sb rv d (some (g, o + (2 * d + 1), cap)) P ∧ Part w' F a b d P g o (2 * d + 1) 0 ∧ Below F w w' := by
  have := row_any h hd
  rwa [show ((2 * d + 1 : Nat) : Int) = 2 * (d : Int) + 1 by omega] at this
theorem FSt.two (h : FSt w F a b sa sb rv d so P) {A D : Option Addr} {cA cD : Nat} (ha : sa = .slice A a.length cA) (hb : sb = .slice D b.length cD) {B : Nat} (ra : Rv B w A (ints a)) (rb : Rv B w D (ints b)) : Two B w F a b :=
  ⟨A, D, cA, cD, by rw [h.cell 0, ← ha]; rfl, by rw [h.cell 1, ← hb]; rfl, ra, rb⟩
end
end Go.Proofs.Ythhmamkphcgocaa

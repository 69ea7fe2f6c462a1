/- A row of changes, cell by cell. -/
import Derived.Test.YthhmamkphcgocaaPln
import Derived.Test.YthhmamkphcgocaaSame
namespace Go.Proofs.Ythhmamkphcgocaa
open Go.RowKit

def Oks (l : List Chg) : Prop := ∀ (k : Nat) (x : Chg), l[k]? = some x → x.ok
theorem flat_len (l : List Chg) (h : Oks l) : (l.flatMap Chg.cells).length = l.length * 70 := by
  induction l with
  | nil => rfl
  | cons a l ih =>
    have h0 : a.ok := h 0 a rfl
    have h1 : Oks l := fun k x hx => h (k + 1) x (by simpa using hx)
    rw [List.flatMap_cons, List.length_append, ih h1, Chg.cells_length _ h0, List.length_cons]
    omega
theorem flat_at (l : List Chg) (h : Oks l) : ∀ (k : Nat) (c : Chg) (j : Nat) (v : Value), l[k]? = some c → c.cells[j]? = some v → (l.flatMap Chg.cells)[k * 70 + j]? = some v := by
  induction l with
  | nil => intro k c j v hc; simp at hc
  | cons a l ih =>
    intro k c j v hc hv
    have h0 : a.ok := h 0 a rfl
    have h1 : Oks l := fun k x hx => h (k + 1) x (by simpa using hx)
    rw [List.flatMap_cons]
    rcases k with _ | k
    · simp only [List.getElem?_cons_zero, Option.some.injEq] at hc
      subst hc
      have hj : j < a.cells.length := (List.getElem?_eq_some_iff.1 hv).1
      rw [List.getElem?_append_left (by omega)]
      simpa using hv
    · simp only [List.getElem?_cons_succ] at hc
      rw [List.getElem?_append_right (by rw [Chg.cells_length _ h0]; omega), Chg.cells_length _ h0, show (k + 1) * 70 + j - 70 = k * 70 + j by omega]
      exact ih h1 k c j v hc hv
theorem flat_back (l : List Chg) (h : Oks l) (m : Nat) (v : Value) (hm : (l.flatMap Chg.cells)[m]? = some v) : ∃ c, l[m / 70]? = some c ∧ c.cells[m % 70]? = some v := by
  have hlt : m < l.length * 70 := by rw [← flat_len l h]; exact (List.getElem?_eq_some_iff.1 hm).1
  have hk : m / 70 < l.length := by omega
  have hc : l[m / 70]? = some l[m / 70] := List.getElem?_eq_getElem hk
  have hok := h _ _ hc
  have hj : m % 70 < l[m / 70].cells.length := by rw [Chg.cells_length _ hok]; omega
  have hv := flat_at l h (m / 70) _ (m % 70) _ hc (List.getElem?_eq_getElem hj)
  rw [show m / 70 * 70 + m % 70 = m by omega, hm] at hv
  exact ⟨_, hc, by rw [List.getElem?_eq_getElem hj]; exact hv.symm⟩

theorem own_reads {w : World} {B : Nat} {v : Value} {l : List Chg} (h : Oks l) (ho : w.ownsRow B 46 70 v l.length (l.flatMap Chg.cells)) : ∃ A c, v = .slice A l.length c ∧ LReads w w.heap.size A l := by
  rcases ho.2 with ⟨rfl, h0⟩ | ⟨b, cap, cur, rfl, hb, hh, hrest⟩
  · have hl : l = [] := List.eq_nil_of_length_eq_zero h0
    subst hl
    exact ⟨none, 0, rfl, fun k c hc => by simp at hc⟩
  · refine ⟨some ⟨b, 0, none⟩, cap, rfl, fun k c hc => ⟨⟨b, 0, none⟩, rfl, (Array.getElem?_eq_some_iff.1 hh).1, fun j u hu => ?_⟩⟩
    have hk : k < l.length := (List.getElem?_eq_some_iff.1 hc).1
    have hj : j < 70 := by have := (List.getElem?_eq_some_iff.1 hu).1; rwa [Chg.cells_length _ (h k c hc)] at this
    rw [add_add, Addr.add_lit, Nat.zero_add, ho.cellAt (k * 70 + j) (by omega)]
    exact flat_at l h k c j u hc hu
theorem reads_flat {w : World} {B : Nat} {ad : Addr} {l : List Chg} (h : Oks l) (hr : LReads w B (some ad) l) : ∀ j u, (l.flatMap Chg.cells)[j]? = some u → w.cell? (ad.add j) = some u := by
  intro j u hu
  obtain ⟨c, hc, hv⟩ := flat_back l h j u hu
  obtain ⟨ad', e, _, hcs⟩ := hr _ c hc
  obtain rfl : ad = ad' := by injection e
  have := hcs (j % 70) u hv
  rwa [add_add, show j / 70 * 70 + j % 70 = j by omega] at this
theorem flat_one (l : List Chg) : ∀ u ∈ l.flatMap Chg.cells, u.oneCell' = true := by
  intro u hu
  obtain ⟨c, _, hc⟩ := List.mem_flatMap.1 hu
  exact c.cells_one u hc

theorem oks_get {l : List Chg} (h : Oks l) {k : Nat} (hk : k < l.length) : (l.getD k default).ok := h k _ (by simp [hk])
theorem out_oks (l : List Chg) (h : Oks l) (s : St) (hfr : ∀ k, 0 < s.kd.getD k 0 → ∃ i : Nat, i < l.length ∧ s.fr.getD k 0 = i) : ∀ k, k ≤ l.length → ∀ x ∈ outTo l s k, x.ok := by
  intro k
  induction k with
  | zero => intro _ x hx; simp [outTo] at hx
  | succ k ih =>
    intro hk x hx
    unfold outTo at hx
    split at hx
    · exact ih (by omega) x hx
    · rcases List.mem_append.1 hx with hx | hx
      · exact ih (by omega) x hx
      · simp only [List.mem_cons, List.not_mem_nil, or_false] at hx
        subst hx
        have hok := oks_get h (k := k) (by omega)
        unfold newChg
        split
        · rename_i hkd
          obtain ⟨i, hi, hfi⟩ := hfr k hkd
          rw [hfi, Int.toNat_natCast]
          have hoki := oks_get h hi
          exact ⟨hoki.oid, hok.nid, hoki.old, hok.new⟩
        · exact hok
theorem oks_of_mem {l : List Chg} (h : ∀ x ∈ l, x.ok) : Oks l := fun _ x hx => h x (List.mem_of_getElem? hx)

def exactL (l : List Chg) : List Chg := outTo l (refTo l l.length) l.length
theorem exactL_oks (l : List Chg) (h : Oks l) : Oks (exactL l) := oks_of_mem (out_oks l h _ (fr_ref l) _ (Nat.le_refl _))
theorem exactL_len (l : List Chg) : (exactL l).length ≤ l.length := outTo_len _ _ _

/-- rename.Exact. -/
theorem prog_any {w : World} {l : List Chg} {A : Option Addr} {c : Nat} (hl : LReads w w.heap.size A l) (ok : Oks l) (hn : l.length ≤ 40) :
    Calls Try.prog 8 #[.slice A l.length c] w fun e w' => ∃ D d, e = .returned (.slice D (exactL l).length d) ∧ LReads w' w'.heap.size D (exactL l) ∧ Below w.heap.size w w' :=
  (exact_prog hl ok hn (fr_prog l)).mono fun e w' ⟨v, B, he, ho, hb⟩ => by
    rw [same_out] at ho
    obtain ⟨D, d, rfl, hr⟩ := own_reads (exactL_oks l ok) ho
    exact ⟨D, d, he, hr, hb⟩
/-- The reference's Exact. -/
theorem ref_any {w : World} {l : List Chg} {A : Option Addr} {c : Nat} (hl : LReads w w.heap.size A l) (ok : Oks l) (hn : l.length ≤ 40) :
    Calls Try.prog 9 #[.slice A l.length c] w fun e w' => ∃ D d, e = .returned (.slice D (exactL l).length d) ∧ LReads w' w'.heap.size D (exactL l) ∧ Below w.heap.size w w' :=
  (exact_ref hl ok hn (fr_ref l)).mono fun e w' ⟨v, B, he, ho, hb⟩ => by
    obtain ⟨D, d, rfl, hr⟩ := own_reads (exactL_oks l ok) ho
    exact ⟨D, d, he, hr, hb⟩
end Go.Proofs.Ythhmamkphcgocaa

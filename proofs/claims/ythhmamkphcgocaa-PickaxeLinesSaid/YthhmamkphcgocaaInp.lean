/- A slice of bytes and a text that came in, as lists of bytes. -/
import Derived.Test.YthhmamkphcgocaaSpl
namespace Go.Proofs.Ythhmamkphcgocaa
open Go.RowKit

/-- A slice of integers that came in: nil; or it leads to a row of cells, each fitting its kind. -/
def IsRow (k : IntKind) (w : World) (a : Option Addr) (len cap : Nat) (zs : List Int) : Prop :=
  (a = none ∧ len = 0 ∧ cap = 0 ∧ zs = []) ∨
  ∃ x, a = some x ∧ len ≤ cap ∧ cap ≤ maxLen ∧ zs.length = cap ∧ (∀ i, i < zs.length → w.cell? (x.add i) = some (.int k (zs.getD i 0))) ∧ ∀ n ∈ zs, (Lit.int k n).wf = true
theorem wf_u8 {n : Int} (h : (Lit.int .u8 n).wf = true) : ((UInt8.ofNat n.toNat).toNat : Int) = n := by
  have h' : 0 ≤ n ∧ n < 256 := by
    simp [Lit.wf] at h
    have e1 : IntKind.u8.min = 0 := rfl
    have e2 : IntKind.u8.max = 255 := rfl
    omega
  simp
  omega
theorem cell_lt {w : World} {p : Addr} {v : Value} (h : w.cell? p = some v) : p.block < w.heap.size := by
  rcases Nat.lt_or_ge p.block w.heap.size with h0 | h0
  · exact h0
  · exfalso
    have : w.heap[p.block]? = none := by simp [h0]
    simp [World.cell?, this] at h
theorem row_rv {w : World} {a : Option Addr} {len cap : Nat} {zs : List Int} (h : IsRow .u8 w a len cap zs) : ∃ l : List UInt8, l.length = len ∧ Rv w.heap.size w a (bys l) ∧ (a = none → cap = 0) ∧ len ≤ cap ∧ cap ≤ maxLen := by
  rcases h with ⟨rfl, rfl, rfl, rfl⟩ | ⟨x, rfl, h1, h2, h3, h4, h5⟩
  · exact ⟨[], rfl, Rv.nil, fun _ => rfl, Nat.le_refl _, Nat.zero_le _⟩
  · refine ⟨(zs.take len).map (fun n => UInt8.ofNat n.toNat), by simp; omega, fun k v hk => ?_, (fun e => by cases e), h1, h2⟩
    have hkl : k < len := by
      have := (List.getElem?_eq_some_iff.1 hk).1
      simp [bys] at this
      omega
    have hkz : k < zs.length := by omega
    have hc := h4 k hkz
    have hw := h5 (zs.getD k 0) (by rw [List.getD_eq_getElem?_getD, List.getElem?_eq_getElem hkz]; exact List.getElem_mem _)
    have hv : v = .int .u8 (zs.getD k 0) := by
      have e := wf_u8 hw
      simp [bys, hkl, hkz] at hk
      have hg : zs.getD k 0 = zs[k] := by simp [hkz]
      rw [← hk, hg]
      rw [hg] at e
      simpa using e
    exact ⟨x, rfl, by have := cell_lt hc; rwa [block_add] at this, by rw [hv]; exact hc⟩
theorem bs_of (s : ByteArray) : bs s.data.toList = s := by
  apply ByteArray.ext
  simp [bs]
end Go.Proofs.Ythhmamkphcgocaa

/- Taking the best pair more often than there are pairs changes nothing: plain. The rows of sleuthref26.near: small facts. -/
import Derived.Test.YtbmpidacoohdmaaGreatF33
import Derived.Test.YtbmpidacoohdmaaGreatF38
import Derived.Test.YtbmpidacoohdmaaGreatF39
import Derived.Test.YtbmpidacoohdmaaGreatF24
namespace Go.Proofs.YtbmpidacoohdmaaGreat
open Rn (Chg St)

theorem sorted_is (rows : List Rw) : ∃ S : List Rw, S.Perm rows ∧ S.Pairwise fun x y => ahd y x = false := by
  refine ⟨rows.mergeSort (fun x y => !ahd y x), List.mergeSort_perm _ _, ?_⟩
  have h := List.pairwise_mergeSort (le := fun x y : Rw => !ahd y x) (fun a b c h1 h2 => by
    simp only [Bool.not_eq_true'] at h1 h2 ⊢
    exact swo_ahd.ntrans _ _ _ h2 h1) (fun a b => by
    cases h1 : ahd b a
    · simp
    · simp [ahd_as h1]) rows
  exact h.imp fun h => by simpa using h
theorem titer_more (rows : List Rw) (s : St) (hl : ∀ r ∈ rows, r.1 < s.tk.length) (n : Nat) (hn : rows.length ≤ n) : titer rows s n = titer rows s rows.length := by
  obtain ⟨S, hp, hS⟩ := sorted_is rows
  rw [greedy_eq rows S hp hS S [] s n rfl hl (fun _ h => by cases h) (by rw [hp.length_eq]; exact hn)]
  rw [greedy_eq rows S hp hS S [] s rows.length rfl hl (fun _ h => by cases h) (by rw [hp.length_eq]; exact Nat.le_refl _)]
end Go.Proofs.YtbmpidacoohdmaaGreat
namespace Go.Proofs.YtbmpidacoohdmaaGreat
open Go.RowKit Op
open Rn (Chg LReads CellsAt St Oks isNamed)

def rowIn (l : List Chg) (S T : List Nat) (xs ys : List (List UInt8)) (ls : Int) (i k : Nat) : List Rw := (tabIn xs ys ls i k).map (conv l S T)
def rowTo (l : List Chg) (S T : List Nat) (xs ys : List (List UInt8)) (ls : Int) (i : Nat) : List Rw := (tabTo xs ys ls i).map (conv l S T)
theorem rowIn_succ (l : List Chg) (S T : List Nat) (xs ys : List (List UInt8)) (ls : Int) (i k : Nat) : rowIn l S T xs ys ls i (k + 1) = if ls ≤ (scoB (xs.getD i []) (ys.getD k []) : Int) then rowIn l S T xs ys ls i k ++ [(S.getD i 0, T.getD k 0, scoB (xs.getD i []) (ys.getD k []), isNamed l (S.getD i 0) (T.getD k 0))] else rowIn l S T xs ys ls i k := by
  unfold rowIn
  rw [tabIn]
  split
  · rw [List.map_append]; rfl
  · rfl
theorem rowTo_succ (l : List Chg) (S T : List Nat) (xs ys : List (List UInt8)) (ls : Int) (i : Nat) : rowTo l S T xs ys ls (i + 1) = rowTo l S T xs ys ls i ++ rowIn l S T xs ys ls i ys.length := by
  unfold rowTo rowIn
  rw [tabTo, List.map_append]
theorem rowIn_len (l : List Chg) (S T : List Nat) (xs ys : List (List UInt8)) (ls : Int) (i k : Nat) : (rowIn l S T xs ys ls i k).length ≤ k := by
  unfold rowIn
  rw [List.length_map]
  exact tabIn_len _ _ _ _ _
theorem rowTo_len (l : List Chg) (S T : List Nat) (xs ys : List (List UInt8)) (ls : Int) (i : Nat) : (rowTo l S T xs ys ls i).length ≤ i * ys.length := by
  unfold rowTo
  rw [List.length_map]
  exact tabTo_len _ _ _ _
theorem rv_all {u : World} {D : Option Addr} {zs : List Value} (h : Rv u.heap.size u D zs) {k : Nat} {x : Value} (hx : zs[k]? = some x) : ∃ ad, D = some ad ∧ ∀ W, Below u.heap.size u W → W.cell? (ad.add k) = some x := by
  obtain ⟨ad, e, hl, hc⟩ := h.at_ hx
  exact ⟨ad, e, fun W hW => (hW.cell (p := ad.add k) (by rw [block_add]; exact hl)).trans hc⟩
theorem Txr.all_at {u : World} {A : Option Addr} {us : List Value} {xs : List (List UInt8)} (h : Txr u A us xs) {k : Nat} (hk : k < xs.length) : ∃ ad D d, A = some ad ∧ (xs.getD k []).length ≤ d ∧ (xs.getD k []).length ≤ 400 ∧ ∀ W, Below u.heap.size u W → W.cell? (ad.add k) = some (.slice D (xs.getD k []).length d) ∧ Rv W.heap.size W D (bys (xs.getD k [])) := by
  obtain ⟨D, d, h1, h2, h3, h4⟩ := h.all k hk
  obtain ⟨ad, e, hl, hc⟩ := h.rv.at_ h1
  exact ⟨ad, D, d, e, h2, h4, fun W hW => ⟨(hW.cell (p := ad.add k) (by rw [block_add]; exact hl)).trans hc, h3.low hW hW.size⟩⟩
theorem slW : Sl Tryz.prog 127 130 4 32 := ⟨Tryz.underlying127, by kernel_rfl, by decide⟩
theorem encW_one (x : Rw) : ∀ u ∈ encW x, u.oneCell' = true := by
  intro u hu
  simp only [encW, List.mem_cons, List.not_mem_nil, or_false] at hu
  rcases hu with rfl | rfl | rfl | rfl <;> rfl
theorem encW_all (x : Rw) : ((encW x).toArray.all fun u => u.oneCell') = true := by
  obtain ⟨a, b, c, d⟩ := x
  simp [encW, Value.oneCell']
theorem encs_snoc (l : List Rw) (x : Rw) : l.flatMap encW ++ encW x = (l ++ [x]).flatMap encW := by simp
theorem ldW_eq (a : Addr) : loadVar 130 a = ldT 130 a := rfl
theorem infoW : (Tryz.prog.info? 130).map (·.size) = some 4 := by kernel_rfl
theorem ldW {W : World} {a : Addr} {x : Rw} (hc : CellsAt W a (encW x)) : (ldT 130 a).run Tryz.prog W = .ok (.agg (encW x).toArray) W := run_loadVar_cells Tryz.underlying130 rfl infoW hc
theorem encW_at (rows : List Rw) {k j : Nat} (hk : k < rows.length) (hj : j < 4) : (rows.flatMap encW)[k * 4 + j]? = (encW (rows.getD k default))[j]? := by
  have h := flat_at encW 4 (fun _ => rfl) rows k j hk hj
  rw [h]
  congr 2
  simp [hk]
theorem below_grw (w : World) (os : Array Obj) : Below w.heap.size w (Sort.grow w os) := ⟨rfl, rfl, rfl, by show _ ≤ (w.heap ++ os).size; simp, fun k hk => by show (w.heap ++ os)[k]? = _; rw [Array.getElem?_append_left hk]⟩
theorem row_cells {n : Nat} {w : World} {G : Nat} {rows : List Rw} (hr : Rv n w (some ⟨G, 0, none⟩) (rows.flatMap encW)) {k : Nat} (hk : k < rows.length) : CellsAt w ⟨G, k * 4, none⟩ (encW (rows.getD k default)) := fun j v hv => by
  have hj : j < 4 := (List.getElem?_eq_some_iff.1 hv).1
  obtain ⟨ad, e, _, c⟩ := hr.at_ (k := k * 4 + j) (x := v) (by rw [encW_at rows hk hj]; exact hv)
  obtain rfl := Option.some.inj e
  rw [Addr.add_lit, Nat.zero_add] at c
  rw [Addr.add_lit]
  exact c
end Go.Proofs.YtbmpidacoohdmaaGreat

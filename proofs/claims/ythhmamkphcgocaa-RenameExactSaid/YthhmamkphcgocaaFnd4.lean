/- rename's finder.pair, by a contract. -/
import Derived.Test.YthhmamkphcgocaaFnd2
namespace Go.Proofs.Ythhmamkphcgocaa
open Go.RowKit

def pairSt (s : St) (src tgt : Nat) (sc : Int) : St := ⟨s.fr.set tgt src, s.sc.set tgt sc, s.kd.set tgt 4, s.tk.set src true⟩

set_option maxHeartbeats 400000 in
theorem pair_core (w : World) (b F S K T n : Nat) (sc : Int) (vF vS vK vT : Value) (tn sn : Nat)
  (h1 : w.cell? ⟨b,1,none⟩ = some (.slice (some ⟨F,0,none⟩) n n))
  (h2 : w.cell? ⟨b,2,none⟩ = some (.slice (some ⟨S,0,none⟩) n n))
  (h3 : w.cell? ⟨b,3,none⟩ = some (.slice (some ⟨K,0,none⟩) n n))
  (h4 : w.cell? ⟨b,4,none⟩ = some (.slice (some ⟨T,0,none⟩) n n))
  (cF : w.cell? ⟨F,tn,none⟩ = some vF) (cS : w.cell? ⟨S,tn,none⟩ = some vS) (cK : w.cell? ⟨K,tn,none⟩ = some vK) (cT : w.cell? ⟨T,sn,none⟩ = some vT)
  (fF : w.frozen? ⟨F,tn,none⟩ = false) (fS : w.frozen? ⟨S,tn,none⟩ = false) (fK : w.frozen? ⟨K,tn,none⟩ = false) (fT : w.frozen? ⟨T,sn,none⟩ = false)
  (bF : b ≠ F) (bS : b ≠ S) (bK : b ≠ K) (bT : b ≠ T) (FSX : F ≠ S) (FK : F ≠ K) (SK : S ≠ K) (FT : F ≠ T) (ST : S ≠ T) (KT : K ≠ T) (ht : tn < n) (hs : sn < n) :
    Calls Try.prog 40 #[.pointer (some ⟨b,0,none⟩), .int .i64 sn, .int .i64 tn, .int .i64 4, .int .i64 sc] w fun e w' => e = .returned (.tuple #[]) ∧ w' = ((((w.setCell ⟨F,tn,none⟩ (.int .i64 sn)).setCell ⟨K,tn,none⟩ (.int .i64 4)).setCell ⟨S,tn,none⟩ (.int .i64 sc)).setCell ⟨T,sn,none⟩ (.bool true)).drew := by
  go_enter Try.func40, Try.ntmps40
  go_wp2_with fail
  go_region
  go_wp2
  go_end0
  exact ⟨rfl, rfl⟩

theorem pair_any {w : World} {B b F S K T : Nat} {A : Option Addr} {c : Nat} {l : List Chg} {s : St} (h : Fnd w B b F S K T A c l s) (sn tn : Nat) (hs : sn < l.length) (ht : tn < l.length) (sc : Int) :
    Calls Try.prog 40 #[.pointer (some ⟨b,0,none⟩), .int .i64 sn, .int .i64 tn, .int .i64 4, .int .i64 sc] w fun e w' => e = .returned (.tuple #[]) ∧ Fnd w' B b F S K T A c l (pairSt s sn tn sc) ∧ Below B w w' ∧ (∀ g, g ≠ F → g ≠ S → g ≠ K → g ≠ T → w'.heap[g]? = w.heap[g]?) ∧ w'.heap.size = w.heap.size := by
  have bF : b ≠ F := ne_of_types h.self h.hF (by decide)
  have bS : b ≠ S := ne_of_types h.self h.hS (by decide)
  have bK : b ≠ K := ne_of_types h.self h.hK (by decide)
  have bT : b ≠ T := ne_of_types h.self h.hT (by decide)
  have FT : F ≠ T := ne_of_types h.hF h.hT (by decide)
  have ST : S ≠ T := ne_of_types h.hS h.hT (by decide)
  have KT : K ≠ T := ne_of_types h.hK h.hT (by decide)
  refine (pair_core w b F S K T l.length sc _ _ _ _ tn sn (h.cell 1) (h.cell 2) (h.cell 3) (h.cell 4) (ints_cell h.hF tn (by rw [h.lF]; exact ht)) (ints_cell h.hS tn (by rw [h.lS]; exact ht)) (ints_cell h.hK tn (by rw [h.lK]; exact ht)) (bools_cell h.hT sn (by rw [h.lT]; exact hs))
    (frozen_of_row w F tn _ _ h.hF) (frozen_of_row w S tn _ _ h.hS) (frozen_of_row w K tn _ _ h.hK) (frozen_of_row w T sn _ _ h.hT) bF bS bK bT h.FSX h.FK h.SK FT ST KT ht hs).mono ?_
  rintro e w' ⟨rfl, rfl⟩
  have far : ∀ g, g ≠ F → g ≠ S → g ≠ K → g ≠ T → ((((w.setCell ⟨F,tn,none⟩ (.int .i64 sn)).setCell ⟨K,tn,none⟩ (.int .i64 4)).setCell ⟨S,tn,none⟩ (.int .i64 sc)).setCell ⟨T,sn,none⟩ (.bool true)).heap[g]? = w.heap[g]? := fun g g1 g2 g3 g4 => by
    rw [heap_setCell_other _ _ _ _ g4, heap_setCell_other _ _ _ _ g2, heap_setCell_other _ _ _ _ g3, heap_setCell_other _ _ _ _ g1]
  have nF := h.bF; have nS := h.bS; have nK := h.bK; have nT := h.bT
  refine ⟨rfl, ⟨(far b bF bS bK bT).trans h.self, ?_, ?_, ?_, ?_, by simp [pairSt, h.lF], by simp [pairSt, h.lS], by simp [pairSt, h.lK], by simp [pairSt, h.lT], h.bb, h.bF, h.bS, h.bK, h.bT, h.FSX, h.FK, h.SK, ?_, h.oks, h.short⟩, ?_, far, by simp⟩
  · show ((((w.setCell ⟨F,tn,none⟩ (.int .i64 sn)).setCell ⟨K,tn,none⟩ (.int .i64 4)).setCell ⟨S,tn,none⟩ (.int .i64 sc)).setCell ⟨T,sn,none⟩ (.bool true)).heap[F]? = _
    rw [heap_setCell_other _ _ _ _ FT, heap_setCell_other _ _ _ _ h.FSX, heap_setCell_other _ _ _ _ h.FK, heap_setCell_same _ _ _ _ _ _ h.hF, intCells_set]
    rfl
  · show ((((w.setCell ⟨F,tn,none⟩ (.int .i64 sn)).setCell ⟨K,tn,none⟩ (.int .i64 4)).setCell ⟨S,tn,none⟩ (.int .i64 sc)).setCell ⟨T,sn,none⟩ (.bool true)).heap[S]? = _
    have e : ((w.setCell ⟨F,tn,none⟩ (.int .i64 sn)).setCell ⟨K,tn,none⟩ (.int .i64 4)).heap[S]? = some (.cells (intCells s.sc) 3 (0, 0)) := by
      rw [heap_setCell_other _ _ _ _ h.SK, heap_setCell_other _ _ _ _ h.FSX.symm, h.hS]
    rw [heap_setCell_other _ _ _ _ ST, heap_setCell_same _ _ _ _ _ _ e, intCells_set]
    rfl
  · show ((((w.setCell ⟨F,tn,none⟩ (.int .i64 sn)).setCell ⟨K,tn,none⟩ (.int .i64 4)).setCell ⟨S,tn,none⟩ (.int .i64 sc)).setCell ⟨T,sn,none⟩ (.bool true)).heap[K]? = _
    have e : (w.setCell ⟨F,tn,none⟩ (.int .i64 sn)).heap[K]? = some (.cells (intCells s.kd) 3 (0, 0)) := by
      rw [heap_setCell_other _ _ _ _ h.FK.symm, h.hK]
    rw [heap_setCell_other _ _ _ _ KT, heap_setCell_other _ _ _ _ h.SK.symm, heap_setCell_same _ _ _ _ _ _ e, intCells_set]
    rfl
  · show ((((w.setCell ⟨F,tn,none⟩ (.int .i64 sn)).setCell ⟨K,tn,none⟩ (.int .i64 4)).setCell ⟨S,tn,none⟩ (.int .i64 sc)).setCell ⟨T,sn,none⟩ (.bool true)).heap[T]? = _
    have e : (((w.setCell ⟨F,tn,none⟩ (.int .i64 sn)).setCell ⟨K,tn,none⟩ (.int .i64 4)).setCell ⟨S,tn,none⟩ (.int .i64 sc)).heap[T]? = some (.cells (boolCells s.tk) 4 (0, 0)) := by
      rw [heap_setCell_other _ _ _ _ ST.symm, heap_setCell_other _ _ _ _ KT.symm, heap_setCell_other _ _ _ _ FT.symm, h.hT]
    rw [heap_setCell_same _ _ _ _ _ _ e, boolCells_set]
    rfl
  · exact h.reads.keep fun p hp => World.cell?_of_block (far _ (by omega) (by omega) (by omega) (by omega))
  · exact (((((Below.refl B w).setCell (p := ⟨F, tn, none⟩) h.bF _).setCell (p := ⟨K, tn, none⟩) h.bK _).setCell (p := ⟨S, tn, none⟩) h.bS _).setCell (p := ⟨T, sn, none⟩) h.bT _).drew

end Go.Proofs.Ythhmamkphcgocaa

/- A range over an iterator that keeps a state of its own in a cell and that no round leaves early: the statement's law. No program. -/
import Derived.RangeFuncKeeps
import Derived.RangeFuncLeaves
import Derived.WalkKit
namespace Go.Proofs.Ythhmamkphcgocaa
open Go.RowKit

/-- A caller's invariant that abides new blocks and turns of the loop's own records. -/
structure Abs {α : Type} (B : Nat) (I : List α → World → Prop) : Prop where
  new : ∀ s W o, I s W → I s (W.alloc o)
  put : ∀ s W l o o', B ≤ l → W.heap[l]? = some o → o.isCells = false → I s W → I s (W.putObj l o')

theorem wpIn_range_box {α : Type} {F : Fence} {n : Nat} {P : Program} {g : Operand} {ps : Array Tmp} {assign body : Code} {Q : Exit → Act → World → Prop} {a : Act} {w : World}
    (hro : F.round = none) (h1 : 1 ≤ n) {gf : Nat} {lb : Array Value} (hg : a.eval g = .func (.func gf) #[] lb) (hFg : F.fn gf) (eg : ∀ args w, (callFunc gf args).run P w = .ok (.enter gf args) w)
    {encs : α → Array Value} (hps : ∀ x, (encs x).size = ps.size) (X : Nat) (hX : X < w.heap.size) (S : List α) (Kn : World → Prop)
    (hseq : ∀ (l : Nat) (J : List α → World → Prop) (W : World), (∀ s W v, J s W → J s (W.setCell ⟨X, 0, none⟩ v)) → (∀ s W, J s W → Kn W) →
      (∀ pre x W1, J pre W1 → pre.length < S.length → YieldAt F (n - 1 - 1) P l (encs x) W1 fun e W' => e = .returned (.bool true) ∧ J (pre ++ [x]) W' ∧ W'.cell? ⟨X, 0, none⟩ = W1.cell? ⟨X, 0, none⟩ ∧ W'.frozen? ⟨X, 0, none⟩ = W1.frozen? ⟨X, 0, none⟩) →
      J [] W → W.cell? ⟨X, 0, none⟩ = w.cell? ⟨X, 0, none⟩ → W.frozen? ⟨X, 0, none⟩ = w.frozen? ⟨X, 0, none⟩ →
      CallsIn F (n - 1) P gf (#[.func (.yield l) #[] #[]] ++ lb) W fun e W' => (∃ v, e = .returned v) ∧ J S W')
    (I : List α → World → Prop) (hI : Abs w.heap.size I) (hIX : ∀ s W v, I s W → I s (W.setCell ⟨X, 0, none⟩ v)) (hIK : ∀ s W, I s W → Kn W) (h0 : I [] w) (a₁ : α → Act)
    (hassign : ∀ (l : Nat) (x : α) (W : World) (K : Act → World → Prop), K (a₁ x) W →
      assign.wpIn (F.inRound l) (n - 1 - 1) P (Exit.then K (fun _ _ _ => False)) { tmps := (ps.zip (encs x)).foldl (fun t (p, v) => t.setIfInBounds p v) a.tmps, defers := [] } W)
    (hbody : ∀ (l : Nat) (pre : List α) (x : α) (W : World), w.heap.size ≤ W.heap.size → pre.length < S.length → I pre W → body.wpIn (F.inRound l) (n - 1 - 1) P (fun e _ W' => e = .normal ∧ KeepsOthers W W' ∧ W'.heap[X]? = W.heap[X]? ∧ I (pre ++ [x]) W') (a₁ x) W)
    (hdone : ∀ (D : Nat) (W : World), w.heap.size ≤ D → I S W → W.heap[D]? = some (.deferred (some [])) → Q .normal { a with defers := { target := .collected D, args := #[] } :: a.defers } W) :
    (Code.rangeFunc g ps assign body).wpIn F n P Q a w := by
  refine wpIn_rangeFunc ?_
  intro fn hfn
  rw [hro]
  obtain ⟨rc, hrc⟩ : ∃ rc : LoopState → Loop, rc = fun st => { state := st, pending := none, fn, tmps := a.tmps, params := ps, assign, body, defers := w.heap.size } := ⟨_, rfl⟩
  obtain ⟨V, hV⟩ : ∃ V, V = (w.alloc (.deferred (some []))).alloc (.loop (rc .ready)) := ⟨_, rfl⟩
  have vsz : V.heap.size = w.heap.size + 2 := by rw [hV]; simp
  have vl : V.heap[w.heap.size + 1]? = some (.loop (rc .ready)) := by
    rw [hV]; have := World.alloc_heap_new (w.alloc (.deferred (some []))) (.loop (rc .ready)); rwa [World.size_alloc] at this
  have vd : V.heap[w.heap.size]? = some (.deferred (some [])) := by
    rw [hV]; exact (Below.heap_alloc _ _ _ (by simp)).trans (World.alloc_heap_new w _)
  have vx : V.heap[X]? = w.heap[X]? := by
    rw [hV]; exact (Below.heap_alloc _ _ _ (by simp; omega)).trans (Below.heap_alloc _ _ _ hX)
  have vi : I [] V := by rw [hV]; exact hI.new _ _ _ (hI.new _ _ _ h0)
  refine ⟨w.heap.size + 1, [{ target := .collected w.heap.size, args := #[] }], V, { target := .fn (.func gf) lb, args := #[.func (.yield (w.heap.size + 1)) #[] #[]] }, V, gf,
    #[.func (.yield (w.heap.size + 1)) #[] #[]] ++ lb, V, ?_, ?_, ?_, ?_, fun _ => h1, ?_⟩
  · rw [hV, hrc]; exact run_enterLoop_outer _ _ _ _ _
  · simp only [resolve, hg]
    simp [go_sem]
  · intro f' hf'; simp [Target.leads] at hf'; subst hf'; exact hFg
  · simp [invoke, go_sem, eg]
  · have other : ∀ (W : World) (o : Obj) (k : Nat), k ≠ w.heap.size + 1 → (W.putObj (w.heap.size + 1) o).heap[k]? = W.heap[k]? := fun W o k hk => World.putObj_heap_other hk
    refine (hseq (w.heap.size + 1) (fun s W => I s W ∧ W.heap[w.heap.size + 1]? = some (.loop (rc .ready)) ∧ W.heap[w.heap.size]? = some (.deferred (some []))) V ?_ (fun s W h => hIK s W h.1) ?_ ⟨vi, vl, vd⟩ (World.cell?_of_block vx) (World.frozen?_of_block vx)).mono ?_
    · rintro s W v ⟨h2, h3, h4⟩
      exact ⟨hIX s W v h2, (Below.heap_setCell W ⟨X, 0, none⟩ v _ (by simp; omega)).trans h3, (Below.heap_setCell W ⟨X, 0, none⟩ v _ (by simp; omega)).trans h4⟩
    · rintro pre x W ⟨hi, hl, hd⟩ hps2
      have hlt : w.heap.size + 1 < W.heap.size := (Array.getElem?_eq_some_iff.1 hl).1
      have hy := run_yield (P := P) (args := encs x) hl (by rw [hrc]; exact hps x)
      rw [hrc] at hy
      refine ⟨fn, _, assign, body, hy, roundIn_of_wpIn hfn (hassign _ x W _ ⟨_, run_beginRound hl (by rw [hrc]), ?_⟩)⟩
      refine wpIn_mono (hbody _ pre x _ (by simp; omega) hps2 (hI.put _ _ _ _ _ (by omega) hl rfl hi)) ?_
      rintro e a3 W3 ⟨rfl, hk3, hx3, hi3⟩
      have b2 : (W.putObj (w.heap.size + 1) (.loop { rc .ready with state := .busy })).heap[w.heap.size + 1]? = some (.loop { rc .ready with state := .busy }) := World.putObj_heap_same hlt
      have l3 := hk3.same _ _ b2 rfl
      have d3 : W3.heap[w.heap.size]? = some (.deferred (some [])) := hk3.same _ _ ((other W _ _ (by omega)).trans hd) rfl
      have hend := run_endRound (P := P) none l3
      have hlt3 := (Array.getElem?_eq_some_iff.1 l3).1
      have xx : (W3.putObj (w.heap.size + 1) (.loop (rc .ready))).heap[X]? = W.heap[X]? := by
        rw [other _ _ _ (by omega), hx3, other _ _ _ (by omega)]
      rw [hrc] at hend
      refine ⟨_, _, hend, rfl, ⟨hI.put _ _ _ _ _ (by omega) l3 rfl hi3, ?_, (other _ _ _ (by omega)).trans d3⟩, World.cell?_of_block (by rw [hrc] at xx; exact xx), World.frozen?_of_block (by rw [hrc] at xx; exact xx)⟩
      rw [hrc]
      exact World.putObj_heap_same hlt3
    · rintro e W2 ⟨⟨v, rfl⟩, hi, hl, hd⟩
      have hend := run_endLoop (P := P) hl (by rw [hrc]; simp)
      rw [hrc] at hend
      exact ⟨none, _, hend, hdone _ _ (Nat.le_refl _) (hI.put _ _ _ _ _ (by omega) hl rfl hi) ((World.putObj_heap_other (by omega)).trans hd)⟩
end Go.Proofs.Ythhmamkphcgocaa

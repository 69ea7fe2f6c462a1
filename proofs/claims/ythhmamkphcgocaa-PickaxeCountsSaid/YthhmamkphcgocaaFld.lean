/- A struct in a block of its own whose fields are slices that the call owns: read, appended to field by field, stored into. No program. -/
import Derived.Test.YthhmamkphcgocaaRow
import Derived.Maps.AppendAt
namespace Go.Proofs.Ythhmamkphcgocaa
open Go.RowKit

/-- Block g (of type t) holds the slices vs; slice i owns the cells (rs i).2 of type (rs i).1; no two share an array. -/
structure Flds (w : World) (B g : Nat) (t : TypeId) (vs : List Value) (rs : List (TypeId × List Value)) : Prop where
  blk : w.heap[g]? = some (.cells vs.toArray t (0, 0))
  len : vs.length = rs.length
  own : ∀ (i : Nat) (v : Value) (r : TypeId × List Value), vs[i]? = some v → rs[i]? = some r → w.ownsRow B r.1 1 v r.2.length r.2
  far : ∀ (i j : Nat) (v u : Value), vs[i]? = some v → vs[j]? = some u → i ≠ j → v.ownBlock = none ∨ v.ownBlock ≠ u.ownBlock
  off : ∀ (i : Nat) (v : Value), vs[i]? = some v → v.ownBlock ≠ some g

section
variable {w w2 : World} {B g : Nat} {t : TypeId} {vs : List Value} {rs : List (TypeId × List Value)}
theorem Flds.lt (h : Flds w B g t vs rs) : g < w.heap.size := (Array.getElem?_eq_some_iff.1 h.blk).1
theorem Flds.cell (h : Flds w B g t vs rs) (i : Nat) : w.cell? ⟨g, i, none⟩ = vs[i]? := by rw [cell_of_row w g i _ _ _ h.blk]; simp
theorem Flds.frozen (h : Flds w B g t vs rs) (i : Nat) : w.frozen? ⟨g, i, none⟩ = false := frozen_of_row w g i _ _ h.blk
theorem Flds.keep (h : Flds w B g t vs rs) (hk : ∀ k, (B ≤ k ∨ k = g) → k < w.heap.size → w2.heap[k]? = w.heap[k]?) : Flds w2 B g t vs rs := by
  refine ⟨(hk g (.inr rfl) h.lt).trans h.blk, h.len, fun i v r hv hr => ?_, h.far, h.off⟩
  obtain ⟨h1, h2⟩ := h.own i v r hv hr
  refine ⟨h1, ?_⟩
  rcases h2 with h2 | ⟨b, cap, cur, hv', hb, hh, hrest⟩
  · exact .inl h2
  · exact .inr ⟨b, cap, cur, hv', hb, (hk b (.inl hb) (Array.getElem?_eq_some_iff.1 hh).1).trans hh, hrest⟩
theorem Flds.alloc (h : Flds w B g t vs rs) (o : Obj) : Flds (w.alloc o) B g t vs rs := h.keep fun k _ hk => Below.heap_alloc w o k hk
theorem Flds.drewN (h : Flds w B g t vs rs) (n : Nat) : Flds (w.drewN n) B g t vs rs := h.keep fun _ _ _ => rfl
theorem Flds.drew (h : Flds w B g t vs rs) : Flds w.drew B g t vs rs := h.keep fun _ _ _ => rfl
theorem Flds.later (h : Flds w B g t vs rs) (hl : Later w w2) : Flds w2 B g t vs rs := h.keep fun k _ hk => hl.same k hk

/-- Field i has been appended to (the law's own words), and is stored back. -/
theorem Flds.appended (h : Flds w B g t vs rs) {i : Nat} {v v' : Value} {e : TypeId} {xs : List Value} {x : Value} (hv : vs[i]? = some v)
    (hown : w2.ownsRow B e 1 v' (xs.length + 1) (xs ++ [x])) (hg : w.grownBy w2 v.ownBlock) (hat : v'.ownBlock = v.ownBlock ∨ v'.ownBlock = some w.heap.size) :
    Flds (w2.setCell ⟨g, i, none⟩ v') B g t (vs.set i v') (rs.set i (e, xs ++ [x])) := by
  have hlt := h.lt
  have hiv : i < vs.length := (List.getElem?_eq_some_iff.1 hv).1
  have hblk : w2.heap[g]? = some (.cells vs.toArray t (0, 0)) := (hg.block g hlt (fun e => h.off i v hv e.symm)).trans h.blk
  have hng : v'.ownBlock ≠ some g := by
    rcases hat with e1 | e1 <;> rw [e1]
    · exact h.off i v hv
    · intro e2; injection e2 with e2; omega
  have other : ∀ (b : Nat), b ≠ g → (w2.setCell ⟨g, i, none⟩ v').heap[b]? = w2.heap[b]? := fun b hb => Below.heap_setCell w2 ⟨g, i, none⟩ v' b hb
  have kept : ∀ {e : TypeId} {u : Value} {n : Nat} {ys : List Value}, u.ownBlock ≠ some g → w2.ownsRow B e 1 u n ys → (w2.setCell ⟨g, i, none⟩ v').ownsRow B e 1 u n ys := by
    intro e u n ys hu ho
    refine ⟨ho.1, ?_⟩
    rcases ho.2 with h2 | ⟨b, cap, cur, hv', hb, hh, hrest⟩
    · exact .inl h2
    · refine .inr ⟨b, cap, cur, hv', hb, ?_, hrest⟩
      rw [other b (fun e => hu (by rw [hv', e]; rfl))]
      exact hh
  refine ⟨?_, by simp [h.len], ?_, ?_, ?_⟩
  · have := heap_setCell_same w2 g i vs.toArray t v' hblk
    simpa using this
  · intro j u r hu hr'
    by_cases hj : i = j
    · subst hj
      rw [List.getElem?_set_self (by omega)] at hu
      rw [List.getElem?_set_self (by rw [← h.len]; omega)] at hr'
      injection hu with hu
      injection hr' with hr'
      subst hu hr'
      simp only [List.length_append, List.length_cons, List.length_nil]
      exact kept hng hown
    · rw [List.getElem?_set_ne hj] at hu hr'
      refine kept (h.off j u hu) ?_
      refine (h.own j u r hu hr').kept hg ?_
      rcases h.far j i u v hu hv (fun e => hj e.symm) with e1 | e1
      · exact .inl e1
      · exact .inr e1
  · intro j k u y hu hy hjk
    have old : ∀ (m : Nat) (z : Value), vs[m]? = some z → z.ownBlock ≠ some w.heap.size := by
      intro m z hz e1
      have hm : m < rs.length := by rw [← h.len]; exact (List.getElem?_eq_some_iff.1 hz).1
      have := ((h.own m z rs[m] hz (List.getElem?_eq_getElem hm)).lt _ e1).2
      omega
    by_cases hij : i = j
    · subst hij
      rw [List.getElem?_set_self (by omega)] at hu
      injection hu with hu
      subst hu
      rw [List.getElem?_set_ne hjk] at hy
      rcases hat with e1 | e1
      · rw [e1]; exact h.far i k v y hv hy hjk
      · rw [e1]; exact .inr (fun e => old k y hy e.symm)
    · rw [List.getElem?_set_ne hij] at hu
      by_cases hik : i = k
      · subst hik
        rw [List.getElem?_set_self (by omega)] at hy
        injection hy with hy
        subst hy
        rcases hat with e1 | e1
        · rw [e1]; exact h.far j i u v hu hv (fun e => hij e.symm)
        · rw [e1]; exact .inr (old j u hu)
      · rw [List.getElem?_set_ne hik] at hy
        exact h.far j k u y hu hy hjk
  · intro j u hu
    by_cases hij : i = j
    · subst hij
      rw [List.getElem?_set_self (by omega)] at hu
      injection hu with hu
      subst hu
      exact hng
    · rw [List.getElem?_set_ne hij] at hu
      exact h.off j u hu

/-- What a field's slice looks like, and where element k lies. -/
theorem Flds.at_ (h : Flds w B g t vs rs) {i k : Nat} {v : Value} {e : TypeId} {xs : List Value} {x : Value} (hv : vs[i]? = some v) (hr : rs[i]? = some (e, xs)) (hx : xs[k]? = some x) :
    ∃ b cap, v = .slice (some ⟨b, 0, none⟩) xs.length cap ∧ B ≤ b ∧ b < w.heap.size ∧ b ≠ g ∧ w.cell? ⟨b, k, none⟩ = some x ∧ w.frozen? ⟨b, k, none⟩ = false := by
  have hk : k < xs.length := (List.getElem?_eq_some_iff.1 hx).1
  have ho := h.own i v (e, xs) hv hr
  rcases ho.2 with ⟨_, h0⟩ | ⟨b, cap, cur, rfl, hb, hh, hrest⟩
  · simp only at h0; omega
  · have h1 := ho.cellAt (g := b) k (by simpa using hk)
    have h2 := ho.frozenAt (g := b) k
    exact ⟨b, cap, rfl, hb, (Array.getElem?_eq_some_iff.1 hh).1, fun e => h.off i _ hv (by rw [e]; rfl), h1.trans hx, h2⟩

theorem Flds.elem (h : Flds w B g t vs rs) {i k n cap b : Nat} {e : TypeId} {xs : List Value} {x : Value} (hv : vs[i]? = some (.slice (some ⟨b, 0, none⟩) n cap)) (hr : rs[i]? = some (e, xs)) (hx : xs[k]? = some x) :
    w.cell? ⟨b, k, none⟩ = some x ∧ w.frozen? ⟨b, k, none⟩ = false ∧ B ≤ b ∧ b < w.heap.size := by
  obtain ⟨b', cap', e1, h1, h2, _, h3, h4⟩ := h.at_ hv hr hx
  obtain ⟨rfl, _⟩ : b = b' ∧ True := by
    injection e1 with e1 _ _
    injection e1 with e1
    injection e1 with e1
    exact ⟨e1, trivial⟩
  exact ⟨h3, h4, h1, h2⟩

/-- Element k of field i is stored into. -/
theorem Flds.stored (h : Flds w B g t vs rs) {i k : Nat} {b cap n : Nat} {e : TypeId} {xs : List Value} {x : Value} (hv : vs[i]? = some (.slice (some ⟨b, 0, none⟩) n cap)) (hr : rs[i]? = some (e, xs)) :
    Flds (w.setCell ⟨b, k, none⟩ x) B g t vs (rs.set i (e, xs.set k x)) := by
  have hbg : b ≠ g := fun e => h.off i _ hv (by rw [e]; rfl)
  have hir : i < rs.length := (List.getElem?_eq_some_iff.1 hr).1
  refine ⟨(Below.heap_setCell w ⟨b, k, none⟩ x g (fun e => hbg e.symm)).trans h.blk, by simp [h.len], ?_, h.far, h.off⟩
  intro j u r hu hr'
  by_cases hij : i = j
  · subst hij
    rw [List.getElem?_set_self hir] at hr'
    injection hr' with hr'
    subst hr'
    rw [hv] at hu
    injection hu with hu
    subst hu
    have ho := h.own i _ (e, xs) hv hr
    rcases ho.2 with ⟨h0, _⟩ | ⟨b', cap', cur, hs, hb, hh, h3, h4, h5, h6⟩
    · cases h0
    · injection hs with s1 s2 s3
      injection s1 with s1
      injection s1 with s1
      subst s1 s2 s3
      refine ⟨by simp, .inr ⟨b, cap, cur.setIfInBounds k x, by simp, hb, heap_setCell_same w b k cur e x hh, by simpa using h3, h4, by simpa using h5, ?_⟩⟩
      simp only [Nat.mul_one, List.length_set, Array.toList_setIfInBounds] at h6 ⊢
      rw [List.take_set, h6]
  · rw [List.getElem?_set_ne hij] at hr'
    have ho := h.own j u r hu hr'
    refine ⟨ho.1, ?_⟩
    rcases ho.2 with h2 | ⟨b', cap', cur, hs, hb, hh, hrest⟩
    · exact .inl h2
    · refine .inr ⟨b', cap', cur, hs, hb, ?_, hrest⟩
      rw [Below.heap_setCell w ⟨b, k, none⟩ x b' ?_]
      · exact hh
      · intro e1
        simp only at e1
        subst e1
        rcases h.far j i u _ hu hv (fun e => hij e.symm) with e2 | e2
        · rw [hs] at e2; cases e2
        · exact e2 (by rw [hs]; rfl)
/-- The struct is copied into a new block. -/
theorem Flds.copied (h : Flds w B g t vs rs) (hb : ∀ (i : Nat) (v : Value), vs[i]? = some v → v.ownBlock ≠ some w.heap.size) : Flds (w.alloc (.cells vs.toArray t)) B w.heap.size t vs rs :=
  ⟨heap_alloc_new w _, h.len, fun i v r hv hr => (h.own i v r hv hr).alloc _, h.far, hb⟩
theorem Flds.below (h : Flds w B g t vs rs) {i : Nat} {v : Value} (hv : vs[i]? = some v) : v.ownBlock ≠ some w.heap.size := by
  intro e1
  have hm : i < rs.length := by rw [← h.len]; exact (List.getElem?_eq_some_iff.1 hv).1
  have := ((h.own i v rs[i] hv (List.getElem?_eq_getElem hm)).lt _ e1).2
  omega
end

theorem own_one {w : World} {B : Nat} {e : TypeId} {size : Nat} {v : Value} {n : Nat} {xs : List Value} (h : w.ownsRow B e size v n xs) : v.oneCell' = true := by
  rcases h.2 with ⟨rfl, _⟩ | ⟨b, cap, cur, rfl, _⟩ <;> rfl
theorem Flds.mid {w w2 : World} {B g : Nat} {t : TypeId} {vs : List Value} {rs : List (TypeId × List Value)} (h : Flds w B g t vs rs) {i : Nat} {v : Value} (hv : vs[i]? = some v) (hg : w.grownBy w2 v.ownBlock) (j : Nat) : w2.cell? ⟨g, j, none⟩ = vs[j]? ∧ w2.frozen? ⟨g, j, none⟩ = false := by
  have hblk : w2.heap[g]? = some (.cells vs.toArray t (0, 0)) := (hg.block g h.lt (fun e => h.off i v hv e.symm)).trans h.blk
  exact ⟨by rw [cell_of_row w2 g j _ _ _ hblk]; simp, frozen_of_row w2 g j _ _ hblk⟩
theorem below_step {w0 w w2 : World} {C B g i : Nat} {v v' : Value} {e : TypeId} {n : Nat} {xs : List Value} (hb : Below C w0 w) (hC : C ≤ w.heap.size) (hown : w.ownsRow B e 1 v n xs) (hBC : C ≤ B) (hg : w.grownBy w2 v.ownBlock) (hgC : C ≤ g) : Below C w0 (w2.setCell ⟨g, i, none⟩ v') :=
  (hb.grown hg hC (fun k hk => by have := (hown.lt k hk).1; omega)).setCell (p := ⟨g, i, none⟩) hgC _
section
variable {P : Program} {w : World}
/-- A store of one cell, the world behind it by a name. -/
theorem wpList_store1 {ops : Array Oper} {rest : List Oper} {o : Oper} {a : Act} {Q : Exit → Act → World → Prop} (hgd : o.guard = none) (ty : TypeId) (x y : Operand) (ho : o.op = .store ty x y)
    (p : Addr) (hx : a.eval x = .pointer (some p)) (v old : Value) (hy : a.eval y = v) (h1 : v.oneCell' = true) (hi : (P.info? ty).map (·.size) = some 1) (hc : w.cell? p = some old) (hf : w.frozen? p = false)
    (hd : o.dst = none) (h : ∀ W, W = w.setCell p v → wpList P ops Q rest a W) : wpList P ops Q (o :: rest) a w := by
  have h : ∀ W, W = w.setCell p v → wpList P ops Q rest (a.put o.dst undef) W := by rw [hd]; exact h
  refine wpList_plain hgd fun K hK => ?_
  cases hq : P.info? ty with
  | none => simp [hq] at hi
  | some i =>
    have hs : i.size = 1 := by simpa [hq] using hi
    have hv : v.cells = #[v] := by cases v <;> first | rfl | simp [Value.oneCell'] at h1
    have hst : (store p v).run P w = .ok () (w.setCell p v) := by
      rw [run_store P w p v _ h1, hc]
      simp [hf]
    unfold Oper.wp execOp
    simp only [ho, hx, hy, Instr.storeAt, Instr.sureAddr, Sem.run_bind, Sem.run_pure, Result.andThen_ok, storeVar, sizeOf, typeInfo, run_program, hq, hs, hv]
    simp [storeCells, hst, Addr.add_zero']
    exact hK _ _ (h _ rfl)
end
end Go.Proofs.Ythhmamkphcgocaa

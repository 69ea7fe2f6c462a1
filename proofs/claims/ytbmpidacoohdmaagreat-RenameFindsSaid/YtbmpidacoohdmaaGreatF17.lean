/- A struct in a block of its own whose fields are slices that the call owns: read, appended to field by field, stored into. No program. sleuthref26.none, by a contract. sleuthref26.named, by a contract. A region that draws its order, whose operations only read and whose callees only make new memory: walked once, in the order of the text. No program. sleuthref26.exact, by a contract. rename.Exact and sleuthref26.Exact, each by a contract. The plain law: the program's finder and the reference find the same renames. No walk. -/
import Derived.Test.YtbmpidacoohdmaaGreatF16
import Derived.Maps.AppendAt
namespace Go.Proofs.YtbmpidacoohdmaaGreat.Rn
open Lib renaming hid → hI
open Go.RowKit

/-- Block g (of type t) holds the slices vs; slice i owns the cells (rs i).2 of type (rs i).1; no two share an array. -/
structure Flds (w : World) (B g : Nat) (t : TypeId) (vs : List Value) (rs : List (TypeId × List Value)) : Prop where
  blk : w.heap[g]? = some (.cells vs.toArray t (0, 0))
  len : vs.length = rs.length
  own : ∀ (i : Nat) (v : Value) (r : TypeId × List Value), vs[i]? = some v → rs[i]? = some r → w.ownsRow B r.1 1 v r.2.length r.2
  far : ∀ (i j : Nat) (v u : Value), vs[i]? = some v → vs[j]? = some u → i ≠ j → v.ownBlock = none ∨ v.ownBlock ≠ u.ownBlock
  off : ∀ (i : Nat) (v : Value), vs[i]? = some v → v.ownBlock ≠ some g

section
variable {w w2 : World} {B g : Nat} {t : TypeId} {vs : List Value} {rs : List (TypeId × List Value)}
theorem Flds.lt (h : Flds w B g t vs rs) : g < w.heap.size := (Array.getElem?_eq_some_iff.1 h.blk).1
theorem Flds.cell (h : Flds w B g t vs rs) (i : Nat) : w.cell? ⟨g, i, none⟩ = vs[i]? := by rw [cell_of_row w g i _ _ _ h.blk]; simp
theorem Flds.frozen (h : Flds w B g t vs rs) (i : Nat) : w.frozen? ⟨g, i, none⟩ = false := frozen_of_row w g i _ _ h.blk
theorem Flds.keep (h : Flds w B g t vs rs) (hk : ∀ k, (B ≤ k ∨ k = g) → k < w.heap.size → w2.heap[k]? = w.heap[k]?) : Flds w2 B g t vs rs := by
  refine ⟨(hk g (.inr rfl) h.lt).trans h.blk, h.len, fun i v r hv hr => ?_, h.far, h.off⟩
  obtain ⟨h1, h2⟩ := h.own i v r hv hr
  refine ⟨h1, ?_⟩
  rcases h2 with h2 | ⟨b, cap, cur, hv', hb, hh, hrest⟩
  · exact .inl h2
  · exact .inr ⟨b, cap, cur, hv', hb, (hk b (.inl hb) (Array.getElem?_eq_some_iff.1 hh).1).trans hh, hrest⟩
theorem Flds.alloc (h : Flds w B g t vs rs) (o : Obj) : Flds (w.alloc o) B g t vs rs := h.keep fun k _ hk => Below.heap_alloc w o k hk
theorem Flds.drewN (h : Flds w B g t vs rs) (n : Nat) : Flds (w.drewN n) B g t vs rs := h.keep fun _ _ _ => rfl
theorem Flds.drew (h : Flds w B g t vs rs) : Flds w.drew B g t vs rs := h.keep fun _ _ _ => rfl
theorem Flds.later (h : Flds w B g t vs rs) (hl : Later w w2) : Flds w2 B g t vs rs := h.keep fun k _ hk => hl.same k hk

/-- Field i has been appended to (the law's own words), and is stored back. -/
theorem Flds.appended (h : Flds w B g t vs rs) {i : Nat} {v v' : Value} {e : TypeId} {xs : List Value} {x : Value} (hv : vs[i]? = some v)
    (hown : w2.ownsRow B e 1 v' (xs.length + 1) (xs ++ [x])) (hg : w.grownBy w2 v.ownBlock) (hat : v'.ownBlock = v.ownBlock ∨ v'.ownBlock = some w.heap.size) :
    Flds (w2.setCell ⟨g, i, none⟩ v') B g t (vs.set i v') (rs.set i (e, xs ++ [x])) := by
  have hlt := h.lt
  have hiv : i < vs.length := (List.getElem?_eq_some_iff.1 hv).1
  have hblk : w2.heap[g]? = some (.cells vs.toArray t (0, 0)) := (hg.block g hlt (fun e => h.off i v hv e.symm)).trans h.blk
  have hng : v'.ownBlock ≠ some g := by
    rcases hat with e1 | e1 <;> rw [e1]
    · exact h.off i v hv
    · intro e2; injection e2 with e2; omega
  have other : ∀ (b : Nat), b ≠ g → (w2.setCell ⟨g, i, none⟩ v').heap[b]? = w2.heap[b]? := fun b hb => Below.heap_setCell w2 ⟨g, i, none⟩ v' b hb
  have kept : ∀ {e : TypeId} {u : Value} {n : Nat} {ys : List Value}, u.ownBlock ≠ some g → w2.ownsRow B e 1 u n ys → (w2.setCell ⟨g, i, none⟩ v').ownsRow B e 1 u n ys := by
    intro e u n ys hu ho
    refine ⟨ho.1, ?_⟩
    rcases ho.2 with h2 | ⟨b, cap, cur, hv', hb, hh, hrest⟩
    · exact .inl h2
    · refine .inr ⟨b, cap, cur, hv', hb, ?_, hrest⟩
      rw [other b (fun e => hu (by rw [hv', e]; rfl))]
      exact hh
  refine ⟨?_, by simp [h.len], ?_, ?_, ?_⟩
  · have := heap_setCell_same w2 g i vs.toArray t v' hblk
    simpa using this
  · intro j u r hu hr'
    by_cases hj : i = j
    · subst hj
      rw [List.getElem?_set_self (by omega)] at hu
      rw [List.getElem?_set_self (by rw [← h.len]; omega)] at hr'
      injection hu with hu
      injection hr' with hr'
      subst hu hr'
      simp only [List.length_append, List.length_cons, List.length_nil]
      exact kept hng hown
    · rw [List.getElem?_set_ne hj] at hu hr'
      refine kept (h.off j u hu) ?_
      refine (h.own j u r hu hr').kept hg ?_
      rcases h.far j i u v hu hv (fun e => hj e.symm) with e1 | e1
      · exact .inl e1
      · exact .inr e1
  · intro j k u y hu hy hjk
    have old : ∀ (m : Nat) (z : Value), vs[m]? = some z → z.ownBlock ≠ some w.heap.size := by
      intro m z hz e1
      have hm : m < rs.length := by rw [← h.len]; exact (List.getElem?_eq_some_iff.1 hz).1
      have := ((h.own m z rs[m] hz (List.getElem?_eq_getElem hm)).lt _ e1).2
      omega
    by_cases hij : i = j
    · subst hij
      rw [List.getElem?_set_self (by omega)] at hu
      injection hu with hu
      subst hu
      rw [List.getElem?_set_ne hjk] at hy
      rcases hat with e1 | e1
      · rw [e1]; exact h.far i k v y hv hy hjk
      · rw [e1]; exact .inr (fun e => old k y hy e.symm)
    · rw [List.getElem?_set_ne hij] at hu
      by_cases hik : i = k
      · subst hik
        rw [List.getElem?_set_self (by omega)] at hy
        injection hy with hy
        subst hy
        rcases hat with e1 | e1
        · rw [e1]; exact h.far j i u v hu hv (fun e => hij e.symm)
        · rw [e1]; exact .inr (old j u hu)
      · rw [List.getElem?_set_ne hik] at hy
        exact h.far j k u y hu hy hjk
  · intro j u hu
    by_cases hij : i = j
    · subst hij
      rw [List.getElem?_set_self (by omega)] at hu
      injection hu with hu
      subst hu
      exact hng
    · rw [List.getElem?_set_ne hij] at hu
      exact h.off j u hu

/-- What a field's slice looks like, and where element k lies. -/
theorem Flds.at_ (h : Flds w B g t vs rs) {i k : Nat} {v : Value} {e : TypeId} {xs : List Value} {x : Value} (hv : vs[i]? = some v) (hr : rs[i]? = some (e, xs)) (hx : xs[k]? = some x) :
    ∃ b cap, v = .slice (some ⟨b, 0, none⟩) xs.length cap ∧ B ≤ b ∧ b < w.heap.size ∧ b ≠ g ∧ w.cell? ⟨b, k, none⟩ = some x ∧ w.frozen? ⟨b, k, none⟩ = false := by
  have hk : k < xs.length := (List.getElem?_eq_some_iff.1 hx).1
  have ho := h.own i v (e, xs) hv hr
  rcases ho.2 with ⟨_, h0⟩ | ⟨b, cap, cur, rfl, hb, hh, hrest⟩
  · simp only at h0; omega
  · have h1 := ho.cellAt (g := b) k (by simpa using hk)
    have h2 := ho.frozenAt (g := b) k
    exact ⟨b, cap, rfl, hb, (Array.getElem?_eq_some_iff.1 hh).1, fun e => h.off i _ hv (by rw [e]; rfl), h1.trans hx, h2⟩

theorem Flds.elem (h : Flds w B g t vs rs) {i k n cap b : Nat} {e : TypeId} {xs : List Value} {x : Value} (hv : vs[i]? = some (.slice (some ⟨b, 0, none⟩) n cap)) (hr : rs[i]? = some (e, xs)) (hx : xs[k]? = some x) :
    w.cell? ⟨b, k, none⟩ = some x ∧ w.frozen? ⟨b, k, none⟩ = false ∧ B ≤ b ∧ b < w.heap.size := by
  obtain ⟨b', cap', e1, h1, h2, _, h3, h4⟩ := h.at_ hv hr hx
  obtain ⟨rfl, _⟩ : b = b' ∧ True := by
    injection e1 with e1 _ _
    injection e1 with e1
    injection e1 with e1
    exact ⟨e1, trivial⟩
  exact ⟨h3, h4, h1, h2⟩

/-- Element k of field i is stored into. -/
theorem Flds.stored (h : Flds w B g t vs rs) {i k : Nat} {b cap n : Nat} {e : TypeId} {xs : List Value} {x : Value} (hv : vs[i]? = some (.slice (some ⟨b, 0, none⟩) n cap)) (hr : rs[i]? = some (e, xs)) :
    Flds (w.setCell ⟨b, k, none⟩ x) B g t vs (rs.set i (e, xs.set k x)) := by
  have hbg : b ≠ g := fun e => h.off i _ hv (by rw [e]; rfl)
  have hir : i < rs.length := (List.getElem?_eq_some_iff.1 hr).1
  refine ⟨(Below.heap_setCell w ⟨b, k, none⟩ x g (fun e => hbg e.symm)).trans h.blk, by simp [h.len], ?_, h.far, h.off⟩
  intro j u r hu hr'
  by_cases hij : i = j
  · subst hij
    rw [List.getElem?_set_self hir] at hr'
    injection hr' with hr'
    subst hr'
    rw [hv] at hu
    injection hu with hu
    subst hu
    have ho := h.own i _ (e, xs) hv hr
    rcases ho.2 with ⟨h0, _⟩ | ⟨b', cap', cur, hs, hb, hh, h3, h4, h5, h6⟩
    · cases h0
    · injection hs with s1 s2 s3
      injection s1 with s1
      injection s1 with s1
      subst s1 s2 s3
      refine ⟨by simp, .inr ⟨b, cap, cur.setIfInBounds k x, by simp, hb, heap_setCell_same w b k cur e x hh, by simpa using h3, h4, by simpa using h5, ?_⟩⟩
      simp only [Nat.mul_one, List.length_set, Array.toList_setIfInBounds] at h6 ⊢
      rw [List.take_set, h6]
  · rw [List.getElem?_set_ne hij] at hr'
    have ho := h.own j u r hu hr'
    refine ⟨ho.1, ?_⟩
    rcases ho.2 with h2 | ⟨b', cap', cur, hs, hb, hh, hrest⟩
    · exact .inl h2
    · refine .inr ⟨b', cap', cur, hs, hb, ?_, hrest⟩
      rw [Below.heap_setCell w ⟨b, k, none⟩ x b' ?_]
      · exact hh
      · intro e1
        simp only at e1
        subst e1
        rcases h.far j i u _ hu hv (fun e => hij e.symm) with e2 | e2
        · rw [hs] at e2; cases e2
        · exact e2 (by rw [hs]; rfl)
/-- The struct is copied into a new block. -/
theorem Flds.copied (h : Flds w B g t vs rs) (hb : ∀ (i : Nat) (v : Value), vs[i]? = some v → v.ownBlock ≠ some w.heap.size) : Flds (w.alloc (.cells vs.toArray t)) B w.heap.size t vs rs :=
  ⟨heap_alloc_new w _, h.len, fun i v r hv hr => (h.own i v r hv hr).alloc _, h.far, hb⟩
theorem Flds.below (h : Flds w B g t vs rs) {i : Nat} {v : Value} (hv : vs[i]? = some v) : v.ownBlock ≠ some w.heap.size := by
  intro e1
  have hm : i < rs.length := by rw [← h.len]; exact (List.getElem?_eq_some_iff.1 hv).1
  have := ((h.own i v rs[i] hv (List.getElem?_eq_getElem hm)).lt _ e1).2
  omega
end

theorem own_one {w : World} {B : Nat} {e : TypeId} {size : Nat} {v : Value} {n : Nat} {xs : List Value} (h : w.ownsRow B e size v n xs) : v.oneCell' = true := by
  rcases h.2 with ⟨rfl, _⟩ | ⟨b, cap, cur, rfl, _⟩ <;> rfl
theorem Flds.mid {w w2 : World} {B g : Nat} {t : TypeId} {vs : List Value} {rs : List (TypeId × List Value)} (h : Flds w B g t vs rs) {i : Nat} {v : Value} (hv : vs[i]? = some v) (hg : w.grownBy w2 v.ownBlock) (j : Nat) : w2.cell? ⟨g, j, none⟩ = vs[j]? ∧ w2.frozen? ⟨g, j, none⟩ = false := by
  have hblk : w2.heap[g]? = some (.cells vs.toArray t (0, 0)) := (hg.block g h.lt (fun e => h.off i v hv e.symm)).trans h.blk
  exact ⟨by rw [cell_of_row w2 g j _ _ _ hblk]; simp, frozen_of_row w2 g j _ _ hblk⟩
theorem below_step {w0 w w2 : World} {C B g i : Nat} {v v' : Value} {e : TypeId} {n : Nat} {xs : List Value} (hb : Below C w0 w) (hC : C ≤ w.heap.size) (hown : w.ownsRow B e 1 v n xs) (hBC : C ≤ B) (hg : w.grownBy w2 v.ownBlock) (hgC : C ≤ g) : Below C w0 (w2.setCell ⟨g, i, none⟩ v') :=
  (hb.grown hg hC (fun k hk => by have := (hown.lt k hk).1; omega)).setCell (p := ⟨g, i, none⟩) hgC _
section
variable {P : Program} {w : World}
/-- A store of one cell, the world behind it by a name. -/
theorem wpList_store1 {ops : Array Oper} {rest : List Oper} {o : Oper} {a : Act} {Q : Exit → Act → World → Prop} (hgd : o.guard = none) (ty : TypeId) (x y : Operand) (ho : o.op = .store ty x y)
    (p : Addr) (hx : a.eval x = .pointer (some p)) (v old : Value) (hy : a.eval y = v) (h1 : v.oneCell' = true) (hi : (P.info? ty).map (·.size) = some 1) (hc : w.cell? p = some old) (hf : w.frozen? p = false)
    (hd : o.dst = none) (h : ∀ W, W = w.setCell p v → wpList P ops Q rest a W) : wpList P ops Q (o :: rest) a w := by
  have h : ∀ W, W = w.setCell p v → wpList P ops Q rest (a.put o.dst undef) W := by rw [hd]; exact h
  refine wpList_plain hgd fun K hK => ?_
  cases hq : P.info? ty with
  | none => simp [hq] at hi
  | some i =>
    have hs : i.size = 1 := by simpa [hq] using hi
    have hv : v.cells = #[v] := by cases v <;> first | rfl | simp [Value.oneCell'] at h1
    have hst : (store p v).run P w = .ok () (w.setCell p v) := by
      rw [run_store P w p v _ h1, hc]
      simp [hf]
    unfold Oper.wp execOp
    simp only [ho, hx, hy, Instr.storeAt, Instr.sureAddr, Sem.run_bind, Sem.run_pure, Result.andThen_ok, storeVar, sizeOf, typeInfo, run_program, hq, hs, hv]
    simp [storeCells, hst, Addr.add_zero']
    exact hK _ _ (h _ rfl)
end
end Go.Proofs.YtbmpidacoohdmaaGreat.Rn
namespace Go.Proofs.YtbmpidacoohdmaaGreat.Rn
open Lib renaming hid → hI
open Go.RowKit

def rows4 (fr kd sc : List Int) (tk : List Bool) : List (TypeId × List Value) := [(3, ints fr), (3, ints kd), (3, ints sc), (4, boos tk)]
def rowsN (n : Nat) : List (TypeId × List Value) := rows4 (List.replicate n (-1)) (List.replicate n 0) (List.replicate n 0) (List.replicate n false)
theorem info3b : (Tryz.prog.info? 3).map (fun i => (i.zero, i.size, i.bytes)) = some (some (.int .i64 0), 1, 8) := by kernel_rfl
theorem info4b : (Tryz.prog.info? 4).map (fun i => (i.zero, i.size, i.bytes)) = some (some (.bool false), 1, 1) := by kernel_rfl
theorem info51 : (Tryz.prog.info? 48).map (·.size) = some 1 := by kernel_rfl
theorem info52 : (Tryz.prog.info? 71).map (·.size) = some 1 := by kernel_rfl

theorem info54 : (Tryz.prog.info? 73).map (·.size) = some 4 := by kernel_rfl
theorem rowsN_succ (k : Nat) : rowsN (k + 1) = [(3, ints (List.replicate k (-1)) ++ [.int .i64 (-1)]), (3, ints (List.replicate k 0) ++ [.int .i64 0]), (3, ints (List.replicate k 0) ++ [.int .i64 0]), (4, boos (List.replicate k false) ++ [.bool false])] := by
  simp [rowsN, rows4, ints, boos, ← List.replicate_succ']
theorem flds_nil (w : World) (o : Obj) (B : Nat) : Flds ((w.alloc o).alloc (.cells #[.slice none 0 0, .slice none 0 0, .slice none 0 0, .slice none 0 0] 73)) B (w.heap.size + 1) 73 [.slice none 0 0, .slice none 0 0, .slice none 0 0, .slice none 0 0] (rowsN 0) := by
  have hall : ∀ (i : Nat) (v : Value), [Value.slice none 0 0, .slice none 0 0, .slice none 0 0, .slice none 0 0][i]? = some v → v = .slice none 0 0 := by
    intro i v h
    have := List.mem_of_getElem? h
    simpa using this
  refine ⟨by have := heap_alloc_new (w.alloc o) (.cells #[.slice none 0 0, .slice none 0 0, .slice none 0 0, .slice none 0 0] 73); simpa using this, rfl, ?_, ?_, ?_⟩
  · intro i v r hv hr
    have hr' : r.2 = [] := by
      have := List.mem_of_getElem? hr
      simp [rowsN, rows4, ints, boos] at this
      rcases this with rfl | rfl <;> rfl
    rw [hall i v hv, hr']
    exact World.ownsRow_nil _ _ _ _
  · intro i j v u hv _ _
    rw [hall i v hv]
    exact .inl rfl
  · intro i v hv
    rw [hall i v hv]
    simp [Value.ownBlock]

set_option maxHeartbeats 1000000 in
theorem none_any (w : World) (n : Nat) (hn : n ≤ 40) :
    Calls Tryz.prog 53 #[.int .i64 n] w fun e w' => ∃ v0 v1 v2 v3 g, e = .returned (.agg #[v0, v1, v2, v3]) ∧ Flds w' (w.heap.size + 2) g 73 [v0, v1, v2, v3] (rowsN n) ∧ Below w.heap.size w w' := by
  obtain ⟨i3, hi3', hz3', hs3', hb3'⟩ := info_parts info3b
  obtain ⟨i4, hi4', hz4', hs4', hb4'⟩ := info_parts info4b
  have hi3 := hI hi3'
  have hz3 := hI hz3'
  have hs3 := hI hs3'
  have hb3 := hI hb3'
  have hi4 := hI hi4'
  have hz4 := hI hz4'
  have hs4 := hI hs4'
  have hb4 := hI hb4'
  clear hi3' hz3' hs3' hb3' hi4' hz4' hs4' hb4'
  go_enter Tryz.func53, Tryz.ntmps53
  go_wp2
  generalize hw1 : (w.alloc (Obj.cells #[Value.slice none 0 0, Value.slice none 0 0, Value.slice none 0 0, Value.slice none 0 0] 73)).alloc (Obj.cells #[Value.slice none 0 0, Value.slice none 0 0, Value.slice none 0 0, Value.slice none 0 0] 73) = w1
  have HW1 := hI hw1
  clear hw1
  go_loopw [4] (fun i wr => ∃ k : Nat, k ≤ n ∧ i = .int .i64 k ∧ Hid (∃ v0 v1 v2 v3, Flds wr (w.heap.size + 2) (w.heap.size + 1) 73 [v0, v1, v2, v3] (rowsN k)) ∧ Hid (Below (w.heap.size + 1) w1 wr)) (fun i _ => n - (intOf i).toNat)
  case atStart =>
    refine ⟨0, Nat.zero_le _, rfl, ⟨.slice none 0 0, .slice none 0 0, .slice none 0 0, .slice none 0 0, ?_⟩, Below.refl _ _⟩
    rw [← HW1.out]
    exact flds_nil _ _ _
  case round =>
    obtain ⟨k, hk, rfl, hF, hb⟩ := hrel
    by_cases hkn : k < n
    · obtain ⟨v0, v1, v2, v3, hf⟩ := hF.out
      have F0 := hI hf
      have L0 := hI hb.out
      have s0 := hf.lt
      have b0 : wr.cell? ⟨w.heap.size + 1, 0, none⟩ = some v0 := hf.cell 0
      clear hf hF hb
      go_wp2_with (first
        | (at_builtin; refine wpList_append_own_at _ rfl (.tmp 11) (.tmp 12) _ rfl (w.heap.size + 2) 3 i3 (.int .i64 0) 1 8 Tryz.underlying48 hi3.out hz3.out hs3.out hb3.out rfl (by decide) v0 _ _ rfl ((F0.out.alloc (.cells #[.int .i64 (-1)] 3)).own 0 _ _ rfl rfl) ⟨wr.heap.size, 0, none⟩ 1 1 [.int .i64 (-1)] rfl rfl (new_cells _ _ _ _ rfl) (by simp [Value.oneCell']) (by simp [ints, maxLen]; omega) (by simp [ints]; omega) (by simp; omega) ?_; intro u0 W0 ho0 hg0 hz0 ha0; clear hz0; have HO0 := hI ho0; have HG0 := hI hg0; have HA0 := hI ha0; clear ho0 hg0 ha0)
        | (refine wpList_store1 rfl 48 (.tmp 14) (.tmp 13) rfl ⟨w.heap.size + 1, 0, none⟩ rfl u0 v0 rfl (own_one HO0.out) info51 ((F0.out.alloc (.cells #[.int .i64 (-1)] 3)).mid (i := 0) rfl HG0.out 0).1 ((F0.out.alloc (.cells #[.int .i64 (-1)] 3)).mid (i := 0) rfl HG0.out 0).2 rfl ?_; intro V1 hV0; have F1 := hI (hV0 ▸ (F0.out.alloc (.cells #[.int .i64 (-1)] 3)).appended (i := 0) rfl HO0.out HG0.out HA0.out); have L1 := hI (hV0 ▸ below_step (i := 0) (v' := u0) (L0.out.alloc (by omega) (.cells #[.int .i64 (-1)] 3)) (by simp; omega) ((F0.out.alloc (.cells #[.int .i64 (-1)] 3)).own 0 _ _ rfl rfl) (by omega) HG0.out (by omega)); clear hV0; have s0 := F1.out.lt; have c00 := F1.out.cell 1; have c01 := F1.out.cell 2; have c02 := F1.out.cell 3; simp only [List.set_cons_zero, List.getElem?_cons_succ, List.getElem?_cons_zero] at c00 c01 c02)
        | (at_builtin; refine wpList_append_own_at _ rfl (.tmp 16) (.tmp 17) _ rfl (w.heap.size + 2) 3 i3 (.int .i64 0) 1 8 Tryz.underlying48 hi3.out hz3.out hs3.out hb3.out rfl (by decide) v1 _ _ rfl ((F1.out.alloc (.cells #[.int .i64 0] 3)).own 1 _ _ rfl rfl) ⟨V1.heap.size, 0, none⟩ 1 1 [.int .i64 0] rfl rfl (new_cells _ _ _ _ rfl) (by simp [Value.oneCell']) (by simp [ints, maxLen]; omega) (by simp [ints]; omega) (by simp; omega) ?_; intro u1 W1 ho1 hg1 hz1 ha1; clear hz1; have HO1 := hI ho1; have HG1 := hI hg1; have HA1 := hI ha1; clear ho1 hg1 ha1)
        | (refine wpList_store1 rfl 48 (.tmp 19) (.tmp 18) rfl ⟨w.heap.size + 1, 1, none⟩ rfl u1 v1 rfl (own_one HO1.out) info51 ((F1.out.alloc (.cells #[.int .i64 0] 3)).mid (i := 1) rfl HG1.out 1).1 ((F1.out.alloc (.cells #[.int .i64 0] 3)).mid (i := 1) rfl HG1.out 1).2 rfl ?_; intro V2 hV1; have F2 := hI (hV1 ▸ (F1.out.alloc (.cells #[.int .i64 0] 3)).appended (i := 1) rfl HO1.out HG1.out HA1.out); have L2 := hI (hV1 ▸ below_step (i := 1) (v' := u1) (L1.out.alloc (by omega) (.cells #[.int .i64 0] 3)) (by simp; omega) ((F1.out.alloc (.cells #[.int .i64 0] 3)).own 1 _ _ rfl rfl) (by omega) HG1.out (by omega)); clear hV1; have s1 := F2.out.lt; have c10 := F2.out.cell 1; have c11 := F2.out.cell 2; have c12 := F2.out.cell 3; simp only [List.set_cons_succ, List.set_cons_zero, List.getElem?_cons_succ, List.getElem?_cons_zero] at c10 c11 c12)
        | (at_builtin; refine wpList_append_own_at _ rfl (.tmp 21) (.tmp 22) _ rfl (w.heap.size + 2) 3 i3 (.int .i64 0) 1 8 Tryz.underlying48 hi3.out hz3.out hs3.out hb3.out rfl (by decide) v2 _ _ rfl ((F2.out.alloc (.cells #[.int .i64 0] 3)).own 2 _ _ rfl rfl) ⟨V2.heap.size, 0, none⟩ 1 1 [.int .i64 0] rfl rfl (new_cells _ _ _ _ rfl) (by simp [Value.oneCell']) (by simp [ints, maxLen]; omega) (by simp [ints]; omega) (by simp; omega) ?_; intro u2 W2 ho2 hg2 hz2 ha2; clear hz2; have HO2 := hI ho2; have HG2 := hI hg2; have HA2 := hI ha2; clear ho2 hg2 ha2)
        | (refine wpList_store1 rfl 48 (.tmp 24) (.tmp 23) rfl ⟨w.heap.size + 1, 2, none⟩ rfl u2 v2 rfl (own_one HO2.out) info51 ((F2.out.alloc (.cells #[.int .i64 0] 3)).mid (i := 2) rfl HG2.out 2).1 ((F2.out.alloc (.cells #[.int .i64 0] 3)).mid (i := 2) rfl HG2.out 2).2 rfl ?_; intro V3 hV2; have F3 := hI (hV2 ▸ (F2.out.alloc (.cells #[.int .i64 0] 3)).appended (i := 2) rfl HO2.out HG2.out HA2.out); have L3 := hI (hV2 ▸ below_step (i := 2) (v' := u2) (L2.out.alloc (by omega) (.cells #[.int .i64 0] 3)) (by simp; omega) ((F2.out.alloc (.cells #[.int .i64 0] 3)).own 2 _ _ rfl rfl) (by omega) HG2.out (by omega)); clear hV2; have s2 := F3.out.lt; have c20 := F3.out.cell 1; have c21 := F3.out.cell 2; have c22 := F3.out.cell 3; simp only [List.set_cons_succ, List.set_cons_zero, List.getElem?_cons_succ, List.getElem?_cons_zero] at c20 c21 c22)
        | (at_builtin; refine wpList_append_own_at _ rfl (.tmp 26) (.tmp 27) _ rfl (w.heap.size + 2) 4 i4 (.bool false) 1 1 Tryz.underlying71 hi4.out hz4.out hs4.out hb4.out rfl (by decide) v3 _ _ rfl ((F3.out.alloc (.cells #[.bool false] 4)).own 3 _ _ rfl rfl) ⟨V3.heap.size, 0, none⟩ 1 1 [.bool false] rfl rfl (new_cells _ _ _ _ rfl) (by simp [Value.oneCell']) (by simp [boos, maxLen]; omega) (by simp [boos]; omega) (by simp; omega) ?_; intro u3 W3 ho3 hg3 hz3 ha3; clear hz3; have HO3 := hI ho3; have HG3 := hI hg3; have HA3 := hI ha3; clear ho3 hg3 ha3)
        | (refine wpList_store1 rfl 71 (.tmp 29) (.tmp 28) rfl ⟨w.heap.size + 1, 3, none⟩ rfl u3 v3 rfl (own_one HO3.out) info52 ((F3.out.alloc (.cells #[.bool false] 4)).mid (i := 3) rfl HG3.out 3).1 ((F3.out.alloc (.cells #[.bool false] 4)).mid (i := 3) rfl HG3.out 3).2 rfl ?_; intro V4 hV3; have F4 := hI (hV3 ▸ (F3.out.alloc (.cells #[.bool false] 4)).appended (i := 3) rfl HO3.out HG3.out HA3.out); have L4 := hI (hV3 ▸ below_step (i := 3) (v' := u3) (L3.out.alloc (by omega) (.cells #[.bool false] 4)) (by simp; omega) ((F3.out.alloc (.cells #[.bool false] 4)).own 3 _ _ rfl rfl) (by omega) HG3.out (by omega)); clear hV3; have s3 := F4.out.lt; have c30 := F4.out.cell 1; have c31 := F4.out.cell 2; have c32 := F4.out.cell 3; simp only [List.set_cons_succ, List.set_cons_zero, List.getElem?_cons_succ, List.getElem?_cons_zero] at c30 c31 c32))
      refine ⟨⟨k + 1, by omega, by go_num, ⟨u0, u1, u2, u3, ?_⟩, L4.out⟩, by simp [intOf]; omega⟩
      rw [rowsN_succ]
      exact F4.out
    · obtain ⟨v0, v1, v2, v3, hf⟩ := hF.out
      have F0 := hI hf
      have hres : wr.heap[w.heap.size]? = some (.cells #[.slice none 0 0, .slice none 0 0, .slice none 0 0, .slice none 0 0] 73 (0, 0)) := by
        rw [hb.out.block _ (by omega), ← HW1.out, Below.heap_alloc _ _ _ (by simp), heap_alloc_new]
      have HRES := hI hres
      have hcs : CellsAt wr ⟨w.heap.size + 1, 0, none⟩ [v0, v1, v2, v3] := fun j v hv => by
        rw [Addr.add_lit, Nat.zero_add, hf.cell j, hv]
      have HCS := hI hcs
      have hone : (#[v0, v1, v2, v3] : Array Value).all (·.oneCell') = true := by
        simp [own_one (hf.own 0 v0 _ rfl rfl), own_one (hf.own 1 v1 _ rfl rfl), own_one (hf.own 2 v2 _ rfl rfl), own_one (hf.own 3 v3 _ rfl rfl)]
      have HONE := hI hone
      clear hf hres hcs hone
      go_wp2_with (first
        | (refine wpList_load_cells rfl 73 _ rfl ⟨w.heap.size + 1, 0, none⟩ rfl [v0, v1, v2, v3] Tryz.underlying73 rfl info54 HCS.out ?_)
        | (refine wpList_store_row rfl 73 (.tmp 2) (.tmp 30) rfl w.heap.size #[v0, v1, v2, v3] rfl rfl 73 _ HRES.out info54 rfl HONE.out ?_))
      have hg2 : (wr.setRow w.heap.size #[v0, v1, v2, v3]).heap[w.heap.size]? = some (.cells #[v0, v1, v2, v3] 73 (0, 0)) := setRow_heap _ _ _ _ _ _ HRES.out
      refine bodyPost_ret (results_cell_row rfl _ _ w.heap.size 73 _ (0, 0) _ rfl hg2 Tryz.underlying73 rfl info54) rfl ?_
      obtain rfl : k = n := by omega
      refine ⟨v0, v1, v2, v3, w.heap.size + 1, rfl, F0.out.keep (fun j hj _ => setRow_other _ _ _ _ (by omega)), ?_⟩
      have hw : Below w.heap.size w w1 := by rw [← HW1.out]; exact ((Below.refl _ _).alloc (Nat.le_refl _) _).alloc (by simp) _
      exact (hw.trans (hb.out.mono (by omega))).trans ⟨rfl, rfl, rfl, by simp, fun j hj => setRow_other _ _ _ _ (by omega)⟩
end Go.Proofs.YtbmpidacoohdmaaGreat.Rn
namespace Go.Proofs.YtbmpidacoohdmaaGreat.Rn
open Lib renaming hid → hI
open Go.RowKit
attribute [local go_sem] row_drew row_drewN free_drew free_drewN row_alloc_at row_alloc_past free_alloc_at free_alloc_past
  Chg.get0 Chg.get1 Chg.get2 Chg.get3 Chg.get4 Chg.at0 Chg.at1 Chg.at2 Chg.at3 Chg.at4 Chg.row_size Chg.row_one

set_option maxHeartbeats 400000 in
theorem rnamed_any (w : World) (x y : Chg) (hx : x.ok) (hy : y.ok) :
    Calls Tryz.prog 54 #[.agg x.row, .agg y.row] w fun e w' => e = .returned (.bool ((baseB x.old).toList == (baseB y.new).toList)) ∧ Below w.heap.size w w' := by
  have zx := hx.old
  have zy := hy.new
  have hcx := fun W => rbase_any x.old W zx
  have hcy := fun W => rbase_any y.new W zy
  have HX := hI hcx
  have HY := hI hcy
  clear hcx hcy
  go_enter Tryz.func54, Tryz.ntmps54
  go_wp2_with fail
  go_quiet ((first | (go_at_call_of 108 (Value.string x.old); exact quiet_same (HX.out _)) | (go_at_call_of 108 (Value.string y.new); exact quiet_same (HY.out _))))
  go_wp2
  go_ret
  exact ⟨rfl, (((Below.refl _ _).alloc (Nat.le_refl _) _).alloc (by simp) _).trans ⟨rfl, rfl, rfl, Nat.le_refl _, fun _ _ => rfl⟩⟩
end Go.Proofs.YtbmpidacoohdmaaGreat.Rn
namespace Go.Proofs.YtbmpidacoohdmaaGreat.Rn
open Lib renaming hid → hI
open Go.RowKit

/-- A world behind w: all that lay in w lies there as it did. -/
structure Aft (w : World) where
  W : World
  h : Below w.heap.size w W

instance (w : World) : Nonempty (Aft w) := ⟨⟨w, Below.refl _ _⟩⟩

section
variable {P : Program} {w : World}
theorem Aft.later (W : Aft w) : Later w W.W := later_of_below W.h (Nat.le_refl _)
theorem Aft.cell (W : Aft w) {p : Addr} (hp : p.block < w.heap.size) : W.W.cell? p = w.cell? p := W.h.cell hp
def Aft.up (W1 : Aft w) (W : Aft W1.W) : Aft w := ⟨W.W, W1.h.trans (W.h.mono W1.h.size)⟩
theorem wp_region_aft {id : Nat} {Q : Exit → Act → World → Prop} {a : Act} {l : List Oper} (hm : P.follows .mixedOrders = true) (hB : Region.lexB .any l.toArray = true)
    (h : wpQuiet P l.toArray (fun w' => ∃ W : Aft w, w' = W.W) (fun a' => ∀ w', (∃ W : Aft w, w' = W.W) → Q .normal a' w') l a) : (Code.region id l.toArray true).wp P Q a w :=
  wp_region_quiet (C := fun w' => ∃ W : Aft w, w' = W.W) hm hB ⟨⟨w.drew, ⟨rfl, rfl, rfl, Nat.le_refl _, fun _ _ => rfl⟩⟩, rfl⟩ (by simpa using h)
theorem aft_call {f : FuncId} {args : Array Value} {v : Value} {W : Aft w} (h : Calls P f args W.W fun e w' => e = .returned v ∧ Below W.W.heap.size W.W w') :
    Calls P f args W.W fun e w'' => e = .returned v ∧ ∃ W' : Aft w, w'' = W'.W :=
  h.mono fun _ w'' ⟨he, hb⟩ => ⟨he, ⟨⟨w'', W.h.trans (hb.mono W.h.size)⟩, rfl⟩⟩
end
end Go.Proofs.YtbmpidacoohdmaaGreat.Rn
namespace Go.Proofs.YtbmpidacoohdmaaGreat.Rn
open Lib renaming hid → hI
open Go.RowKit
attribute [local go_sem ↓] load44_eq load46_eq
attribute [local go_sem] later_refl later_drew_iff later_drewN_iff later_a1 later_a2 later_a3 later_a4

def cand (l : List Chg) (s : St) (k i : Nat) : Bool := isSource l s i && decide ((l.getD i default).oid = (l.getD k default).nid)
def refNext (l : List Chg) (s : St) (k : Nat) (a : Int) (i : Nat) : Int :=
  if cand l s k i then (if a < 0 then (i : Int) else if isNamed l i k && !isNamed l a.toNat k then (i : Int) else a) else a
def refAt (l : List Chg) (s : St) (k : Nat) : Nat → Int
  | 0 => -1
  | i + 1 => refNext l s k (refAt l s k i) i
def refStep (l : List Chg) (s : St) (k : Nat) : St :=
  if (l.getD k default).kind = 1 then (if 0 ≤ refAt l s k l.length then pairS s (refAt l s k l.length).toNat k else s) else s
  where pairS (s : St) (src tgt : Nat) : St := ⟨s.fr.set tgt src, s.sc.set tgt 1000, s.kd.set tgt 4, s.tk.set src true⟩
def refTo (l : List Chg) : Nat → St
  | 0 => st0 l.length (-1)
  | k + 1 => refStep l (refTo l k) k
  where st0 (n : Nat) (f0 : Int) : St := ⟨List.replicate n f0, List.replicate n 0, List.replicate n 0, List.replicate n false⟩
def rowsS (s : St) : List (TypeId × List Value) := rows4 s.fr s.kd s.sc s.tk

theorem info3c : (Tryz.prog.info? 3).map (·.size) = some 1 := by kernel_rfl
theorem info4c : (Tryz.prog.info? 4).map (·.size) = some 1 := by kernel_rfl
theorem ints_set (l : List Int) (k : Nat) (x : Int) : ints (l.set k x) = (ints l).set k (.int .i64 x) := by simp [ints, List.map_set]
theorem boos_set (l : List Bool) (k : Nat) (x : Bool) : boos (l.set k x) = (boos l).set k (.bool x) := by simp [boos, List.map_set]
theorem refTo_len (l : List Chg) (k : Nat) : (refTo l k).fr.length = l.length ∧ (refTo l k).sc.length = l.length ∧ (refTo l k).kd.length = l.length ∧ (refTo l k).tk.length = l.length := by
  induction k with
  | zero => simp [refTo, refTo.st0]
  | succ k ih =>
    unfold refTo refStep
    split
    · split
      · simpa [refStep.pairS] using ih
      · exact ih
    · exact ih
theorem refAt_bd (l : List Chg) (s : St) (k : Nat) : ∀ i, refAt l s k i = -1 ∨ ∃ j : Nat, j < i ∧ refAt l s k i = j := by
  intro i
  induction i with
  | zero => exact .inl rfl
  | succ i ih =>
    have ih' : refAt l s k i = -1 ∨ ∃ j : Nat, j < i + 1 ∧ refAt l s k i = j := ih.imp id fun ⟨j, h1, h2⟩ => ⟨j, by omega, h2⟩
    unfold refAt refNext
    split
    · split
      · exact .inr ⟨i, by omega, rfl⟩
      · split
        · exact .inr ⟨i, by omega, rfl⟩
        · exact ih'
    · exact ih'

theorem ones4 {w : World} {B g : Nat} {v0 v1 v2 v3 : Value} {r0 r1 r2 r3 : TypeId × List Value} (hf : Flds w B g 73 [v0, v1, v2, v3] [r0, r1, r2, r3]) : (#[v0, v1, v2, v3] : Array Value).all (·.oneCell') = true := by
  simp [own_one (hf.own 0 v0 _ rfl rfl), own_one (hf.own 1 v1 _ rfl rfl), own_one (hf.own 2 v2 _ rfl rfl), own_one (hf.own 3 v3 _ rfl rfl)]

theorem up1 {wr : World} {a : Addr} {cs : List Value} (h : ∀ W : Aft wr, CellsAt W.W a cs) (W1 : Aft wr) : ∀ w', (∃ W : Aft W1.W, w' = W.W) → CellsAt w' a cs := by
  rintro _ ⟨W, rfl⟩
  exact h (W1.up W)

set_option maxRecDepth 100000 in
set_option maxHeartbeats 4000000 in
theorem rexact_any (w : World) (l : List Chg) (A : Option Addr) (c : Nat) (hl : LReads w w.heap.size A l) (ok : ∀ (k : Nat) (x : Chg), l[k]? = some x → x.ok) (hn : l.length ≤ 40) :
    Calls Tryz.prog 22 #[.slice A l.length c] w fun e w' => ∃ v0 v1 v2 v3 B g, e = .returned (.agg #[v0, v1, v2, v3]) ∧ Flds w' B g 73 [v0, v1, v2, v3] (rowsS (refTo l l.length)) ∧ Below w.heap.size w w' ∧ w.heap.size ≤ B := by
  have H := hI (And.intro hl ok)
  clear hl ok
  go_enter Tryz.func22, Tryz.ntmps22
  go_wp2_with (first
    | (go_at_call 53; refine (none_any _ _ hn).mono ?_; rintro e w1 ⟨v0, v1, v2, v3, g0, rfl, hF1, hB1⟩; have HF1 := hI hF1; have HB1 := hI hB1; have HONE := hI (ones4 hF1); clear hF1 hB1)
    | (refine wpList_store_row rfl 73 (.tmp 3) (.tmp 9) rfl w1.heap.size #[v0, v1, v2, v3] rfl rfl 73 _ (heap_alloc_new _ _) info54 rfl HONE.out ?_; rw [setRow_alloc_at _ _ _ _ _ rfl]))
  have hF2 : Flds (w1.alloc (.cells #[v0, v1, v2, v3] 73)) (w.heap.size + 3) w1.heap.size 73 [v0, v1, v2, v3] (rowsS (refTo l 0)) := by
    have h := HF1.out.copied (fun i v hv => HF1.out.below hv)
    simp only [World.size_alloc] at h
    exact h
  have hw1 : w.heap.size < w1.heap.size := by have := HB1.out.size; simp at this; omega
  have hres : (w1.alloc (.cells #[v0, v1, v2, v3] 73)).heap[w.heap.size]? = some (.cells #[.slice none 0 0, .slice none 0 0, .slice none 0 0, .slice none 0 0] 73 (0, 0)) := by
    rw [Below.heap_alloc _ _ _ hw1, HB1.out.block _ (by simp), heap_alloc_new]
  have hbel : Below w.heap.size w (w1.alloc (.cells #[v0, v1, v2, v3] 73)) := (((Below.refl _ _).alloc (Nat.le_refl _) _).trans (HB1.out.mono (by simp))).alloc (by omega) _
  generalize hw2 : w1.alloc (.cells #[v0, v1, v2, v3] 73) = w2 at *
  have hsz2 : w1.heap.size < w2.heap.size := by rw [← hw2]; simp
  have HF2 := hI hF2
  have HRES := hI hres
  have HBEL := hI hbel
  generalize hgg : w1.heap.size = g at *
  clear hF2 hres hbel hw2 hgg
  go_loopw [4] (fun k_ wr => ∃ k : Nat, k ≤ l.length ∧ k_ = .int .i64 k ∧ Hid (Flds wr (w.heap.size + 3) g 73 [v0, v1, v2, v3] (rowsS (refTo l k))) ∧ Hid (Below (w.heap.size + 1) w2 wr)) (fun k_ _ => l.length - (intOf k_).toNat)
  case atStart => exact ⟨0, Nat.zero_le _, rfl, HF2.out, Below.refl _ _⟩
  case round =>
    obtain ⟨k, hk, rfl, hF, hb⟩ := hrel
    by_cases hkl : k < l.length
    · have hww : Below w.heap.size w wr := HBEL.out.trans (hb.out.mono (by omega))
      have hrd : LReads wr w.heap.size A l := H.out.1.keep fun p hp => hww.cell hp
      have hok : (l.getD k default).ok := H.out.2 k _ (by simp [hkl])
      obtain ⟨ad, rfl, hadb, hcs⟩ := hrd k (l.getD k default) (by simp [hkl])
      have hwz : w.heap.size ≤ wr.heap.size := hww.size
      obtain ⟨lF, lS, lK, lT⟩ := refTo_len l k
      have h4 := hF.out
      obtain ⟨F, cF, rfl, _, zF, gF, eF, fF⟩ := h4.at_ (i := 0) (k := k) (v := v0) rfl rfl (int_at (by omega))
      obtain ⟨K, cK, rfl, _, zK, gK, eK, fK⟩ := h4.at_ (i := 1) (k := k) (v := v1) rfl rfl (int_at (by omega))
      obtain ⟨S, cS, rfl, _, zS, gS, eS, fS⟩ := h4.at_ (i := 2) (k := k) (v := v2) rfl rfl (int_at (by omega))
      obtain ⟨T, cT, rfl, _, zT, gT, eT, fT⟩ := h4.at_ (i := 3) (k := k) (v := v3) rfl rfl (boo_at (by omega))
      have hkk : wr.cell? (ad.add (k * 70)) = some (.int .i64 (l.getD k default).kind) := hcs.zero rfl
      by_cases hkind : (l.getD k default).kind = 1
      · rw [hkind] at hkk
        have HKIND := hI hkind
        clear hkind
        obtain ⟨wo, hwo⟩ : ∃ wo : World, wo = wr := ⟨_, rfl⟩
        subst hwo
        have HF4 := hI h4
        have HCS := hI hcs
        have HRD := hI hrd
        have HOK := hI hok
        have HWW := hI hww
        clear h4 hcs hrd hww
        go_wp2
        go_loopw [5, 6] (fun a_ i_ wr => ∃ i : Nat, i ≤ l.length ∧ i_ = .int .i64 i ∧ a_ = .int .i64 (refAt l (refTo l k) k i) ∧ Hid (Below wo.heap.size wo wr)) (fun _ i_ _ => l.length - (intOf i_).toNat)
        case atStart => exact ⟨0, Nat.zero_le _, rfl, rfl, Below.refl _ _⟩
        case round =>
          obtain ⟨i, hi, rfl, rfl, hbi⟩ := hrel
          have hlo : Later wo wr := later_of_below hbi.out (Nat.le_refl _)
          have hwz2 := hlo.size
          clear eF eK eS eT fF fK fS fT hkk
          by_cases hil : i < l.length
          · have hoki : (l.getD i default).ok := H.out.2 i _ (by simp [hil])
            obtain ⟨ad', he', _, hcsi⟩ := HRD.out i (l.getD i default) (by simp [hil])
            obtain rfl : ad = ad' := by injection he'
            have old : ∀ (W : Aft wr) (p : Addr), p.block < wo.heap.size → W.W.cell? p = wo.cell? p := fun W p hp => (W.cell (by omega)).trans (hlo.cell hp)
            have kx : ∀ W : Aft wr, W.W.cell? (ad.add (i * 70)) = some (.int .i64 (l.getD i default).kind) := fun W => (old W _ (by rw [block_add]; omega)).trans (hcsi.zero rfl)
            have ct : ∀ W : Aft wr, W.W.cell? ⟨g, 3, none⟩ = some (.slice (some ⟨T, 0, none⟩) (boos (refTo l k).tk).length cT) := fun W => (old W _ HF4.out.lt).trans (HF4.out.cell 3)
            have et : ∀ W : Aft wr, W.W.cell? ⟨T, i, none⟩ = some (.bool ((refTo l k).tk.getD i false)) := fun W => by
              obtain ⟨T', c', e1, _, _, _, e2, _⟩ := HF4.out.at_ (i := 3) (k := i) rfl rfl (boo_at (xs := (refTo l k).tk) (by omega))
              obtain ⟨rfl, _⟩ : T = T' ∧ cT = c' := by simpa using e1
              exact (old W _ zT).trans e2
            have hlt3 : (boos (refTo l k).tk).length = l.length := by simp [boos, lT]
            rw [hlt3] at ct
            have ho : ∀ w', (∃ W : Aft wr, w' = W.W) → CellsAt w' ⟨(ad.add (i * 70)).block, (ad.add (i * 70)).off + 5, none⟩ (u8s (l.getD i default).oid) := by
              rintro _ ⟨W, rfl⟩
              have hp := (hcsi.part 5).take 32
              rw [Chg.oid_part _ hoki] at hp
              exact hp.keep fun p hp' => old W p (by rw [hp', block_add, block_add]; omega)
            have hn' : ∀ w', (∃ W : Aft wr, w' = W.W) → CellsAt w' ⟨(ad.add (k * 70)).block, (ad.add (k * 70)).off + 37, none⟩ (u8s (l.getD k default).nid) := by
              rintro _ ⟨W, rfl⟩
              have hp := (HCS.out.part 37).take 32
              rw [Chg.nid_part _ hok] at hp
              exact hp.keep fun p hp' => old W p (by rw [hp', block_add, block_add]; omega)
            have hx1 : ∀ W : Aft wr, CellsAt W.W (ad.add (i * 70)) (l.getD i default).cells := fun W => hcsi.keep fun p hp' => old W p (by rw [hp', block_add]; omega)
            have hy1 : ∀ W : Aft wr, CellsAt W.W (ad.add (k * 70)) (l.getD k default).cells := fun W => HCS.out.keep fun p hp' => old W p (by rw [hp', block_add]; omega)
            have hnx : refAt l (refTo l k) k (i + 1) = refNext l (refTo l k) k (refAt l (refTo l k) k i) i := rfl
            unfold refNext cand isSource at hnx
            have hlo2 : (Tryz.prog.info? 51).map (·.size) = some (u8s (l.getD i default).oid).length := by rw [u8s_length, hoki.oid]; exact info44
            have hln2 : (Tryz.prog.info? 51).map (·.size) = some (u8s (l.getD k default).nid).length := by rw [u8s_length, hok.nid]; exact info44
            have hlx : (Tryz.prog.info? 53).map (·.size) = some (l.getD i default).cells.length := by rw [Chg.cells_length _ hoki]; exact info46
            have hly : (Tryz.prog.info? 53).map (·.size) = some (l.getD k default).cells.length := by rw [Chg.cells_length _ hok]; exact info46
            have hq1 : ∀ W, (Op.equalIn 10000 51 (.agg (u8s (l.getD i default).oid).toArray) (.agg (u8s (l.getD k default).nid).toArray)).run Tryz.prog W = .ok (decide ((l.getD i default).oid = (l.getD k default).nid)) W := fun W => run_equalIn_u8s (P := Tryz.prog) (n := 32) W Tryz.underlying51 Tryz.underlying5 (Option.map_eq_some_iff.1 info5).choose_spec.1 (Option.map_eq_some_iff.1 info5).choose_spec.2 9998 _ _ hoki.oid hok.nid
            have hn1 : ∀ W, Calls Tryz.prog 54 #[.agg (l.getD i default).cells.toArray, .agg (l.getD k default).cells.toArray] W fun e w' => e = .returned (.bool (isNamed l i k)) ∧ Below W.heap.size W w' := fun W => rnamed_any W _ _ hoki hok
            have hbd := refAt_bd l (refTo l k) k i
            have hnz : ∀ j, j < l.length → ∀ W, Calls Tryz.prog 54 #[.agg (l.getD j default).cells.toArray, .agg (l.getD k default).cells.toArray] W fun e w' => e = .returned (.bool (isNamed l j k)) ∧ Below W.heap.size W w' := fun j hj W => rnamed_any W _ _ (H.out.2 j _ (by simp [hj])) hok
            have hzz : ∀ j, j < l.length → (∀ W : Aft wr, CellsAt W.W (ad.add (j * 70)) (l.getD j default).cells) ∧ (Tryz.prog.info? 53).map (·.size) = some (l.getD j default).cells.length := fun j hj => by
              obtain ⟨ad', he', _, hcsj⟩ := HRD.out j (l.getD j default) (by simp [hj])
              obtain rfl : ad = ad' := by injection he'
              exact ⟨fun W => hcsj.keep fun p hp' => old W p (by rw [hp', block_add]; omega), by rw [Chg.cells_length _ (H.out.2 j _ (by simp [hj]))]; exact info46⟩
            have HNX := hI hnx
            have HO := hI ho
            have HN := hI hn'
            have HLO := hI hlo2
            have HLN := hI hln2
            have HX1 := hI hx1
            have HY1 := hI hy1
            have HLX := hI hlx
            have HLY := hI hly
            have HN1 := hI hn1
            have HNZ := hI hnz
            have HZZ := hI hzz
            have HBD := hI hbd
            clear hnx ho hn' hlo2 hln2 hx1 hy1 hlx hly hn1 hnz hzz hbd old hcsi he' hlt3
            generalize l.getD i default = x at *
            generalize l.getD k default = y at *
            generalize (refTo l k).tk.getD i false = t at *
            generalize isNamed l i k = nb1 at *
            by_cases hkd : x.kind = 2
            · have hkd' : (x.kind != 2) = false := by simpa using hkd
              cases t with
              | true =>
                go_wp2_with fail
                refine wp_region_aft (by kernel_rfl) (by kernel_rfl) ?_
                repeat (first
                  | (go_big_quiet_want; refine quiet_load_cells 51 _ rfl _ rfl (u8s x.oid) Tryz.underlying51 rfl HLO.out HO.out ?_; simp only [Act.put, List.setIfInBounds_toArray, List.set_cons_succ, List.set_cons_zero]; go_big_quiet_on)
                  | (go_big_quiet_want; refine quiet_load_cells 51 _ rfl _ rfl (u8s y.nid) Tryz.underlying51 rfl HLN.out HN.out ?_; simp only [Act.put, List.setIfInBounds_toArray, List.set_cons_succ, List.set_cons_zero]; go_big_quiet_on)
                  | go_big_quiet_step (fail))
                refine wpQuiet_nil ?_
                rintro _ ⟨W1, rfl⟩
                go_wp2
                refine ⟨⟨i + 1, by omega, by go_num, ?_, ?_⟩, by simp [intOf]; omega⟩
                · rw [HNX.out]
                  simp [*]
                · exact (hbi.out.trans (W1.h.mono (by omega)) : _)
              | false =>
                by_cases hxy : decide (x.oid = y.nid) = true
                · rw [hxy] at hq1
                  rcases HBD.out with ha | ⟨j, hj, ha⟩
                  · rw [ha] at HNX ⊢
                    clear HBD
                    go_wp2_with fail
                    refine wp_region_aft (by kernel_rfl) (by kernel_rfl) ?_
                    repeat (first
                      | (go_big_quiet_want; refine quiet_load_cells 51 _ rfl _ rfl (u8s x.oid) Tryz.underlying51 rfl HLO.out HO.out ?_; simp only [Act.put, List.setIfInBounds_toArray, List.set_cons_succ, List.set_cons_zero]; go_big_quiet_on)
                      | (go_big_quiet_want; refine quiet_load_cells 51 _ rfl _ rfl (u8s y.nid) Tryz.underlying51 rfl HLN.out HN.out ?_; simp only [Act.put, List.setIfInBounds_toArray, List.set_cons_succ, List.set_cons_zero]; go_big_quiet_on)
                      | go_big_quiet_step (fail))
                    refine wpQuiet_nil ?_
                    rintro _ ⟨W1, rfl⟩
                    go_wp2_with fail
                    refine wp_region_aft (by kernel_rfl) (by kernel_rfl) ?_
                    repeat (first
                      | (go_big_quiet_want; refine quiet_load_cells 53 _ rfl _ rfl x.cells Tryz.underlying53 rfl HLX.out (up1 HX1.out W1) ?_; simp only [Act.put, List.setIfInBounds_toArray, List.set_cons_succ, List.set_cons_zero]; go_big_quiet_on)
                      | (go_big_quiet_want; refine quiet_load_cells 53 _ rfl _ rfl y.cells Tryz.underlying53 rfl HLY.out (up1 HY1.out W1) ?_; simp only [Act.put, List.setIfInBounds_toArray, List.set_cons_succ, List.set_cons_zero]; go_big_quiet_on)
                      | go_big_quiet_step (fail))
                    refine wpQuiet_nil ?_
                    rintro _ ⟨W2, rfl⟩
                    go_wp2
                    refine ⟨⟨i + 1, by omega, by go_num, ?_, ?_⟩, by simp [intOf]; omega⟩
                    · rw [HNX.out]
                      simp [*]
                    · exact (hbi.out.trans ((W1.h.trans (W2.h.mono W1.h.size)).mono (by omega)) : _)
                  · rw [ha] at HNX ⊢
                    obtain ⟨hz1, hlz⟩ := HZZ.out j (by omega)
                    have hn2 := HNZ.out j (by omega)
                    have HZ1 := hI hz1
                    have HLZ := hI hlz
                    have HN2 := hI hn2
                    clear hz1 hlz hn2 HBD HNZ HZZ
                    rw [Int.toNat_natCast] at HNX
                    generalize l.getD j default = z at *
                    generalize isNamed l j k = nb2 at *
                    have hj0 : ¬ ((j : Int) < 0) := by omega
                    have hj1 : decide ((j : Int) < 0) = false := by simp
                    cases nb1 with
                    | false =>
                      go_wp2_with fail
                      refine wp_region_aft (by kernel_rfl) (by kernel_rfl) ?_
                      repeat (first
                        | (go_big_quiet_want; refine quiet_load_cells 51 _ rfl _ rfl (u8s x.oid) Tryz.underlying51 rfl HLO.out HO.out ?_; simp only [Act.put, List.setIfInBounds_toArray, List.set_cons_succ, List.set_cons_zero]; go_big_quiet_on)
                        | (go_big_quiet_want; refine quiet_load_cells 51 _ rfl _ rfl (u8s y.nid) Tryz.underlying51 rfl HLN.out HN.out ?_; simp only [Act.put, List.setIfInBounds_toArray, List.set_cons_succ, List.set_cons_zero]; go_big_quiet_on)
                        | go_big_quiet_step (fail))
                      refine wpQuiet_nil ?_
                      rintro _ ⟨W1, rfl⟩
                      go_wp2_with fail
                      refine wp_region_aft (by kernel_rfl) (by kernel_rfl) ?_
                      repeat (first
                        | (go_big_quiet_want; refine quiet_load_cells 53 _ rfl _ rfl x.cells Tryz.underlying53 rfl HLX.out (up1 HX1.out W1) ?_; simp only [Act.put, List.setIfInBounds_toArray, List.set_cons_succ, List.set_cons_zero]; go_big_quiet_on)
                        | (go_big_quiet_want; refine quiet_load_cells 53 _ rfl _ rfl y.cells Tryz.underlying53 rfl HLY.out (up1 HY1.out W1) ?_; simp only [Act.put, List.setIfInBounds_toArray, List.set_cons_succ, List.set_cons_zero]; go_big_quiet_on)
                        | go_big_quiet_step ((with_reducible exact aft_call (HN1.out _))))
                      refine wpQuiet_nil ?_
                      rintro _ ⟨W2, rfl⟩
                      go_wp2
                      refine ⟨⟨i + 1, by omega, by go_num, ?_, ?_⟩, by simp [intOf]; omega⟩
                      · rw [HNX.out]
                        simp [*]
                        omega
                      · exact (hbi.out.trans ((W1.h.trans (W2.h.mono W1.h.size)).mono (by omega)) : _)
                    | true =>
                      cases nb2 with
                      | true =>
                        go_wp2_with fail
                        refine wp_region_aft (by kernel_rfl) (by kernel_rfl) ?_
                        repeat (first
                          | (go_big_quiet_want; refine quiet_load_cells 51 _ rfl _ rfl (u8s x.oid) Tryz.underlying51 rfl HLO.out HO.out ?_; simp only [Act.put, List.setIfInBounds_toArray, List.set_cons_succ, List.set_cons_zero]; go_big_quiet_on)
                          | (go_big_quiet_want; refine quiet_load_cells 51 _ rfl _ rfl (u8s y.nid) Tryz.underlying51 rfl HLN.out HN.out ?_; simp only [Act.put, List.setIfInBounds_toArray, List.set_cons_succ, List.set_cons_zero]; go_big_quiet_on)
                          | go_big_quiet_step (fail))
                        refine wpQuiet_nil ?_
                        rintro _ ⟨W1, rfl⟩
                        go_wp2_with fail
                        refine wp_region_aft (by kernel_rfl) (by kernel_rfl) ?_
                        repeat (first
                          | (go_big_quiet_want; refine quiet_load_cells 53 _ rfl _ rfl x.cells Tryz.underlying53 rfl HLX.out (up1 HX1.out W1) ?_; simp only [Act.put, List.setIfInBounds_toArray, List.set_cons_succ, List.set_cons_zero]; go_big_quiet_on)
                          | (go_big_quiet_want; refine quiet_load_cells 53 _ rfl _ rfl y.cells Tryz.underlying53 rfl HLY.out (up1 HY1.out W1) ?_; simp only [Act.put, List.setIfInBounds_toArray, List.set_cons_succ, List.set_cons_zero]; go_big_quiet_on)
                          | (go_big_quiet_want; refine quiet_load_cells 53 _ rfl _ rfl z.cells Tryz.underlying53 rfl HLZ.out (up1 HZ1.out W1) ?_; simp only [Act.put, List.setIfInBounds_toArray, List.set_cons_succ, List.set_cons_zero]; go_big_quiet_on)
                          | go_big_quiet_step ((first | (with_reducible exact aft_call (HN1.out _)) | (with_reducible exact aft_call (HN2.out _)))))
                        refine wpQuiet_nil ?_
                        rintro _ ⟨W2, rfl⟩
                        go_wp2
                        refine ⟨⟨i + 1, by omega, by go_num, ?_, ?_⟩, by simp [intOf]; omega⟩
                        · rw [HNX.out]
                          simp [*]
                          omega
                        · exact (hbi.out.trans ((W1.h.trans (W2.h.mono W1.h.size)).mono (by omega)) : _)
                      | false =>
                        go_wp2_with fail
                        refine wp_region_aft (by kernel_rfl) (by kernel_rfl) ?_
                        repeat (first
                          | (go_big_quiet_want; refine quiet_load_cells 51 _ rfl _ rfl (u8s x.oid) Tryz.underlying51 rfl HLO.out HO.out ?_; simp only [Act.put, List.setIfInBounds_toArray, List.set_cons_succ, List.set_cons_zero]; go_big_quiet_on)
                          | (go_big_quiet_want; refine quiet_load_cells 51 _ rfl _ rfl (u8s y.nid) Tryz.underlying51 rfl HLN.out HN.out ?_; simp only [Act.put, List.setIfInBounds_toArray, List.set_cons_succ, List.set_cons_zero]; go_big_quiet_on)
                          | go_big_quiet_step (fail))
                        refine wpQuiet_nil ?_
                        rintro _ ⟨W1, rfl⟩
                        go_wp2_with fail
                        refine wp_region_aft (by kernel_rfl) (by kernel_rfl) ?_
                        repeat (first
                          | (go_big_quiet_want; refine quiet_load_cells 53 _ rfl _ rfl x.cells Tryz.underlying53 rfl HLX.out (up1 HX1.out W1) ?_; simp only [Act.put, List.setIfInBounds_toArray, List.set_cons_succ, List.set_cons_zero]; go_big_quiet_on)
                          | (go_big_quiet_want; refine quiet_load_cells 53 _ rfl _ rfl y.cells Tryz.underlying53 rfl HLY.out (up1 HY1.out W1) ?_; simp only [Act.put, List.setIfInBounds_toArray, List.set_cons_succ, List.set_cons_zero]; go_big_quiet_on)
                          | (go_big_quiet_want; refine quiet_load_cells 53 _ rfl _ rfl z.cells Tryz.underlying53 rfl HLZ.out (up1 HZ1.out W1) ?_; simp only [Act.put, List.setIfInBounds_toArray, List.set_cons_succ, List.set_cons_zero]; go_big_quiet_on)
                          | go_big_quiet_step ((first | (with_reducible exact aft_call (HN1.out _)) | (with_reducible exact aft_call (HN2.out _)))))
                        refine wpQuiet_nil ?_
                        rintro _ ⟨W2, rfl⟩
                        go_wp2
                        refine ⟨⟨i + 1, by omega, by go_num, ?_, ?_⟩, by simp [intOf]; omega⟩
                        · rw [HNX.out]
                          simp [*]
                        · exact (hbi.out.trans ((W1.h.trans (W2.h.mono W1.h.size)).mono (by omega)) : _)
                · have hxy : decide (x.oid = y.nid) = false := by simpa using hxy
                  rw [hxy] at hq1
                  go_wp2_with fail
                  refine wp_region_aft (by kernel_rfl) (by kernel_rfl) ?_
                  repeat (first
                    | (go_big_quiet_want; refine quiet_load_cells 51 _ rfl _ rfl (u8s x.oid) Tryz.underlying51 rfl HLO.out HO.out ?_; simp only [Act.put, List.setIfInBounds_toArray, List.set_cons_succ, List.set_cons_zero]; go_big_quiet_on)
                    | (go_big_quiet_want; refine quiet_load_cells 51 _ rfl _ rfl (u8s y.nid) Tryz.underlying51 rfl HLN.out HN.out ?_; simp only [Act.put, List.setIfInBounds_toArray, List.set_cons_succ, List.set_cons_zero]; go_big_quiet_on)
                    | go_big_quiet_step (fail))
                  refine wpQuiet_nil ?_
                  rintro _ ⟨W1, rfl⟩
                  go_wp2
                  refine ⟨⟨i + 1, by omega, by go_num, ?_, ?_⟩, by simp [intOf]; omega⟩
                  · rw [HNX.out]
                    simp [*]
                  · exact (hbi.out.trans (W1.h.mono (by omega)) : _)
            · have hkd' : (x.kind != 2) = true := by simpa using hkd
              go_wp2_with fail
              refine wp_region_aft (by kernel_rfl) (by kernel_rfl) ?_
              repeat (first
                | (go_big_quiet_want; refine quiet_load_cells 51 _ rfl _ rfl (u8s x.oid) Tryz.underlying51 rfl HLO.out HO.out ?_; simp only [Act.put, List.setIfInBounds_toArray, List.set_cons_succ, List.set_cons_zero]; go_big_quiet_on)
                | (go_big_quiet_want; refine quiet_load_cells 51 _ rfl _ rfl (u8s y.nid) Tryz.underlying51 rfl HLN.out HN.out ?_; simp only [Act.put, List.setIfInBounds_toArray, List.set_cons_succ, List.set_cons_zero]; go_big_quiet_on)
                | go_big_quiet_step (fail))
              refine wpQuiet_nil ?_
              rintro _ ⟨W1, rfl⟩
              go_wp2
              refine ⟨⟨i + 1, by omega, by go_num, ?_, ?_⟩, by simp [intOf]; omega⟩
              · rw [HNX.out]
                simp [*]
              · exact (hbi.out.trans (W1.h.mono (by omega)) : _)
          · obtain rfl : i = l.length := by omega
            have hG0 := HF4.out.later hlo
            have G0 := hI hG0
            have M0 := hI (hb.out.trans (hbi.out.mono (by have := hb.out.size; have := HF4.out.lt; omega)))
            have hstp : refTo l (k + 1) = if 0 ≤ refAt l (refTo l k) k l.length then refStep.pairS (refTo l k) (refAt l (refTo l k) k l.length).toNat k else refTo l k := by
              show refStep l (refTo l k) k = _
              unfold refStep
              rw [if_pos HKIND.out]
            have hbd := refAt_bd l (refTo l k) k l.length
            have HSTP := hI hstp
            clear hstp hG0
            generalize refAt l (refTo l k) k l.length = a at *
            rcases hbd with rfl | ⟨j, hj, rfl⟩
            · go_wp2
              refine ⟨⟨k + 1, by omega, by go_num, ?_, M0.out⟩, by simp [intOf]; omega⟩
              rw [show refTo l (k + 1) = refTo l k by rw [HSTP.out]; rfl]
              exact G0.out
            · have hle0 : (ints (refTo l k).fr).length = l.length := by simp [ints, lF]
              have hle1 : (ints (refTo l k).kd).length = l.length := by simp [ints, lK]
              have hle2 : (ints (refTo l k).sc).length = l.length := by simp [ints, lS]
              have hle3 : (boos (refTo l k).tk).length = l.length := by simp [boos, lT]
              have E0 := hI (G0.out.elem (i := 0) (k := k) rfl rfl (int_at (xs := (refTo l k).fr) (by omega)))
              have d0 := G0.out.cell 0
              simp only [List.getElem?_cons_zero, hle0] at d0
              have s0 := G0.out.lt
              go_wp2_with (first
                | (refine wpList_store1 rfl 3 (.tmp 86) (.tmp 85) rfl ⟨F, k, none⟩ rfl (.int .i64 (j : Int)) _ rfl rfl info3c E0.out.1 E0.out.2.1 rfl ?_; intro V1 hV1; have G1 := hI (hV1 ▸ G0.out.stored (i := 0) (k := k) (x := .int .i64 (j : Int)) rfl rfl); have M1 := hI (hV1 ▸ M0.out.setCell (p := ⟨F, k, none⟩) (by have := E0.out.2.2.1; simp only; omega) (.int .i64 (j : Int))); clear hV1; have E1 := hI (G1.out.elem (i := 1) (k := k) rfl rfl (int_at (xs := (refTo l k).kd) (by omega))); have d1 := G1.out.cell 1; simp only [List.getElem?_cons_succ, List.getElem?_cons_zero, hle1] at d1; have s1 := G1.out.lt)
                | (refine wpList_store1 rfl 3 (.tmp 90) (.const (.int .i64 4)) rfl ⟨K, k, none⟩ rfl (.int .i64 4) _ rfl rfl info3c E1.out.1 E1.out.2.1 rfl ?_; intro V2 hV2; have G2 := hI (hV2 ▸ G1.out.stored (i := 1) (k := k) (x := .int .i64 4) rfl rfl); have M2 := hI (hV2 ▸ M1.out.setCell (p := ⟨K, k, none⟩) (by have := E1.out.2.2.1; simp only; omega) (.int .i64 4)); clear hV2; have E2 := hI (G2.out.elem (i := 2) (k := k) rfl rfl (int_at (xs := (refTo l k).sc) (by omega))); have d2 := G2.out.cell 2; simp only [List.getElem?_cons_succ, List.getElem?_cons_zero, hle2] at d2; have s2 := G2.out.lt)
                | (refine wpList_store1 rfl 3 (.tmp 94) (.const (.int .i64 1000)) rfl ⟨S, k, none⟩ rfl (.int .i64 1000) _ rfl rfl info3c E2.out.1 E2.out.2.1 rfl ?_; intro V3 hV3; have G3 := hI (hV3 ▸ G2.out.stored (i := 2) (k := k) (x := .int .i64 1000) rfl rfl); have M3 := hI (hV3 ▸ M2.out.setCell (p := ⟨S, k, none⟩) (by have := E2.out.2.2.1; simp only; omega) (.int .i64 1000)); clear hV3; have E3 := hI (G3.out.elem (i := 3) (k := j) rfl rfl (boo_at (xs := (refTo l k).tk) (by omega))); have d3 := G3.out.cell 3; simp only [List.getElem?_cons_succ, List.getElem?_cons_zero, hle3] at d3; have s3 := G3.out.lt)
                | (refine wpList_store1 rfl 4 (.tmp 98) (.const (.bool true)) rfl ⟨T, j, none⟩ rfl (.bool true) _ rfl rfl info4c E3.out.1 E3.out.2.1 rfl ?_; intro V4 hV4; have G4 := hI (hV4 ▸ G3.out.stored (i := 3) (k := j) (x := .bool true) rfl rfl); have M4 := hI (hV4 ▸ M3.out.setCell (p := ⟨T, j, none⟩) (by have := E3.out.2.2.1; simp only; omega) (.bool true)); clear hV4))
              refine ⟨⟨k + 1, by omega, by go_num, ?_, M4.out⟩, by simp [intOf]; omega⟩
              rw [show refTo l (k + 1) = refStep.pairS (refTo l k) j k by rw [HSTP.out]; simp]
              have h := G4.out
              simp only [rowsS, rows4, refStep.pairS, ints_set, boos_set]
              exact h
      · have hbk : ((l.getD k default).kind != 1) = true := by simpa using hkind
        have hst : refTo l (k + 1) = refTo l k := by
          show refStep l (refTo l k) k = _
          unfold refStep
          rw [if_neg hkind]
        have HST := hI hst
        generalize (l.getD k default).kind = kk at *
        clear hst hcs hrd hww h4 hkind eF eK eS eT fF fK fS fT
        go_wp2
        refine ⟨⟨k + 1, by omega, by go_num, ?_, hb⟩, by simp [intOf]; omega⟩
        rw [HST.out]
        exact hF
    · have hf := hF.out
      have hres : wr.heap[w.heap.size]? = some (.cells #[.slice none 0 0, .slice none 0 0, .slice none 0 0, .slice none 0 0] 73 (0, 0)) := (hb.out.block _ (by omega)).trans HRES.out
      have HRS := hI hres
      have hcs : CellsAt wr ⟨g, 0, none⟩ [v0, v1, v2, v3] := fun j v hv => by
        rw [Addr.add_lit, Nat.zero_add, hf.cell j, hv]
      have HCS := hI hcs
      clear hf hres hcs
      go_wp2_with (first
        | (refine wpList_load_cells rfl 73 _ rfl ⟨g, 0, none⟩ rfl [v0, v1, v2, v3] Tryz.underlying73 rfl info54 HCS.out ?_)
        | (refine wpList_store_row rfl 73 (.tmp 2) (.tmp 99) rfl w.heap.size #[v0, v1, v2, v3] rfl rfl 73 _ HRS.out info54 rfl (ones4 hF.out) ?_))
      have hg2 : (wr.setRow w.heap.size #[v0, v1, v2, v3]).heap[w.heap.size]? = some (.cells #[v0, v1, v2, v3] 73 (0, 0)) := setRow_heap _ _ _ _ _ _ HRS.out
      refine bodyPost_ret (results_cell_row rfl _ _ w.heap.size 73 _ (0, 0) _ rfl hg2 Tryz.underlying73 rfl info54) rfl ?_
      obtain rfl : k = l.length := by omega
      refine ⟨v0, v1, v2, v3, w.heap.size + 3, g, rfl, hF.out.keep (fun j hj _ => setRow_other _ _ _ _ (by omega)), ?_⟩
      exact ⟨(HBEL.out.trans (hb.out.mono (by omega))).trans ⟨rfl, rfl, rfl, by simp, fun j hj => setRow_other _ _ _ _ (by omega)⟩, by omega⟩
end Go.Proofs.YtbmpidacoohdmaaGreat.Rn
namespace Go.Proofs.YtbmpidacoohdmaaGreat.Rn
open Lib renaming hid → hI
open Go.RowKit

theorem own_rd {w : World} {B : Nat} {e : TypeId} {v : Value} {xs : List Value} (h : w.ownsRow B e 1 v xs.length xs) : ∃ A c, v = .slice A xs.length c ∧ Rd w A xs := by
  rcases h.2 with ⟨rfl, h0⟩ | ⟨b, cap, cur, rfl, hb, hh, hrest⟩
  · have hx : xs = [] := List.eq_nil_of_length_eq_zero h0
    subst hx
    exact ⟨none, 0, rfl, fun k x hx => by simp at hx⟩
  · refine ⟨some ⟨b, 0, none⟩, cap, rfl, fun k x hx => ⟨⟨b, 0, none⟩, rfl, (Array.getElem?_eq_some_iff.1 hh).1, ?_⟩⟩
    have hk : k < xs.length := (List.getElem?_eq_some_iff.1 hx).1
    rw [Addr.add_lit, Nat.zero_add, h.cellAt k (by omega)]
    exact hx

theorem exact_prog {w : World} {l : List Chg} {A : Option Addr} {c : Nat} (hl : LReads w w.heap.size A l) (ok : ∀ (k : Nat) (x : Chg), l[k]? = some x → x.ok) (hn : l.length ≤ 40)
    (hfr : ∀ k, 0 < (exactTo l (st0 l.length 0) l.length).kd.getD k 0 → ∃ i : Nat, i < l.length ∧ (exactTo l (st0 l.length 0) l.length).fr.getD k 0 = i) :
    Calls Tryz.prog 26 #[.slice A l.length c] w fun e w' => ∃ v B, e = .returned v ∧ w'.ownsRow B 53 70 v (outTo l (exactTo l (st0 l.length 0) l.length) l.length).length ((outTo l (exactTo l (st0 l.length 0) l.length) l.length).flatMap Chg.cells) ∧ Below w.heap.size w w' := by
  have hs := start_any w A c l hl ok hn
  have HS := hI hs
  have HFR := hI hfr
  clear hs hfr hl ok
  go_enter Tryz.func26, Tryz.ntmps26
  go_wp2_with (first
    | (go_at_call 17; refine HS.out.mono ?_; rintro e w1 ⟨b, F, S, K, T, rfl, hF1, hB1⟩; have G1 := hI hF1; have L1 := hI hB1; clear hF1 hB1)
    | (go_at_call 18; refine (exact_any G1.out).mono ?_; rintro e w2 ⟨rfl, hF2, hB2⟩; have G2 := hI hF2; have L2 := hI hB2; clear hF2 hB2)
    | (go_at_call 21; refine (changes_any G2.out _ rfl HFR.out).mono ?_; rintro e w3 ⟨v, rfl, hO, hB3⟩; have G3 := hI hO; have L3 := hI hB3; clear hO hB3))
  go_ret
  exact ⟨v, _, rfl, G3.out, (L1.out.trans L2.out).trans (L3.out.mono (Nat.le_trans L1.out.size L2.out.size))⟩

end Go.Proofs.YtbmpidacoohdmaaGreat.Rn
namespace Go.Proofs.YtbmpidacoohdmaaGreat.Rn
open Lib renaming hid → hI

theorem ff_bd (p : Nat → Bool) : ∀ m i, firstFrom p m i = -1 ∨ ∃ j : Nat, i ≤ j ∧ j < i + m ∧ p j = true ∧ firstFrom p m i = j := by
  intro m
  induction m with
  | zero => intro i; exact .inl rfl
  | succ m ih =>
    intro i
    unfold firstFrom
    by_cases h : p i = true
    · rw [if_pos h]; exact .inr ⟨i, Nat.le_refl _, by omega, h, rfl⟩
    · rw [if_neg h]
      rcases ih (i + 1) with h1 | ⟨j, h1, h2, h3, h4⟩
      · exact .inl h1
      · exact .inr ⟨j, by omega, by omega, h3, h4⟩
theorem ff_none (p : Nat → Bool) : ∀ m i, firstFrom p m i = -1 → ∀ j, i ≤ j → j < i + m → p j = false := by
  intro m
  induction m with
  | zero => intro i _ j h1 h2; omega
  | succ m ih =>
    intro i h j h1 h2
    unfold firstFrom at h
    by_cases hp : p i = true
    · rw [if_pos hp] at h; omega
    · rw [if_neg hp] at h
      by_cases hj : j = i
      · subst hj; simpa using hp
      · exact ih (i + 1) h j (by omega) (by omega)
theorem ff_snoc (p : Nat → Bool) : ∀ m i, firstFrom p (m + 1) i = if 0 ≤ firstFrom p m i then firstFrom p m i else if p (i + m) then ((i + m : Nat) : Int) else -1 := by
  intro m
  induction m with
  | zero => intro i; simp [firstFrom]
  | succ m ih =>
    intro i
    have e1 : firstFrom p (m + 1 + 1) i = if p i then (i : Int) else firstFrom p (m + 1) (i + 1) := rfl
    have e2 : firstFrom p (m + 1) i = if p i then (i : Int) else firstFrom p m (i + 1) := rfl
    rw [e1, e2, ih (i + 1)]
    by_cases hp : p i = true
    · simp [hp]
    · simp only [hp, if_false, Bool.false_eq_true]
      rw [show i + 1 + m = i + (m + 1) by omega]

theorem hit_true (l : List Chg) (s : St) (k i : Nat) : hit l s k true i = (cand l s k i && isNamed l i k) := by simp [hit, cand]
theorem hit_false (l : List Chg) (s : St) (k i : Nat) : hit l s k false i = cand l s k i := by simp [hit, cand]

theorem refAt_eq (l : List Chg) (s : St) (k : Nat) : ∀ i, refAt l s k i = if firstFrom (hit l s k true) i 0 < 0 then firstFrom (hit l s k false) i 0 else firstFrom (hit l s k true) i 0 := by
  intro i
  induction i with
  | zero => simp [refAt, firstFrom]
  | succ i ih =>
    show refNext l s k (refAt l s k i) i = _
    rw [ff_snoc, ff_snoc, ih]
    simp only [Nat.zero_add, hit_true, hit_false]
    unfold refNext
    rcases ff_bd (hit l s k true) i 0 with hT | ⟨t, _, ht2, ht3, hT⟩
    · have hno := ff_none _ _ _ hT
      rw [hT]
      rcases ff_bd (hit l s k false) i 0 with hb | ⟨b, _, hb2, hb3, hb⟩
      · rw [hb]
        by_cases hc : cand l s k i = true <;> by_cases hn : isNamed l i k = true <;> simp [hc, hn] <;> omega
      · have hnb := hno b (by omega) (by omega)
        rw [hit_true] at hnb
        rw [hit_false] at hb3
        have hnm : isNamed l b k = false := by simpa [hb3] using hnb
        rw [hb]
        by_cases hc : cand l s k i = true <;> by_cases hn : isNamed l i k = true <;> simp [hc, hn, hnm] <;> omega
    · rw [hit_true] at ht3
      have hnm : isNamed l t k = true := by
        simp only [Bool.and_eq_true] at ht3
        exact ht3.2
      rw [hT]
      have ht0 : ¬ ((t : Int) < 0) := by omega
      have ht1 : (0 : Int) ≤ (t : Int) := by omega
      rw [if_neg ht0, if_pos ht1, if_neg ht0]
      by_cases hc : cand l s k i = true
      · rw [if_pos hc, if_neg ht0, Int.toNat_natCast, hnm]
        simp
      · rw [if_neg hc, if_neg ht0]

theorem found_eq (l : List Chg) (s : St) (k : Nat) : foundAt l s k = refAt l s k l.length := (refAt_eq l s k l.length).symm

/-- What the two states agree in. -/
structure Agree (l : List Chg) (s r : St) (k : Nat) : Prop where
  kd : s.kd = r.kd
  sc : s.sc = r.sc
  tk : s.tk = r.tk
  lF : s.fr.length = l.length
  rF : r.fr.length = l.length
  lK : s.kd.length = l.length
  fr : ∀ j, 0 < s.kd.getD j 0 → ∃ i : Nat, i < l.length ∧ s.fr.getD j 0 = i ∧ r.fr.getD j 0 = i
  zero : ∀ j, k ≤ j → s.kd.getD j 0 = 0

theorem refAt_tk (l : List Chg) (s r : St) (k : Nat) (h : s.tk = r.tk) : ∀ i, refAt l s k i = refAt l r k i := by
  intro i
  induction i with
  | zero => rfl
  | succ i ih =>
    show refNext l s k (refAt l s k i) i = refNext l r k (refAt l r k i) i
    rw [ih]
    unfold refNext cand isSource
    rw [h]

theorem agree (l : List Chg) : ∀ k, k ≤ l.length → Agree l (exactTo l (st0 l.length 0) k) (refTo l k) k := by
  intro k
  induction k with
  | zero =>
    intro _
    refine ⟨rfl, rfl, rfl, by simp [exactTo, st0], by simp [refTo, refTo.st0], by simp [exactTo, st0], ?_, ?_⟩
    · intro j hj
      exfalso
      have : (List.replicate l.length (0 : Int)).getD j 0 = 0 := by simp [List.getD_eq_getElem?_getD, List.getElem?_replicate]; split <;> rfl
      simp only [exactTo, st0] at hj
      omega
    · intro j _
      simp [exactTo, st0, List.getD_eq_getElem?_getD, List.getElem?_replicate]
      split <;> rfl
  | succ k ih =>
    intro hk
    have h := ih (by omega)
    show Agree l (exactStep l (exactTo l (st0 l.length 0) k) k) (refStep l (refTo l k) k) (k + 1)
    generalize exactTo l (st0 l.length 0) k = s at *
    generalize refTo l k = r at *
    have hz := h.zero k (Nat.le_refl _)
    unfold exactStep refStep
    by_cases hkind : (l.getD k default).kind = 1
    · have ht : isTarget l s k = true := by simp only [isTarget, hz, hkind]; rfl
      rw [if_pos hkind, if_pos ht, found_eq, refAt_tk l s r k h.tk]
      rcases refAt_bd l r k l.length with ha | ⟨j, hj, ha⟩
      · rw [ha, if_neg (by omega), if_neg (by omega)]
        exact ⟨h.kd, h.sc, h.tk, h.lF, h.rF, h.lK, h.fr, fun j hj => h.zero j (by omega)⟩
      · rw [ha, if_pos (by omega), if_pos (by omega), Int.toNat_natCast]
        refine ⟨by simp [pairSt, refStep.pairS, h.kd], by simp [pairSt, refStep.pairS, h.sc], by simp [pairSt, refStep.pairS, h.tk], by simp [pairSt, h.lF], by simp [refStep.pairS, h.rF], by simp [pairSt, h.lK], ?_, ?_⟩
        · intro m hm
          by_cases hmk : m = k
          · subst hmk
            have hml : m < l.length := by omega
            refine ⟨j, hj, ?_, ?_⟩
            · simp [pairSt, List.getD_eq_getElem?_getD, h.lF, hml]
            · simp [refStep.pairS, List.getD_eq_getElem?_getD, h.rF, hml]
          · have hm' : 0 < s.kd.getD m 0 := by
              simpa [pairSt, List.getD_eq_getElem?_getD, List.getElem?_set_ne (fun e => hmk e.symm)] using hm
            obtain ⟨i, h1, h2, h3⟩ := h.fr m hm'
            refine ⟨i, h1, ?_, ?_⟩
            · simpa [pairSt, List.getD_eq_getElem?_getD, List.getElem?_set_ne (fun e => hmk e.symm)] using h2
            · simpa [refStep.pairS, List.getD_eq_getElem?_getD, List.getElem?_set_ne (fun e => hmk e.symm)] using h3
        · intro m hm
          have hmk : k ≠ m := by omega
          have := h.zero m (by omega)
          simpa [pairSt, List.getD_eq_getElem?_getD, List.getElem?_set_ne hmk] using this
    · have ht : ¬ isTarget l s k = true := by
        intro ht
        simp only [isTarget, Bool.and_eq_true, beq_iff_eq] at ht
        exact hkind ht.1
      rw [if_neg hkind, if_neg ht]
      exact ⟨h.kd, h.sc, h.tk, h.lF, h.rF, h.lK, h.fr, fun j hj => h.zero j (by omega)⟩

theorem new_eq (l : List Chg) {s r : St} {k : Nat} (h : Agree l s r l.length) : newChg l s k = newChg l r k := by
  unfold newChg
  rw [← h.kd, ← h.sc]
  by_cases hk : 0 < s.kd.getD k 0
  · obtain ⟨i, _, h2, h3⟩ := h.fr k hk
    rw [if_pos hk, if_pos hk, h2, h3]
  · rw [if_neg hk, if_neg hk]
theorem out_eq (l : List Chg) {s r : St} (h : Agree l s r l.length) : ∀ k, outTo l s k = outTo l r k := by
  intro k
  induction k with
  | zero => rfl
  | succ k ih => unfold outTo; rw [ih, h.tk, new_eq l h]

theorem same_out (l : List Chg) : outTo l (exactTo l (st0 l.length 0) l.length) l.length = outTo l (refTo l l.length) l.length := out_eq l (agree l l.length (Nat.le_refl _)) _
theorem fr_prog (l : List Chg) : ∀ k, 0 < (exactTo l (st0 l.length 0) l.length).kd.getD k 0 → ∃ i : Nat, i < l.length ∧ (exactTo l (st0 l.length 0) l.length).fr.getD k 0 = i := fun k hk => by
  obtain ⟨i, h1, h2, _⟩ := (agree l l.length (Nat.le_refl _)).fr k hk
  exact ⟨i, h1, h2⟩
theorem fr_ref (l : List Chg) : ∀ k, 0 < (refTo l l.length).kd.getD k 0 → ∃ i : Nat, i < l.length ∧ (refTo l l.length).fr.getD k 0 = i := fun k hk => by
  have h := agree l l.length (Nat.le_refl _)
  rw [← h.kd] at hk
  obtain ⟨i, h1, _, h3⟩ := h.fr k hk
  exact ⟨i, h1, h3⟩
end Go.Proofs.YtbmpidacoohdmaaGreat.Rn

/- A struct in a block of its own whose fields are slices that the call owns: read, appended to field by field, stored into. No program. sleuthref26.none, by a contract. sleuthref26.named, by a contract. A region that draws its order, whose operations only read and whose callees only make new memory: walked once, in the order of the text. No program. -/
import Derived.Test.YtbmpidacoohdmaaGreatRRow
import Derived.Maps.AppendAt
namespace Go.Proofs.YtbmpidacoohdmaaGreat.Rn
open Go.RowKit

/-- Block g (of type t) holds the slices vs; slice i owns the cells (rs i).2 of type (rs i).1; no two share an array. -/
structure Flds (w : World) (B g : Nat) (t : TypeId) (vs : List Value) (rs : List (TypeId × List Value)) : Prop where
  blk : w.heap[g]? = some (.cells vs.toArray t (0, 0))
  len : vs.length = rs.length
  own : ∀ (i : Nat) (v : Value) (r : TypeId × List Value), vs[i]? = some v → rs[i]? = some r → w.ownsRow B r.1 1 v r.2.length r.2
  far : ∀ (i j : Nat) (v u : Value), vs[i]? = some v → vs[j]? = some u → i ≠ j → v.ownBlock = none ∨ v.ownBlock ≠ u.ownBlock
  off : ∀ (i : Nat) (v : Value), vs[i]? = some v → v.ownBlock ≠ some g

section
variable {w w2 : World} {B g : Nat} {t : TypeId} {vs : List Value} {rs : List (TypeId × List Value)}
theorem Flds.lt (h : Flds w B g t vs rs) : g < w.heap.size := (Array.getElem?_eq_some_iff.1 h.blk).1
theorem Flds.cell (h : Flds w B g t vs rs) (i : Nat) : w.cell? ⟨g, i, none⟩ = vs[i]? := by rw [cell_of_row w g i _ _ _ h.blk]; simp
theorem Flds.frozen (h : Flds w B g t vs rs) (i : Nat) : w.frozen? ⟨g, i, none⟩ = false := frozen_of_row w g i _ _ h.blk
theorem Flds.keep (h : Flds w B g t vs rs) (hk : ∀ k, (B ≤ k ∨ k = g) → k < w.heap.size → w2.heap[k]? = w.heap[k]?) : Flds w2 B g t vs rs := by
  refine ⟨(hk g (.inr rfl) h.lt).trans h.blk, h.len, fun i v r hv hr => ?_, h.far, h.off⟩
  obtain ⟨h1, h2⟩ := h.own i v r hv hr
  refine ⟨h1, ?_⟩
  rcases h2 with h2 | ⟨b, cap, cur, hv', hb, hh, hrest⟩
  · exact .inl h2
  · exact .inr ⟨b, cap, cur, hv', hb, (hk b (.inl hb) (Array.getElem?_eq_some_iff.1 hh).1).trans hh, hrest⟩
theorem Flds.alloc (h : Flds w B g t vs rs) (o : Obj) : Flds (w.alloc o) B g t vs rs := h.keep fun k _ hk => Below.heap_alloc w o k hk
theorem Flds.drewN (h : Flds w B g t vs rs) (n : Nat) : Flds (w.drewN n) B g t vs rs := h.keep fun _ _ _ => rfl
theorem Flds.drew (h : Flds w B g t vs rs) : Flds w.drew B g t vs rs := h.keep fun _ _ _ => rfl
theorem Flds.later (h : Flds w B g t vs rs) (hl : Later w w2) : Flds w2 B g t vs rs := h.keep fun k _ hk => hl.same k hk

/-- Field i has been appended to (the law's own words), and is stored back. -/
theorem Flds.appended (h : Flds w B g t vs rs) {i : Nat} {v v' : Value} {e : TypeId} {xs : List Value} {x : Value} (hv : vs[i]? = some v)
    (hown : w2.ownsRow B e 1 v' (xs.length + 1) (xs ++ [x])) (hg : w.grownBy w2 v.ownBlock) (hat : v'.ownBlock = v.ownBlock ∨ v'.ownBlock = some w.heap.size) :
    Flds (w2.setCell ⟨g, i, none⟩ v') B g t (vs.set i v') (rs.set i (e, xs ++ [x])) := by
  have hlt := h.lt
  have hiv : i < vs.length := (List.getElem?_eq_some_iff.1 hv).1
  have hblk : w2.heap[g]? = some (.cells vs.toArray t (0, 0)) := (hg.block g hlt (fun e => h.off i v hv e.symm)).trans h.blk
  have hng : v'.ownBlock ≠ some g := by
    rcases hat with e1 | e1 <;> rw [e1]
    · exact h.off i v hv
    · intro e2; injection e2 with e2; omega
  have other : ∀ (b : Nat), b ≠ g → (w2.setCell ⟨g, i, none⟩ v').heap[b]? = w2.heap[b]? := fun b hb => Below.heap_setCell w2 ⟨g, i, none⟩ v' b hb
  have kept : ∀ {e : TypeId} {u : Value} {n : Nat} {ys : List Value}, u.ownBlock ≠ some g → w2.ownsRow B e 1 u n ys → (w2.setCell ⟨g, i, none⟩ v').ownsRow B e 1 u n ys := by
    intro e u n ys hu ho
    refine ⟨ho.1, ?_⟩
    rcases ho.2 with h2 | ⟨b, cap, cur, hv', hb, hh, hrest⟩
    · exact .inl h2
    · refine .inr ⟨b, cap, cur, hv', hb, ?_, hrest⟩
      rw [other b (fun e => hu (by rw [hv', e]; rfl))]
      exact hh
  refine ⟨?_, by simp [h.len], ?_, ?_, ?_⟩
  · have := heap_setCell_same w2 g i vs.toArray t v' hblk
    simpa using this
  · intro j u r hu hr'
    by_cases hj : i = j
    · subst hj
      rw [List.getElem?_set_self (by omega)] at hu
      rw [List.getElem?_set_self (by rw [← h.len]; omega)] at hr'
      injection hu with hu
      injection hr' with hr'
      subst hu hr'
      simp only [List.length_append, List.length_cons, List.length_nil]
      exact kept hng hown
    · rw [List.getElem?_set_ne hj] at hu hr'
      refine kept (h.off j u hu) ?_
      refine (h.own j u r hu hr').kept hg ?_
      rcases h.far j i u v hu hv (fun e => hj e.symm) with e1 | e1
      · exact .inl e1
      · exact .inr e1
  · intro j k u y hu hy hjk
    have old : ∀ (m : Nat) (z : Value), vs[m]? = some z → z.ownBlock ≠ some w.heap.size := by
      intro m z hz e1
      have hm : m < rs.length := by rw [← h.len]; exact (List.getElem?_eq_some_iff.1 hz).1
      have := ((h.own m z rs[m] hz (List.getElem?_eq_getElem hm)).lt _ e1).2
      omega
    by_cases hij : i = j
    · subst hij
      rw [List.getElem?_set_self (by omega)] at hu
      injection hu with hu
      subst hu
      rw [List.getElem?_set_ne hjk] at hy
      rcases hat with e1 | e1
      · rw [e1]; exact h.far i k v y hv hy hjk
      · rw [e1]; exact .inr (fun e => old k y hy e.symm)
    · rw [List.getElem?_set_ne hij] at hu
      by_cases hik : i = k
      · subst hik
        rw [List.getElem?_set_self (by omega)] at hy
        injection hy with hy
        subst hy
        rcases hat with e1 | e1
        · rw [e1]; exact h.far j i u v hu hv (fun e => hij e.symm)
        · rw [e1]; exact .inr (old j u hu)
      · rw [List.getElem?_set_ne hik] at hy
        exact h.far j k u y hu hy hjk
  · intro j u hu
    by_cases hij : i = j
    · subst hij
      rw [List.getElem?_set_self (by omega)] at hu
      injection hu with hu
      subst hu
      exact hng
    · rw [List.getElem?_set_ne hij] at hu
      exact h.off j u hu

/-- What a field's slice looks like, and where element k lies. -/
theorem Flds.at_ (h : Flds w B g t vs rs) {i k : Nat} {v : Value} {e : TypeId} {xs : List Value} {x : Value} (hv : vs[i]? = some v) (hr : rs[i]? = some (e, xs)) (hx : xs[k]? = some x) :
    ∃ b cap, v = .slice (some ⟨b, 0, none⟩) xs.length cap ∧ B ≤ b ∧ b < w.heap.size ∧ b ≠ g ∧ w.cell? ⟨b, k, none⟩ = some x ∧ w.frozen? ⟨b, k, none⟩ = false := by
  have hk : k < xs.length := (List.getElem?_eq_some_iff.1 hx).1
  have ho := h.own i v (e, xs) hv hr
  rcases ho.2 with ⟨_, h0⟩ | ⟨b, cap, cur, rfl, hb, hh, hrest⟩
  · simp only at h0; omega
  · have h1 := ho.cellAt (g := b) k (by simpa using hk)
    have h2 := ho.frozenAt (g := b) k
    exact ⟨b, cap, rfl, hb, (Array.getElem?_eq_some_iff.1 hh).1, fun e => h.off i _ hv (by rw [e]; rfl), h1.trans hx, h2⟩

theorem Flds.elem (h : Flds w B g t vs rs) {i k n cap b : Nat} {e : TypeId} {xs : List Value} {x : Value} (hv : vs[i]? = some (.slice (some ⟨b, 0, none⟩) n cap)) (hr : rs[i]? = some (e, xs)) (hx : xs[k]? = some x) :
    w.cell? ⟨b, k, none⟩ = some x ∧ w.frozen? ⟨b, k, none⟩ = false ∧ B ≤ b ∧ b < w.heap.size := by
  obtain ⟨b', cap', e1, h1, h2, _, h3, h4⟩ := h.at_ hv hr hx
  obtain ⟨rfl, _⟩ : b = b' ∧ True := by
    injection e1 with e1 _ _
    injection e1 with e1
    injection e1 with e1
    exact ⟨e1, trivial⟩
  exact ⟨h3, h4, h1, h2⟩

/-- Element k of field i is stored into. -/
theorem Flds.stored (h : Flds w B g t vs rs) {i k : Nat} {b cap n : Nat} {e : TypeId} {xs : List Value} {x : Value} (hv : vs[i]? = some (.slice (some ⟨b, 0, none⟩) n cap)) (hr : rs[i]? = some (e, xs)) :
    Flds (w.setCell ⟨b, k, none⟩ x) B g t vs (rs.set i (e, xs.set k x)) := by
  have hbg : b ≠ g := fun e => h.off i _ hv (by rw [e]; rfl)
  have hir : i < rs.length := (List.getElem?_eq_some_iff.1 hr).1
  refine ⟨(Below.heap_setCell w ⟨b, k, none⟩ x g (fun e => hbg e.symm)).trans h.blk, by simp [h.len], ?_, h.far, h.off⟩
  intro j u r hu hr'
  by_cases hij : i = j
  · subst hij
    rw [List.getElem?_set_self hir] at hr'
    injection hr' with hr'
    subst hr'
    rw [hv] at hu
    injection hu with hu
    subst hu
    have ho := h.own i _ (e, xs) hv hr
    rcases ho.2 with ⟨h0, _⟩ | ⟨b', cap', cur, hs, hb, hh, h3, h4, h5, h6⟩
    · cases h0
    · injection hs with s1 s2 s3
      injection s1 with s1
      injection s1 with s1
      subst s1 s2 s3
      refine ⟨by simp, .inr ⟨b, cap, cur.setIfInBounds k x, by simp, hb, heap_setCell_same w b k cur e x hh, by simpa using h3, h4, by simpa using h5, ?_⟩⟩
      simp only [Nat.mul_one, List.length_set, Array.toList_setIfInBounds] at h6 ⊢
      rw [List.take_set, h6]
  · rw [List.getElem?_set_ne hij] at hr'
    have ho := h.own j u r hu hr'
    refine ⟨ho.1, ?_⟩
    rcases ho.2 with h2 | ⟨b', cap', cur, hs, hb, hh, hrest⟩
    · exact .inl h2
    · refine .inr ⟨b', cap', cur, hs, hb, ?_, hrest⟩
      rw [Below.heap_setCell w ⟨b, k, none⟩ x b' ?_]
      · exact hh
      · intro e1
        simp only at e1
        subst e1
        rcases h.far j i u _ hu hv (fun e => hij e.symm) with e2 | e2
        · rw [hs] at e2; cases e2
        · exact e2 (by rw [hs]; rfl)
/-- The struct is copied into a new block. -/
theorem Flds.copied (h : Flds w B g t vs rs) (hb : ∀ (i : Nat) (v : Value), vs[i]? = some v → v.ownBlock ≠ some w.heap.size) : Flds (w.alloc (.cells vs.toArray t)) B w.heap.size t vs rs :=
  ⟨heap_alloc_new w _, h.len, fun i v r hv hr => (h.own i v r hv hr).alloc _, h.far, hb⟩
theorem Flds.below (h : Flds w B g t vs rs) {i : Nat} {v : Value} (hv : vs[i]? = some v) : v.ownBlock ≠ some w.heap.size := by
  intro e1
  have hm : i < rs.length := by rw [← h.len]; exact (List.getElem?_eq_some_iff.1 hv).1
  have := ((h.own i v rs[i] hv (List.getElem?_eq_getElem hm)).lt _ e1).2
  omega
end

theorem own_one {w : World} {B : Nat} {e : TypeId} {size : Nat} {v : Value} {n : Nat} {xs : List Value} (h : w.ownsRow B e size v n xs) : v.oneCell' = true := by
  rcases h.2 with ⟨rfl, _⟩ | ⟨b, cap, cur, rfl, _⟩ <;> rfl
theorem Flds.mid {w w2 : World} {B g : Nat} {t : TypeId} {vs : List Value} {rs : List (TypeId × List Value)} (h : Flds w B g t vs rs) {i : Nat} {v : Value} (hv : vs[i]? = some v) (hg : w.grownBy w2 v.ownBlock) (j : Nat) : w2.cell? ⟨g, j, none⟩ = vs[j]? ∧ w2.frozen? ⟨g, j, none⟩ = false := by
  have hblk : w2.heap[g]? = some (.cells vs.toArray t (0, 0)) := (hg.block g h.lt (fun e => h.off i v hv e.symm)).trans h.blk
  exact ⟨by rw [cell_of_row w2 g j _ _ _ hblk]; simp, frozen_of_row w2 g j _ _ hblk⟩
theorem below_step {w0 w w2 : World} {C B g i : Nat} {v v' : Value} {e : TypeId} {n : Nat} {xs : List Value} (hb : Below C w0 w) (hC : C ≤ w.heap.size) (hown : w.ownsRow B e 1 v n xs) (hBC : C ≤ B) (hg : w.grownBy w2 v.ownBlock) (hgC : C ≤ g) : Below C w0 (w2.setCell ⟨g, i, none⟩ v') :=
  (hb.grown hg hC (fun k hk => by have := (hown.lt k hk).1; omega)).setCell (p := ⟨g, i, none⟩) hgC _
section
variable {P : Program} {w : World}
/-- A store of one cell, the world behind it by a name. -/
theorem wpList_store1 {ops : Array Oper} {rest : List Oper} {o : Oper} {a : Act} {Q : Exit → Act → World → Prop} (hgd : o.guard = none) (ty : TypeId) (x y : Operand) (ho : o.op = .store ty x y)
    (p : Addr) (hx : a.eval x = .pointer (some p)) (v old : Value) (hy : a.eval y = v) (h1 : v.oneCell' = true) (hi : (P.info? ty).map (·.size) = some 1) (hc : w.cell? p = some old) (hf : w.frozen? p = false)
    (hd : o.dst = none) (h : ∀ W, W = w.setCell p v → wpList P ops Q rest a W) : wpList P ops Q (o :: rest) a w := by
  have h : ∀ W, W = w.setCell p v → wpList P ops Q rest (a.put o.dst undef) W := by rw [hd]; exact h
  refine wpList_plain hgd fun K hK => ?_
  cases hq : P.info? ty with
  | none => simp [hq] at hi
  | some i =>
    have hs : i.size = 1 := by simpa [hq] using hi
    have hv : v.cells = #[v] := by cases v <;> first | rfl | simp [Value.oneCell'] at h1
    have hst : (store p v).run P w = .ok () (w.setCell p v) := by
      rw [run_store P w p v _ h1, hc]
      simp [hf]
    unfold Oper.wp execOp
    simp only [ho, hx, hy, Instr.storeAt, Instr.sureAddr, Sem.run_bind, Sem.run_pure, Result.andThen_ok, storeVar, sizeOf, typeInfo, run_program, hq, hs, hv]
    simp [storeCells, hst, Addr.add_zero']
    exact hK _ _ (h _ rfl)
end
end Go.Proofs.YtbmpidacoohdmaaGreat.Rn
namespace Go.Proofs.YtbmpidacoohdmaaGreat.Rn
open Go.RowKit

def rows4 (fr kd sc : List Int) (tk : List Bool) : List (TypeId × List Value) := [(3, ints fr), (3, ints kd), (3, ints sc), (4, boos tk)]
def rowsN (n : Nat) : List (TypeId × List Value) := rows4 (List.replicate n (-1)) (List.replicate n 0) (List.replicate n 0) (List.replicate n false)
theorem info3b : (Tryz.prog.info? 3).map (fun i => (i.zero, i.size, i.bytes)) = some (some (.int .i64 0), 1, 8) := by kernel_rfl
theorem info4b : (Tryz.prog.info? 4).map (fun i => (i.zero, i.size, i.bytes)) = some (some (.bool false), 1, 1) := by kernel_rfl
theorem info51 : (Tryz.prog.info? 48).map (·.size) = some 1 := by kernel_rfl
theorem info52 : (Tryz.prog.info? 71).map (·.size) = some 1 := by kernel_rfl

theorem info54 : (Tryz.prog.info? 73).map (·.size) = some 4 := by kernel_rfl
theorem rowsN_succ (k : Nat) : rowsN (k + 1) = [(3, ints (List.replicate k (-1)) ++ [.int .i64 (-1)]), (3, ints (List.replicate k 0) ++ [.int .i64 0]), (3, ints (List.replicate k 0) ++ [.int .i64 0]), (4, boos (List.replicate k false) ++ [.bool false])] := by
  simp [rowsN, rows4, ints, boos, ← List.replicate_succ']
theorem flds_nil (w : World) (o : Obj) (B : Nat) : Flds ((w.alloc o).alloc (.cells #[.slice none 0 0, .slice none 0 0, .slice none 0 0, .slice none 0 0] 73)) B (w.heap.size + 1) 73 [.slice none 0 0, .slice none 0 0, .slice none 0 0, .slice none 0 0] (rowsN 0) := by
  have hall : ∀ (i : Nat) (v : Value), [Value.slice none 0 0, .slice none 0 0, .slice none 0 0, .slice none 0 0][i]? = some v → v = .slice none 0 0 := by
    intro i v h
    have := List.mem_of_getElem? h
    simpa using this
  refine ⟨by have := heap_alloc_new (w.alloc o) (.cells #[.slice none 0 0, .slice none 0 0, .slice none 0 0, .slice none 0 0] 73); simpa using this, rfl, ?_, ?_, ?_⟩
  · intro i v r hv hr
    have hr' : r.2 = [] := by
      have := List.mem_of_getElem? hr
      simp [rowsN, rows4, ints, boos] at this
      rcases this with rfl | rfl <;> rfl
    rw [hall i v hv, hr']
    exact World.ownsRow_nil _ _ _ _
  · intro i j v u hv _ _
    rw [hall i v hv]
    exact .inl rfl
  · intro i v hv
    rw [hall i v hv]
    simp [Value.ownBlock]

set_option maxHeartbeats 1000000 in
theorem none_any (w : World) (n : Nat) (hn : n ≤ 40) :
    Calls Tryz.prog 53 #[.int .i64 n] w fun e w' => ∃ v0 v1 v2 v3 g, e = .returned (.agg #[v0, v1, v2, v3]) ∧ Flds w' (w.heap.size + 2) g 73 [v0, v1, v2, v3] (rowsN n) ∧ Below w.heap.size w w' := by
  obtain ⟨i3, hi3', hz3', hs3', hb3'⟩ := info_parts info3b
  obtain ⟨i4, hi4', hz4', hs4', hb4'⟩ := info_parts info4b
  have hi3 := Lib.hid hi3'
  have hz3 := Lib.hid hz3'
  have hs3 := Lib.hid hs3'
  have hb3 := Lib.hid hb3'
  have hi4 := Lib.hid hi4'
  have hz4 := Lib.hid hz4'
  have hs4 := Lib.hid hs4'
  have hb4 := Lib.hid hb4'
  clear hi3' hz3' hs3' hb3' hi4' hz4' hs4' hb4'
  go_enter Tryz.func53, Tryz.ntmps53
  go_wp2
  generalize hw1 : (w.alloc (Obj.cells #[Value.slice none 0 0, Value.slice none 0 0, Value.slice none 0 0, Value.slice none 0 0] 73)).alloc (Obj.cells #[Value.slice none 0 0, Value.slice none 0 0, Value.slice none 0 0, Value.slice none 0 0] 73) = w1
  have HW1 := Lib.hid hw1
  clear hw1
  go_loopw [4] (fun i wr => ∃ k : Nat, k ≤ n ∧ i = .int .i64 k ∧ Hid (∃ v0 v1 v2 v3, Flds wr (w.heap.size + 2) (w.heap.size + 1) 73 [v0, v1, v2, v3] (rowsN k)) ∧ Hid (Below (w.heap.size + 1) w1 wr)) (fun i _ => n - (intOf i).toNat)
  case atStart =>
    refine ⟨0, Nat.zero_le _, rfl, ⟨.slice none 0 0, .slice none 0 0, .slice none 0 0, .slice none 0 0, ?_⟩, Below.refl _ _⟩
    rw [← HW1.out]
    exact flds_nil _ _ _
  case round =>
    obtain ⟨k, hk, rfl, hF, hb⟩ := hrel
    by_cases hkn : k < n
    · obtain ⟨v0, v1, v2, v3, hf⟩ := hF.out
      have F0 := Lib.hid hf
      have L0 := Lib.hid hb.out
      have s0 := hf.lt
      have b0 : wr.cell? ⟨w.heap.size + 1, 0, none⟩ = some v0 := hf.cell 0
      clear hf hF hb
      go_wp2_with (first
        | (at_builtin; refine wpList_append_own_at _ rfl (.tmp 11) (.tmp 12) _ rfl (w.heap.size + 2) 3 i3 (.int .i64 0) 1 8 Tryz.underlying48 hi3.out hz3.out hs3.out hb3.out rfl (by decide) v0 _ _ rfl ((F0.out.alloc (.cells #[.int .i64 (-1)] 3)).own 0 _ _ rfl rfl) ⟨wr.heap.size, 0, none⟩ 1 1 [.int .i64 (-1)] rfl rfl (new_cells _ _ _ _ rfl) (by simp [Value.oneCell']) (by simp [ints, maxLen]; omega) (by simp [ints]; omega) (by simp; omega) ?_; intro u0 W0 ho0 hg0 hz0 ha0; clear hz0; have HO0 := Lib.hid ho0; have HG0 := Lib.hid hg0; have HA0 := Lib.hid ha0; clear ho0 hg0 ha0)
        | (refine wpList_store1 rfl 48 (.tmp 14) (.tmp 13) rfl ⟨w.heap.size + 1, 0, none⟩ rfl u0 v0 rfl (own_one HO0.out) info51 ((F0.out.alloc (.cells #[.int .i64 (-1)] 3)).mid (i := 0) rfl HG0.out 0).1 ((F0.out.alloc (.cells #[.int .i64 (-1)] 3)).mid (i := 0) rfl HG0.out 0).2 rfl ?_; intro V1 hV0; have F1 := Lib.hid (hV0 ▸ (F0.out.alloc (.cells #[.int .i64 (-1)] 3)).appended (i := 0) rfl HO0.out HG0.out HA0.out); have L1 := Lib.hid (hV0 ▸ below_step (i := 0) (v' := u0) (L0.out.alloc (by omega) (.cells #[.int .i64 (-1)] 3)) (by simp; omega) ((F0.out.alloc (.cells #[.int .i64 (-1)] 3)).own 0 _ _ rfl rfl) (by omega) HG0.out (by omega)); clear hV0; have s0 := F1.out.lt; have c00 := F1.out.cell 1; have c01 := F1.out.cell 2; have c02 := F1.out.cell 3; simp only [List.set_cons_zero, List.getElem?_cons_succ, List.getElem?_cons_zero] at c00 c01 c02)
        | (at_builtin; refine wpList_append_own_at _ rfl (.tmp 16) (.tmp 17) _ rfl (w.heap.size + 2) 3 i3 (.int .i64 0) 1 8 Tryz.underlying48 hi3.out hz3.out hs3.out hb3.out rfl (by decide) v1 _ _ rfl ((F1.out.alloc (.cells #[.int .i64 0] 3)).own 1 _ _ rfl rfl) ⟨V1.heap.size, 0, none⟩ 1 1 [.int .i64 0] rfl rfl (new_cells _ _ _ _ rfl) (by simp [Value.oneCell']) (by simp [ints, maxLen]; omega) (by simp [ints]; omega) (by simp; omega) ?_; intro u1 W1 ho1 hg1 hz1 ha1; clear hz1; have HO1 := Lib.hid ho1; have HG1 := Lib.hid hg1; have HA1 := Lib.hid ha1; clear ho1 hg1 ha1)
        | (refine wpList_store1 rfl 48 (.tmp 19) (.tmp 18) rfl ⟨w.heap.size + 1, 1, none⟩ rfl u1 v1 rfl (own_one HO1.out) info51 ((F1.out.alloc (.cells #[.int .i64 0] 3)).mid (i := 1) rfl HG1.out 1).1 ((F1.out.alloc (.cells #[.int .i64 0] 3)).mid (i := 1) rfl HG1.out 1).2 rfl ?_; intro V2 hV1; have F2 := Lib.hid (hV1 ▸ (F1.out.alloc (.cells #[.int .i64 0] 3)).appended (i := 1) rfl HO1.out HG1.out HA1.out); have L2 := Lib.hid (hV1 ▸ below_step (i := 1) (v' := u1) (L1.out.alloc (by omega) (.cells #[.int .i64 0] 3)) (by simp; omega) ((F1.out.alloc (.cells #[.int .i64 0] 3)).own 1 _ _ rfl rfl) (by omega) HG1.out (by omega)); clear hV1; have s1 := F2.out.lt; have c10 := F2.out.cell 1; have c11 := F2.out.cell 2; have c12 := F2.out.cell 3; simp only [List.set_cons_succ, List.set_cons_zero, List.getElem?_cons_succ, List.getElem?_cons_zero] at c10 c11 c12)
        | (at_builtin; refine wpList_append_own_at _ rfl (.tmp 21) (.tmp 22) _ rfl (w.heap.size + 2) 3 i3 (.int .i64 0) 1 8 Tryz.underlying48 hi3.out hz3.out hs3.out hb3.out rfl (by decide) v2 _ _ rfl ((F2.out.alloc (.cells #[.int .i64 0] 3)).own 2 _ _ rfl rfl) ⟨V2.heap.size, 0, none⟩ 1 1 [.int .i64 0] rfl rfl (new_cells _ _ _ _ rfl) (by simp [Value.oneCell']) (by simp [ints, maxLen]; omega) (by simp [ints]; omega) (by simp; omega) ?_; intro u2 W2 ho2 hg2 hz2 ha2; clear hz2; have HO2 := Lib.hid ho2; have HG2 := Lib.hid hg2; have HA2 := Lib.hid ha2; clear ho2 hg2 ha2)
        | (refine wpList_store1 rfl 48 (.tmp 24) (.tmp 23) rfl ⟨w.heap.size + 1, 2, none⟩ rfl u2 v2 rfl (own_one HO2.out) info51 ((F2.out.alloc (.cells #[.int .i64 0] 3)).mid (i := 2) rfl HG2.out 2).1 ((F2.out.alloc (.cells #[.int .i64 0] 3)).mid (i := 2) rfl HG2.out 2).2 rfl ?_; intro V3 hV2; have F3 := Lib.hid (hV2 ▸ (F2.out.alloc (.cells #[.int .i64 0] 3)).appended (i := 2) rfl HO2.out HG2.out HA2.out); have L3 := Lib.hid (hV2 ▸ below_step (i := 2) (v' := u2) (L2.out.alloc (by omega) (.cells #[.int .i64 0] 3)) (by simp; omega) ((F2.out.alloc (.cells #[.int .i64 0] 3)).own 2 _ _ rfl rfl) (by omega) HG2.out (by omega)); clear hV2; have s2 := F3.out.lt; have c20 := F3.out.cell 1; have c21 := F3.out.cell 2; have c22 := F3.out.cell 3; simp only [List.set_cons_succ, List.set_cons_zero, List.getElem?_cons_succ, List.getElem?_cons_zero] at c20 c21 c22)
        | (at_builtin; refine wpList_append_own_at _ rfl (.tmp 26) (.tmp 27) _ rfl (w.heap.size + 2) 4 i4 (.bool false) 1 1 Tryz.underlying71 hi4.out hz4.out hs4.out hb4.out rfl (by decide) v3 _ _ rfl ((F3.out.alloc (.cells #[.bool false] 4)).own 3 _ _ rfl rfl) ⟨V3.heap.size, 0, none⟩ 1 1 [.bool false] rfl rfl (new_cells _ _ _ _ rfl) (by simp [Value.oneCell']) (by simp [boos, maxLen]; omega) (by simp [boos]; omega) (by simp; omega) ?_; intro u3 W3 ho3 hg3 hz3 ha3; clear hz3; have HO3 := Lib.hid ho3; have HG3 := Lib.hid hg3; have HA3 := Lib.hid ha3; clear ho3 hg3 ha3)
        | (refine wpList_store1 rfl 71 (.tmp 29) (.tmp 28) rfl ⟨w.heap.size + 1, 3, none⟩ rfl u3 v3 rfl (own_one HO3.out) info52 ((F3.out.alloc (.cells #[.bool false] 4)).mid (i := 3) rfl HG3.out 3).1 ((F3.out.alloc (.cells #[.bool false] 4)).mid (i := 3) rfl HG3.out 3).2 rfl ?_; intro V4 hV3; have F4 := Lib.hid (hV3 ▸ (F3.out.alloc (.cells #[.bool false] 4)).appended (i := 3) rfl HO3.out HG3.out HA3.out); have L4 := Lib.hid (hV3 ▸ below_step (i := 3) (v' := u3) (L3.out.alloc (by omega) (.cells #[.bool false] 4)) (by simp; omega) ((F3.out.alloc (.cells #[.bool false] 4)).own 3 _ _ rfl rfl) (by omega) HG3.out (by omega)); clear hV3; have s3 := F4.out.lt; have c30 := F4.out.cell 1; have c31 := F4.out.cell 2; have c32 := F4.out.cell 3; simp only [List.set_cons_succ, List.set_cons_zero, List.getElem?_cons_succ, List.getElem?_cons_zero] at c30 c31 c32))
      refine ⟨⟨k + 1, by omega, by go_num, ⟨u0, u1, u2, u3, ?_⟩, L4.out⟩, by simp [intOf]; omega⟩
      rw [rowsN_succ]
      exact F4.out
    · obtain ⟨v0, v1, v2, v3, hf⟩ := hF.out
      have F0 := Lib.hid hf
      have hres : wr.heap[w.heap.size]? = some (.cells #[.slice none 0 0, .slice none 0 0, .slice none 0 0, .slice none 0 0] 73 (0, 0)) := by
        rw [hb.out.block _ (by omega), ← HW1.out, Below.heap_alloc _ _ _ (by simp), heap_alloc_new]
      have HRES := Lib.hid hres
      have hcs : CellsAt wr ⟨w.heap.size + 1, 0, none⟩ [v0, v1, v2, v3] := fun j v hv => by
        rw [Addr.add_lit, Nat.zero_add, hf.cell j, hv]
      have HCS := Lib.hid hcs
      have hone : (#[v0, v1, v2, v3] : Array Value).all (·.oneCell') = true := by
        simp [own_one (hf.own 0 v0 _ rfl rfl), own_one (hf.own 1 v1 _ rfl rfl), own_one (hf.own 2 v2 _ rfl rfl), own_one (hf.own 3 v3 _ rfl rfl)]
      have HONE := Lib.hid hone
      clear hf hres hcs hone
      go_wp2_with (first
        | (refine wpList_load_cells rfl 73 _ rfl ⟨w.heap.size + 1, 0, none⟩ rfl [v0, v1, v2, v3] Tryz.underlying73 rfl info54 HCS.out ?_)
        | (refine wpList_store_row rfl 73 (.tmp 2) (.tmp 30) rfl w.heap.size #[v0, v1, v2, v3] rfl rfl 73 _ HRES.out info54 rfl HONE.out ?_))
      have hg2 : (wr.setRow w.heap.size #[v0, v1, v2, v3]).heap[w.heap.size]? = some (.cells #[v0, v1, v2, v3] 73 (0, 0)) := setRow_heap _ _ _ _ _ _ HRES.out
      refine bodyPost_ret (results_cell_row rfl _ _ w.heap.size 73 _ (0, 0) _ rfl hg2 Tryz.underlying73 rfl info54) rfl ?_
      obtain rfl : k = n := by omega
      refine ⟨v0, v1, v2, v3, w.heap.size + 1, rfl, F0.out.keep (fun j hj _ => setRow_other _ _ _ _ (by omega)), ?_⟩
      have hw : Below w.heap.size w w1 := by rw [← HW1.out]; exact ((Below.refl _ _).alloc (Nat.le_refl _) _).alloc (by simp) _
      exact (hw.trans (hb.out.mono (by omega))).trans ⟨rfl, rfl, rfl, by simp, fun j hj => setRow_other _ _ _ _ (by omega)⟩
end Go.Proofs.YtbmpidacoohdmaaGreat.Rn
namespace Go.Proofs.YtbmpidacoohdmaaGreat.Rn
open Go.RowKit
attribute [local go_sem] row_drew row_drewN free_drew free_drewN row_alloc_at row_alloc_past free_alloc_at free_alloc_past
  Chg.get0 Chg.get1 Chg.get2 Chg.get3 Chg.get4 Chg.at0 Chg.at1 Chg.at2 Chg.at3 Chg.at4 Chg.row_size Chg.row_one

set_option maxHeartbeats 400000 in
theorem rnamed_any (w : World) (x y : Chg) (hx : x.ok) (hy : y.ok) :
    Calls Tryz.prog 54 #[.agg x.row, .agg y.row] w fun e w' => e = .returned (.bool ((baseB x.old).toList == (baseB y.new).toList)) ∧ Below w.heap.size w w' := by
  have zx := hx.old
  have zy := hy.new
  have hcx := fun W => rbase_any x.old W zx
  have hcy := fun W => rbase_any y.new W zy
  have HX := Lib.hid hcx
  have HY := Lib.hid hcy
  clear hcx hcy
  go_enter Tryz.func54, Tryz.ntmps54
  go_wp2_with fail
  go_quiet ((first | (go_at_call_of 108 (Value.string x.old); exact quiet_same (HX.out _)) | (go_at_call_of 108 (Value.string y.new); exact quiet_same (HY.out _))))
  go_wp2
  go_ret
  exact ⟨rfl, (((Below.refl _ _).alloc (Nat.le_refl _) _).alloc (by simp) _).trans ⟨rfl, rfl, rfl, Nat.le_refl _, fun _ _ => rfl⟩⟩
end Go.Proofs.YtbmpidacoohdmaaGreat.Rn
namespace Go.Proofs.YtbmpidacoohdmaaGreat.Rn
open Go.RowKit

/-- A world behind w: all that lay in w lies there as it did. -/
structure Aft (w : World) where
  W : World
  h : Below w.heap.size w W

instance (w : World) : Nonempty (Aft w) := ⟨⟨w, Below.refl _ _⟩⟩

section
variable {P : Program} {w : World}
theorem Aft.later (W : Aft w) : Later w W.W := later_of_below W.h (Nat.le_refl _)
theorem Aft.cell (W : Aft w) {p : Addr} (hp : p.block < w.heap.size) : W.W.cell? p = w.cell? p := W.h.cell hp
def Aft.up (W1 : Aft w) (W : Aft W1.W) : Aft w := ⟨W.W, W1.h.trans (W.h.mono W1.h.size)⟩
theorem wp_region_aft {id : Nat} {Q : Exit → Act → World → Prop} {a : Act} {l : List Oper} (hm : P.follows .mixedOrders = true) (hB : Region.lexB .any l.toArray = true)
    (h : wpQuiet P l.toArray (fun w' => ∃ W : Aft w, w' = W.W) (fun a' => ∀ w', (∃ W : Aft w, w' = W.W) → Q .normal a' w') l a) : (Code.region id l.toArray true).wp P Q a w :=
  wp_region_quiet (C := fun w' => ∃ W : Aft w, w' = W.W) hm hB ⟨⟨w.drew, ⟨rfl, rfl, rfl, Nat.le_refl _, fun _ _ => rfl⟩⟩, rfl⟩ (by simpa using h)
theorem aft_call {f : FuncId} {args : Array Value} {v : Value} {W : Aft w} (h : Calls P f args W.W fun e w' => e = .returned v ∧ Below W.W.heap.size W.W w') :
    Calls P f args W.W fun e w'' => e = .returned v ∧ ∃ W' : Aft w, w'' = W'.W :=
  h.mono fun _ w'' ⟨he, hb⟩ => ⟨he, ⟨⟨w'', W.h.trans (hb.mono W.h.size)⟩, rfl⟩⟩
end
end Go.Proofs.YtbmpidacoohdmaaGreat.Rn

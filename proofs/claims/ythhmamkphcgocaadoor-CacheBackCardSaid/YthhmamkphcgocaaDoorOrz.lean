/- As Ord, where the class is kept up to one last operation that waits for what was taken first. Plain; no program. -/
import Derived.Test.YthhmamkphcgocaaDoorOrd
namespace Go.Proofs.YthhmamkphcgocaaDoor
open Go

section
variable {P : Program} {ops : Array Oper} {md : Region.Mode} {C : World → Prop} {Q : Exit → Act → World → Prop} {z : Nat}

/-- As wpAny; and each world that is come to before operation z is of the class. -/
def anyZ (P : Program) (md : Region.Mode) (ops : Array Oper) (z : Nat) (C : World → Prop) (Q : Exit → Act → World → Prop) : Nat → Array Bool → Act → World → Prop
  | 0, listed, a, w => (listed.getD z true = false → C w) ∧ Region.ready md ops listed = [] ∧ Q .normal a w
  | f + 1, listed, a, w => (listed.getD z true = false → C w) ∧ (Region.ready md ops listed = [] → Q .normal a w) ∧ ∀ i ∈ Region.ready md ops listed, wpOp P ops Q i (anyZ P md ops z C Q f (listed.setIfInBounds i true)) a w
theorem anyZ.c : ∀ {f : Nat} {listed : Array Bool} {a : Act} {w : World}, anyZ P md ops z C Q f listed a w → listed.getD z true = false → C w
  | 0, _, _, _, h => h.1
  | _ + 1, _, _, _, h => h.1
theorem any_ofz : ∀ (f : Nat) (listed : Array Bool) (a : Act) (w : World), anyZ P md ops z C Q f listed a w → wpAny P md ops Q f listed a w
  | 0, _, _, _, h => h.2
  | f + 1, _, _, _, h => ⟨h.2.1, fun i hi => wpOp_mono (fun a w h => any_ofz f _ a w h) (h.2.2 i hi)⟩
theorem waits_not {i : Nat} {listed : Array Bool} (hr : i ∈ Region.ready md ops listed) {oj : Oper} (hall : ∀ e ∈ oj.after, Region.binds md e = true → listed.getD e.on false = true) : ∀ e ∈ oj.after, Region.binds md e = true → e.on ≠ i := fun e he hb heq => by
  have h1 := hall e he hb
  have h0 := (mem_ready.1 hr).1
  rw [heq] at h1
  by_cases hlt : i < listed.size
  · simp [hlt] at h0 h1
    rw [h0] at h1
    cases h1
  · simp [Array.getElem?_eq_none (Nat.le_of_not_lt hlt)] at h1
theorem first_z {i : Nat} {oi oz : Oper} {v : Value} (hi : ops[i]? = some oi) (hz : ops[z]? = some oz) (hzi : ∃ e ∈ oz.after, Region.binds md e = true ∧ e.on = i) (hsel : ∀ (j : Nat) (o : Oper) cs b, ops[j]? = some o → o.op ≠ .select cs b) (hQ : ∀ c a w, Q (.panic c) (a.put oi.dst v) w → Q (.panic c) a w) :
    ∀ (f : Nat) (listed : Array Bool) (a : Act) (w : World), C w → listed.getD z true = false →
      (∀ j oj, ops[j]? = some oj → j ≠ i → listed.getD j true = false → (∀ e ∈ oj.after, Region.binds md e = true → e.on ≠ i) → oi.apart ops oj = true) →
      i ∈ Region.ready md ops listed → Gives P ops C oi v a → anyZ P md ops z C Q f (listed.setIfInBounds i true) (a.put oi.dst v) w → anyZ P md ops z C Q (f + 1) listed a w := by
  intro f
  induction f with
  | zero =>
    intro listed a w hC _ _ hr hy H
    refine ⟨fun _ => hC, fun h => (by rw [h] at hr; cases hr), fun j hj => ?_⟩
    by_cases hji : j = i
    · subst hji
      exact hy.op hi hC H
    · exact absurd (ready_mono hj hji) (by rw [H.2.1]; exact List.not_mem_nil)
  | succ f ih =>
    intro listed a w hC hlz hfree hr hy H
    refine ⟨fun _ => hC, fun h => (by rw [h] at hr; cases hr), fun j hj => ?_⟩
    by_cases hji : j = i
    · subst hji
      exact hy.op hi hC H
    · obtain ⟨hu, oj, hoj, hall⟩ := mem_ready.1 hj
      have hno := waits_not hr hall
      have hjz : j ≠ z := by
        rintro rfl
        obtain rfl := Option.some.inj (hoj.symm.trans hz)
        obtain ⟨e, he, hb, hon⟩ := hzi
        exact hno e he hb hon
      have hiz : i ≠ z := by
        rintro rfl
        obtain ⟨_, o2, ho2, hall2⟩ := mem_ready.1 hr
        obtain rfl := Option.some.inj (ho2.symm.trans hz)
        obtain ⟨e, he, hb, hon⟩ := hzi
        exact waits_not hr hall2 e he hb hon
      have h2 := Gives.past hoj (hfree j oj hoj hji hu hno) (fun cs b => hsel i oi cs b hi) (fun cs b => hsel j oj cs b hoj) hQ hy (H.2.2 j (ready_mono hj hji))
      refine wpOp_mono (fun b u h3 => ?_) h2
      have hlz2 : (listed.setIfInBounds j true).getD z true = false := by rw [getD_set_ne true hjz]; exact hlz
      refine ih (listed.setIfInBounds j true) b u (h3.2.c (by rw [getD_set_ne true hjz, getD_set_ne true hiz]; exact hlz)) hlz2 (fun k ok hk hki hun hn => ?_) (ready_mono hr (Ne.symm hji)) h3.1 (by rw [Array.setIfInBounds_comm _ _ hji]; exact h3.2)
      refine hfree k ok hk hki ?_ hn
      by_cases hjk : j = k
      · subst hjk; exact hu
      · rwa [getD_set_ne true hjk] at hun
/-- Does z wait for i? -/
def waitsZ (md : Region.Mode) (ops : Array Oper) (z i : Nat) : Bool := match ops[z]? with
  | some o => o.after.any fun e => Region.binds md e && e.on == i
  | none => false
theorem waitsZ_spec {i : Nat} (h : waitsZ md ops z i = true) : ∃ oz, ops[z]? = some oz ∧ ∃ e ∈ oz.after, Region.binds md e = true ∧ e.on = i := by
  unfold waitsZ at h
  split at h
  · rename_i o ho
    obtain ⟨e, he, hb⟩ := Array.any_eq_true'.1 h
    simp only [Bool.and_eq_true, beq_iff_eq] at hb
    exact ⟨o, ho, e, he, hb⟩
  · cases h
theorem anyZ_take {oi : Oper} {v : Value} {f : Nat} {listed : Array Bool} {a : Act} {w : World} (i : Nat) (hC : C w) (hi : ops[i]? = some oi) (hs : Region.noSelect ops = true) (hf : Region.free md ops listed i = true)
    (hr : (Region.ready md ops listed).contains i = true) (hl : listed.getD z true = false) (hz : waitsZ md ops z i = true) (hQ : ∀ c a w, Q (.panic c) (a.put oi.dst v) w → Q (.panic c) a w) (hw : Region.wanted oi (yielded ops a.tmps) = true) (hy : ∀ w, C w → (execOp a.eval oi).run P w = .ok (.value v) w)
    (h : anyZ P md ops z C Q f (listed.setIfInBounds i true) (a.put oi.dst v) w) : anyZ P md ops z C Q (f + 1) listed a w := by
  obtain ⟨oz, h1, h2⟩ := waitsZ_spec hz
  exact first_z hi h1 h2 (Region.noSelect_spec hs) hQ f listed a w hC hl (Region.free_spec hi hf) (by simpa using hr) (.inl ⟨hw, hy⟩) h
theorem first_w {i : Nat} {oi : Oper} {v : Value} (hi : ops[i]? = some oi) (hiz : i ≠ z) (hsel : ∀ (j : Nat) (o : Oper) cs b, ops[j]? = some o → o.op ≠ .select cs b) (hQ : ∀ c a w, Q (.panic c) (a.put oi.dst v) w → Q (.panic c) a w) :
    ∀ (f : Nat) (listed : Array Bool) (a : Act) (w : World), (listed.getD z true = false → C w) →
      (∀ j oj, ops[j]? = some oj → j ≠ i → listed.getD j true = false → (∀ e ∈ oj.after, Region.binds md e = true → e.on ≠ i) → oi.apart ops oj = true) →
      i ∈ Region.ready md ops listed → Yields P ops oi v a → anyZ P md ops z C Q f (listed.setIfInBounds i true) (a.put oi.dst v) w → anyZ P md ops z C Q (f + 1) listed a w := by
  intro f
  induction f with
  | zero =>
    intro listed a w hC _ hr hy H
    refine ⟨hC, fun h => (by rw [h] at hr; cases hr), fun j hj => ?_⟩
    by_cases hji : j = i
    · subst hji
      exact hy.wpOp hi H
    · exact absurd (ready_mono hj hji) (by rw [H.2.1]; exact List.not_mem_nil)
  | succ f ih =>
    intro listed a w hC hfree hr hy H
    refine ⟨hC, fun h => (by rw [h] at hr; cases hr), fun j hj => ?_⟩
    by_cases hji : j = i
    · subst hji
      exact hy.wpOp hi H
    · obtain ⟨hu, oj, hoj, hall⟩ := mem_ready.1 hj
      have hno := waits_not hr hall
      have h2 := wpOp_put hoj (hfree j oj hoj hji hu hno) (fun cs b => hsel i oi cs b hi) (fun cs b => hsel j oj cs b hoj) hQ hy (H.2.2 j (ready_mono hj hji))
      refine wpOp_mono (fun b u h3 => ?_) h2
      refine ih (listed.setIfInBounds j true) b u (fun hlz => h3.2.c ?_) (fun k ok hk hki hun hn => ?_) (ready_mono hr (Ne.symm hji)) h3.1 (by rw [Array.setIfInBounds_comm _ _ hji]; exact h3.2)
      · rw [Array.setIfInBounds_comm _ _ (Ne.symm hji), getD_set_ne true hiz]
        exact hlz
      · refine hfree k ok hk hki ?_ hn
        by_cases hjk : j = k
        · subst hjk; exact hu
        · rwa [getD_set_ne true hjk] at hun
/-- One that looks at no memory is taken. -/
theorem anyZ_free {oi : Oper} {v : Value} {f : Nat} {listed : Array Bool} {a : Act} {w : World} (i : Nat) (hC : listed.getD z true = true ∨ C w) (hi : ops[i]? = some oi) (hs : Region.noSelect ops = true) (hf : Region.free md ops listed i = true)
    (hr : (Region.ready md ops listed).contains i = true) (hiz : i ≠ z) (hQ : ∀ c a w, Q (.panic c) (a.put oi.dst v) w → Q (.panic c) a w) (hw : Region.wanted oi (yielded ops a.tmps) = true) (hy : ∀ w, (execOp a.eval oi).run P w = .ok (.value v) w)
    (h : anyZ P md ops z C Q f (listed.setIfInBounds i true) (a.put oi.dst v) w) : anyZ P md ops z C Q (f + 1) listed a w :=
  first_w hi hiz (Region.noSelect_spec hs) hQ f listed a w (fun h0 => hC.elim (fun h1 => by rw [h1] at h0; cases h0) id) (Region.free_spec hi hf) (by simpa using hr) (.inl ⟨hw, hy⟩) h
theorem anyZ_step {f : Nat} {listed : Array Bool} {a : Act} {w : World} {o : Oper} (i : Nat) (hi : ops[i]? = some o) (h : wpList P ops (Exit.then (anyZ P md ops z C Q f (listed.setIfInBounds i true)) Q) [o] a w) :
    wpOp P ops Q i (anyZ P md ops z C Q f (listed.setIfInBounds i true)) a w := by
  unfold wpOp
  simp only [hi]
  have e : wpList P ops (Exit.then (anyZ P md ops z C Q f (listed.setIfInBounds i true)) Q) [o] a w = (if Region.wanted o (yielded ops a.tmps) = true then o.wp P a w (fun a w => Exit.then (anyZ P md ops z C Q f (listed.setIfInBounds i true)) Q .normal a w) (Exit.then (anyZ P md ops z C Q f (listed.setIfInBounds i true)) Q) ∨ (o.asks P a w ∧ LetsOut (Exit.then (anyZ P md ops z C Q f (listed.setIfInBounds i true)) Q)) else anyZ P md ops z C Q f (listed.setIfInBounds i true) (a.put o.dst undef) w) := rfl
  rw [e] at h
  by_cases hw : Region.wanted o (yielded ops a.tmps) = true
  · rw [if_pos hw] at h ⊢
    rcases h with h | ⟨h1, h2⟩
    · exact .inl (upon_then h)
    · exact .inr ⟨h1, h2⟩
  · rw [if_neg hw] at h ⊢
    exact h
theorem anyZ_one {f : Nat} {listed : Array Bool} {a : Act} {w : World} {o : Oper} (i : Nat) (hC : listed.getD z true = true ∨ C w) (hr : Region.ready md ops listed = [i]) (hi : ops[i]? = some o)
    (h : wpList P ops (Exit.then (anyZ P md ops z C Q f (listed.setIfInBounds i true)) Q) [o] a w) : anyZ P md ops z C Q (f + 1) listed a w := by
  refine ⟨fun h1 => hC.elim (fun h2 => by rw [h2] at h1; cases h1) id, fun h0 => (by rw [hr] at h0; cases h0), fun j hj => ?_⟩
  rw [hr, List.mem_singleton] at hj
  subst hj
  exact anyZ_step j hi h
theorem anyZ_done {listed : Array Bool} {a : Act} {w : World} (hz : listed.getD z true = true) (hr : Region.ready md ops listed = []) (h : Q .normal a w) : ∀ f, anyZ P md ops z C Q f listed a w
  | 0 => ⟨fun h => (by rw [hz] at h; cases h), hr, h⟩
  | _ + 1 => ⟨fun h => (by rw [hz] at h; cases h), fun _ => h, by rw [hr]; simp⟩
theorem anyZ_of : ∀ (f : Nat) (listed : Array Bool) (a : Act) (w : World), listed.getD z true = true → wpAny P md ops Q f listed a w → anyZ P md ops z C Q f listed a w
  | 0, _, _, _, hz, h => ⟨fun h0 => (by rw [hz] at h0; cases h0), h⟩
  | f + 1, listed, _, _, hz, h => ⟨fun h0 => (by rw [hz] at h0; cases h0), h.1, fun i hi => wpOp_mono (fun a w h => anyZ_of f _ a w (by
      by_cases hiz : i = z
      · subst hiz
        simp
      · rw [getD_set_ne true hiz]; exact hz) h) (h.2 i hi)⟩
theorem region_ofz {id : Nat} {a : Act} {w : World} {l : List Oper} (z : Nat) (C : World → Prop) (hm : P.follows .mixedOrders = true) (h : anyZ P .any l.toArray z C Q l.length (Array.replicate l.length false) a w.drew) : (Code.region id l.toArray true).wp P Q a w :=
  wp_region_any hm (any_ofz _ _ _ _ (by simpa using h))
end
end Go.Proofs.YthhmamkphcgocaaDoor

/- A region that draws its order, where each operation keeps the worlds in a class: what reads alike in all worlds of the class may be taken first. Plain; no program. As Ord, where the class is kept up to one last operation that waits for what was taken first. Plain; no program. A region that draws its order, whose operations only read and whose callees only make new memory: walked once, in the order of the text. No program. -/
import Derived.Orders
import Derived.Tactics2
import Derived.RegionCalls
import Derived.Test.YtbmpidacoohdmaaGreatBas
namespace Go.Proofs.YtbmpidacoohdmaaGreat
section
open Go

section
variable {P : Program} {ops : Array Oper} {md : Region.Mode} {C : World → Prop} {Q : Exit → Act → World → Prop}

/-- In each world of the class the operation gives v and leaves the world as it is. -/
def Gives (P : Program) (ops : Array Oper) (C : World → Prop) (o : Oper) (v : Value) (a : Act) : Prop :=
  (Region.wanted o (yielded ops a.tmps) = true ∧ ∀ w, C w → (execOp a.eval o).run P w = .ok (.value v) w) ∨
  (Region.wanted o (yielded ops a.tmps) = false ∧ v = undef)
theorem Gives.alike {o : Oper} {v : Value} {a b : Act} (h : Gives P ops C o v a) (he : execOp b.eval o = execOp a.eval o) (hw : Region.wanted o (yielded ops b.tmps) = Region.wanted o (yielded ops a.tmps)) : Gives P ops C o v b := by
  unfold Gives at *
  rwa [he, hw]
theorem Gives.op {i : Nat} {o : Oper} {v : Value} {a : Act} {w : World} {K : Act → World → Prop} (hi : ops[i]? = some o) (h : Gives P ops C o v a) (hC : C w) (hk : K (a.put o.dst v) w) : wpOp P ops Q i K a w := by
  rcases h with ⟨h1, h2⟩ | ⟨h1, rfl⟩
  · simp only [wpOp, hi, h1, if_true]
    exact .inl (by unfold Oper.wp; rw [h2 w hC]; exact hk)
  · simp only [wpOp, hi, h1, Bool.false_eq_true, if_false]
    exact hk
/-- What another operation does is the same whether v stands in its slot already. -/
theorem Gives.past {j : Nat} {oi oj : Oper} {v : Value} {K : Act → World → Prop} {a : Act} {w : World} (hj : ops[j]? = some oj) (hap : oi.apart ops oj = true)
    (hsi : ∀ cs b, oi.op ≠ .select cs b) (hsj : ∀ cs b, oj.op ≠ .select cs b) (hQ : ∀ c a w, Q (.panic c) (a.put oi.dst v) w → Q (.panic c) a w)
    (hy : Gives P ops C oi v a) (h : wpOp P ops Q j K (a.put oi.dst v) w) : wpOp P ops Q j (fun b u => Gives P ops C oi v b ∧ K (b.put oi.dst v) u) a w := by
  obtain ⟨p1, p2, p3⟩ := Oper.apart_spec hap
  have still : ∀ b : Act, Gives P ops C oi v b → ∀ x, Gives P ops C oi v (b.put oj.dst x) := fun b hb x => hb.alike (execOp_put oi hsi b oj.dst x p3) (wanted_put oi b oj.dst x p3)
  have swap : ∀ (b : Act) (x : Value), (b.put oi.dst v).put oj.dst x = (b.put oj.dst x).put oi.dst v := fun b x => Act.put_comm b v x p2
  have each : ∀ r : Result Next, oj.upon P (a.put oi.dst v) K Q r → oj.upon P a (fun b u => Gives P ops C oi v b ∧ K (b.put oi.dst v) u) Q r := by
    intro r hr
    rcases r with ⟨n, u⟩ | ⟨x, u⟩
    · cases n
      case value y =>
        simp only [Oper.upon] at hr ⊢
        exact ⟨still a hy y, by rw [← swap]; exact hr⟩
      case skip =>
        simp only [Oper.upon] at hr ⊢
        exact ⟨still a hy _, by rw [← swap]; exact hr⟩
      case defer d =>
        simp only [Oper.upon] at hr ⊢
        refine ⟨still { a with defers := d :: a.defers } (hy.alike rfl rfl) _, ?_⟩
        rw [← swap, ← Act.put_defers]
        exact hr
      case enter f args =>
        simp only [Oper.upon] at hr ⊢
        refine hr.mono fun e u' he => ?_
        rcases e with y | c | _
        · exact ⟨still a hy y, by rw [← swap]; exact he⟩
        · exact hQ _ _ _ he
        · exact he
      case row row args =>
        simp only [Oper.upon] at hr ⊢
        exact Rows.mono hr fun y u' he => ⟨still a hy y, by rw [← swap]; exact he⟩
      all_goals exact hr.elim
    · cases x
      case panic y =>
        simp only [Oper.upon] at hr ⊢
        exact hQ _ _ _ hr
      all_goals exact hr.elim
  have ew := wanted_put oj a oi.dst v p1
  have eo := execOp_put oj hsj a oi.dst v p1
  unfold wpOp at *
  simp only [hj] at *
  rw [ew] at h
  by_cases hw : Region.wanted oj (yielded ops a.tmps) = true
  · rw [if_pos hw] at h ⊢
    rcases h with h | ⟨h1, h2⟩
    · refine .inl ?_
      unfold Oper.wp at *
      rw [eo] at h
      exact each _ h
    · refine .inr ⟨?_, h2⟩
      unfold Oper.asks at *
      rwa [eo] at h1
  · rw [if_neg hw] at h ⊢
    exact ⟨still a hy _, by rw [← swap]; exact h⟩

/-- As wpAny; and each world that is come to is of the class. -/
def anyC (P : Program) (md : Region.Mode) (ops : Array Oper) (C : World → Prop) (Q : Exit → Act → World → Prop) : Nat → Array Bool → Act → World → Prop
  | 0, listed, a, w => C w ∧ Region.ready md ops listed = [] ∧ Q .normal a w
  | f + 1, listed, a, w => C w ∧ (Region.ready md ops listed = [] → Q .normal a w) ∧ ∀ i ∈ Region.ready md ops listed, wpOp P ops Q i (anyC P md ops C Q f (listed.setIfInBounds i true)) a w
theorem anyC.c : ∀ {f : Nat} {listed : Array Bool} {a : Act} {w : World}, anyC P md ops C Q f listed a w → C w
  | 0, _, _, _, h => h.1
  | _ + 1, _, _, _, h => h.1
theorem any_of : ∀ (f : Nat) (listed : Array Bool) (a : Act) (w : World), anyC P md ops C Q f listed a w → wpAny P md ops Q f listed a w
  | 0, _, _, _, h => h.2
  | f + 1, _, _, _, h => ⟨h.2.1, fun i hi => wpOp_mono (fun a w h => any_of f _ a w h) (h.2.2 i hi)⟩
theorem first_of {i : Nat} {oi : Oper} {v : Value} (hi : ops[i]? = some oi) (hsel : ∀ (j : Nat) (o : Oper) cs b, ops[j]? = some o → o.op ≠ .select cs b) (hQ : ∀ c a w, Q (.panic c) (a.put oi.dst v) w → Q (.panic c) a w) :
    ∀ (f : Nat) (listed : Array Bool) (a : Act) (w : World), C w →
      (∀ j oj, ops[j]? = some oj → j ≠ i → listed.getD j true = false → (∀ e ∈ oj.after, Region.binds md e = true → e.on ≠ i) → oi.apart ops oj = true) →
      i ∈ Region.ready md ops listed → Gives P ops C oi v a → anyC P md ops C Q f (listed.setIfInBounds i true) (a.put oi.dst v) w → anyC P md ops C Q (f + 1) listed a w := by
  intro f
  induction f with
  | zero =>
    intro listed a w hC _ hr hy H
    refine ⟨hC, fun h => (by rw [h] at hr; cases hr), fun j hj => ?_⟩
    by_cases hji : j = i
    · subst hji
      exact hy.op hi hC H
    · exact absurd (ready_mono hj hji) (by rw [H.2.1]; exact List.not_mem_nil)
  | succ f ih =>
    intro listed a w hC hfree hr hy H
    refine ⟨hC, fun h => (by rw [h] at hr; cases hr), fun j hj => ?_⟩
    by_cases hji : j = i
    · subst hji
      exact hy.op hi hC H
    · obtain ⟨hu, oj, hoj, hall⟩ := mem_ready.1 hj
      have hno : ∀ e ∈ oj.after, Region.binds md e = true → e.on ≠ i := fun e he hb heq => by
        have h1 := hall e he hb
        have h0 := (mem_ready.1 hr).1
        rw [heq] at h1
        by_cases hlt : i < listed.size
        · simp [hlt] at h0 h1
          rw [h0] at h1
          cases h1
        · simp [Array.getElem?_eq_none (Nat.le_of_not_lt hlt)] at h1
      have h2 := Gives.past hoj (hfree j oj hoj hji hu hno) (fun cs b => hsel i oi cs b hi) (fun cs b => hsel j oj cs b hoj) hQ hy (H.2.2 j (ready_mono hj hji))
      refine wpOp_mono (fun b u h3 => ?_) h2
      refine ih (listed.setIfInBounds j true) b u h3.2.c (fun k ok hk hki hun hn => ?_) (ready_mono hr (Ne.symm hji)) h3.1 (by rw [Array.setIfInBounds_comm _ _ hji]; exact h3.2)
      refine hfree k ok hk hki ?_ hn
      by_cases hjk : j = k
      · subst hjk; exact hu
      · rwa [getD_set_ne true hjk] at hun
/-- One that reads alike is taken. -/
theorem anyC_take {oi : Oper} {v : Value} {f : Nat} {listed : Array Bool} {a : Act} {w : World} (i : Nat) (hC : C w) (hi : ops[i]? = some oi) (hs : Region.noSelect ops = true) (hf : Region.free md ops listed i = true)
    (hr : (Region.ready md ops listed).contains i = true) (hQ : ∀ c a w, Q (.panic c) (a.put oi.dst v) w → Q (.panic c) a w) (hw : Region.wanted oi (yielded ops a.tmps) = true) (hy : ∀ w, C w → (execOp a.eval oi).run P w = .ok (.value v) w)
    (h : anyC P md ops C Q f (listed.setIfInBounds i true) (a.put oi.dst v) w) : anyC P md ops C Q (f + 1) listed a w :=
  first_of hi (Region.noSelect_spec hs) hQ f listed a w hC (Region.free_spec hi hf) (by simpa using hr) (.inl ⟨hw, hy⟩) h
theorem upon_then {o : Oper} {a : Act} {K : Act → World → Prop} {r : Result Next} (h : o.upon P a (fun a w => Exit.then K Q .normal a w) (Exit.then K Q) r) : o.upon P a K Q r := by
  rcases r with ⟨n, u⟩ | ⟨x, u⟩
  · cases n
    case enter f args =>
      simp only [Oper.upon] at h ⊢
      refine h.mono fun e u' he => ?_
      rcases e with y | c | _
      · exact he
      · exact he
      · exact he
    all_goals exact h
  · cases x <;> exact h
/-- One of some that may come up is walked as a list of one. -/
theorem anyC_step {f : Nat} {listed : Array Bool} {a : Act} {w : World} {o : Oper} (i : Nat) (hi : ops[i]? = some o) (h : wpList P ops (Exit.then (anyC P md ops C Q f (listed.setIfInBounds i true)) Q) [o] a w) :
    wpOp P ops Q i (anyC P md ops C Q f (listed.setIfInBounds i true)) a w := by
  unfold wpOp
  simp only [hi]
  have e : wpList P ops (Exit.then (anyC P md ops C Q f (listed.setIfInBounds i true)) Q) [o] a w = (if Region.wanted o (yielded ops a.tmps) = true then o.wp P a w (fun a w => Exit.then (anyC P md ops C Q f (listed.setIfInBounds i true)) Q .normal a w) (Exit.then (anyC P md ops C Q f (listed.setIfInBounds i true)) Q) ∨ (o.asks P a w ∧ LetsOut (Exit.then (anyC P md ops C Q f (listed.setIfInBounds i true)) Q)) else anyC P md ops C Q f (listed.setIfInBounds i true) (a.put o.dst undef) w) := rfl
  rw [e] at h
  by_cases hw : Region.wanted o (yielded ops a.tmps) = true
  · rw [if_pos hw] at h ⊢
    rcases h with h | ⟨h1, h2⟩
    · exact .inl (upon_then h)
    · exact .inr ⟨h1, h2⟩
  · rw [if_neg hw] at h ⊢
    exact h
theorem anyC_one {f : Nat} {listed : Array Bool} {a : Act} {w : World} {o : Oper} (i : Nat) (hC : C w) (hr : Region.ready md ops listed = [i]) (hi : ops[i]? = some o)
    (h : wpList P ops (Exit.then (anyC P md ops C Q f (listed.setIfInBounds i true)) Q) [o] a w) : anyC P md ops C Q (f + 1) listed a w := by
  refine ⟨hC, fun h0 => (by rw [hr] at h0; cases h0), fun j hj => ?_⟩
  rw [hr, List.mem_singleton] at hj
  subst hj
  exact anyC_step j hi h
theorem anyC_two {f : Nat} {listed : Array Bool} {a : Act} {w : World} {o o2 : Oper} (i j : Nat) (hC : C w) (hr : Region.ready md ops listed = [i, j]) (hi : ops[i]? = some o) (hj : ops[j]? = some o2)
    (h : wpList P ops (Exit.then (anyC P md ops C Q f (listed.setIfInBounds i true)) Q) [o] a w) (h2 : wpList P ops (Exit.then (anyC P md ops C Q f (listed.setIfInBounds j true)) Q) [o2] a w) : anyC P md ops C Q (f + 1) listed a w := by
  refine ⟨hC, fun h0 => (by rw [hr] at h0; cases h0), fun k hk => ?_⟩
  rw [hr, List.mem_cons, List.mem_singleton] at hk
  rcases hk with rfl | rfl
  · exact anyC_step k hi h
  · exact anyC_step k hj h2
theorem anyC_done {listed : Array Bool} {a : Act} {w : World} (hC : C w) (hr : Region.ready md ops listed = []) (h : Q .normal a w) : ∀ f, anyC P md ops C Q f listed a w
  | 0 => ⟨hC, hr, h⟩
  | _ + 1 => ⟨hC, fun _ => h, by rw [hr]; simp⟩
theorem region_of {id : Nat} {a : Act} {w : World} {l : List Oper} (C : World → Prop) (hm : P.follows .mixedOrders = true) (h : anyC P .any l.toArray C Q l.length (Array.replicate l.length false) a w.drew) : (Code.region id l.toArray true).wp P Q a w :=
  wp_region_any hm (any_of _ _ _ _ (by simpa using h))
end
end
section
open Go

section
variable {P : Program} {ops : Array Oper} {md : Region.Mode} {C : World → Prop} {Q : Exit → Act → World → Prop} {z : Nat}

/-- As wpAny; and each world that is come to before operation z is of the class. -/
def anyZ (P : Program) (md : Region.Mode) (ops : Array Oper) (z : Nat) (C : World → Prop) (Q : Exit → Act → World → Prop) : Nat → Array Bool → Act → World → Prop
  | 0, listed, a, w => (listed.getD z true = false → C w) ∧ Region.ready md ops listed = [] ∧ Q .normal a w
  | f + 1, listed, a, w => (listed.getD z true = false → C w) ∧ (Region.ready md ops listed = [] → Q .normal a w) ∧ ∀ i ∈ Region.ready md ops listed, wpOp P ops Q i (anyZ P md ops z C Q f (listed.setIfInBounds i true)) a w
theorem anyZ.c : ∀ {f : Nat} {listed : Array Bool} {a : Act} {w : World}, anyZ P md ops z C Q f listed a w → listed.getD z true = false → C w
  | 0, _, _, _, h => h.1
  | _ + 1, _, _, _, h => h.1
theorem any_ofz : ∀ (f : Nat) (listed : Array Bool) (a : Act) (w : World), anyZ P md ops z C Q f listed a w → wpAny P md ops Q f listed a w
  | 0, _, _, _, h => h.2
  | f + 1, _, _, _, h => ⟨h.2.1, fun i hi => wpOp_mono (fun a w h => any_ofz f _ a w h) (h.2.2 i hi)⟩
theorem waits_not {i : Nat} {listed : Array Bool} (hr : i ∈ Region.ready md ops listed) {oj : Oper} (hall : ∀ e ∈ oj.after, Region.binds md e = true → listed.getD e.on false = true) : ∀ e ∈ oj.after, Region.binds md e = true → e.on ≠ i := fun e he hb heq => by
  have h1 := hall e he hb
  have h0 := (mem_ready.1 hr).1
  rw [heq] at h1
  by_cases hlt : i < listed.size
  · simp [hlt] at h0 h1
    rw [h0] at h1
    cases h1
  · simp [Array.getElem?_eq_none (Nat.le_of_not_lt hlt)] at h1
theorem first_z {i : Nat} {oi oz : Oper} {v : Value} (hi : ops[i]? = some oi) (hz : ops[z]? = some oz) (hzi : ∃ e ∈ oz.after, Region.binds md e = true ∧ e.on = i) (hsel : ∀ (j : Nat) (o : Oper) cs b, ops[j]? = some o → o.op ≠ .select cs b) (hQ : ∀ c a w, Q (.panic c) (a.put oi.dst v) w → Q (.panic c) a w) :
    ∀ (f : Nat) (listed : Array Bool) (a : Act) (w : World), C w → listed.getD z true = false →
      (∀ j oj, ops[j]? = some oj → j ≠ i → listed.getD j true = false → (∀ e ∈ oj.after, Region.binds md e = true → e.on ≠ i) → oi.apart ops oj = true) →
      i ∈ Region.ready md ops listed → Gives P ops C oi v a → anyZ P md ops z C Q f (listed.setIfInBounds i true) (a.put oi.dst v) w → anyZ P md ops z C Q (f + 1) listed a w := by
  intro f
  induction f with
  | zero =>
    intro listed a w hC _ _ hr hy H
    refine ⟨fun _ => hC, fun h => (by rw [h] at hr; cases hr), fun j hj => ?_⟩
    by_cases hji : j = i
    · subst hji
      exact hy.op hi hC H
    · exact absurd (ready_mono hj hji) (by rw [H.2.1]; exact List.not_mem_nil)
  | succ f ih =>
    intro listed a w hC hlz hfree hr hy H
    refine ⟨fun _ => hC, fun h => (by rw [h] at hr; cases hr), fun j hj => ?_⟩
    by_cases hji : j = i
    · subst hji
      exact hy.op hi hC H
    · obtain ⟨hu, oj, hoj, hall⟩ := mem_ready.1 hj
      have hno := waits_not hr hall
      have hjz : j ≠ z := by
        rintro rfl
        obtain rfl := Option.some.inj (hoj.symm.trans hz)
        obtain ⟨e, he, hb, hon⟩ := hzi
        exact hno e he hb hon
      have hiz : i ≠ z := by
        rintro rfl
        obtain ⟨_, o2, ho2, hall2⟩ := mem_ready.1 hr
        obtain rfl := Option.some.inj (ho2.symm.trans hz)
        obtain ⟨e, he, hb, hon⟩ := hzi
        exact waits_not hr hall2 e he hb hon
      have h2 := Gives.past hoj (hfree j oj hoj hji hu hno) (fun cs b => hsel i oi cs b hi) (fun cs b => hsel j oj cs b hoj) hQ hy (H.2.2 j (ready_mono hj hji))
      refine wpOp_mono (fun b u h3 => ?_) h2
      have hlz2 : (listed.setIfInBounds j true).getD z true = false := by rw [getD_set_ne true hjz]; exact hlz
      refine ih (listed.setIfInBounds j true) b u (h3.2.c (by rw [getD_set_ne true hjz, getD_set_ne true hiz]; exact hlz)) hlz2 (fun k ok hk hki hun hn => ?_) (ready_mono hr (Ne.symm hji)) h3.1 (by rw [Array.setIfInBounds_comm _ _ hji]; exact h3.2)
      refine hfree k ok hk hki ?_ hn
      by_cases hjk : j = k
      · subst hjk; exact hu
      · rwa [getD_set_ne true hjk] at hun
/-- Does z wait for i? -/
def waitsZ (md : Region.Mode) (ops : Array Oper) (z i : Nat) : Bool := match ops[z]? with
  | some o => o.after.any fun e => Region.binds md e && e.on == i
  | none => false
theorem waitsZ_spec {i : Nat} (h : waitsZ md ops z i = true) : ∃ oz, ops[z]? = some oz ∧ ∃ e ∈ oz.after, Region.binds md e = true ∧ e.on = i := by
  unfold waitsZ at h
  split at h
  · rename_i o ho
    obtain ⟨e, he, hb⟩ := Array.any_eq_true'.1 h
    simp only [Bool.and_eq_true, beq_iff_eq] at hb
    exact ⟨o, ho, e, he, hb⟩
  · cases h
theorem anyZ_take {oi : Oper} {v : Value} {f : Nat} {listed : Array Bool} {a : Act} {w : World} (i : Nat) (hC : C w) (hi : ops[i]? = some oi) (hs : Region.noSelect ops = true) (hf : Region.free md ops listed i = true)
    (hr : (Region.ready md ops listed).contains i = true) (hl : listed.getD z true = false) (hz : waitsZ md ops z i = true) (hQ : ∀ c a w, Q (.panic c) (a.put oi.dst v) w → Q (.panic c) a w) (hw : Region.wanted oi (yielded ops a.tmps) = true) (hy : ∀ w, C w → (execOp a.eval oi).run P w = .ok (.value v) w)
    (h : anyZ P md ops z C Q f (listed.setIfInBounds i true) (a.put oi.dst v) w) : anyZ P md ops z C Q (f + 1) listed a w := by
  obtain ⟨oz, h1, h2⟩ := waitsZ_spec hz
  exact first_z hi h1 h2 (Region.noSelect_spec hs) hQ f listed a w hC hl (Region.free_spec hi hf) (by simpa using hr) (.inl ⟨hw, hy⟩) h
theorem first_w {i : Nat} {oi : Oper} {v : Value} (hi : ops[i]? = some oi) (hiz : i ≠ z) (hsel : ∀ (j : Nat) (o : Oper) cs b, ops[j]? = some o → o.op ≠ .select cs b) (hQ : ∀ c a w, Q (.panic c) (a.put oi.dst v) w → Q (.panic c) a w) :
    ∀ (f : Nat) (listed : Array Bool) (a : Act) (w : World), (listed.getD z true = false → C w) →
      (∀ j oj, ops[j]? = some oj → j ≠ i → listed.getD j true = false → (∀ e ∈ oj.after, Region.binds md e = true → e.on ≠ i) → oi.apart ops oj = true) →
      i ∈ Region.ready md ops listed → Yields P ops oi v a → anyZ P md ops z C Q f (listed.setIfInBounds i true) (a.put oi.dst v) w → anyZ P md ops z C Q (f + 1) listed a w := by
  intro f
  induction f with
  | zero =>
    intro listed a w hC _ hr hy H
    refine ⟨hC, fun h => (by rw [h] at hr; cases hr), fun j hj => ?_⟩
    by_cases hji : j = i
    · subst hji
      exact hy.wpOp hi H
    · exact absurd (ready_mono hj hji) (by rw [H.2.1]; exact List.not_mem_nil)
  | succ f ih =>
    intro listed a w hC hfree hr hy H
    refine ⟨hC, fun h => (by rw [h] at hr; cases hr), fun j hj => ?_⟩
    by_cases hji : j = i
    · subst hji
      exact hy.wpOp hi H
    · obtain ⟨hu, oj, hoj, hall⟩ := mem_ready.1 hj
      have hno := waits_not hr hall
      have h2 := wpOp_put hoj (hfree j oj hoj hji hu hno) (fun cs b => hsel i oi cs b hi) (fun cs b => hsel j oj cs b hoj) hQ hy (H.2.2 j (ready_mono hj hji))
      refine wpOp_mono (fun b u h3 => ?_) h2
      refine ih (listed.setIfInBounds j true) b u (fun hlz => h3.2.c ?_) (fun k ok hk hki hun hn => ?_) (ready_mono hr (Ne.symm hji)) h3.1 (by rw [Array.setIfInBounds_comm _ _ hji]; exact h3.2)
      · rw [Array.setIfInBounds_comm _ _ (Ne.symm hji), getD_set_ne true hiz]
        exact hlz
      · refine hfree k ok hk hki ?_ hn
        by_cases hjk : j = k
        · subst hjk; exact hu
        · rwa [getD_set_ne true hjk] at hun
/-- One that looks at no memory is taken. -/
theorem anyZ_free {oi : Oper} {v : Value} {f : Nat} {listed : Array Bool} {a : Act} {w : World} (i : Nat) (hC : listed.getD z true = true ∨ C w) (hi : ops[i]? = some oi) (hs : Region.noSelect ops = true) (hf : Region.free md ops listed i = true)
    (hr : (Region.ready md ops listed).contains i = true) (hiz : i ≠ z) (hQ : ∀ c a w, Q (.panic c) (a.put oi.dst v) w → Q (.panic c) a w) (hw : Region.wanted oi (yielded ops a.tmps) = true) (hy : ∀ w, (execOp a.eval oi).run P w = .ok (.value v) w)
    (h : anyZ P md ops z C Q f (listed.setIfInBounds i true) (a.put oi.dst v) w) : anyZ P md ops z C Q (f + 1) listed a w :=
  first_w hi hiz (Region.noSelect_spec hs) hQ f listed a w (fun h0 => hC.elim (fun h1 => by rw [h1] at h0; cases h0) id) (Region.free_spec hi hf) (by simpa using hr) (.inl ⟨hw, hy⟩) h
theorem anyZ_step {f : Nat} {listed : Array Bool} {a : Act} {w : World} {o : Oper} (i : Nat) (hi : ops[i]? = some o) (h : wpList P ops (Exit.then (anyZ P md ops z C Q f (listed.setIfInBounds i true)) Q) [o] a w) :
    wpOp P ops Q i (anyZ P md ops z C Q f (listed.setIfInBounds i true)) a w := by
  unfold wpOp
  simp only [hi]
  have e : wpList P ops (Exit.then (anyZ P md ops z C Q f (listed.setIfInBounds i true)) Q) [o] a w = (if Region.wanted o (yielded ops a.tmps) = true then o.wp P a w (fun a w => Exit.then (anyZ P md ops z C Q f (listed.setIfInBounds i true)) Q .normal a w) (Exit.then (anyZ P md ops z C Q f (listed.setIfInBounds i true)) Q) ∨ (o.asks P a w ∧ LetsOut (Exit.then (anyZ P md ops z C Q f (listed.setIfInBounds i true)) Q)) else anyZ P md ops z C Q f (listed.setIfInBounds i true) (a.put o.dst undef) w) := rfl
  rw [e] at h
  by_cases hw : Region.wanted o (yielded ops a.tmps) = true
  · rw [if_pos hw] at h ⊢
    rcases h with h | ⟨h1, h2⟩
    · exact .inl (upon_then h)
    · exact .inr ⟨h1, h2⟩
  · rw [if_neg hw] at h ⊢
    exact h
theorem anyZ_one {f : Nat} {listed : Array Bool} {a : Act} {w : World} {o : Oper} (i : Nat) (hC : listed.getD z true = true ∨ C w) (hr : Region.ready md ops listed = [i]) (hi : ops[i]? = some o)
    (h : wpList P ops (Exit.then (anyZ P md ops z C Q f (listed.setIfInBounds i true)) Q) [o] a w) : anyZ P md ops z C Q (f + 1) listed a w := by
  refine ⟨fun h1 => hC.elim (fun h2 => by rw [h2] at h1; cases h1) id, fun h0 => (by rw [hr] at h0; cases h0), fun j hj => ?_⟩
  rw [hr, List.mem_singleton] at hj
  subst hj
  exact anyZ_step j hi h
theorem anyZ_done {listed : Array Bool} {a : Act} {w : World} (hz : listed.getD z true = true) (hr : Region.ready md ops listed = []) (h : Q .normal a w) : ∀ f, anyZ P md ops z C Q f listed a w
  | 0 => ⟨fun h => (by rw [hz] at h; cases h), hr, h⟩
  | _ + 1 => ⟨fun h => (by rw [hz] at h; cases h), fun _ => h, by rw [hr]; simp⟩
theorem anyZ_of : ∀ (f : Nat) (listed : Array Bool) (a : Act) (w : World), listed.getD z true = true → wpAny P md ops Q f listed a w → anyZ P md ops z C Q f listed a w
  | 0, _, _, _, hz, h => ⟨fun h0 => (by rw [hz] at h0; cases h0), h⟩
  | f + 1, listed, _, _, hz, h => ⟨fun h0 => (by rw [hz] at h0; cases h0), h.1, fun i hi => wpOp_mono (fun a w h => anyZ_of f _ a w (by
      by_cases hiz : i = z
      · subst hiz
        simp
      · rw [getD_set_ne true hiz]; exact hz) h) (h.2 i hi)⟩
theorem region_ofz {id : Nat} {a : Act} {w : World} {l : List Oper} (z : Nat) (C : World → Prop) (hm : P.follows .mixedOrders = true) (h : anyZ P .any l.toArray z C Q l.length (Array.replicate l.length false) a w.drew) : (Code.region id l.toArray true).wp P Q a w :=
  wp_region_any hm (any_ofz _ _ _ _ (by simpa using h))
end
end
section
open Go.RowKit

/-- A world behind w: all that lay in w lies there as it did. -/
structure Aft (w : World) where
  W : World
  h : Below w.heap.size w W

instance (w : World) : Nonempty (Aft w) := ⟨⟨w, Below.refl _ _⟩⟩

section
variable {P : Program} {w : World}
theorem Aft.later (W : Aft w) : Later w W.W := later_of_below W.h (Nat.le_refl _)
theorem Aft.cell (W : Aft w) {p : Addr} (hp : p.block < w.heap.size) : W.W.cell? p = w.cell? p := W.h.cell hp
def Aft.up (W1 : Aft w) (W : Aft W1.W) : Aft w := ⟨W.W, W1.h.trans (W.h.mono W1.h.size)⟩
theorem wp_region_aft {id : Nat} {Q : Exit → Act → World → Prop} {a : Act} {l : List Oper} (hm : P.follows .mixedOrders = true) (hB : Region.lexB .any l.toArray = true)
    (h : wpQuiet P l.toArray (fun w' => ∃ W : Aft w, w' = W.W) (fun a' => ∀ w', (∃ W : Aft w, w' = W.W) → Q .normal a' w') l a) : (Code.region id l.toArray true).wp P Q a w :=
  wp_region_quiet (C := fun w' => ∃ W : Aft w, w' = W.W) hm hB ⟨⟨w.drew, ⟨rfl, rfl, rfl, Nat.le_refl _, fun _ _ => rfl⟩⟩, rfl⟩ (by simpa using h)
theorem aft_call {f : FuncId} {args : Array Value} {v : Value} {W : Aft w} (h : Calls P f args W.W fun e w' => e = .returned v ∧ Below W.W.heap.size W.W w') :
    Calls P f args W.W fun e w'' => e = .returned v ∧ ∃ W' : Aft w, w'' = W'.W :=
  h.mono fun _ w'' ⟨he, hb⟩ => ⟨he, ⟨⟨w'', W.h.trans (hb.mono W.h.size)⟩, rfl⟩⟩
end
end
end Go.Proofs.YtbmpidacoohdmaaGreat

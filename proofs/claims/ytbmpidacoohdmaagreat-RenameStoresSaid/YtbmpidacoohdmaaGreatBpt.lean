/- Both stores, side by side: Put of a blob. -/
import Derived.Test.YtbmpidacoohdmaaGreatBth
namespace Go.Proofs.YtbmpidacoohdmaaGreat
open Go.RowKit Op

def putF (f : List UInt8 → Option (List UInt8)) (id body : List UInt8) : List UInt8 → Option (List UInt8) := fun i => if i = id ∧ f id = none then some body else f i
theorem Cnt.put_same {l : List Ent} {f : List UInt8 → Option (List UInt8)} (h : Cnt l f) {id body : List UInt8} (hx : ∃ x, x ∈ l ∧ x.id = id) : putF f id body = f := by
  obtain ⟨x, hm, rfl⟩ := hx
  funext i
  unfold putF
  rw [if_neg]
  rintro ⟨_, h2⟩
  rw [h.yes x hm] at h2
  cases h2
theorem Cnt.put_new {l l2 : List Ent} {f : List UInt8 → Option (List UInt8)} (h : Cnt l f) {id body : List UInt8} (hno : ∀ x ∈ l, x.id ≠ id) {v : Value} (hm : ∀ x, x ∈ l2 ↔ x = ⟨id, body, v⟩ ∨ x ∈ l) : Cnt l2 (putF f id body) where
  yes := fun x hx => by
    unfold putF
    rcases (hm x).1 hx with rfl | hx
    · rw [if_pos ⟨rfl, h.no _ hno⟩]
    · rw [if_neg (fun q => hno x hx q.1)]
      exact h.yes x hx
  no := fun i hi => by
    unfold putF
    rw [if_neg (fun q => hi _ ((hm _).2 (.inl rfl)) q.1.symm)]
    exact h.no i fun x hx => hi x ((hm x).2 (.inr hx))
theorem mem_mid {l : List Ent} {i : Nat} {e : Ent} (x : Ent) : x ∈ l.take i ++ e :: l.drop i ↔ x = e ∨ x ∈ l := by
  rw [List.mem_append, List.mem_cons]
  constructor
  · rintro (h | h | h)
    · exact .inr (List.mem_of_mem_take h)
    · exact .inl h
    · exact .inr (List.mem_of_mem_drop h)
  · rintro (h | h)
    · exact .inr (.inl h)
    · rw [← List.take_append_drop i l, List.mem_append] at h
      rcases h with h | h
      · exact .inl h
      · exact .inr (.inr h)
/-- The blocks that a call may turn. -/
def Bst (b g m gd : Nat) (ov : Value) : Nat → Prop := fun k => k = b ∨ k = g ∨ k = m ∨ k = gd ∨ some k = ov.ownBlock
theorem cellsK_len (x : Kpt) (h : x.id.length = 32) : (cellsK x).length = 34 := by simp [cellsK, bys_len, h]
theorem flatK_at (ks : List Kpt) (h : ∀ x ∈ ks, x.id.length = 32) : ∀ (k : Nat) (x : Kpt) (j : Nat) (v : Value), ks[k]? = some x → (cellsK x)[j]? = some v → (ks.flatMap cellsK)[k * 34 + j]? = some v := by
  induction ks with
  | nil => intro k x j v hx; simp at hx
  | cons y ks ih =>
    intro k x j v hx hv
    have hy := cellsK_len y (h y (by simp))
    rw [List.flatMap_cons]
    cases k with
    | zero =>
      obtain rfl : y = x := by simpa using hx
      rw [Nat.zero_mul, Nat.zero_add, List.getElem?_append_left (List.getElem?_eq_some_iff.1 hv).1]
      exact hv
    | succ k =>
      rw [List.getElem?_append_right (by rw [hy]; omega), hy, show (k + 1) * 34 + j - 34 = k * 34 + j by omega]
      exact ih (fun z hz => h z (by simp [hz])) k x j v (by simpa using hx) hv
theorem Bth.non {w : World} {B b g m gd : Nat} {ov : Value} {ks : List Kpt} {n : Nat} {f : List UInt8 → Option (List UInt8)} (h : Bth w B b g m gd ov ks n f) {ty : TypeId} (h1 : ty ≠ 40) (h2 : ty ≠ 135) (h3 : ty ≠ 63) (h4 : ty ≠ 105) : Non (Bst b g m gd ov) w ty := by
  obtain ⟨cl, hb⟩ := h.blk
  obtain ⟨l, kn, t, hp, _⟩ := h.psp
  obtain ⟨l2, A, c, fr, t2, hr, _⟩ := h.rsp
  rintro k (rfl | hk | hk | hk | hk) cs q hq
  · have := hb.symm.trans hq
    injection this with this
    injection this with _ e
    exact h1 e.symm
  · exact hp.non h2 k (.inl hk) cs q hq
  · exact hp.non h2 k (.inr hk) cs q hq
  · exact hr.non h3 k hk cs q hq
  · obtain ⟨_, ⟨e1, _⟩ | ⟨g, cap, cur, e1, _, e3, _⟩⟩ := h.own
    · rw [e1] at hk; cases hk
    · rw [e1] at hk
      obtain rfl : k = g := by simpa [Value.ownBlock] using hk
      have := e3.symm.trans hq
      injection this with this
      injection this with _ e
      exact h4 e.symm
/-- The blocks lie apart. -/
theorem Bth.apart {w : World} {B b g m gd : Nat} {ov : Value} {ks : List Kpt} {n : Nat} {f : List UInt8 → Option (List UInt8)} (h : Bth w B b g m gd ov ks n f) : b ≠ g ∧ b ≠ m ∧ b ≠ gd ∧ g ≠ gd ∧ m ≠ gd ∧ some b ≠ ov.ownBlock ∧ some g ≠ ov.ownBlock ∧ some m ≠ ov.ownBlock ∧ some gd ≠ ov.ownBlock := by
  obtain ⟨cl, hb⟩ := h.blk
  obtain ⟨l, kn, t, hp, _⟩ := h.psp
  obtain ⟨l2, A, c, fr, t2, hr, _⟩ := h.rsp
  obtain ⟨D, ⟨es, clk, hm, _⟩, _⟩ := hp.map
  have hg := hp.blk
  have hd := hr.blk
  have ne : ∀ (x y : Nat) (o1 o2 : Obj), w.heap[x]? = some o1 → w.heap[y]? = some o2 → o1 ≠ o2 → x ≠ y := fun x y o1 o2 a1 a2 a3 e => by
    subst e
    exact a3 (Option.some.inj (a1.symm.trans a2))
  refine ⟨ne _ _ _ _ hb hg (fun e => by injection e with _ e; revert e; decide), ne _ _ _ _ hb hm (fun e => by cases e), ne _ _ _ _ hb hd (fun e => by injection e with _ e; revert e; decide), ne _ _ _ _ hg hd (fun e => by injection e with _ e; revert e; decide), ne _ _ _ _ hm hd (fun e => by cases e), own_ne h.own (fun cs q hq => ?_), own_ne h.own (fun cs q hq => ?_), own_ne h.own (fun cs q hq => ?_), own_ne h.own (fun cs q hq => ?_)⟩
  · have := hb.symm.trans hq
    injection this with this
    injection this with _ e
    revert e; decide
  · have := hg.symm.trans hq
    injection this with this
    injection this with _ e
    revert e; decide
  · have := hm.symm.trans hq
    injection this with this
    cases this
  · have := hd.symm.trans hq
    injection this with this
    injection this with _ e
    revert e; decide
theorem Rsp.far {S : Nat → Prop} {w w2 : World} {g : Nat} {l : List Ent} {A : Option Addr} {c : Nat} {fr : Bool} {t : Int} (h : Rsp w g l A c fr t) (hc : Chs S w w2) (hn : Non S w 5) (hn2 : Non S w 99) (hg : ¬ S g) : Rsp w2 g l A c fr t := h.chs hc hn hn2 ((hc.block g h.lt hg).trans h.blk)
theorem Psp.far {S : Nat → Prop} {w w2 : World} {g m : Nat} {l : List Ent} {t kn : Int} (h : Psp w g m l t kn) (hc : Chs S w w2) (hn : Non S w 5) (hg : ¬ S g) (hm : ¬ S m) : Psp w2 g m l t kn := h.chs hc hn (hc.block m h.mlt hm) ((hc.block g h.glt hg).trans h.blk)
theorem Chs.of_row {w w2 : World} {row : Option Nat} (h : w.grownBy w2 row) : Chs (fun q => some q = row) w w2 := ⟨h.os, h.tape, h.output, h.size, fun k hk hn => h.block k hk hn⟩
theorem own_chs {S : Nat → Prop} {w w2 : World} {C size : Nat} {e : TypeId} {v : Value} {n : Nat} {xs : List Value} (h : w.ownsRow C e size v n xs) (hc : Chs S w w2) (hn : ∀ q, v.ownBlock = some q → ¬ S q) : w2.ownsRow C e size v n xs := by
  obtain ⟨h0, ⟨h1, h2⟩ | ⟨g, cap, cur, h1, h2, h3, h4⟩⟩ := h
  · exact ⟨h0, .inl ⟨h1, h2⟩⟩
  · exact ⟨h0, .inr ⟨g, cap, cur, h1, h2, (hc.block g (Array.getElem?_eq_some_iff.1 h3).1 (hn g (by rw [h1]; rfl))).trans h3, h4⟩⟩
theorem bdTK (ps : Array (Nat × Value)) : Instr.build 105 ps = bdT 105 ps := rfl
def bsK (p : Nat × Value) : Sem Value := Instr.buildSlice 38 1 #[p]
theorem bsK_eq {α : Type} (f : α → Nat × Value) (p : α) : Instr.buildSlice 38 1 (Array.map f #[p]) = bsK (f p) := by simp [bsK]
theorem of32 {l : List UInt8} (h : l.length = 32) : ∃ f : Fin 32 → UInt8, l = List.ofFn f := ⟨fun i => l.getD i.val 0, List.ext_getElem (by rw [List.length_ofFn, h]) fun i h1 h2 => by rw [List.getElem_ofFn, List.getD_eq_getElem?_getD, List.getElem?_eq_getElem h1]; rfl⟩
theorem run_bdK (x : Kpt) (hr : x.id.length = 32) (W : World) : (bdT 105 #[(0, .agg (bys x.id).toArray), (1, .int .i64 1), (2, .string (bs x.body))]).run Tryz.prog W = .ok (.agg (cellsK x).toArray) W := by
  obtain ⟨id, body⟩ := x
  obtain ⟨f, rfl⟩ := of32 hr
  exact run_build W _ _ _ (by kernel_rfl)
theorem infK : (Tryz.prog.info? 105).map (·.size) = some 34 := by kernel_rfl
theorem zeroK : ((Tryz.prog.info? 105).bind (·.zero)).isSome = true := by kernel_rfl
theorem slK : Sl Tryz.prog 38 105 34 56 := ⟨Tryz.underlying38, by kernel_rfl, by decide⟩
theorem run_bsK (x : Kpt) (hl : x.id.length = 32) (W : World) : (bsK (0, .agg (cellsK x).toArray)).run Tryz.prog W = .ok (.slice (some ⟨W.heap.size, 0, none⟩) 1 1) (W.alloc (.cells (cellsK x).toArray 105)) :=
  run_build_one W Tryz.underlying38 infK zeroK (cellsK x).toArray (by simp [cellsK_len x hl]) (by omega) (by omega)
theorem cellsK_one (x : Kpt) : ∀ u ∈ cellsK x, u.oneCell' = true := by
  intro u hu
  rcases List.mem_append.1 hu with hu | hu
  · exact bys_one _ u hu
  · simp only [List.mem_cons, List.not_mem_nil, or_false] at hu
    rcases hu with rfl | rfl <;> rfl
attribute [local go_sem] bs_append bs_size bs_toList
attribute [local go_sem ↓] bdTK bsK_eq load42_eq store42_eq new42_eq run_new42 box42_eq run_box42
set_option maxRecDepth 100000 in
set_option maxHeartbeats 1000000 in
theorem bput_any (w : World) (B b g m gd : Nat) (ov : Value) (ks : List Kpt) (n : Nat) (f : List UInt8 → Option (List UInt8)) (hs : Bth w B b g m gd ov ks n f) (hn : n < 40) (body : List UInt8) (hb : body.length ≤ 400) (bb d : Nat) (hd : By w (.slice (some ⟨bb, 0, none⟩) body.length d) body) (hB : B ≤ w.heap.size) :
    Calls Tryz.prog 15 #[.pointer (some ⟨b, 0, none⟩), .int .i64 1, .slice (some ⟨bb, 0, none⟩) body.length d] w fun e w2 => e = .returned (.agg (bys (shaOf (objB body))).toArray) ∧
      ∃ ov2, Bth w2 B b g m gd ov2 (ks ++ [⟨shaOf (objB body), body⟩]) (n + 1) (putF f (shaOf (objB body)) body) ∧ Chs (Bst b g m gd ov) w w2 := by
  have HS := Lib.hid hs
  have HD := Lib.hid hd
  obtain ⟨a1, a2, a3, a4, a5, a6, a7, a8, a9⟩ := hs.apart
  obtain ⟨cl, hblk⟩ := hs.blk
  obtain ⟨l, kn, t, hp, hln, htn, hcn⟩ := hs.psp
  obtain ⟨l', A, c, fr, t', hr, hln', htn', hcn'⟩ := hs.rsp
  have B0 := Lib.hid ((Below.refl w.heap.size w).alloc (Nat.le_refl _) (.cells z42 51))
  have R0 : Hid (Ar (w.alloc (.cells z42 51)) w.heap.size 51 (bys (List.replicate 32 0))) := Lib.hid (Ar.new w (bys (List.replicate 32 0)) 51)
  have K0 : Hid (Ar w b 40 [.pointer (some ⟨g, 0, none⟩), .pointer (some ⟨gd, 0, none⟩), .slice none 0 0, .slice none 0 0, .slice none 0 0, .bool cl, .bool false, ov, .bool false]) := Lib.hid hblk
  have k0 := Lib.hid (K0.out.alloc (.cells z42 51))
  have P0 := Lib.hid (hp.below B0.out)
  have Q0 := Lib.hid (hr.below B0.out)
  have D0 := Lib.hid (hd.chs (Chs.of_below B0.out (fun _ => False)) (fun _ q => q.elim))
  have hc00 := k0.out.cell (k := 0) rfl
  have CN := Lib.hid (And.intro hcn hcn')
  obtain ⟨Do, do_, hov, _⟩ := own_all hs.own
  subst hov
  have O0 := Lib.hid (own_below hs.own B0.out)
  have hksn := hs.few
  have HSZ := Lib.hid (And.intro hp.glt (And.intro hp.mlt hr.lt))
  have HB0 := Lib.hid hB
  have HK := Lib.hid hs.ids
  obtain ⟨b2, d2, e1, hdc, hdr, _⟩ := D0.out
  obtain ⟨rfl, rfl⟩ : bb = b2 ∧ d = d2 := by
    injection e1 with e1 _ e3
    injection e1 with e1
    injection e1 with e1
    exact ⟨e1, e3⟩
  have DR := Lib.hid hdr
  clear hs hd hblk hp hr hcn hcn' hdc hdr
  generalize hw0 : w.alloc (.cells z42 51) = w0 at *
  go_enter Tryz.func15, Tryz.ntmps15
  go_wp2_with fail
  refine (put_any w0 g m l t kn (by omega) P0.out body hb _ d (fun q => by cases q) DR.out (by omega)).mono ?_
  rintro e w1 ⟨rfl, l2, t2, kn2, hp1, ht2, hc1, hl2⟩
  have HI := Lib.hid (shaOf_len (objB body))
  generalize hid : shaOf (objB body) = id at *
  have HL2 := Lib.hid hl2
  have NU : Hid (Non (fun k => k = g ∨ k = m) w0 5) := Lib.hid (P0.out.non (by decide))
  have NF : Hid (Non (fun k => k = g ∨ k = m) w0 99) := Lib.hid (P0.out.non (by decide))
  have NI : Hid (Non (fun k => k = g ∨ k = m) w0 51) := Lib.hid (P0.out.non (by decide))
  have NB : Hid (Non (fun k => k = g ∨ k = m) w0 40) := Lib.hid (P0.out.non (by decide))
  have P1 := Lib.hid hp1
  have C1 := Lib.hid hc1
  have Q1 := Lib.hid (Q0.out.far hc1 NU.out NF.out (by rintro (q | q) <;> omega))
  have D1 := Lib.hid (D0.out.chs hc1 NU.out)
  have R1 := Lib.hid (R0.out.chs hc1 NI.out)
  have k1 := Lib.hid (k0.out.chs hc1 NB.out)
  have O1 := Lib.hid (own_chs O0.out hc1 (fun q e => by rintro (rfl | rfl); exact a7 e.symm; exact a8 e.symm))
  clear hp1 hc1 hl2 NU NF NI NB
  have T1 : Hid (Ar (w1.alloc (.cells z42 51)) w1.heap.size 51 (bys (List.replicate 32 0))) := Lib.hid (Ar.new w1 (bys (List.replicate 32 0)) 51)
  have hst1 := st42 T1.out (by simp) HI.out
  have E2 := Lib.hid (below_row ((Below.refl w1.heap.size w1).alloc (Nat.le_refl _) (.cells z42 51)) w1.heap.size (bys id).toArray (Nat.le_refl _))
  have T2 := Lib.hid (T1.out.setRow (bys id))
  generalize hw2 : (w1.alloc (.cells z42 51)).setRow w1.heap.size (bys id).toArray = w2 at *
  have P2 := Lib.hid (P1.out.below E2.out)
  have Q2 := Lib.hid (Q1.out.below E2.out)
  have D2 := Lib.hid (D1.out.chs (Chs.of_below E2.out (fun _ => False)) (fun _ q => q.elim))
  have R2 := Lib.hid (R1.out.below E2.out R1.out.lt)
  have k2 := Lib.hid (k1.out.below E2.out k1.out.lt)
  have O2 := Lib.hid (own_below O1.out E2.out)
  have C2 := Lib.hid (C1.out.trans (Chs.of_below E2.out _))
  have hc21 := k2.out.cell (k := 1) rfl
  obtain ⟨_, _, e1, _, hdr2, _⟩ := D2.out
  have DR2 : Hid (Rv w2.heap.size w2 (some ⟨bb, 0, none⟩) (bys body)) := Lib.hid (by
    injection e1 with e1
    injection e1 with e1
    injection e1 with e1
    rw [e1]
    exact hdr2)
  clear hdr2 e1
  go_wp2_with fail
  refine (fput_any w2 gd l' A c fr t' (by omega) Q2.out body hb _ d (fun q => by cases q) DR2.out (by omega)).mono ?_
  rw [hid]
  rintro e w3 ⟨rfl, l3, A3, c3, fr3, t3, hq3, ht3, hc3, hl3⟩
  have HL3 := Lib.hid hl3
  have NU : Hid (Non (fun k => k = gd) w2 5) := Lib.hid (Q2.out.non (by decide))
  have NI : Hid (Non (fun k => k = gd) w2 51) := Lib.hid (Q2.out.non (by decide))
  have NB : Hid (Non (fun k => k = gd) w2 40) := Lib.hid (Q2.out.non (by decide))
  have Q3 := Lib.hid hq3
  have P3 := Lib.hid (P2.out.far hc3 NU.out (by omega) (by omega))
  have D3 := Lib.hid (D2.out.chs hc3 NU.out)
  have R3 := Lib.hid (R2.out.chs hc3 NI.out)
  have T3 := Lib.hid (T2.out.chs hc3 NI.out)
  have k3 := Lib.hid (k2.out.chs hc3 NB.out)
  have O3 := Lib.hid (own_chs O2.out hc3 (fun q e => by rintro rfl; exact a9 e.symm))
  have C3 := Lib.hid ((C2.out.more (T := Bst b g m gd (.slice Do ks.length do_)) (fun k h => h.elim (fun h => .inr (.inl h)) (fun h => .inr (.inr (.inl h))))).trans (hc3.more (fun k h => .inr (.inr (.inr (.inl h))))))
  clear hq3 hc3 hl3 NU NI NB
  have U3 : Hid (Ar (w3.alloc (.cells z42 51)) w3.heap.size 51 (bys (List.replicate 32 0))) := Lib.hid (Ar.new w3 (bys (List.replicate 32 0)) 51)
  have hst3 := st42 U3.out (by simp) HI.out
  have E4 := Lib.hid (below_row ((Below.refl w3.heap.size w3).alloc (Nat.le_refl _) (.cells z42 51)) w3.heap.size (bys id).toArray (Nat.le_refl _))
  have U4 := Lib.hid (U3.out.setRow (bys id))
  generalize hw4 : (w3.alloc (.cells z42 51)).setRow w3.heap.size (bys id).toArray = w4 at *
  have P4 := Lib.hid (P3.out.below E4.out)
  have Q4 := Lib.hid (Q3.out.below E4.out)
  have D4 := Lib.hid (D3.out.chs (Chs.of_below E4.out (fun _ => False)) (fun _ q => q.elim))
  have R4 := Lib.hid (R3.out.below E4.out R3.out.lt)
  have T4 := Lib.hid (T3.out.below E4.out T3.out.lt)
  have k4 := Lib.hid (k3.out.below E4.out k3.out.lt)
  have O4 := Lib.hid (own_below O3.out E4.out)
  have C4 := Lib.hid (C3.out.trans (Chs.of_below E4.out _))
  have hldT := ld42 T4.out HI.out
  have hldU := ld42 U4.out HI.out
  have hq := fun W => run_neq_id (a := id) (b := id) HI.out HI.out W
  go_wp2_with fail
  go_loopw [11] (fun kv wr => ∃ k : Nat, k ≤ ks.length ∧ kv = .int .i64 k ∧ Hid (Chs (fun q => q = b) w4 wr) ∧ ∃ cl2, Hid (Ar wr b 40 [.pointer (some ⟨g, 0, none⟩), .pointer (some ⟨gd, 0, none⟩), .slice none 0 0, .slice none 0 0, .slice none 0 0, .bool cl2, .bool false, .slice Do ks.length do_, .bool false])) (fun kv _ => ks.length - (intOf kv).toNat)
  case atStart => exact ⟨0, Nat.zero_le _, rfl, Lib.hid (Chs.of_below (Below.refl _ _) _), cl, k4⟩
  case round =>
    obtain ⟨k, hk, rfl, hcr, cl2, hkr⟩ := hrel
    have hc7 := hkr.out.cell (k := 7) rfl
    have UR := Lib.hid (U4.out.chs hcr.out (k4.out.non (by decide)))
    have DRr := Lib.hid (D4.out.chs hcr.out (k4.out.non (by decide)))
    have OR := Lib.hid (own_chs O4.out hcr.out (fun q e => by rintro rfl; exact a6 e.symm))
    by_cases hlt : k < ks.length
    · obtain ⟨gb, cap, cs, hv, _, hcap, _, hrv⟩ := own_formk OR.out (by omega)
      obtain ⟨rfl, rfl⟩ : Do = some ⟨gb, 0, none⟩ ∧ do_ = cap := by
        injection hv with e1 _ e3
        exact ⟨e1, e3⟩
      obtain ⟨x, hx⟩ : ∃ x, ks[k]? = some x := ⟨ks[k], List.getElem?_eq_getElem hlt⟩
      have hxi := (HK.out x (List.mem_of_getElem? hx)).1
      have hrow : ∀ j v, (cellsK x)[j]? = some v → wr.cell? ⟨gb, k * 34 + j, none⟩ = some v := fun j v hv => by
        obtain ⟨ad, e, _, hc⟩ := hrv.at_ (flatK_at ks (fun y hy => (HK.out y hy).1) k x j v hx hv)
        obtain rfl := Option.some.inj e
        rwa [Addr.add_lit, Nat.zero_add] at hc
      have hck := hrow 32 (.int .i64 1) (by rw [cellsK, List.getElem?_append_right (by rw [bys_len]; omega), bys_len, hxi]; rfl)
      have hcs := hrow 33 (.string (bs x.body)) (by rw [cellsK, List.getElem?_append_right (by rw [bys_len]; omega), bys_len, hxi]; rfl)
      have hl1 : ∀ q, (load42 ⟨gb, k * 34, none⟩).run Tryz.prog (wr.drewN q) = .ok (.agg (bys x.id).toArray) (wr.drewN q) := fun q =>
        run_loadVar_cells Tryz.underlying51 rfl (by rw [bys_len, hxi]; exact inf42) (fun j v hv => by
          rw [Addr.add_lit]
          exact hrow j v (by rw [cellsK, List.getElem?_append_left (List.getElem?_eq_some_iff.1 hv).1]; exact hv))
      have hl2 : ∀ q, (load42 ⟨w3.heap.size, 0, none⟩).run Tryz.prog (wr.drewN q) = .ok (.agg (bys id).toArray) (wr.drewN q) := fun q => ld42 (UR.out.drewN q) HI.out
      obtain ⟨b3, d3, e1, _, hdr3, _⟩ := DRr.out
      obtain ⟨rfl, rfl⟩ : bb = b3 ∧ d = d3 := by
        injection e1 with e1 _ e3
        injection e1 with e1
        injection e1 with e1
        exact ⟨e1, e3⟩
      have hcv : ∀ q, (convert 57 9 (.slice (some ⟨bb, 0, none⟩) body.length d)).run Tryz.prog (wr.drewN q) = .ok (.string (bs body)) (wr.drewN q) := fun q => conv22 d (hdr3.drewN q)
      have hqe : ∀ W, (binOp .eql 51 (.agg (bys x.id).toArray) (.agg (bys id).toArray)).run Tryz.prog W = .ok (.bool (decide (x.id = id))) W := fun W => run_eql_id hxi HI.out W
      have HB5 := Lib.hid (And.intro hkr.out hcr.out)
      clear hrow hrv hx hxi hldT hldU hq hdr3 e1 hv UR DRr OR
      by_cases he : x.id = id
      · rw [decide_eq_true he] at hqe
        clear he
        by_cases hbd : x.body = body
        · have hcm : (x.body == body) = true := by rw [hbd]; simp
          clear hbd
          go_wp2_with fail
          refine wp_region_quiet_lit (by kernel_rfl) (by kernel_rfl) ?_
          repeat (go_big_quiet_step (fail))
          refine wpQuiet_nil ?_
          rintro _ ⟨n1, rfl⟩
          go_wp2_with fail
          exact ⟨⟨k + 1, by omega, by go_num, Lib.hid (HB5.out.2.trans (Chs.of_below (below_dr (Below.refl _ _) n1) _)), cl2, Lib.hid (HB5.out.1.drewN n1)⟩, by simp [intOf]; omega⟩
        · have hcm : (x.body == body) = false := beq_eq_false_iff_ne.2 hbd
          clear hbd
          go_wp2_with fail
          refine wp_region_quiet_lit (by kernel_rfl) (by kernel_rfl) ?_
          repeat (go_big_quiet_step (fail))
          refine wpQuiet_nil ?_
          rintro _ ⟨n1, rfl⟩
          have HB6 := Lib.hid (HB5.out.1.drewN n1)
          have hf5 := HB6.out.frozen 5
          have hc5 := HB6.out.cell (k := 5) rfl
          have HB7 := Lib.hid (HB6.out.set 5 (.bool true))
          have G7 := Lib.hid (Chs.of_grown (grown_set (grown_refl (wr.drewN n1) (some b)) 5 (.bool true)))
          clear hl1 hl2 hcv hqe hck hcs hcm
          generalize hwd : wr.drewN n1 = wd at *
          go_wp2_with fail
          exact ⟨⟨k + 1, by omega, by go_num, Lib.hid ((HB5.out.2.trans (Chs.of_below (hwd ▸ below_dr (Below.refl _ _) n1) _)).trans G7.out), true, HB7⟩, by simp [intOf]; omega⟩
      · rw [decide_eq_false he] at hqe
        clear he
        go_wp2_with fail
        refine wp_region_quiet_lit (by kernel_rfl) (by kernel_rfl) ?_
        repeat (go_big_quiet_step (fail))
        refine wpQuiet_nil ?_
        rintro _ ⟨n1, rfl⟩
        go_wp2_with fail
        exact ⟨⟨k + 1, by omega, by go_num, Lib.hid (HB5.out.2.trans (Chs.of_below (below_dr (Below.refl _ _) n1) _)), cl2, Lib.hid (HB5.out.1.drewN n1)⟩, by simp [intOf]; omega⟩
    · have hke : k = ks.length := by omega
      subst hke
      go_upto_region 12 with fail
      have DW := Lib.hid ((Below.refl wr.heap.size wr).drew)
      have kd := Lib.hid (hkr.out.below DW.out hkr.out.lt)
      have Ud := Lib.hid (UR.out.below DW.out UR.out.lt)
      have Od := Lib.hid (own_below OR.out DW.out)
      obtain ⟨b3, d3, e1, _, hdr3, _⟩ := DRr.out
      obtain ⟨rfl, rfl⟩ : bb = b3 ∧ d = d3 := by
        injection e1 with e1 _ e3
        injection e1 with e1
        injection e1 with e1
        exact ⟨e1, e3⟩
      have Vd := Lib.hid (hdr3.below DW.out)
      have Cd := Lib.hid (hcr.out.trans (Chs.of_below DW.out _))
      have NO : Hid (∀ ty, ty ≠ 105 → Non (fun q => some q = (Value.slice Do ks.length do_).ownBlock) wr.drew ty) := Lib.hid (fun ty hty q hq cs fr hh => by
        obtain ⟨_, ⟨e1, _⟩ | ⟨g9, cap, cur, e1, _, e3, _⟩⟩ := Od.out
        · rw [e1] at hq; cases hq
        · rw [e1] at hq
          obtain rfl : q = g9 := by simpa [Value.ownBlock] using hq
          have := e3.symm.trans hh
          injection this with this
          injection this with _ e
          exact hty e.symm)
      refine region_ofz 12 (fun W => Chs (fun q => some q = (Value.slice Do ks.length do_).ownBlock) wr.drew W) (by kernel_rfl) ?_
      have hsz1 : wr.heap.size = wr.drew.heap.size := rfl
      have Dd := Lib.hid (DRr.out.chs (Chs.of_below DW.out (fun _ => False)) (fun _ q => q.elim))
      generalize wr.drew = wd at *
      have LK : ∀ W, Chs (fun q => some q = (Value.slice Do ks.length do_).ownBlock) wd W → W.cell? ⟨b, 7, none⟩ = some (.slice Do ks.length do_) := fun W hW => (kd.out.chs hW (NO.out _ (by decide))).cell (k := 7) rfl
      have LI : ∀ W, Chs (fun q => some q = (Value.slice Do ks.length do_).ownBlock) wd W → (load42 ⟨w3.heap.size, 0, none⟩).run Tryz.prog W = .ok (.agg (bys id).toArray) W := fun W hW => ld42 (Ud.out.chs hW (NO.out _ (by decide))) HI.out
      have LC : ∀ W, Chs (fun q => some q = (Value.slice Do ks.length do_).ownBlock) wd W → (convert 57 9 (.slice (some ⟨bb, 0, none⟩) body.length d)).run Tryz.prog W = .ok (.string (bs body)) W := fun W hW => by
        obtain ⟨b3, d3, e1, _, hdr3, _⟩ := Dd.out.chs hW (NO.out _ (by decide))
        injection e1 with e1
        rw [e1]
        exact conv22 d hdr3
      have LB := fun W => run_bdK ⟨id, body⟩ HI.out W
      have LS := fun W => run_bsK ⟨id, body⟩ HI.out W
      have HC := Lib.hid (Chs.of_below (Below.refl wd.heap.size wd) (fun q => some q = (Value.slice Do ks.length do_).ownBlock))
      refine anyZ_take 0 (v := ?_) HC.out rfl (by kernel_rfl) (by kernel_rfl) (by kernel_rfl) (by kernel_rfl) (by kernel_rfl) (fun _ _ _ h => h) rfl (fun W hW => ?_) ?_
      rotate_left
      · go_simp
        try rfl
      simp only [Act.put]
      refine anyZ_take 1 (v := ?_) HC.out rfl (by kernel_rfl) (by kernel_rfl) (by kernel_rfl) (by kernel_rfl) (by kernel_rfl) (fun _ _ _ h => h) rfl (fun W hW => ?_) ?_
      rotate_left
      · go_simp
        try rfl
      simp only [Act.put]
      refine anyZ_take 2 (v := ?_) HC.out rfl (by kernel_rfl) (by kernel_rfl) (by kernel_rfl) (by kernel_rfl) (by kernel_rfl) (fun _ _ _ h => h) rfl (fun W hW => ?_) ?_
      rotate_left
      · go_simp
        try rfl
      simp only [Act.put]
      refine anyZ_take 3 (v := ?_) HC.out rfl (by kernel_rfl) (by kernel_rfl) (by kernel_rfl) (by kernel_rfl) (by kernel_rfl) (fun _ _ _ h => h) rfl (fun W hW => ?_) ?_
      rotate_left
      · go_simp
        try rfl
      simp only [Act.put]
      refine anyZ_take 4 (v := ?_) HC.out rfl (by kernel_rfl) (by kernel_rfl) (by kernel_rfl) (by kernel_rfl) (by kernel_rfl) (fun _ _ _ h => h) rfl (fun W hW => ?_) ?_
      rotate_left
      · have := LK W hW; go_simp
        try rfl
      simp only [Act.put]
      refine anyZ_take 5 (v := ?_) HC.out rfl (by kernel_rfl) (by kernel_rfl) (by kernel_rfl) (by kernel_rfl) (by kernel_rfl) (fun _ _ _ h => h) rfl (fun W hW => ?_) ?_
      rotate_left
      · have := LI W hW; go_simp
        try rfl
      simp only [Act.put]
      refine anyZ_take 6 (v := ?_) HC.out rfl (by kernel_rfl) (by kernel_rfl) (by kernel_rfl) (by kernel_rfl) (by kernel_rfl) (fun _ _ _ h => h) rfl (fun W hW => ?_) ?_
      rotate_left
      · go_simp
        try rfl
      simp only [Act.put]
      refine anyZ_take 7 (v := ?_) HC.out rfl (by kernel_rfl) (by kernel_rfl) (by kernel_rfl) (by kernel_rfl) (by kernel_rfl) (fun _ _ _ h => h) rfl (fun W hW => ?_) ?_
      rotate_left
      · go_simp
        try rfl
      simp only [Act.put]
      refine anyZ_take 8 (v := ?_) HC.out rfl (by kernel_rfl) (by kernel_rfl) (by kernel_rfl) (by kernel_rfl) (by kernel_rfl) (fun _ _ _ h => h) rfl (fun W hW => ?_) ?_
      rotate_left
      · have := LC W hW; go_simp
        try rfl
      simp only [Act.put]
      refine anyZ_take 9 (v := ?_) HC.out rfl (by kernel_rfl) (by kernel_rfl) (by kernel_rfl) (by kernel_rfl) (by kernel_rfl) (fun _ _ _ h => h) rfl (fun W hW => ?_) ?_
      rotate_left
      · have := LB W; go_simp
        try rfl
      simp only [Act.put]
      have hbl : b < w.heap.size := K0.out.lt
      have hw3 : w.heap.size < w3.heap.size := R3.out.lt
      have NW := Lib.hid (new_rv wd (cellsK ⟨id, body⟩) 105 ⟨wd.heap.size, 0, none⟩ rfl)
      have b5 := (Below.refl wd.heap.size wd).alloc (Nat.le_refl _) (.cells (cellsK ⟨id, body⟩).toArray 105)
      have HC1 := Lib.hid (Chs.of_below b5 (fun q => some q = (Value.slice Do ks.length do_).ownBlock))
      have O5 := Lib.hid (own_below Od.out b5)
      have hB5 : B ≤ (wd.alloc (.cells (cellsK ⟨id, body⟩).toArray 105)).heap.size := by
        have h1 := HB0.out
        have h2 := R3.out.lt
        have h3 := U4.out.lt
        have h4 := hcr.out.size
        have h5 := DW.out.size
        simp only [World.size_alloc]
        omega
      have HL34 := Lib.hid (show (cellsK ⟨id, body⟩).length = 1 * 34 by rw [cellsK_len _ HI.out])
      clear b5 LK LI LC LB
      refine anyZ_one 10 (.inr HC.out) (by kernel_rfl) rfl ?_
      go_wp2_with fail
      refine anyZ_one 11 (.inr HC1.out) (by kernel_rfl) rfl ?_
      refine wpList_app slK rfl (.tmp 103) (.tmp 109) rfl B (.slice Do ks.length do_) ks.length (ks.flatMap cellsK) rfl O5.out (some ⟨wd.heap.size, 0, none⟩) 1 1 (cellsK ⟨id, body⟩) rfl (fun e => by cases e) HL34.out NW.out (cellsK_one _) (by unfold maxLen; omega) (by omega) hB5 ?_
      intro v6 w6 ho6 ha6
      obtain ⟨D6, d6, rfl, _⟩ := own_all ho6
      have O6 := Lib.hid ho6
      have HC2 := Lib.hid (HC1.out.trans (Chs.of_row ha6.grown))
      have HA6 := Lib.hid ha6.here
      clear ho6 ha6
      go_wp2_with fail
      refine anyZ_one 12 (.inr HC2.out) (by kernel_rfl) rfl ?_
      go_wp2_with fail
      refine anyZ_one 13 (.inl (by kernel_rfl)) (by kernel_rfl) rfl ?_
      go_wp2_with fail
      have k6 := Lib.hid (kd.out.chs HC2.out (NO.out _ (by decide)))
      have hc76 := k6.out.cell (k := 7) rfl
      have hf76 := k6.out.frozen 7
      refine anyZ_one 14 (.inl (by kernel_rfl)) (by kernel_rfl) rfl ?_
      go_wp2_with fail
      have hwr : w3.heap.size ≠ b := by omega
      have hw0b : w.heap.size ≠ b := by omega
      have k7 := Lib.hid (k6.out.set 7 (.slice D6 (ks.length + 1) d6))
      have U7 := Lib.hid ((Ud.out.chs HC2.out (NO.out _ (by decide))).other ⟨b, 7, none⟩ (.slice D6 (ks.length + 1) d6) hwr)
      have R7 := Lib.hid ((((R4.out.chs hcr.out (k4.out.non (by decide))).below DW.out (Nat.lt_of_lt_of_le R4.out.lt hcr.out.size)).chs HC2.out (NO.out _ (by decide))).other ⟨b, 7, none⟩ (.slice D6 (ks.length + 1) d6) hw0b)
      have hldE := ld42 U7.out HI.out
      have hstE := st42 R7.out (by simp) HI.out
      refine anyZ_done (by kernel_rfl) (by kernel_rfl) ?_ _
      go_wp2_with fail
      have R6 := Lib.hid (((R4.out.chs hcr.out (k4.out.non (by decide))).below DW.out (Nat.lt_of_lt_of_le R4.out.lt hcr.out.size)).chs HC2.out (NO.out _ (by decide)))
      have R8 := Lib.hid (R7.out.setRow (bys id))
      refine bodyPost_ret (results_cell_row rfl _ _ w.heap.size 51 _ (0, 0) (.array 32 5) rfl R8.out Tryz.underlying51 rfl (by rw [List.size_toArray, bys_len, HI.out]; exact inf42)) rfl ?_
      have CR := Lib.hid (chs_row (w6.setCell ⟨b, 7, none⟩ (.slice D6 (ks.length + 1) d6)) w.heap.size (bys id).toArray)
      have G7 := Lib.hid (Chs.of_grown (grown_set (grown_refl w6 (some b)) 7 (.slice D6 (ks.length + 1) d6)))
      have C48 : Hid (Chs (fun q => q = b ∨ some q = (Value.slice Do ks.length do_).ownBlock ∨ q = w.heap.size) w4 ((w6.setCell ⟨b, 7, none⟩ (.slice D6 (ks.length + 1) d6)).setRow w.heap.size (bys id).toArray)) := Lib.hid ((((Cd.out.more (fun q h => .inl h)).trans (HC2.out.more (fun q h => .inr (.inl h)))).trans (G7.out.more (fun q h => .inl h))).trans (CR.out.more (fun q h => .inr (.inr h))))
      have CW := Lib.hid (((((Chs.of_below B0.out (Bst b g m gd (.slice Do ks.length do_))).trans C4.out).trans (Cd.out.more (fun q h => .inl h))).trans (HC2.out.more (fun q h => .inr (.inr (.inr (.inr h)))))).trans (G7.out.more (fun q h => .inl h)))
      have C68 : Hid (Chs (fun q => q = b ∨ q = w.heap.size) w6 ((w6.setCell ⟨b, 7, none⟩ (.slice D6 (ks.length + 1) d6)).setRow w.heap.size (bys id).toArray)) := Lib.hid ((G7.out.more (fun q h => .inl h)).trans (CR.out.more (fun q h => .inr h)))
      have N48 : Hid (Non (fun q => q = b ∨ some q = (Value.slice Do ks.length do_).ownBlock ∨ q = w.heap.size) w4 5) := Lib.hid (by
        rintro q (rfl | hq | rfl) cs fr hh
        · exact k4.out.non (ty := 5) (by decide) _ rfl cs fr hh
        · exact own_ne O4.out (r := q) (fun cs2 f2 h2 => by
            have := hh.symm.trans h2
            injection this with this
            injection this with _ e
            revert e; decide) hq
        · exact R4.out.non (ty := 5) (by decide) _ rfl cs fr hh)
      have N48f : Hid (Non (fun q => q = b ∨ some q = (Value.slice Do ks.length do_).ownBlock ∨ q = w.heap.size) w4 99) := Lib.hid (by
        rintro q (rfl | hq | rfl) cs fr hh
        · exact k4.out.non (ty := 99) (by decide) _ rfl cs fr hh
        · exact own_ne O4.out (r := q) (fun cs2 f2 h2 => by
            have := hh.symm.trans h2
            injection this with this
            injection this with _ e
            revert e; decide) hq
        · exact R4.out.non (ty := 99) (by decide) _ rfl cs fr hh)
      have O8 := Lib.hid (own_chs O6.out C68.out (fun q e => by
        rintro (rfl | rfl)
        · exact own_ne O6.out (r := q) (fun cs2 f2 h2 => by
            have := k6.out.symm.trans h2
            injection this with this
            injection this with _ e
            revert e; decide) e.symm
        · exact own_ne O6.out (r := w.heap.size) (fun cs2 f2 h2 => by
            have := R6.out.symm.trans h2
            injection this with this
            injection this with _ e
            revert e; decide) e.symm))
      have hgl : g < w.heap.size := HSZ.out.1
      have hml : m < w.heap.size := HSZ.out.2.1
      have hdl : gd < w.heap.size := HSZ.out.2.2
      have P8 := Lib.hid (P4.out.far C48.out N48.out (by rintro (h | h | h); exact a1 h.symm; exact a7 h; omega) (by rintro (h | h | h); exact a2 h.symm; exact a8 h; omega))
      have Q8 := Lib.hid (Q4.out.far C48.out N48.out N48f.out (by rintro (h | h | h); exact a3 h.symm; exact a9 h; omega))
      rw [hid]
      have hlen2 : l2.length ≤ n + 1 := by
        rcases HL2.out with ⟨_, rfl⟩ | ⟨_, v, rfl⟩
        · omega
        · rw [List.length_cons]; omega
      have hlen3 : l3.length ≤ n + 1 := by
        rcases HL3.out with ⟨_, rfl⟩ | ⟨_, i, v, rfl⟩
        · omega
        · rw [List.length_append, List.length_cons, List.length_take, List.length_drop]; omega
      have cn2 : Cnt l2 (putF f id body) := by
        rcases HL2.out with ⟨h, rfl⟩ | ⟨h, v, rfl⟩
        · rw [CN.out.1.put_same h]; exact CN.out.1
        · exact CN.out.1.put_new h (v := v) (fun x => by rw [List.mem_cons])
      have cn3 : Cnt l3 (putF f id body) := by
        rcases HL3.out with ⟨h, rfl⟩ | ⟨h, i, v, rfl⟩
        · rw [CN.out.2.put_same h]; exact CN.out.2
        · exact CN.out.2.put_new h (v := v) (fun x => mem_mid x)
      refine ⟨rfl, .slice D6 (ks.length + 1) d6, ⟨⟨cl2, (CR.out.block b k7.out.lt (fun q => hw0b q.symm)).trans k7.out⟩, ⟨l2, kn2, t2, P8.out, hlen2, by omega, cn2⟩, ⟨l3, A3, c3, fr3, t3, Q8.out, hlen3, by omega, cn3⟩, ?_, fun x hx => ?_, by rw [List.length_append, List.length_singleton]; omega, HS.out.low⟩, CW.out.young CR.out (Nat.le_refl _)⟩
      · rw [List.length_append, List.length_singleton, List.flatMap_append, List.flatMap_singleton]
        exact O8.out
      · rcases List.mem_append.1 hx with hx | hx
        · exact HK.out x hx
        · rw [List.mem_singleton.1 hx]
          exact ⟨HI.out, hb⟩
end Go.Proofs.YtbmpidacoohdmaaGreat

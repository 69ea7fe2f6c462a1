/- Both stores, side by side: Put of a blob. Plain laws on memory that the walks of this claim use: values of several cells (structs, arrays) loaded whole, equality of arrays of bytes. No program. The last stroke of a text: strings.LastIndexByte, route.Base and the references' Last and Base, each by a contract. A change as data and as cells; that two are compared as their parts are. -/
import Derived.Test.YtbmpidacoohdmaaGreatF14
import Derived.WalkKit
import Derived.WalkSpells
import Derived.Lib.Hide
import Derived.Deep.QuietTactic
import Derived.BigQuiet
import Derived.Deep.RegionWith
import Derived.Test.YtbmpidacoohdmaaGreatProg
namespace Go.Proofs.YtbmpidacoohdmaaGreat
open Lib renaming hid → hI
open Go.RowKit Op

def putF (f : List UInt8 → Option (List UInt8)) (id body : List UInt8) : List UInt8 → Option (List UInt8) := fun i => if i = id ∧ f id = none then some body else f i
theorem Cnt.put_same {l : List Ent} {f : List UInt8 → Option (List UInt8)} (h : Cnt l f) {id body : List UInt8} (hx : ∃ x, x ∈ l ∧ x.id = id) : putF f id body = f := by
  obtain ⟨x, hm, rfl⟩ := hx
  funext i
  unfold putF
  rw [if_neg]
  rintro ⟨_, h2⟩
  rw [h.yes x hm] at h2
  cases h2
theorem Cnt.put_new {l l2 : List Ent} {f : List UInt8 → Option (List UInt8)} (h : Cnt l f) {id body : List UInt8} (hno : ∀ x ∈ l, x.id ≠ id) {v : Value} (hm : ∀ x, x ∈ l2 ↔ x = ⟨id, body, v⟩ ∨ x ∈ l) : Cnt l2 (putF f id body) where
  yes := fun x hx => by
    unfold putF
    rcases (hm x).1 hx with rfl | hx
    · rw [if_pos ⟨rfl, h.no _ hno⟩]
    · rw [if_neg (fun q => hno x hx q.1)]
      exact h.yes x hx
  no := fun i hi => by
    unfold putF
    rw [if_neg (fun q => hi _ ((hm _).2 (.inl rfl)) q.1.symm)]
    exact h.no i fun x hx => hi x ((hm x).2 (.inr hx))
theorem mem_mid {l : List Ent} {i : Nat} {e : Ent} (x : Ent) : x ∈ l.take i ++ e :: l.drop i ↔ x = e ∨ x ∈ l := by
  rw [List.mem_append, List.mem_cons]
  constructor
  · rintro (h | h | h)
    · exact .inr (List.mem_of_mem_take h)
    · exact .inl h
    · exact .inr (List.mem_of_mem_drop h)
  · rintro (h | h)
    · exact .inr (.inl h)
    · rw [← List.take_append_drop i l, List.mem_append] at h
      rcases h with h | h
      · exact .inl h
      · exact .inr (.inr h)
/-- The blocks that a call may turn. -/
def Bst (b g m gd : Nat) (ov : Value) : Nat → Prop := fun k => k = b ∨ k = g ∨ k = m ∨ k = gd ∨ some k = ov.ownBlock
theorem cellsK_len (x : Kpt) (h : x.id.length = 32) : (cellsK x).length = 34 := by simp [cellsK, bys_len, h]
theorem flatK_at (ks : List Kpt) (h : ∀ x ∈ ks, x.id.length = 32) : ∀ (k : Nat) (x : Kpt) (j : Nat) (v : Value), ks[k]? = some x → (cellsK x)[j]? = some v → (ks.flatMap cellsK)[k * 34 + j]? = some v := by
  induction ks with
  | nil => intro k x j v hx; simp at hx
  | cons y ks ih =>
    intro k x j v hx hv
    have hy := cellsK_len y (h y (by simp))
    rw [List.flatMap_cons]
    cases k with
    | zero =>
      obtain rfl : y = x := by simpa using hx
      rw [Nat.zero_mul, Nat.zero_add, List.getElem?_append_left (List.getElem?_eq_some_iff.1 hv).1]
      exact hv
    | succ k =>
      rw [List.getElem?_append_right (by rw [hy]; omega), hy, show (k + 1) * 34 + j - 34 = k * 34 + j by omega]
      exact ih (fun z hz => h z (by simp [hz])) k x j v (by simpa using hx) hv
theorem Bth.non {w : World} {B b g m gd : Nat} {ov : Value} {ks : List Kpt} {n : Nat} {f : List UInt8 → Option (List UInt8)} (h : Bth w B b g m gd ov ks n f) {ty : TypeId} (h1 : ty ≠ 40) (h2 : ty ≠ 135) (h3 : ty ≠ 63) (h4 : ty ≠ 105) : Non (Bst b g m gd ov) w ty := by
  obtain ⟨cl, hb⟩ := h.blk
  obtain ⟨l, kn, t, hp, _⟩ := h.psp
  obtain ⟨l2, A, c, fr, t2, hr, _⟩ := h.rsp
  rintro k (rfl | hk | hk | hk | hk) cs q hq
  · have := hb.symm.trans hq
    injection this with this
    injection this with _ e
    exact h1 e.symm
  · exact hp.non h2 k (.inl hk) cs q hq
  · exact hp.non h2 k (.inr hk) cs q hq
  · exact hr.non h3 k hk cs q hq
  · obtain ⟨_, ⟨e1, _⟩ | ⟨g, cap, cur, e1, _, e3, _⟩⟩ := h.own
    · rw [e1] at hk; cases hk
    · rw [e1] at hk
      obtain rfl : k = g := by simpa [Value.ownBlock] using hk
      have := e3.symm.trans hq
      injection this with this
      injection this with _ e
      exact h4 e.symm
/-- The blocks lie apart. -/
theorem Bth.apart {w : World} {B b g m gd : Nat} {ov : Value} {ks : List Kpt} {n : Nat} {f : List UInt8 → Option (List UInt8)} (h : Bth w B b g m gd ov ks n f) : b ≠ g ∧ b ≠ m ∧ b ≠ gd ∧ g ≠ gd ∧ m ≠ gd ∧ some b ≠ ov.ownBlock ∧ some g ≠ ov.ownBlock ∧ some m ≠ ov.ownBlock ∧ some gd ≠ ov.ownBlock := by
  obtain ⟨cl, hb⟩ := h.blk
  obtain ⟨l, kn, t, hp, _⟩ := h.psp
  obtain ⟨l2, A, c, fr, t2, hr, _⟩ := h.rsp
  obtain ⟨D, ⟨es, clk, hm, _⟩, _⟩ := hp.map
  have hg := hp.blk
  have hd := hr.blk
  have ne : ∀ (x y : Nat) (o1 o2 : Obj), w.heap[x]? = some o1 → w.heap[y]? = some o2 → o1 ≠ o2 → x ≠ y := fun x y o1 o2 a1 a2 a3 e => by
    subst e
    exact a3 (Option.some.inj (a1.symm.trans a2))
  refine ⟨ne _ _ _ _ hb hg (fun e => by injection e with _ e; revert e; decide), ne _ _ _ _ hb hm (fun e => by cases e), ne _ _ _ _ hb hd (fun e => by injection e with _ e; revert e; decide), ne _ _ _ _ hg hd (fun e => by injection e with _ e; revert e; decide), ne _ _ _ _ hm hd (fun e => by cases e), own_ne h.own (fun cs q hq => ?_), own_ne h.own (fun cs q hq => ?_), own_ne h.own (fun cs q hq => ?_), own_ne h.own (fun cs q hq => ?_)⟩
  · have := hb.symm.trans hq
    injection this with this
    injection this with _ e
    revert e; decide
  · have := hg.symm.trans hq
    injection this with this
    injection this with _ e
    revert e; decide
  · have := hm.symm.trans hq
    injection this with this
    cases this
  · have := hd.symm.trans hq
    injection this with this
    injection this with _ e
    revert e; decide
theorem Rsp.far {S : Nat → Prop} {w w2 : World} {g : Nat} {l : List Ent} {A : Option Addr} {c : Nat} {fr : Bool} {t : Int} (h : Rsp w g l A c fr t) (hc : Chs S w w2) (hn : Non S w 5) (hn2 : Non S w 99) (hg : ¬ S g) : Rsp w2 g l A c fr t := h.chs hc hn hn2 ((hc.block g h.lt hg).trans h.blk)
theorem Psp.far {S : Nat → Prop} {w w2 : World} {g m : Nat} {l : List Ent} {t kn : Int} (h : Psp w g m l t kn) (hc : Chs S w w2) (hn : Non S w 5) (hg : ¬ S g) (hm : ¬ S m) : Psp w2 g m l t kn := h.chs hc hn (hc.block m h.mlt hm) ((hc.block g h.glt hg).trans h.blk)
theorem Chs.of_row {w w2 : World} {row : Option Nat} (h : w.grownBy w2 row) : Chs (fun q => some q = row) w w2 := ⟨h.os, h.tape, h.output, h.size, fun k hk hn => h.block k hk hn⟩
theorem own_chs {S : Nat → Prop} {w w2 : World} {C size : Nat} {e : TypeId} {v : Value} {n : Nat} {xs : List Value} (h : w.ownsRow C e size v n xs) (hc : Chs S w w2) (hn : ∀ q, v.ownBlock = some q → ¬ S q) : w2.ownsRow C e size v n xs := by
  obtain ⟨h0, ⟨h1, h2⟩ | ⟨g, cap, cur, h1, h2, h3, h4⟩⟩ := h
  · exact ⟨h0, .inl ⟨h1, h2⟩⟩
  · exact ⟨h0, .inr ⟨g, cap, cur, h1, h2, (hc.block g (Array.getElem?_eq_some_iff.1 h3).1 (hn g (by rw [h1]; rfl))).trans h3, h4⟩⟩
theorem bdTK (ps : Array (Nat × Value)) : Instr.build 105 ps = bdT 105 ps := rfl
def bsK (p : Nat × Value) : Sem Value := Instr.buildSlice 38 1 #[p]
theorem bsK_eq {α : Type} (f : α → Nat × Value) (p : α) : Instr.buildSlice 38 1 (Array.map f #[p]) = bsK (f p) := by simp [bsK]
theorem of32 {l : List UInt8} (h : l.length = 32) : ∃ f : Fin 32 → UInt8, l = List.ofFn f := ⟨fun i => l.getD i.val 0, List.ext_getElem (by rw [List.length_ofFn, h]) fun i h1 h2 => by rw [List.getElem_ofFn, List.getD_eq_getElem?_getD, List.getElem?_eq_getElem h1]; rfl⟩
theorem run_bdK (x : Kpt) (hr : x.id.length = 32) (W : World) : (bdT 105 #[(0, .agg (bys x.id).toArray), (1, .int .i64 1), (2, .string (bs x.body))]).run Tryz.prog W = .ok (.agg (cellsK x).toArray) W := by
  obtain ⟨id, body⟩ := x
  obtain ⟨f, rfl⟩ := of32 hr
  exact run_build W _ _ _ (by kernel_rfl)
theorem infK : (Tryz.prog.info? 105).map (·.size) = some 34 := by kernel_rfl
theorem zeroK : ((Tryz.prog.info? 105).bind (·.zero)).isSome = true := by kernel_rfl
theorem slK : Sl Tryz.prog 38 105 34 56 := ⟨Tryz.underlying38, by kernel_rfl, by decide⟩
theorem run_bsK (x : Kpt) (hl : x.id.length = 32) (W : World) : (bsK (0, .agg (cellsK x).toArray)).run Tryz.prog W = .ok (.slice (some ⟨W.heap.size, 0, none⟩) 1 1) (W.alloc (.cells (cellsK x).toArray 105)) :=
  run_build_one W Tryz.underlying38 infK zeroK (cellsK x).toArray (by simp [cellsK_len x hl]) (by omega) (by omega)
theorem cellsK_one (x : Kpt) : ∀ u ∈ cellsK x, u.oneCell' = true := by
  intro u hu
  rcases List.mem_append.1 hu with hu | hu
  · exact bys_one _ u hu
  · simp only [List.mem_cons, List.not_mem_nil, or_false] at hu
    rcases hu with rfl | rfl <;> rfl
attribute [local go_sem] bs_append bs_size bs_toList
attribute [local go_sem ↓] bdTK bsK_eq load42_eq store42_eq new42_eq run_new42 box42_eq run_box42
set_option maxRecDepth 100000 in
set_option maxHeartbeats 1000000 in
theorem bput_any (w : World) (B b g m gd : Nat) (ov : Value) (ks : List Kpt) (n : Nat) (f : List UInt8 → Option (List UInt8)) (hs : Bth w B b g m gd ov ks n f) (hn : n < 40) (body : List UInt8) (hb : body.length ≤ 400) (bb d : Nat) (hd : By w (.slice (some ⟨bb, 0, none⟩) body.length d) body) (hB : B ≤ w.heap.size) :
    Calls Tryz.prog 15 #[.pointer (some ⟨b, 0, none⟩), .int .i64 1, .slice (some ⟨bb, 0, none⟩) body.length d] w fun e w2 => e = .returned (.agg (bys (shaOf (objB body))).toArray) ∧
      ∃ ov2, Bth w2 B b g m gd ov2 (ks ++ [⟨shaOf (objB body), body⟩]) (n + 1) (putF f (shaOf (objB body)) body) ∧ Chs (Bst b g m gd ov) w w2 := by
  have HS := hI hs
  have HD := hI hd
  obtain ⟨a1, a2, a3, a4, a5, a6, a7, a8, a9⟩ := hs.apart
  obtain ⟨cl, hblk⟩ := hs.blk
  obtain ⟨l, kn, t, hp, hln, htn, hcn⟩ := hs.psp
  obtain ⟨l', A, c, fr, t', hr, hln', htn', hcn'⟩ := hs.rsp
  have B0 := hI ((Below.refl w.heap.size w).alloc (Nat.le_refl _) (.cells z42 51))
  have R0 : Hid (Ar (w.alloc (.cells z42 51)) w.heap.size 51 (bys (List.replicate 32 0))) := hI (Ar.new w (bys (List.replicate 32 0)) 51)
  have K0 : Hid (Ar w b 40 [.pointer (some ⟨g, 0, none⟩), .pointer (some ⟨gd, 0, none⟩), .slice none 0 0, .slice none 0 0, .slice none 0 0, .bool cl, .bool false, ov, .bool false]) := hI hblk
  have k0 := hI (K0.out.alloc (.cells z42 51))
  have P0 := hI (hp.below B0.out)
  have Q0 := hI (hr.below B0.out)
  have D0 := hI (hd.chs (Chs.of_below B0.out (fun _ => False)) (fun _ q => q.elim))
  have hc00 := k0.out.cell (k := 0) rfl
  have CN := hI (And.intro hcn hcn')
  obtain ⟨Do, do_, hov, _⟩ := own_all hs.own
  subst hov
  have O0 := hI (own_below hs.own B0.out)
  have hksn := hs.few
  have HSZ := hI (And.intro hp.glt (And.intro hp.mlt hr.lt))
  have HB0 := hI hB
  have HK := hI hs.ids
  obtain ⟨b2, d2, e1, hdc, hdr, _⟩ := D0.out
  obtain ⟨rfl, rfl⟩ : bb = b2 ∧ d = d2 := by
    injection e1 with e1 _ e3
    injection e1 with e1
    injection e1 with e1
    exact ⟨e1, e3⟩
  have DR := hI hdr
  clear hs hd hblk hp hr hcn hcn' hdc hdr
  generalize hw0 : w.alloc (.cells z42 51) = w0 at *
  go_enter Tryz.func15, Tryz.ntmps15
  go_wp2_with fail
  refine (put_any w0 g m l t kn (by omega) P0.out body hb _ d (fun q => by cases q) DR.out (by omega)).mono ?_
  rintro e w1 ⟨rfl, l2, t2, kn2, hp1, ht2, hc1, hl2⟩
  have HI := hI (shaOf_len (objB body))
  generalize hid : shaOf (objB body) = id at *
  have HL2 := hI hl2
  have NU : Hid (Non (fun k => k = g ∨ k = m) w0 5) := hI (P0.out.non (by decide))
  have NF : Hid (Non (fun k => k = g ∨ k = m) w0 99) := hI (P0.out.non (by decide))
  have NI : Hid (Non (fun k => k = g ∨ k = m) w0 51) := hI (P0.out.non (by decide))
  have NB : Hid (Non (fun k => k = g ∨ k = m) w0 40) := hI (P0.out.non (by decide))
  have P1 := hI hp1
  have C1 := hI hc1
  have Q1 := hI (Q0.out.far hc1 NU.out NF.out (by rintro (q | q) <;> omega))
  have D1 := hI (D0.out.chs hc1 NU.out)
  have R1 := hI (R0.out.chs hc1 NI.out)
  have k1 := hI (k0.out.chs hc1 NB.out)
  have O1 := hI (own_chs O0.out hc1 (fun q e => by rintro (rfl | rfl); exact a7 e.symm; exact a8 e.symm))
  clear hp1 hc1 hl2 NU NF NI NB
  have T1 : Hid (Ar (w1.alloc (.cells z42 51)) w1.heap.size 51 (bys (List.replicate 32 0))) := hI (Ar.new w1 (bys (List.replicate 32 0)) 51)
  have hst1 := st42 T1.out (by simp) HI.out
  have E2 := hI (below_row ((Below.refl w1.heap.size w1).alloc (Nat.le_refl _) (.cells z42 51)) w1.heap.size (bys id).toArray (Nat.le_refl _))
  have T2 := hI (T1.out.setRow (bys id))
  generalize hw2 : (w1.alloc (.cells z42 51)).setRow w1.heap.size (bys id).toArray = w2 at *
  have P2 := hI (P1.out.below E2.out)
  have Q2 := hI (Q1.out.below E2.out)
  have D2 := hI (D1.out.chs (Chs.of_below E2.out (fun _ => False)) (fun _ q => q.elim))
  have R2 := hI (R1.out.below E2.out R1.out.lt)
  have k2 := hI (k1.out.below E2.out k1.out.lt)
  have O2 := hI (own_below O1.out E2.out)
  have C2 := hI (C1.out.trans (Chs.of_below E2.out _))
  have hc21 := k2.out.cell (k := 1) rfl
  obtain ⟨_, _, e1, _, hdr2, _⟩ := D2.out
  have DR2 : Hid (Rv w2.heap.size w2 (some ⟨bb, 0, none⟩) (bys body)) := hI (by
    injection e1 with e1
    injection e1 with e1
    injection e1 with e1
    rw [e1]
    exact hdr2)
  clear hdr2 e1
  go_wp2_with fail
  refine (fput_any w2 gd l' A c fr t' (by omega) Q2.out body hb _ d (fun q => by cases q) DR2.out (by omega)).mono ?_
  rw [hid]
  rintro e w3 ⟨rfl, l3, A3, c3, fr3, t3, hq3, ht3, hc3, hl3⟩
  have HL3 := hI hl3
  have NU : Hid (Non (fun k => k = gd) w2 5) := hI (Q2.out.non (by decide))
  have NI : Hid (Non (fun k => k = gd) w2 51) := hI (Q2.out.non (by decide))
  have NB : Hid (Non (fun k => k = gd) w2 40) := hI (Q2.out.non (by decide))
  have Q3 := hI hq3
  have P3 := hI (P2.out.far hc3 NU.out (by omega) (by omega))
  have D3 := hI (D2.out.chs hc3 NU.out)
  have R3 := hI (R2.out.chs hc3 NI.out)
  have T3 := hI (T2.out.chs hc3 NI.out)
  have k3 := hI (k2.out.chs hc3 NB.out)
  have O3 := hI (own_chs O2.out hc3 (fun q e => by rintro rfl; exact a9 e.symm))
  have C3 := hI ((C2.out.more (T := Bst b g m gd (.slice Do ks.length do_)) (fun k h => h.elim (fun h => .inr (.inl h)) (fun h => .inr (.inr (.inl h))))).trans (hc3.more (fun k h => .inr (.inr (.inr (.inl h))))))
  clear hq3 hc3 hl3 NU NI NB
  have U3 : Hid (Ar (w3.alloc (.cells z42 51)) w3.heap.size 51 (bys (List.replicate 32 0))) := hI (Ar.new w3 (bys (List.replicate 32 0)) 51)
  have hst3 := st42 U3.out (by simp) HI.out
  have E4 := hI (below_row ((Below.refl w3.heap.size w3).alloc (Nat.le_refl _) (.cells z42 51)) w3.heap.size (bys id).toArray (Nat.le_refl _))
  have U4 := hI (U3.out.setRow (bys id))
  generalize hw4 : (w3.alloc (.cells z42 51)).setRow w3.heap.size (bys id).toArray = w4 at *
  have P4 := hI (P3.out.below E4.out)
  have Q4 := hI (Q3.out.below E4.out)
  have D4 := hI (D3.out.chs (Chs.of_below E4.out (fun _ => False)) (fun _ q => q.elim))
  have R4 := hI (R3.out.below E4.out R3.out.lt)
  have T4 := hI (T3.out.below E4.out T3.out.lt)
  have k4 := hI (k3.out.below E4.out k3.out.lt)
  have O4 := hI (own_below O3.out E4.out)
  have C4 := hI (C3.out.trans (Chs.of_below E4.out _))
  have hldT := ld42 T4.out HI.out
  have hldU := ld42 U4.out HI.out
  have hq := fun W => run_neq_id (a := id) (b := id) HI.out HI.out W
  go_wp2_with fail
  go_loopw [11] (fun kv wr => ∃ k : Nat, k ≤ ks.length ∧ kv = .int .i64 k ∧ Hid (Chs (fun q => q = b) w4 wr) ∧ ∃ cl2, Hid (Ar wr b 40 [.pointer (some ⟨g, 0, none⟩), .pointer (some ⟨gd, 0, none⟩), .slice none 0 0, .slice none 0 0, .slice none 0 0, .bool cl2, .bool false, .slice Do ks.length do_, .bool false])) (fun kv _ => ks.length - (intOf kv).toNat)
  case atStart => exact ⟨0, Nat.zero_le _, rfl, hI (Chs.of_below (Below.refl _ _) _), cl, k4⟩
  case round =>
    obtain ⟨k, hk, rfl, hcr, cl2, hkr⟩ := hrel
    have hc7 := hkr.out.cell (k := 7) rfl
    have UR := hI (U4.out.chs hcr.out (k4.out.non (by decide)))
    have DRr := hI (D4.out.chs hcr.out (k4.out.non (by decide)))
    have OR := hI (own_chs O4.out hcr.out (fun q e => by rintro rfl; exact a6 e.symm))
    by_cases hlt : k < ks.length
    · obtain ⟨gb, cap, cs, hv, _, hcap, _, hrv⟩ := own_formk OR.out (by omega)
      obtain ⟨rfl, rfl⟩ : Do = some ⟨gb, 0, none⟩ ∧ do_ = cap := by
        injection hv with e1 _ e3
        exact ⟨e1, e3⟩
      obtain ⟨x, hx⟩ : ∃ x, ks[k]? = some x := ⟨ks[k], List.getElem?_eq_getElem hlt⟩
      have hxi := (HK.out x (List.mem_of_getElem? hx)).1
      have hrow : ∀ j v, (cellsK x)[j]? = some v → wr.cell? ⟨gb, k * 34 + j, none⟩ = some v := fun j v hv => by
        obtain ⟨ad, e, _, hc⟩ := hrv.at_ (flatK_at ks (fun y hy => (HK.out y hy).1) k x j v hx hv)
        obtain rfl := Option.some.inj e
        rwa [Addr.add_lit, Nat.zero_add] at hc
      have hck := hrow 32 (.int .i64 1) (by rw [cellsK, List.getElem?_append_right (by rw [bys_len]; omega), bys_len, hxi]; rfl)
      have hcs := hrow 33 (.string (bs x.body)) (by rw [cellsK, List.getElem?_append_right (by rw [bys_len]; omega), bys_len, hxi]; rfl)
      have hl1 : ∀ q, (load42 ⟨gb, k * 34, none⟩).run Tryz.prog (wr.drewN q) = .ok (.agg (bys x.id).toArray) (wr.drewN q) := fun q =>
        run_loadVar_cells Tryz.underlying51 rfl (by rw [bys_len, hxi]; exact inf42) (fun j v hv => by
          rw [Addr.add_lit]
          exact hrow j v (by rw [cellsK, List.getElem?_append_left (List.getElem?_eq_some_iff.1 hv).1]; exact hv))
      have hl2 : ∀ q, (load42 ⟨w3.heap.size, 0, none⟩).run Tryz.prog (wr.drewN q) = .ok (.agg (bys id).toArray) (wr.drewN q) := fun q => ld42 (UR.out.drewN q) HI.out
      obtain ⟨b3, d3, e1, _, hdr3, _⟩ := DRr.out
      obtain ⟨rfl, rfl⟩ : bb = b3 ∧ d = d3 := by
        injection e1 with e1 _ e3
        injection e1 with e1
        injection e1 with e1
        exact ⟨e1, e3⟩
      have hcv : ∀ q, (convert 57 9 (.slice (some ⟨bb, 0, none⟩) body.length d)).run Tryz.prog (wr.drewN q) = .ok (.string (bs body)) (wr.drewN q) := fun q => conv22 d (hdr3.drewN q)
      have hqe : ∀ W, (binOp .eql 51 (.agg (bys x.id).toArray) (.agg (bys id).toArray)).run Tryz.prog W = .ok (.bool (decide (x.id = id))) W := fun W => run_eql_id hxi HI.out W
      have HB5 := hI (And.intro hkr.out hcr.out)
      clear hrow hrv hx hxi hldT hldU hq hdr3 e1 hv UR DRr OR
      by_cases he : x.id = id
      · rw [decide_eq_true he] at hqe
        clear he
        by_cases hbd : x.body = body
        · have hcm : (x.body == body) = true := by rw [hbd]; simp
          clear hbd
          go_wp2_with fail
          refine wp_region_quiet_lit (by kernel_rfl) (by kernel_rfl) ?_
          repeat (go_big_quiet_step (fail))
          refine wpQuiet_nil ?_
          rintro _ ⟨n1, rfl⟩
          go_wp2_with fail
          exact ⟨⟨k + 1, by omega, by go_num, hI (HB5.out.2.trans (Chs.of_below (below_dr (Below.refl _ _) n1) _)), cl2, hI (HB5.out.1.drewN n1)⟩, by simp [intOf]; omega⟩
        · have hcm : (x.body == body) = false := beq_eq_false_iff_ne.2 hbd
          clear hbd
          go_wp2_with fail
          refine wp_region_quiet_lit (by kernel_rfl) (by kernel_rfl) ?_
          repeat (go_big_quiet_step (fail))
          refine wpQuiet_nil ?_
          rintro _ ⟨n1, rfl⟩
          have HB6 := hI (HB5.out.1.drewN n1)
          have hf5 := HB6.out.frozen 5
          have hc5 := HB6.out.cell (k := 5) rfl
          have HB7 := hI (HB6.out.set 5 (.bool true))
          have G7 := hI (Chs.of_grown (grown_set (grown_refl (wr.drewN n1) (some b)) 5 (.bool true)))
          clear hl1 hl2 hcv hqe hck hcs hcm
          generalize hwd : wr.drewN n1 = wd at *
          go_wp2_with fail
          exact ⟨⟨k + 1, by omega, by go_num, hI ((HB5.out.2.trans (Chs.of_below (hwd ▸ below_dr (Below.refl _ _) n1) _)).trans G7.out), true, HB7⟩, by simp [intOf]; omega⟩
      · rw [decide_eq_false he] at hqe
        clear he
        go_wp2_with fail
        refine wp_region_quiet_lit (by kernel_rfl) (by kernel_rfl) ?_
        repeat (go_big_quiet_step (fail))
        refine wpQuiet_nil ?_
        rintro _ ⟨n1, rfl⟩
        go_wp2_with fail
        exact ⟨⟨k + 1, by omega, by go_num, hI (HB5.out.2.trans (Chs.of_below (below_dr (Below.refl _ _) n1) _)), cl2, hI (HB5.out.1.drewN n1)⟩, by simp [intOf]; omega⟩
    · have hke : k = ks.length := by omega
      subst hke
      go_upto_region 12 with fail
      have DW := hI ((Below.refl wr.heap.size wr).drew)
      have kd := hI (hkr.out.below DW.out hkr.out.lt)
      have Ud := hI (UR.out.below DW.out UR.out.lt)
      have Od := hI (own_below OR.out DW.out)
      obtain ⟨b3, d3, e1, _, hdr3, _⟩ := DRr.out
      obtain ⟨rfl, rfl⟩ : bb = b3 ∧ d = d3 := by
        injection e1 with e1 _ e3
        injection e1 with e1
        injection e1 with e1
        exact ⟨e1, e3⟩
      have Vd := hI (hdr3.below DW.out)
      have Cd := hI (hcr.out.trans (Chs.of_below DW.out _))
      have NO : Hid (∀ ty, ty ≠ 105 → Non (fun q => some q = (Value.slice Do ks.length do_).ownBlock) wr.drew ty) := hI (fun ty hty q hq cs fr hh => by
        obtain ⟨_, ⟨e1, _⟩ | ⟨g9, cap, cur, e1, _, e3, _⟩⟩ := Od.out
        · rw [e1] at hq; cases hq
        · rw [e1] at hq
          obtain rfl : q = g9 := by simpa [Value.ownBlock] using hq
          have := e3.symm.trans hh
          injection this with this
          injection this with _ e
          exact hty e.symm)
      refine region_ofz 12 (fun W => Chs (fun q => some q = (Value.slice Do ks.length do_).ownBlock) wr.drew W) (by kernel_rfl) ?_
      have hsz1 : wr.heap.size = wr.drew.heap.size := rfl
      have Dd := hI (DRr.out.chs (Chs.of_below DW.out (fun _ => False)) (fun _ q => q.elim))
      generalize wr.drew = wd at *
      have LK : ∀ W, Chs (fun q => some q = (Value.slice Do ks.length do_).ownBlock) wd W → W.cell? ⟨b, 7, none⟩ = some (.slice Do ks.length do_) := fun W hW => (kd.out.chs hW (NO.out _ (by decide))).cell (k := 7) rfl
      have LI : ∀ W, Chs (fun q => some q = (Value.slice Do ks.length do_).ownBlock) wd W → (load42 ⟨w3.heap.size, 0, none⟩).run Tryz.prog W = .ok (.agg (bys id).toArray) W := fun W hW => ld42 (Ud.out.chs hW (NO.out _ (by decide))) HI.out
      have LC : ∀ W, Chs (fun q => some q = (Value.slice Do ks.length do_).ownBlock) wd W → (convert 57 9 (.slice (some ⟨bb, 0, none⟩) body.length d)).run Tryz.prog W = .ok (.string (bs body)) W := fun W hW => by
        obtain ⟨b3, d3, e1, _, hdr3, _⟩ := Dd.out.chs hW (NO.out _ (by decide))
        injection e1 with e1
        rw [e1]
        exact conv22 d hdr3
      have LB := fun W => run_bdK ⟨id, body⟩ HI.out W
      have LS := fun W => run_bsK ⟨id, body⟩ HI.out W
      have HC := hI (Chs.of_below (Below.refl wd.heap.size wd) (fun q => some q = (Value.slice Do ks.length do_).ownBlock))
      refine anyZ_take 0 (v := ?_) HC.out rfl (by kernel_rfl) (by kernel_rfl) (by kernel_rfl) (by kernel_rfl) (by kernel_rfl) (fun _ _ _ h => h) rfl (fun W hW => ?_) ?_
      rotate_left
      · go_simp
        try rfl
      simp only [Act.put]
      refine anyZ_take 1 (v := ?_) HC.out rfl (by kernel_rfl) (by kernel_rfl) (by kernel_rfl) (by kernel_rfl) (by kernel_rfl) (fun _ _ _ h => h) rfl (fun W hW => ?_) ?_
      rotate_left
      · go_simp
        try rfl
      simp only [Act.put]
      refine anyZ_take 2 (v := ?_) HC.out rfl (by kernel_rfl) (by kernel_rfl) (by kernel_rfl) (by kernel_rfl) (by kernel_rfl) (fun _ _ _ h => h) rfl (fun W hW => ?_) ?_
      rotate_left
      · go_simp
        try rfl
      simp only [Act.put]
      refine anyZ_take 3 (v := ?_) HC.out rfl (by kernel_rfl) (by kernel_rfl) (by kernel_rfl) (by kernel_rfl) (by kernel_rfl) (fun _ _ _ h => h) rfl (fun W hW => ?_) ?_
      rotate_left
      · go_simp
        try rfl
      simp only [Act.put]
      refine anyZ_take 4 (v := ?_) HC.out rfl (by kernel_rfl) (by kernel_rfl) (by kernel_rfl) (by kernel_rfl) (by kernel_rfl) (fun _ _ _ h => h) rfl (fun W hW => ?_) ?_
      rotate_left
      · have := LK W hW; go_simp
        try rfl
      simp only [Act.put]
      refine anyZ_take 5 (v := ?_) HC.out rfl (by kernel_rfl) (by kernel_rfl) (by kernel_rfl) (by kernel_rfl) (by kernel_rfl) (fun _ _ _ h => h) rfl (fun W hW => ?_) ?_
      rotate_left
      · have := LI W hW; go_simp
        try rfl
      simp only [Act.put]
      refine anyZ_take 6 (v := ?_) HC.out rfl (by kernel_rfl) (by kernel_rfl) (by kernel_rfl) (by kernel_rfl) (by kernel_rfl) (fun _ _ _ h => h) rfl (fun W hW => ?_) ?_
      rotate_left
      · go_simp
        try rfl
      simp only [Act.put]
      refine anyZ_take 7 (v := ?_) HC.out rfl (by kernel_rfl) (by kernel_rfl) (by kernel_rfl) (by kernel_rfl) (by kernel_rfl) (fun _ _ _ h => h) rfl (fun W hW => ?_) ?_
      rotate_left
      · go_simp
        try rfl
      simp only [Act.put]
      refine anyZ_take 8 (v := ?_) HC.out rfl (by kernel_rfl) (by kernel_rfl) (by kernel_rfl) (by kernel_rfl) (by kernel_rfl) (fun _ _ _ h => h) rfl (fun W hW => ?_) ?_
      rotate_left
      · have := LC W hW; go_simp
        try rfl
      simp only [Act.put]
      refine anyZ_take 9 (v := ?_) HC.out rfl (by kernel_rfl) (by kernel_rfl) (by kernel_rfl) (by kernel_rfl) (by kernel_rfl) (fun _ _ _ h => h) rfl (fun W hW => ?_) ?_
      rotate_left
      · have := LB W; go_simp
        try rfl
      simp only [Act.put]
      have hbl : b < w.heap.size := K0.out.lt
      have hw3 : w.heap.size < w3.heap.size := R3.out.lt
      have NW := hI (new_rv wd (cellsK ⟨id, body⟩) 105 ⟨wd.heap.size, 0, none⟩ rfl)
      have b5 := (Below.refl wd.heap.size wd).alloc (Nat.le_refl _) (.cells (cellsK ⟨id, body⟩).toArray 105)
      have HC1 := hI (Chs.of_below b5 (fun q => some q = (Value.slice Do ks.length do_).ownBlock))
      have O5 := hI (own_below Od.out b5)
      have hB5 : B ≤ (wd.alloc (.cells (cellsK ⟨id, body⟩).toArray 105)).heap.size := by
        have h1 := HB0.out
        have h2 := R3.out.lt
        have h3 := U4.out.lt
        have h4 := hcr.out.size
        have h5 := DW.out.size
        simp only [World.size_alloc]
        omega
      have HL34 := hI (show (cellsK ⟨id, body⟩).length = 1 * 34 by rw [cellsK_len _ HI.out])
      clear b5 LK LI LC LB
      refine anyZ_one 10 (.inr HC.out) (by kernel_rfl) rfl ?_
      go_wp2_with fail
      refine anyZ_one 11 (.inr HC1.out) (by kernel_rfl) rfl ?_
      refine wpList_app slK rfl (.tmp 103) (.tmp 109) rfl B (.slice Do ks.length do_) ks.length (ks.flatMap cellsK) rfl O5.out (some ⟨wd.heap.size, 0, none⟩) 1 1 (cellsK ⟨id, body⟩) rfl (fun e => by cases e) HL34.out NW.out (cellsK_one _) (by unfold maxLen; omega) (by omega) hB5 ?_
      intro v6 w6 ho6 ha6
      obtain ⟨D6, d6, rfl, _⟩ := own_all ho6
      have O6 := hI ho6
      have HC2 := hI (HC1.out.trans (Chs.of_row ha6.grown))
      have HA6 := hI ha6.here
      clear ho6 ha6
      go_wp2_with fail
      refine anyZ_one 12 (.inr HC2.out) (by kernel_rfl) rfl ?_
      go_wp2_with fail
      refine anyZ_one 13 (.inl (by kernel_rfl)) (by kernel_rfl) rfl ?_
      go_wp2_with fail
      have k6 := hI (kd.out.chs HC2.out (NO.out _ (by decide)))
      have hc76 := k6.out.cell (k := 7) rfl
      have hf76 := k6.out.frozen 7
      refine anyZ_one 14 (.inl (by kernel_rfl)) (by kernel_rfl) rfl ?_
      go_wp2_with fail
      have hwr : w3.heap.size ≠ b := by omega
      have hw0b : w.heap.size ≠ b := by omega
      have k7 := hI (k6.out.set 7 (.slice D6 (ks.length + 1) d6))
      have U7 := hI ((Ud.out.chs HC2.out (NO.out _ (by decide))).other ⟨b, 7, none⟩ (.slice D6 (ks.length + 1) d6) hwr)
      have R7 := hI ((((R4.out.chs hcr.out (k4.out.non (by decide))).below DW.out (Nat.lt_of_lt_of_le R4.out.lt hcr.out.size)).chs HC2.out (NO.out _ (by decide))).other ⟨b, 7, none⟩ (.slice D6 (ks.length + 1) d6) hw0b)
      have hldE := ld42 U7.out HI.out
      have hstE := st42 R7.out (by simp) HI.out
      refine anyZ_done (by kernel_rfl) (by kernel_rfl) ?_ _
      go_wp2_with fail
      have R6 := hI (((R4.out.chs hcr.out (k4.out.non (by decide))).below DW.out (Nat.lt_of_lt_of_le R4.out.lt hcr.out.size)).chs HC2.out (NO.out _ (by decide)))
      have R8 := hI (R7.out.setRow (bys id))
      refine bodyPost_ret (results_cell_row rfl _ _ w.heap.size 51 _ (0, 0) (.array 32 5) rfl R8.out Tryz.underlying51 rfl (by rw [List.size_toArray, bys_len, HI.out]; exact inf42)) rfl ?_
      have CR := hI (chs_row (w6.setCell ⟨b, 7, none⟩ (.slice D6 (ks.length + 1) d6)) w.heap.size (bys id).toArray)
      have G7 := hI (Chs.of_grown (grown_set (grown_refl w6 (some b)) 7 (.slice D6 (ks.length + 1) d6)))
      have C48 : Hid (Chs (fun q => q = b ∨ some q = (Value.slice Do ks.length do_).ownBlock ∨ q = w.heap.size) w4 ((w6.setCell ⟨b, 7, none⟩ (.slice D6 (ks.length + 1) d6)).setRow w.heap.size (bys id).toArray)) := hI ((((Cd.out.more (fun q h => .inl h)).trans (HC2.out.more (fun q h => .inr (.inl h)))).trans (G7.out.more (fun q h => .inl h))).trans (CR.out.more (fun q h => .inr (.inr h))))
      have CW := hI (((((Chs.of_below B0.out (Bst b g m gd (.slice Do ks.length do_))).trans C4.out).trans (Cd.out.more (fun q h => .inl h))).trans (HC2.out.more (fun q h => .inr (.inr (.inr (.inr h)))))).trans (G7.out.more (fun q h => .inl h)))
      have C68 : Hid (Chs (fun q => q = b ∨ q = w.heap.size) w6 ((w6.setCell ⟨b, 7, none⟩ (.slice D6 (ks.length + 1) d6)).setRow w.heap.size (bys id).toArray)) := hI ((G7.out.more (fun q h => .inl h)).trans (CR.out.more (fun q h => .inr h)))
      have N48 : Hid (Non (fun q => q = b ∨ some q = (Value.slice Do ks.length do_).ownBlock ∨ q = w.heap.size) w4 5) := hI (by
        rintro q (rfl | hq | rfl) cs fr hh
        · exact k4.out.non (ty := 5) (by decide) _ rfl cs fr hh
        · exact own_ne O4.out (r := q) (fun cs2 f2 h2 => by
            have := hh.symm.trans h2
            injection this with this
            injection this with _ e
            revert e; decide) hq
        · exact R4.out.non (ty := 5) (by decide) _ rfl cs fr hh)
      have N48f : Hid (Non (fun q => q = b ∨ some q = (Value.slice Do ks.length do_).ownBlock ∨ q = w.heap.size) w4 99) := hI (by
        rintro q (rfl | hq | rfl) cs fr hh
        · exact k4.out.non (ty := 99) (by decide) _ rfl cs fr hh
        · exact own_ne O4.out (r := q) (fun cs2 f2 h2 => by
            have := hh.symm.trans h2
            injection this with this
            injection this with _ e
            revert e; decide) hq
        · exact R4.out.non (ty := 99) (by decide) _ rfl cs fr hh)
      have O8 := hI (own_chs O6.out C68.out (fun q e => by
        rintro (rfl | rfl)
        · exact own_ne O6.out (r := q) (fun cs2 f2 h2 => by
            have := k6.out.symm.trans h2
            injection this with this
            injection this with _ e
            revert e; decide) e.symm
        · exact own_ne O6.out (r := w.heap.size) (fun cs2 f2 h2 => by
            have := R6.out.symm.trans h2
            injection this with this
            injection this with _ e
            revert e; decide) e.symm))
      have hgl : g < w.heap.size := HSZ.out.1
      have hml : m < w.heap.size := HSZ.out.2.1
      have hdl : gd < w.heap.size := HSZ.out.2.2
      have P8 := hI (P4.out.far C48.out N48.out (by rintro (h | h | h); exact a1 h.symm; exact a7 h; omega) (by rintro (h | h | h); exact a2 h.symm; exact a8 h; omega))
      have Q8 := hI (Q4.out.far C48.out N48.out N48f.out (by rintro (h | h | h); exact a3 h.symm; exact a9 h; omega))
      rw [hid]
      have hlen2 : l2.length ≤ n + 1 := by
        rcases HL2.out with ⟨_, rfl⟩ | ⟨_, v, rfl⟩
        · omega
        · rw [List.length_cons]; omega
      have hlen3 : l3.length ≤ n + 1 := by
        rcases HL3.out with ⟨_, rfl⟩ | ⟨_, i, v, rfl⟩
        · omega
        · rw [List.length_append, List.length_cons, List.length_take, List.length_drop]; omega
      have cn2 : Cnt l2 (putF f id body) := by
        rcases HL2.out with ⟨h, rfl⟩ | ⟨h, v, rfl⟩
        · rw [CN.out.1.put_same h]; exact CN.out.1
        · exact CN.out.1.put_new h (v := v) (fun x => by rw [List.mem_cons])
      have cn3 : Cnt l3 (putF f id body) := by
        rcases HL3.out with ⟨h, rfl⟩ | ⟨h, i, v, rfl⟩
        · rw [CN.out.2.put_same h]; exact CN.out.2
        · exact CN.out.2.put_new h (v := v) (fun x => mem_mid x)
      refine ⟨rfl, .slice D6 (ks.length + 1) d6, ⟨⟨cl2, (CR.out.block b k7.out.lt (fun q => hw0b q.symm)).trans k7.out⟩, ⟨l2, kn2, t2, P8.out, hlen2, by omega, cn2⟩, ⟨l3, A3, c3, fr3, t3, Q8.out, hlen3, by omega, cn3⟩, ?_, fun x hx => ?_, by rw [List.length_append, List.length_singleton]; omega, HS.out.low⟩, CW.out.young CR.out (Nat.le_refl _)⟩
      · rw [List.length_append, List.length_singleton, List.flatMap_append, List.flatMap_singleton]
        exact O8.out
      · rcases List.mem_append.1 hx with hx | hx
        · exact HK.out x hx
        · rw [List.mem_singleton.1 hx]
          exact ⟨HI.out, hb⟩
end Go.Proofs.YtbmpidacoohdmaaGreat
namespace Go.Proofs.YtbmpidacoohdmaaGreat.Rn
open Lib renaming hid → hI
open Go.RowKit

theorem ret_int {k : IntKind} {a b : Int} (h : a = b) : Ending.returned (.int k a) = .returned (.int k b) := by rw [h]
theorem ret_bool {a b : Bool} (h : a = b) : Ending.returned (.bool a) = .returned (.bool b) := by rw [h]

theorem quiet_same {P : Program} {f : FuncId} {args : Array Value} {w : World} {n : Nat} {v : Value}
    (h : Calls P f args (w.drewN n) fun e w' => e = .returned v ∧ w.drewN n = w') : Calls P f args (w.drewN n) fun e w'' => e = .returned v ∧ ∃ m, w'' = w.drewN m :=
  h.mono fun _ _ ⟨he, hm⟩ => ⟨he, n, hm.symm⟩
theorem quiet_more {P : Program} {f : FuncId} {args : Array Value} {w : World} {a n : Nat} {v : Value}
    (h : Calls P f args (w.drewN (a + n)) fun e w' => e = .returned v ∧ ∃ m, w' = (w.drewN (a + n)).drewN m) :
    Calls P f args (w.drewN (a + n)) fun e w'' => e = .returned v ∧ ∃ m, w'' = w.drewN (a + m) :=
  h.mono fun _ _ ⟨he, m, hm⟩ => ⟨he, n + m, by rw [hm, World.drewN_drewN, Nat.add_assoc]⟩

/-- Is a value of this type laid in several cells? -/
def multi : TypeDesc → Bool
  | .struct _ | .array _ _ => true
  | _ => false

theorem str_beq (a b : ByteArray) : (a.toList == b.toList) = decide (a = b) := by
  rw [Bool.eq_iff_iff, beq_iff_eq, decide_eq_true_eq, ByteArray.toList_eq, ByteArray.toList_eq]
  constructor
  · intro h
    obtain ⟨⟨x⟩⟩ := a
    obtain ⟨⟨y⟩⟩ := b
    simp only at h
    rw [h]
  · rintro rfl; rfl

/-- From address a on the cells cs lie. -/
def CellsAt (w : World) (a : Addr) (cs : List Value) : Prop := ∀ j v, cs[j]? = some v → w.cell? (a.add j) = some v

section
variable {P : Program} {w w' : World} {a : Addr} {cs : List Value}
theorem CellsAt.zero (h : CellsAt w a cs) {v : Value} (hv : cs[0]? = some v) : w.cell? a = some v := by
  have := h 0 v hv
  rwa [Addr.add_zero'] at this
theorem CellsAt.succ (h : CellsAt w a cs) (j : Nat) {v : Value} (hv : cs[j + 1]? = some v) : w.cell? ⟨a.block, a.off + (j + 1), none⟩ = some v := by
  have := h (j + 1) v hv
  rwa [Addr.add_succ'] at this
theorem block_add (a : Addr) (n : Nat) : (a.add n).block = a.block := by unfold Addr.add; split <;> rfl
theorem add_add (a : Addr) (i j : Nat) : (a.add i).add j = a.add (i + j) := by
  unfold Addr.add
  by_cases hi : i = 0 <;> by_cases hj : j = 0 <;> simp [hi, hj, Nat.add_assoc]
theorem CellsAt.keep (h : CellsAt w a cs) (hk : ∀ p : Addr, p.block = a.block → w'.cell? p = w.cell? p) : CellsAt w' a cs :=
  fun j v hv => (hk _ (block_add a j)).trans (h j v hv)
theorem CellsAt.part (h : CellsAt w a cs) (k : Nat) : CellsAt w (a.add k) (cs.drop k) := fun j v hv => by
  rw [add_add]
  exact h (k + j) v (by simpa using hv)
theorem CellsAt.take (h : CellsAt w a cs) (k : Nat) : CellsAt w a (cs.take k) := fun j v hv => by
  refine h j v ?_
  rw [List.getElem?_take] at hv
  split at hv
  · exact hv
  · cases hv

theorem run_loadVar_cells {ty : TypeId} {d : TypeDesc} (hu : P.underlying ty = some d) (hd : multi d = true)
    (hi : (P.info? ty).map (·.size) = some cs.length) (h : CellsAt w a cs) : (loadVar ty a).run P w = .ok (.agg cs.toArray) w := by
  have hl : (loadCells a cs.length).run P w = .ok cs.toArray w := run_loadCells_list (P := P) w a cs h
  cases hq : P.info? ty with
  | none => simp [hq] at hi
  | some i =>
    have hs : i.size = cs.length := by simpa [hq] using hi
    have hagg : (isAgg ty).run P w = .ok true w := by
      unfold isAgg
      rw [Sem.run_bind, run_underlying hu w]
      cases d <;> simp_all [multi]
    simp [loadVar, Sem.run_bind, hagg, sizeOf, typeInfo, hq, hs, hl]

theorem wp_load_cells {o : Oper} {act : Act} {K : Act → World → Prop} {Q : Exit → Act → World → Prop} (ty : TypeId) (x : Operand) (ho : o.op = .load ty x)
    (hx : act.eval x = .pointer (some a)) {d : TypeDesc} (hu : P.underlying ty = some d) (hd : multi d = true)
    (hi : (P.info? ty).map (·.size) = some cs.length) (hc : CellsAt w a cs) (h : K (act.put o.dst (.agg cs.toArray)) w) : o.wp P act w K Q := by
  unfold Oper.wp execOp
  simp only [ho, hx, Instr.loadAt, Instr.sureAddr, Sem.run_bind, Sem.run_pure, Result.andThen_ok, run_loadVar_cells hu hd hi hc]
  exact h

theorem wpList_load_cells {ops : Array Oper} {rest : List Oper} {o : Oper} {act : Act} {Q : Exit → Act → World → Prop} (hgd : o.guard = none) (ty : TypeId) (x : Operand) (ho : o.op = .load ty x)
    (a : Addr) (hx : act.eval x = .pointer (some a)) (cs : List Value) {d : TypeDesc} (hu : P.underlying ty = some d) (hd : multi d = true)
    (hi : (P.info? ty).map (·.size) = some cs.length) (hc : CellsAt w a cs) (h : wpList P ops Q rest (act.put o.dst (.agg cs.toArray)) w) : wpList P ops Q (o :: rest) act w :=
  wpList_plain hgd fun _ hK => wp_load_cells ty x ho hx hu hd hi hc (hK _ _ h)

theorem quiet_load_cells {o : Oper} {act : Act} {C : World → Prop} {K : Act → Prop} (ty : TypeId) (x : Operand) (ho : o.op = .load ty x)
    (a : Addr) (hx : act.eval x = .pointer (some a)) (cs : List Value) {d : TypeDesc} (hu : P.underlying ty = some d) (hd : multi d = true)
    (hi : (P.info? ty).map (·.size) = some cs.length) (hc : ∀ w, C w → CellsAt w a cs) (h : K (act.put o.dst (.agg cs.toArray))) : o.quiet P act C K := by
  refine ⟨.agg cs.toArray, fun w hw => ?_, h⟩
  unfold Oper.quietAt execOp
  simp only [ho, hx, Instr.loadAt, Instr.sureAddr, Sem.run_bind, Sem.run_pure, Result.andThen_ok, run_loadVar_cells hu hd hi (hc w hw)]
  exact ⟨rfl, rfl⟩
end

/-- Bytes as cells. -/
def u8s (l : List Int) : List Value := l.map (Value.int .u8)
theorem u8s_length (l : List Int) : (u8s l).length = l.length := by simp [u8s]

section
variable {P : Program} {n : Nat} (w : World)
theorem run_part_u8 {e : TypeId} {k : IntKind} (he : P.underlying e = some (.int k)) (xs : List Int) (i : Nat) (hi : i < xs.length) :
    (part e (u8s xs).toArray i).run P w = .ok (.int .u8 xs[i]) w := by
  have hagg : (isAgg e).run P w = .ok false w := by
    unfold isAgg
    rw [Sem.run_bind, run_underlying he w]
    rfl
  have hg : (u8s xs).toArray[i]? = some (.int .u8 xs[i]) := by simp [u8s, hi]
  simp [part, Sem.run_bind, hagg, hg]

theorem run_eq_loop {e : TypeId} {k : IntKind} (he : P.underlying e = some (.int k)) (d : Nat) (xs ys : List Int) :
    ∀ (m i : Nat), i + m = xs.length → i + m = ys.length →
      (forIn (List.range' i m) ((none, ()) : Option Bool × Unit) fun i _ => do
        let a ← part e (u8s xs).toArray (i * 1)
        let b ← part e (u8s ys).toArray (i * 1)
        let r ← Op.equalIn (d + 1) e a b
        if (!r) = true then pure (ForInStep.done (some false, ())) else pure (ForInStep.yield (none, ())) : Sem _).run P w =
      .ok (if xs.drop i = ys.drop i then (none, ()) else (some false, ())) w := by
  intro m
  induction m with
  | zero =>
    intro i h1 h2
    have e1 : xs.drop i = [] := List.drop_eq_nil_of_le (by omega)
    have e2 : ys.drop i = [] := List.drop_eq_nil_of_le (by omega)
    simp [e1, e2]
  | succ m ih =>
    intro i h1 h2
    have hx : i < xs.length := by omega
    have hy : i < ys.length := by omega
    rw [List.range'_succ, List.forIn_cons]
    have hd : (xs.drop i = ys.drop i) ↔ (xs[i] = ys[i] ∧ xs.drop (i + 1) = ys.drop (i + 1)) := by
      conv => lhs; rw [List.drop_eq_getElem_cons hx, List.drop_eq_getElem_cons hy]
      exact List.cons_eq_cons
    simp only [Nat.mul_one, Sem.run_bind, run_part_u8 w he xs i hx, run_part_u8 w he ys i hy, Result.andThen_ok, run_equalIn_int w d e .u8 k _ _ he]
    by_cases hxy : xs[i] = ys[i]
    · have hih := ih (i + 1) (by omega) (by omega)
      simp only [Nat.mul_one] at hih
      have hb : (!(xs[i] == ys[i])) = false := by simp [hxy]
      simp only [hb, Bool.false_eq_true, if_false, Sem.run_pure, Result.andThen_ok, hih]
      by_cases hr : xs.drop (i + 1) = ys.drop (i + 1)
      · rw [if_pos hr, if_pos (hd.2 ⟨hxy, hr⟩)]
      · rw [if_neg hr, if_neg (fun h => hr (hd.1 h).2)]
    · have hb : (!(xs[i] == ys[i])) = true := by simp [hxy]
      simp only [hb, if_true, Sem.run_pure, Result.andThen_ok]
      rw [if_neg (fun h => hxy (hd.1 h).1)]

theorem run_equalIn_u8s {t e : TypeId} {k : IntKind} {i : TypeInfo} (ht : P.underlying t = some (.array n e)) (he : P.underlying e = some (.int k)) (hi : P.info? e = some i) (hs : i.size = 1) (d : Nat) (xs ys : List Int)
    (hx : xs.length = n) (hy : ys.length = n) : (Op.equalIn (d + 2) t (.agg (u8s xs).toArray) (.agg (u8s ys).toArray)).run P w = .ok (decide (xs = ys)) w := by
  have hl := run_eq_loop w he d xs ys n 0 (by omega) (by omega)
  simp only [List.drop_zero] at hl
  rw [show d + 2 = d + 1 + 1 from rfl, Op.equalIn]
  simp only [Sem.run_bind, run_underlying ht, Result.andThen_ok, sizeOf, typeInfo, run_program, hi, Sem.run_pure, hs]
  simp only [Std.Legacy.Range.forIn_eq_forIn_range', Std.Legacy.Range.size]
  have hn : (n - 0 + 1 - 1) / 1 = n := by simp
  rw [hn, hl]
  simp only [Result.andThen_ok]
  by_cases hxy : xs = ys
  · simp [hxy]
  · simp [hxy]

theorem run_eql_u8s {t e : TypeId} {k : IntKind} {i : TypeInfo} (ht : P.underlying t = some (.array n e)) (he : P.underlying e = some (.int k)) (hi : P.info? e = some i) (hs : i.size = 1) (xs ys : List Int)
    (hx : xs.length = n) (hy : ys.length = n) : (binOp .eql t (.agg (u8s xs).toArray) (.agg (u8s ys).toArray)).run P w = .ok (.bool (decide (xs = ys))) w := by
  simp only [binOp]
  simp [Op.equal, Op.maxDepth, run_equalIn_u8s w ht he hi hs 9998 xs ys hx hy]
theorem run_neq_u8s {t e : TypeId} {k : IntKind} {i : TypeInfo} (ht : P.underlying t = some (.array n e)) (he : P.underlying e = some (.int k)) (hi : P.info? e = some i) (hs : i.size = 1) (xs ys : List Int)
    (hx : xs.length = n) (hy : ys.length = n) : (binOp .neq t (.agg (u8s xs).toArray) (.agg (u8s ys).toArray)).run P w = .ok (.bool (!decide (xs = ys))) w := by
  simp only [binOp]
  simp [Op.equal, Op.maxDepth, run_equalIn_u8s w ht he hi hs 9998 xs ys hx hy]
/-- A part that is an array, out of a struct's cells. -/
theorem run_part_cells {t : TypeId} {d : TypeDesc} {i : TypeInfo} (hu : P.underlying t = some d) (hd : multi d = true) (hi : P.info? t = some i)
    (cs : List Value) (off : Nat) : (part t cs.toArray off).run P w = .ok (.agg ((cs.drop off).take i.size).toArray) w := by
  have hagg : (isAgg t).run P w = .ok true w := by
    unfold isAgg
    rw [Sem.run_bind, run_underlying hu w]
    cases d <;> simp_all [multi]
  simp [part, Sem.run_bind, hagg, sizeOf, typeInfo, hi]
theorem run_part_one {t : TypeId} {d : TypeDesc} (hu : P.underlying t = some d) (hd : multi d = false)
    (cs : List Value) (off : Nat) {v : Value} (hv : cs[off]? = some v) : (part t cs.toArray off).run P w = .ok v w := by
  have hagg : (isAgg t).run P w = .ok false w := by
    unfold isAgg
    rw [Sem.run_bind, run_underlying hu w]
    cases d <;> simp_all [multi]
  have hg : cs.toArray[off]? = some v := by simpa using hv
  simp [part, Sem.run_bind, hagg, hg]

/-- The fields' comparison, by the three things of a field that it looks at. -/
def eqF (d : Nat) (xs ys : Array Value) : List (String × TypeId × Nat) → Sem Bool
  | [] => pure true
  | f :: fs =>
    if f.1 ≠ "_" then do
      let a ← part f.2.1 xs f.2.2
      let b ← part f.2.1 ys f.2.2
      let r ← Op.equalIn d f.2.1 a b
      if (!r) = true then pure false else eqF d xs ys fs
    else eqF d xs ys fs
theorem eqFields_eq (d : Nat) (xs ys : Array Value) (fs : List Field) : Op.eqFields d xs ys fs = eqF d xs ys (fs.map fun f => (f.name, f.type, f.offset)) := by
  induction fs with
  | nil => rfl
  | cons f fs ih => simp only [Op.eqFields, List.map_cons, eqF, ih]
theorem run_eqF_cons {d : Nat} {xs ys : Array Value} {n : String} {t : TypeId} {o : Nat} {fs : List (String × TypeId × Nat)} {a b : Value} {r x : Bool} (hn : n ≠ "_")
    (ha : (part t xs o).run P w = .ok a w) (hb : (part t ys o).run P w = .ok b w) (hr : (Op.equalIn d t a b).run P w = .ok r w)
    (hx : r = true → (eqF d xs ys fs).run P w = .ok x w) : (eqF d xs ys ((n, t, o) :: fs)).run P w = .ok (r && x) w := by
  simp only [eqF, ne_eq, hn, not_false_eq_true, if_true, Sem.run_bind, ha, hb, hr, Result.andThen_ok]
  cases r
  · simp
  · simp [hx rfl]
theorem run_eqF_nil {d : Nat} {xs ys : Array Value} : (eqF d xs ys []).run P w = .ok true w := rfl
end
end Go.Proofs.YtbmpidacoohdmaaGreat.Rn
namespace Go.Proofs.YtbmpidacoohdmaaGreat.Rn
open Lib renaming hid → hI
open Go.RowKit

def lastTo (c : UInt8) (l : List UInt8) : Nat → Int
  | 0 => -1
  | n+1 => if l.getD n 0 = c then (n : Int) else lastTo c l n

theorem lastTo_bd (c : UInt8) (l : List UInt8) (n : Nat) : -1 ≤ lastTo c l n ∧ lastTo c l n < n := by
  induction n with
  | zero => simp [lastTo]
  | succ n ih => unfold lastTo; split <;> omega

theorem byte_eq {a b : UInt8} (h : ((a.toNat : Int) == (b.toNat : Int)) = true) : a = b := by
  have h' : (a.toNat : Int) = b.toNat := by simpa using h
  exact UInt8.toNat_inj.1 (by omega)
theorem byte_ne {a b : UInt8} (h : ((a.toNat : Int) == (b.toNat : Int)) = false) : a ≠ b := by
  rintro rfl
  simp at h
theorem getD_data (s : ByteArray) (k : Nat) (h : k < s.size) : s.data.toList.getD k 0 = s[k] := by
  have h' : k < s.data.toList.length := by simpa using h
  rw [List.getD_eq_getElem?_getD, List.getElem?_eq_getElem h']
  rfl
theorem lastTo_hit (c : UInt8) (s : ByteArray) (k : Nat) (h : k < s.size) (hc : s[k] = c) : lastTo c s.data.toList (k + 1) = k := by
  unfold lastTo; rw [getD_data s k h, if_pos hc]
theorem lastTo_miss (c : UInt8) (s : ByteArray) (k : Nat) (h : k < s.size) (hc : s[k] ≠ c) : lastTo c s.data.toList (k + 1) = lastTo c s.data.toList k := by
  conv => lhs; unfold lastTo
  rw [getD_data s k h, if_neg hc]

def baseB (s : ByteArray) : ByteArray := s.extract (lastTo 47 s.data.toList s.size + 1).toNat s.size

set_option maxHeartbeats 400000 in
theorem libs_any (s : ByteArray) (c : UInt8) (w : World) (hs : s.size ≤ maxLen) :
    Calls Tryz.prog 221 #[.string s, .int .u8 c.toNat] w fun e w' => e = .returned (.int .i64 (lastTo c s.data.toList s.size)) ∧ w = w' := by
  unfold maxLen at hs
  go_enter Tryz.func221, Tryz.ntmps221
  go_wp2
  go_loop [5] (fun i => ∃ k : Nat, k ≤ s.size ∧ i = .int .i64 ((k : Int) - 1) ∧ Hid (lastTo c s.data.toList s.size = lastTo c s.data.toList k)) (fun i => (intOf i + 1).toNat)
  case atStart => exact ⟨s.size, Nat.le_refl _, rfl, rfl⟩
  case round =>
    obtain ⟨k, hk, rfl, hl⟩ := hrel
    rcases k with _ | k
    · go_wp2
      go_ret
      exact ⟨ret_int (hl.out.trans rfl).symm, rfl⟩
    · have hkk : (((k + 1 : Nat) : Int) - 1) = k := by omega
      rw [hkk]
      clear hkk
      go_wp2
      · go_ret
        exact ⟨ret_int (hl.out.trans (lastTo_hit c s k (by assumption) (byte_eq (by assumption)))).symm, rfl⟩
      · refine ⟨⟨k, by omega, rfl, ?_⟩, by simp [intOf]⟩
        exact (hl.out.trans (lastTo_miss c s k (by assumption) (byte_ne (by assumption))) : _)

theorem lib_any (s : ByteArray) (c : UInt8) (w : World) (hs : s.size ≤ maxLen) :
    Calls Tryz.prog 167 #[.string s, .int .u8 c.toNat] w fun e w' => e = .returned (.int .i64 (lastTo c s.data.toList s.size)) ∧ w = w' := by
  go_enter Tryz.func167, Tryz.ntmps167
  go_wp2_with (go_at_call 221; refine (libs_any _ _ _ hs).mono ?_; rintro e w' ⟨rfl, rfl⟩)
  go_ret
  exact ⟨rfl, rfl⟩

set_option maxHeartbeats 400000 in
theorem last_any (s : ByteArray) (w : World) (hs : s.size ≤ maxLen) :
    Calls Tryz.prog 173 #[.string s] w fun e w' => e = .returned (.int .i64 (lastTo 47 s.data.toList s.size)) ∧ w = w' := by
  unfold maxLen at hs
  go_enter Tryz.func173, Tryz.ntmps173
  go_wp2
  go_loop [3, 4] (fun at' i => ∃ k : Nat, k ≤ s.size ∧ i = .int .i64 (k : Int) ∧ at' = .int .i64 (lastTo 47 s.data.toList k)) (fun _ i => s.size - (intOf i).toNat)
  case atStart => exact ⟨0, Nat.zero_le _, rfl, rfl⟩
  case round =>
    obtain ⟨k, hk, rfl, rfl⟩ := hrel
    by_cases hlt : k < s.size
    · go_wp2
      · go_round
        case rel => exact ⟨k + 1, by omega, by go_num, by rw [lastTo_hit 47 s k hlt (byte_eq (by assumption))]⟩
        case measure => simp [intOf]; omega
      · go_round
        case rel => exact ⟨k + 1, by omega, by go_num, by rw [lastTo_miss 47 s k hlt (byte_ne (by assumption))]⟩
        case measure => simp [intOf]; omega
    · go_wp2
      go_ret
      obtain rfl : k = s.size := by omega
      exact ⟨rfl, rfl⟩

set_option maxHeartbeats 400000 in
theorem base_any (s : ByteArray) (w : World) (hs : s.size ≤ maxLen) :
    Calls Tryz.prog 97 #[.string s] w fun e w' => e = .returned (.string (baseB s)) ∧ w = w' := by
  have hc := lib_any s 47 w hs
  have hb := lastTo_bd 47 s.data.toList s.size
  unfold baseB
  generalize lastTo 47 s.data.toList s.size = x at *
  have HC := hI hc
  clear hc
  unfold maxLen at hs
  obtain ⟨hb1, hb2⟩ := hb
  go_enter Tryz.func97, Tryz.ntmps97
  go_wp2_with (go_at_call 167; refine HC.out.mono ?_; rintro e w' ⟨rfl, rfl⟩)
  go_ret
  exact ⟨rfl, rfl⟩

set_option maxHeartbeats 400000 in
theorem rbase_any (s : ByteArray) (w : World) (hs : s.size ≤ maxLen) :
    Calls Tryz.prog 108 #[.string s] w fun e w' => e = .returned (.string (baseB s)) ∧ w = w' := by
  have hc := last_any s w hs
  have hb := lastTo_bd 47 s.data.toList s.size
  unfold baseB
  generalize lastTo 47 s.data.toList s.size = x at *
  have HC := hI hc
  clear hc
  unfold maxLen at hs
  obtain ⟨hb1, hb2⟩ := hb
  go_enter Tryz.func108, Tryz.ntmps108
  go_wp2_with (go_at_call 173; refine HC.out.mono ?_; rintro e w' ⟨rfl, rfl⟩)
  go_ret
  exact ⟨rfl, rfl⟩
end Go.Proofs.YtbmpidacoohdmaaGreat.Rn
namespace Go.Proofs.YtbmpidacoohdmaaGreat.Rn
open Lib renaming hid → hI
open Go.RowKit

structure Chg where
  kind : Int
  old : ByteArray
  new : ByteArray
  om : Int
  nm : Int
  oid : List Int
  nid : List Int
  score : Int
  deriving DecidableEq

def Chg.cells (c : Chg) : List Value :=
  .int .i64 c.kind :: .string c.old :: .string c.new :: .int .i64 c.om :: .int .i64 c.nm :: (u8s c.oid ++ (u8s c.nid ++ [.int .i64 c.score]))
structure Chg.ok (c : Chg) : Prop where
  oid : c.oid.length = 32
  nid : c.nid.length = 32
  old : c.old.size ≤ maxLen
  new : c.new.size ≤ maxLen
theorem Chg.cells_length (c : Chg) (h : c.ok) : c.cells.length = 70 := by simp [Chg.cells, u8s_length, h.oid, h.nid]
theorem Chg.oid_part (c : Chg) (h : c.ok) : ((c.cells.drop 5).take 32) = u8s c.oid := by
  simp only [Chg.cells, List.drop_succ_cons, List.drop_zero]
  exact List.take_left' (by rw [u8s_length, h.oid])
theorem Chg.nid_part (c : Chg) (h : c.ok) : ((c.cells.drop 37).take 32) = u8s c.nid := by
  have e : c.cells.drop 37 = (u8s c.oid ++ (u8s c.nid ++ [Value.int .i64 c.score])).drop 32 := rfl
  rw [e, List.drop_left' (by rw [u8s_length, h.oid])]
  exact List.take_left' (by rw [u8s_length, h.nid])
theorem Chg.score_at (c : Chg) (h : c.ok) : c.cells[69]? = some (.int .i64 c.score) := by
  have e : c.cells[69]? = (u8s c.oid ++ (u8s c.nid ++ [Value.int .i64 c.score]))[64]? := rfl
  rw [e, List.getElem?_append_right (by rw [u8s_length, h.oid]; omega), List.getElem?_append_right (by rw [u8s_length, u8s_length, h.oid, h.nid]; omega)]
  simp [u8s_length, h.oid, h.nid]

theorem info5 : (Tryz.prog.info? 5).map (·.size) = some 1 := by kernel_rfl
theorem info44 : (Tryz.prog.info? 51).map (·.size) = some 32 := by kernel_rfl
theorem info46 : (Tryz.prog.info? 53).map (·.size) = some 70 := by kernel_rfl
theorem stood46 : Tryz.prog.stoodInHeld 53 = false := by kernel_rfl
theorem fields46 : (Tryz.prog.fieldsOf 53).toList.map (fun f => (f.name, f.type, f.offset)) = [("Kind", 3, 0), ("Old", 9, 1), ("New", 9, 2), ("OldMode", 3, 3), ("NewMode", 3, 4), ("OldID", 51, 5), ("NewID", 51, 37), ("Score", 3, 69)] := by kernel_rfl

theorem run_eql_id (xs ys : List Int) (hx : xs.length = 32) (hy : ys.length = 32) (w : World) :
    (binOp .eql 51 (.agg (u8s xs).toArray) (.agg (u8s ys).toArray)).run Tryz.prog w = .ok (.bool (decide (xs = ys))) w := by
  obtain ⟨i, hi, hs⟩ := Option.map_eq_some_iff.1 info5
  exact run_eql_u8s w Tryz.underlying51 Tryz.underlying5 hi hs xs ys hx hy
theorem run_neq_id (xs ys : List Int) (hx : xs.length = 32) (hy : ys.length = 32) (w : World) :
    (binOp .neq 51 (.agg (u8s xs).toArray) (.agg (u8s ys).toArray)).run Tryz.prog w = .ok (.bool (!decide (xs = ys))) w := by
  obtain ⟨i, hi, hs⟩ := Option.map_eq_some_iff.1 info5
  exact run_neq_u8s w Tryz.underlying51 Tryz.underlying5 hi hs xs ys hx hy

theorem run_equalIn_chg (c d : Chg) (hc : c.ok) (hd : d.ok) (w : World) : (Op.equalIn 10000 53 (.agg c.cells.toArray) (.agg d.cells.toArray)).run Tryz.prog w = .ok (decide (c = d)) w := by
  obtain ⟨i5, hi5, hs5⟩ := Option.map_eq_some_iff.1 info5
  obtain ⟨i44, hi44, hs44⟩ := Option.map_eq_some_iff.1 info44
  rw [run_equalIn_struct w 9999 53 c.cells.toArray d.cells.toArray (by kernel_rfl) stood46, eqFields_eq, fields46]
  have u3 := Tryz.underlying3
  have u9 := Tryz.underlying9
  have u44 := Tryz.underlying51
  have po : ∀ (x : Chg), x.ok → (part 51 x.cells.toArray 5).run Tryz.prog w = .ok (.agg (u8s x.oid).toArray) w := fun x hx => by
    rw [run_part_cells w u44 rfl hi44, hs44, x.oid_part hx]
  have pn : ∀ (x : Chg), x.ok → (part 51 x.cells.toArray 37).run Tryz.prog w = .ok (.agg (u8s x.nid).toArray) w := fun x hx => by
    rw [run_part_cells w u44 rfl hi44, hs44, x.nid_part hx]
  have eqi : ∀ (a b : Int), (Op.equalIn 9999 3 (.int .i64 a) (.int .i64 b)).run Tryz.prog w = .ok (a == b) w := fun a b => run_equalIn_int w 9998 3 .i64 _ a b u3
  have eqs : ∀ (a b : ByteArray), (Op.equalIn 9999 9 (.string a) (.string b)).run Tryz.prog w = .ok (a.toList == b.toList) w := fun a b => run_equalIn_string w 9998 9 a b u9
  have eqa : ∀ (a b : List Int), a.length = 32 → b.length = 32 → (Op.equalIn 9999 51 (.agg (u8s a).toArray) (.agg (u8s b).toArray)).run Tryz.prog w = .ok (decide (a = b)) w := fun a b ha hb => run_equalIn_u8s w u44 Tryz.underlying5 hi5 hs5 9997 a b ha hb
  have h := run_eqF_cons w (P := Tryz.prog) (d := 9999) (n := "Kind") (by decide) (run_part_one w u3 rfl c.cells 0 rfl) (run_part_one w u3 rfl d.cells 0 rfl) (eqi _ _) fun _ =>
    run_eqF_cons w (n := "Old") (by decide) (run_part_one w u9 rfl c.cells 1 rfl) (run_part_one w u9 rfl d.cells 1 rfl) (eqs _ _) fun _ =>
    run_eqF_cons w (n := "New") (by decide) (run_part_one w u9 rfl c.cells 2 rfl) (run_part_one w u9 rfl d.cells 2 rfl) (eqs _ _) fun _ =>
    run_eqF_cons w (n := "OldMode") (by decide) (run_part_one w u3 rfl c.cells 3 rfl) (run_part_one w u3 rfl d.cells 3 rfl) (eqi _ _) fun _ =>
    run_eqF_cons w (n := "NewMode") (by decide) (run_part_one w u3 rfl c.cells 4 rfl) (run_part_one w u3 rfl d.cells 4 rfl) (eqi _ _) fun _ =>
    run_eqF_cons w (n := "OldID") (by decide) (po c hc) (po d hd) (eqa _ _ hc.oid hd.oid) fun _ =>
    run_eqF_cons w (n := "NewID") (by decide) (pn c hc) (pn d hd) (eqa _ _ hc.nid hd.nid) fun _ =>
    run_eqF_cons w (n := "Score") (by decide) (run_part_one w u3 rfl c.cells 69 (c.score_at hc)) (run_part_one w u3 rfl d.cells 69 (d.score_at hd)) (eqi _ _) fun _ => run_eqF_nil w
  refine h.trans (congrArg (fun b => Result.ok b w) ?_)
  simp only [str_beq]
  rw [Bool.eq_iff_iff]
  simp only [Bool.and_eq_true, beq_iff_eq, decide_eq_true_eq, and_true]
  cases c; cases d
  simp only [Chg.mk.injEq]

end Go.Proofs.YtbmpidacoohdmaaGreat.Rn

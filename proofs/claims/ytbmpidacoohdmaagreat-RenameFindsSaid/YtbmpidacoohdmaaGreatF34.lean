/- rename's near: the whole walk. -/
import Derived.Test.YtbmpidacoohdmaaGreatF22
import Derived.Test.YtbmpidacoohdmaaGreatF28
import Derived.Test.YtbmpidacoohdmaaGreatF33
namespace Go.Proofs.YtbmpidacoohdmaaGreat
open Lib renaming hid → hI
open Go.RowKit Op
open Go.Sort (HoldsK PermIn SortedIn SWO)
open Rn (Chg LReads CellsAt Fnd St isSource isTarget ne_of_types)

theorem pls_sum (p q : Nat → Bool) (h : ∀ k, ¬ (p k = true ∧ q k = true)) : ∀ k, (pls p k).length + (pls q k).length ≤ k
  | 0 => Nat.le_refl _
  | k + 1 => by
    have ih := pls_sum p q h k
    have := h k
    unfold pls
    cases hp : p k <;> cases hq : q k
    · simp only [Bool.false_eq_true, if_false]; omega
    · simp only [Bool.false_eq_true, if_false, if_true, List.length_append, List.length_singleton]; omega
    · simp only [Bool.false_eq_true, if_false, if_true, List.length_append, List.length_singleton]; omega
    · exact absurd ⟨hp, hq⟩ this
theorem rows_few (l : List Chg) (s : St) (h : l.length ≤ 12) : (srcs l s).length * (tgts l s).length < 40 := by
  have h1 : (srcs l s).length + (tgts l s).length ≤ l.length := pls_sum _ _ (fun k hk => by
    obtain ⟨a, b⟩ := hk
    simp only [isSource, isTarget, Bool.and_eq_true, beq_iff_eq] at a b
    have := a.1.symm.trans b.1
    omega) _
  have h2 : ∀ a, a < 13 → a * (12 - a) < 40 := by decide
  have h3 := h2 (srcs l s).length (by omega)
  exact Nat.lt_of_le_of_lt (Nat.mul_le_mul_left _ (show (tgts l s).length ≤ 12 - (srcs l s).length by omega)) h3
theorem four_lt {w : World} {B b F S K T : Nat} {A : Option Addr} {c : Nat} {l : List Chg} {s : St} (h : Fnd w B b F S K T A c l s) : ∀ q, Four F S K T q → B ≤ q ∧ q < w.heap.size := by
  rintro q (rfl | rfl | rfl | rfl)
  · exact ⟨h.bF, (Array.getElem?_eq_some_iff.1 h.hF).1⟩
  · exact ⟨h.bS, (Array.getElem?_eq_some_iff.1 h.hS).1⟩
  · exact ⟨h.bK, (Array.getElem?_eq_some_iff.1 h.hK).1⟩
  · exact ⟨h.bT, (Array.getElem?_eq_some_iff.1 h.hT).1⟩
theorem rv_chs4 {S : Nat → Prop} {w w2 : World} {D : Option Addr} {xs : List Value} (h : Rv w.heap.size w D xs) (hc : Chs S w w2) (hn : ∀ ad, D = some ad → ¬ S ad.block) : Rv w2.heap.size w2 D xs := fun k x hx => by
  obtain ⟨ad, e, hl, hcell⟩ := h.at_ hx
  exact ⟨ad, e, Nat.lt_of_lt_of_le hl hc.size, (World.cell?_of_block (hc.block _ (by rw [block_add]; exact hl) (by rw [block_add]; exact hn ad e))).trans hcell⟩
theorem own_c {S : Nat → Prop} {w w2 : World} {C size : Nat} {e : TypeId} {v : Value} {n : Nat} {xs : List Value} (h : w.ownsRow C e size v n xs) (hc : Chs S w w2) (hn : ∀ q, S q → q < C) : w2.ownsRow C e size v n xs := by
  obtain ⟨h0, ⟨h1, h2⟩ | ⟨g, cap, cur, h1, h2, h3, h4⟩⟩ := h
  · exact ⟨h0, .inl ⟨h1, h2⟩⟩
  · exact ⟨h0, .inr ⟨g, cap, cur, h1, h2, (hc.block g (Array.getElem?_eq_some_iff.1 h3).1 (fun q => by have := hn g q; omega)).trans h3, h4⟩⟩
theorem fd_eq {w : World} {B b F S K T : Nat} {A : Option Addr} {c : Nat} {l : List Chg} {s s2 : St} (e : s2 = s) (h : Fnd w B b F S K T A c l s) : Fnd w B b F S K T A c l s2 := by rw [e]; exact h
theorem txs_le {l : List Ent} {f : List UInt8 → Option (List UInt8)} (hc : Cnt l f) (ha : ∀ x ∈ l, x.body.length ≤ 400) : ∀ ids bs, Go.Proofs.YtbmpidacoohdmaaGreat.txs f ids = some bs → ∀ k, (bs.getD k []).length ≤ 400
  | [], bs, h, k => by
    obtain rfl := Option.some.inj h
    simp
  | i :: r, bs, h, k => by
    unfold txs at h
    split at h
    · rename_i b bs2 h1 h2
      obtain rfl := Option.some.inj h
      cases k with
      | succ k => exact txs_le hc ha r bs2 h2 k
      | zero =>
        by_cases e : ∀ x ∈ l, x.id ≠ i
        · rw [hc.no i e] at h1; cases h1
        · have ⟨x, hx, he⟩ : ∃ x ∈ l, x.id = i := by
            refine Classical.byContradiction fun q => e fun x hx he => q ⟨x, hx, he⟩
          rw [← he, hc.yes x hx] at h1
          obtain rfl := Option.some.inj h1
          exact ha x hx
    · cases h
theorem txs_len2 {f : List UInt8 → Option (List UInt8)} : ∀ ids bs, Go.Proofs.YtbmpidacoohdmaaGreat.txs f ids = some bs → bs.length = ids.length
  | [], bs, h => by obtain rfl := Option.some.inj h; rfl
  | i :: r, bs, h => by
    unfold txs at h
    split at h
    · rename_i b bs2 h1 h2
      obtain rfl := Option.some.inj h
      rw [List.length_cons, List.length_cons, txs_len2 r bs2 h2]
    · cases h
theorem txr_of {w : World} {C : Nat} {A : Option Addr} {us : List Value} {bs : List (List UInt8)} (hr : Rv w.heap.size w A us) (h : Txt w C us bs) (h4 : ∀ k, (bs.getD k []).length ≤ 400) : Txr w A us bs where
  len := h.1
  rv := hr
  all := fun k hk => by
    have hu : us[k]? = some (us.getD k undef) := by rw [List.getD_eq_getElem?_getD, List.getElem?_eq_getElem (by rw [h.1]; exact hk)]; rfl
    have hb : bs[k]? = some (bs.getD k []) := by rw [List.getD_eq_getElem?_getD, List.getElem?_eq_getElem hk]; rfl
    rcases h.2 k _ _ hu hb with ⟨e1, e2⟩ | ⟨g, cap, cur, fr, e1, e2, e3, e4, e5, e6, e7, e8⟩
    · have e0 : (bs.getD k []) = [] := by have := congrArg List.length e2; rw [bys_len] at this; exact List.length_eq_zero_iff.1 this
      rw [hu, e1, e0]
      exact ⟨none, 0, rfl, Nat.le_refl _, fun j x hx => by simp [bys] at hx, by simp⟩
    · rw [bys_len] at e1 e5 e8
      refine ⟨some ⟨g, 0, none⟩, cap, by rw [hu, e1], e5, fun j x hx => ⟨_, rfl, (Array.getElem?_eq_some_iff.1 e3).1, ?_⟩, h4 k⟩
      have hj : j < (bs.getD k []).length := by have := (List.getElem?_eq_some_iff.1 hx).1; rwa [bys_len] at this
      rw [Addr.add_lit, Nat.zero_add]
      rw [← e8, List.getElem?_take_of_lt hj] at hx
      exact cell_of_row w g j _ _ _ e3 |>.trans (by simpa using hx)
theorem srcs_kind {l : List Chg} {s : St} {k : Nat} (h : k ∈ srcs l s) : k < l.length ∧ (l.getD k default).kind = 2 := by
  obtain ⟨h1, h2⟩ := pls_mem _ _ k h
  simp only [isSource, Bool.and_eq_true, beq_iff_eq] at h2
  exact ⟨h1, h2.1⟩
theorem tgts_kind {l : List Chg} {s : St} {k : Nat} (h : k ∈ tgts l s) : k < l.length ∧ (l.getD k default).kind = 1 := by
  obtain ⟨h1, h2⟩ := pls_mem _ _ k h
  simp only [isTarget, Bool.and_eq_true, beq_iff_eq] at h2
  exact ⟨h1, h2.1⟩
/-- What near hands back, and what it leaves. -/
noncomputable def nearR (l : List Chg) (s : St) (f : List UInt8 → Option (List UInt8)) (o1 o2 : Int) : Int := if earlyN o1 o2 (srcs l s).length (tgts l s).length then 0 else match Go.Proofs.YtbmpidacoohdmaaGreat.txs f (oldI l s), Go.Proofs.YtbmpidacoohdmaaGreat.txs f (newI l s) with
  | some _, some _ => 0
  | _, _ => 30
noncomputable def nearS (l : List Chg) (s : St) (f : List UInt8 → Option (List UInt8)) (o1 o2 : Int) : St := if earlyN o1 o2 (srcs l s).length (tgts l s).length then s else match Go.Proofs.YtbmpidacoohdmaaGreat.txs f (oldI l s), Go.Proofs.YtbmpidacoohdmaaGreat.txs f (newI l s) with
  | some xs, some ys => titer (rowsOf l (srcs l s) (tgts l s) xs ys (lstN o1)) s 40
  | _, _ => s
structure NPs (w : World) (g m : Nat) (l0 : List Ent) (t : Int) (B b F S K T : Nat) (A : Option Addr) (c : Nat) (l : List Chg) (s2 : St) (w2 : World) : Prop where
  st : ∃ kn w3, Psp w3 g m l0 t kn ∧ w2.heap[g]? = w3.heap[g]?
  fd : Fnd w2 B b F S K T A c l s2
  chs : Chs (fun q => q = g ∨ Four F S K T q) w w2
attribute [local go_sem ↓] bsI_eq load42_eq
set_option maxRecDepth 100000 in
set_option maxHeartbeats 4000000 in
theorem near_any (w : World) (g m : Nat) (l0 : List Ent) (t kn : Int) (f : List UInt8 → Option (List UInt8)) (hs : Psp w g m l0 t kn) (hc : Cnt l0 f) (B b F S K T : Nat) (A : Option Addr) (c : Nat) (l : List Chg) (s : St) (hf : Fnd w B b F S K T A c l s) (hby : BytL l) (hgB : g < B) (hA : ∀ ad, A = some ad → ad.block ≠ g) (o1 o2 : Int) (o3 : Bool) (h12 : l.length ≤ 12) (h04 : K04 s) (htk : s.tk.length = l.length) :
    Calls Tryz.prog 19 #[.pointer (some ⟨b, 0, none⟩), .pointer (some ⟨g, 0, none⟩), .agg #[.int .i64 o1, .int .i64 o2, .bool o3]] w fun e w2 => e = .returned (.int .i64 (nearR l s f o1 o2)) ∧ NPs w g m l0 t B b F S K T A c l (nearS l s f o1 o2) w2 := by
  obtain ⟨r, hr⟩ : ∃ r : Int, nearR l s f o1 o2 = r := ⟨_, rfl⟩
  obtain ⟨s2, hs2⟩ : ∃ s2 : St, nearS l s f o1 o2 = s2 := ⟨_, rfl⟩
  rw [hr, hs2]
  have HR0 := hI (fun h : earlyN o1 o2 (srcs l s).length (tgts l s).length => show r = 0 ∧ s2 = s by rw [← hr, ← hs2]; unfold nearR nearS; rw [if_pos h, if_pos h]; exact ⟨rfl, rfl⟩)
  have HR1 := hI (fun (h : ¬ earlyN o1 o2 (srcs l s).length (tgts l s).length) (k : Go.Proofs.YtbmpidacoohdmaaGreat.txs f (oldI l s) = none) => show r = 30 ∧ s2 = s by rw [← hr, ← hs2]; unfold nearR nearS; rw [if_neg h, if_neg h, k]; exact ⟨rfl, rfl⟩)
  have HR2 := hI (fun (h : ¬ earlyN o1 o2 (srcs l s).length (tgts l s).length) (k : Go.Proofs.YtbmpidacoohdmaaGreat.txs f (newI l s) = none) => show r = 30 ∧ s2 = s by rw [← hr, ← hs2]; unfold nearR nearS; rw [if_neg h, if_neg h, k]; cases Go.Proofs.YtbmpidacoohdmaaGreat.txs f (oldI l s) <;> exact ⟨rfl, rfl⟩)
  have HR3 := hI (fun (h : ¬ earlyN o1 o2 (srcs l s).length (tgts l s).length) (xs ys : List (List UInt8)) (k : Go.Proofs.YtbmpidacoohdmaaGreat.txs f (oldI l s) = some xs) (k2 : Go.Proofs.YtbmpidacoohdmaaGreat.txs f (newI l s) = some ys) => show r = 0 ∧ s2 = titer (rowsOf l (srcs l s) (tgts l s) xs ys (lstN o1)) s 40 by rw [← hr, ← hs2]; unfold nearR nearS; rw [if_neg h, if_neg h, k, k2]; exact ⟨rfl, rfl⟩)
  have H12 := hI h12
  have H04 := hI h04
  have HTK := hI htk
  have FL := hI (four_lt hf)
  have HAB := hI (And.intro hgB hf.blt)
  clear hr hs2 h12 h04 htk
  have HC := hI hc
  have HY := hI hby
  have HA := hI hA
  have HGB := hI hgB
  have B0 := hI (((Below.refl w.heap.size w).alloc (Nat.le_refl _) (.cells #[.pointer (some ⟨b, 0, none⟩)] 67)).alloc (by simp) (.cells #[.int .i64 o1, .int .i64 o2, .bool o3] 26))
  have H0 := hI ((Ar.new w [.pointer (some ⟨b, 0, none⟩)] 67).alloc (.cells #[.int .i64 o1, .int .i64 o2, .bool o3] 26))
  have O0 := hI (Ar.new (w.alloc (.cells #[.pointer (some ⟨b, 0, none⟩)] 67)) [.int .i64 o1, .int .i64 o2, .bool o3] 26)
  have hsz : (w.alloc (.cells #[.pointer (some ⟨b, 0, none⟩)] 67)).heap.size = w.heap.size + 1 := by simp
  rw [hsz] at O0
  have P0 := hI (hs.below B0.out)
  have F0 : Hid (Fnd ((w.alloc (.cells #[.pointer (some ⟨b, 0, none⟩)] 67)).alloc (.cells #[.int .i64 o1, .int .i64 o2, .bool o3] 26)) B b F S K T A c l s) := hI (hf.keep fun q hq => B0.out.block q hq)
  have hc1 := O0.out.cell (k := 1) rfl
  clear hs hc hf hby hgB hA
  generalize hw0 : (w.alloc (.cells #[.pointer (some ⟨b, 0, none⟩)] 67)).alloc (.cells #[.int .i64 o1, .int .i64 o2, .bool o3] 26) = w0 at *
  go_enter Tryz.func19, Tryz.ntmps19
  by_cases c1 : o2 < 0
  · have LM : Hid (limN o2 = 32) := hI (by unfold limN; rw [if_pos (.inl c1)])
    go_upto_region 4 with fail
    clear hc1
    refine near4 w0 B b F S K T A c l s w.heap.size F0.out H0.out _ _ _ _ _ _ _ _ _ _ _ _ _ _ _ _ _ _ _ _ _ _ _ _ _ _ _ _ _ _ _ _ _ _ _ _ _ _ _ _ _ _ _ _ _ _ _ _ _ _ _ _ _ _ _ _ _ _ _ _ _ _ _ _ _ _ _ _ _ _ _ _ _ _ _ _ _ _ _ _ _ _ _ _ _ _ _ _ _ _ _ _ _ _ _ _ _ _ _ _ _ _ _ _ _ _ _ _ _ _ _ _ _ _ _ _ _ _ _ _ _ _ _ _ _ _ _ _ _ _ _ _ _ _ _ _ _ _ _ _ _ _ _ _ _ _ _ _ _ _ _ _ _ _ _ _ _ _ (fun _ _ o _ _ h => by cases o <;> exact h) ?_
    refine hI ?_
    intro p8 p9 D3 D7 d3 d7 w2
    intros
    rename_i h8 h9 o3 o7 hb2
    have P2 := hI (P0.out.below hb2.out)
    have F2 : Hid (Fnd w2 B b F S K T A c l s) := hI (F0.out.keep fun q hq => hb2.out.block q hq)
    have B2 := hI (B0.out.trans (hb2.out.mono B0.out.size))
    have H2 := hI (H0.out.below hb2.out H0.out.lt)
    have O2 := hI (O0.out.below hb2.out O0.out.lt)
    have hc0 := O2.out.cell (k := 0) rfl
    have hc8 := h8.out.cell (k := 0) rfl
    have hc9 := h9.out.cell (k := 0) rfl
    change Hid (w2.ownsRow w0.heap.size 3 1 (.slice D3 (srcs l s).length d3) (srcs l s).length (ntI2 (srcs l s))) at o3
    change Hid (w2.ownsRow w0.heap.size 3 1 (.slice D7 (tgts l s).length d7) (tgts l s).length (ntI2 (tgts l s))) at o7
    change w2.cell? ⟨p8, 0, none⟩ = some (.slice D3 (srcs l s).length d3) at hc8
    change w2.cell? ⟨p9, 0, none⟩ = some (.slice D7 (tgts l s).length d7) at hc9
    have hns : (srcs l s).length ≤ l.length := pls_len _ _
    have hnt : (tgts l s).length ≤ l.length := pls_len _ _
    have h40 := F0.out.short
    by_cases e1 : 1000 < o1
    · go_wp2_with fail
      go_ret
      exact ⟨ret_int (HR0.out (.inl e1)).1.symm, ⟨kn, _, P2.out, rfl⟩, fd_eq (HR0.out (.inl e1)).2 F2.out, Chs.of_below B2.out _⟩
    by_cases e2 : (srcs l s).length = 0
    · have q2 : (((srcs l s).length : Int) == 0) = true := by simp [e2]
      have E2 := hI e2
      clear e2
      go_wp2_with fail
      go_ret
      exact ⟨ret_int (HR0.out (.inr (.inl E2.out))).1.symm, ⟨kn, _, P2.out, rfl⟩, fd_eq (HR0.out (.inr (.inl E2.out))).2 F2.out, Chs.of_below B2.out _⟩
    have q2 : (((srcs l s).length : Int) == 0) = false := beq_eq_false_iff_ne.2 (by omega)
    by_cases e3 : (tgts l s).length = 0
    · have q3 : (((tgts l s).length : Int) == 0) = true := by simp [e3]
      have E3 := hI e3
      clear e3
      go_wp2_with fail
      go_ret
      exact ⟨ret_int (HR0.out (.inr (.inr (.inl E3.out)))).1.symm, ⟨kn, _, P2.out, rfl⟩, fd_eq (HR0.out (.inr (.inr (.inl E3.out)))).2 F2.out, Chs.of_below B2.out _⟩
    have q3 : (((tgts l s).length : Int) == 0) = false := beq_eq_false_iff_ne.2 (by omega)
    by_cases e4 : 32 < ((srcs l s).length : Int)
    · go_wp2_with fail
      go_ret
      exact ⟨ret_int (HR0.out (.inr (.inr (.inr (.inl (by rw [LM.out]; exact e4)))))).1.symm, ⟨kn, _, P2.out, rfl⟩, fd_eq (HR0.out (.inr (.inr (.inr (.inl (by rw [LM.out]; exact e4)))))).2 F2.out, Chs.of_below B2.out _⟩
    by_cases e5 : 32 < ((tgts l s).length : Int)
    · go_wp2_with fail
      go_ret
      exact ⟨ret_int (HR0.out (.inr (.inr (.inr (.inr (by rw [LM.out]; exact e5)))))).1.symm, ⟨kn, _, P2.out, rfl⟩, fd_eq (HR0.out (.inr (.inr (.inr (.inr (by rw [LM.out]; exact e5)))))).2 F2.out, Chs.of_below B2.out _⟩
    have NE : Hid (¬ earlyN o1 o2 (srcs l s).length (tgts l s).length) := hI (by unfold earlyN; rw [LM.out]; rintro (h | h | h | h | h) <;> omega)
    obtain ⟨_, _, hv3, _, _, hr3, hq3⟩ := own_all o3.out
    injection hv3 with ha _ hb
    subst ha hb
    obtain ⟨_, _, hv7, _, _, hr7, hq7⟩ := own_all o7.out
    injection hv7 with ha _ hb
    subst ha hb
    have R7 := hI hr7
    have R3 := hI hr3
    have HL3 := hI (fun k (hk : k ∈ srcs l s) => (pls_mem _ _ k hk).1)
    have HL7 := hI (fun k (hk : k ∈ tgts l s) => (pls_mem _ _ k hk).1)
    have Q3 := hI hq3
    have Q7 := hI hq7
    have POS := hI (And.intro (show 0 < (srcs l s).length by omega) (show 0 < (tgts l s).length by omega))
    clear e2 e3 hr3 hr7 hq3 hq7
    go_wp2_with fail
    refine near_o w2 B b F S K T A c l s w.heap.size F2.out H2.out HY.out (srcs l s) D3 d3 HL3.out (by omega) R3.out _ _ _ _ _ _ _ _ _ _ _ _ _ _ _ _ _ _ _ _ _ _ _ _ _ _ _ _ _ _ _ _ _ _ _ _ _ _ _ _ _ _ _ _ _ _ _ _ _ _ _ _ _ _ _ _ _ _ _ _ _ _ _ _ _ _ _ _ _ _ _ _ _ _ _ _ _ _ _ _ _ _ _ _ _ _ _ _ _ _ _ _ _ _ _ _ _ _ _ _ _ _ _ _ _ _ _ _ _ _ _ _ _ _ _ _ _ _ _ _ _ _ _ _ _ _ _ _ _ _ _ _ _ _ _ _ _ _ _ _ _ _ _ _ _ _ _ _ _ _ _ _ _ _ ?_
    refine hI ?_
    intro ov w3
    intros
    rename_i ho3 hb3
    have hc93 := (h9.out.below hb3.out h9.out.lt).cell (k := 0) rfl
    change w3.cell? ⟨p9, 0, none⟩ = some (.slice D7 (tgts l s).length d7) at hc93
    have F3 : Hid (Fnd w3 B b F S K T A c l s) := hI (F2.out.keep fun q hq => hb3.out.block q hq)
    have H3 := hI (H2.out.below hb3.out H2.out.lt)
    have P3 := hI (P2.out.below hb3.out)
    have B3 := hI (B2.out.trans (hb3.out.mono B2.out.size))
    have R73 := hI (R7.out.low hb3.out hb3.out.size)
    clear hc8 hc9 hc0
    go_wp2_with fail
    refine near_n w3 B b F S K T A c l s w.heap.size F3.out H3.out HY.out (tgts l s) D7 d7 HL7.out (by omega) R73.out _ _ _ _ _ _ _ _ _ _ _ _ _ _ _ _ _ _ _ _ _ _ _ _ _ _ _ _ _ _ _ _ _ _ _ _ _ _ _ _ _ _ _ _ _ _ _ _ _ _ _ _ _ _ _ _ _ _ _ _ _ _ _ _ _ _ _ _ _ _ _ _ _ _ _ _ _ _ _ _ _ _ _ _ _ _ _ _ _ _ _ _ _ _ _ _ _ _ _ _ _ _ _ _ _ _ _ _ _ _ _ _ _ _ _ _ _ _ _ _ _ _ _ _ _ _ _ _ _ _ _ _ _ _ _ _ _ _ _ _ _ _ _ _ _ _ _ _ _ _ _ _ _ _ ?_
    refine hI ?_
    intro ov4 w4
    intros
    rename_i ho4 hb4
    have F4 : Hid (Fnd w4 B b F S K T A c l s) := hI (F3.out.keep fun q hq => hb4.out.block q hq)
    have P4 := hI (P3.out.below hb4.out)
    have B4 := hI (B3.out.trans (hb4.out.mono B3.out.size))
    have O34 := hI (own_below ho3.out hb4.out)
    have hgw : g < w2.heap.size := Nat.lt_of_lt_of_le HGB.out F2.out.blt
    have TX := hI (texts_any w4 g m l0 t kn f P4.out HC.out w2.heap.size (oldI l s) ov (fun x hx => by obtain ⟨k, hk, rfl⟩ := List.mem_map.1 hx; rw [u8b_len]; exact (oks_at F0.out.oks (HL3.out k hk)).oid) (by rw [show (oldI l s).length = (srcs l s).length by simp [oldI]]; omega) (by rw [show (oldI l s).length = (srcs l s).length by simp [oldI]]; exact O34.out) hgw)
    obtain ⟨Do, do_, hvo, _⟩ := own_all O34.out
    subst hvo
    clear hc93
    go_wp2_with fail
    refine TX.out.mono ?_
    rintro e w5 ⟨kn5, hp5, hc5, ⟨xs, v2, us, htx, rfl, hov, htt⟩ | ⟨htn, rfl⟩⟩
    · have P5 := hI hp5
      have F5 := hI (F4.out.chsg hc5 HGB.out HA.out)
      have C5 := hI ((Chs.of_below B4.out (fun q => q = g)).trans hc5)
      have HX := hI htx
      have OX := hI (show w5.ownsRow w4.heap.size 57 1 v2 xs.length us from htt.1 ▸ hov)
      have TT := hI htt
      have HC5 := hI hc5
      have O45 := hI (own_c ho4.out hc5 (fun q e => by have := HAB.out.1; have := F3.out.blt; omega))
      have TY := hI (texts_any w5 g m l0 t kn5 f P5.out HC.out w3.heap.size (newI l s) ov4 (fun x hx => by obtain ⟨k, hk, rfl⟩ := List.mem_map.1 hx; rw [u8b_len]; exact (oks_at F0.out.oks (HL7.out k hk)).nid) (by rw [show (newI l s).length = (tgts l s).length by simp [newI]]; omega) (by rw [show (newI l s).length = (tgts l s).length by simp [newI]]; exact O45.out) (by have := HAB.out.1; have := F3.out.blt; omega))
      clear hp5 hc5 hov htt htx
      obtain ⟨Dn, dn, hvn, _⟩ := own_all O45.out
      subst hvn
      go_wp2_with fail
      refine TY.out.mono ?_
      rintro e w6 ⟨kn6, hp6, hc6, ⟨ys, v7, us7, hty, rfl, hov7, htt7⟩ | ⟨htn, rfl⟩⟩
      · have P6 := hI hp6
        have F6 := hI (F5.out.chsg hc6 HGB.out HA.out)
        have C6 := hI (C5.out.trans hc6)
        have HRS := hI (HR3.out NE.out xs ys HX.out hty)
        have L0 : g < w.heap.size := by have := HAB.out.1; have := HAB.out.2; omega
        have LS := B0.out.size
        have L4 : g < w4.heap.size := Nat.lt_of_lt_of_le L0 B4.out.size
        have C26 : Hid (Chs (fun q => q = g) w2 w6) := hI ((Chs.of_below (hb3.out.trans (hb4.out.mono hb3.out.size)) (fun q => q = g)).trans (HC5.out.trans hc6))
        have H6 := hI (show Ar w6 w.heap.size 67 [.pointer (some ⟨b, 0, none⟩)] from (C26.out.block _ H2.out.lt (fun e => by omega)).trans H2.out)
        have O6 := hI (show Ar w6 (w.heap.size + 1) 26 [.int .i64 o1, .int .i64 o2, .bool _] from (C26.out.block _ O2.out.lt (fun e => by omega)).trans O2.out)
        have H86 := hI (show Ar w6 p8 48 [.slice D3 (srcs l s).length d3] from (C26.out.block _ h8.out.lt (ne_of_types h8.out P2.out.blk (by decide))).trans h8.out)
        have H96 := hI (show Ar w6 p9 48 [.slice D7 (tgts l s).length d7] from (C26.out.block _ h9.out.lt (ne_of_types h9.out P2.out.blk (by decide))).trans h9.out)
        have R36 := hI (rv_chs4 R3.out C26.out (fun ad e q => by have := (Q3.out ad e).1; have : ad.block = g := q; omega))
        have R76 := hI (rv_chs4 R7.out C26.out (fun ad e q => by have := (Q7.out ad e).1; have : ad.block = g := q; omega))
        have F3N := hI (fun ad (e : D3 = some ad) (q : Four F S K T ad.block) => show False by have := (Q3.out ad e).1; have := (FL.out _ q).2; omega)
        have F7N := hI (fun ad (e : D7 = some ad) (q : Four F S K T ad.block) => show False by have := (Q7.out ad e).1; have := (FL.out _ q).2; omega)
        have NF1 := hI (show ¬ Four F S K T w.heap.size from fun q => by have := (FL.out _ q).2; omega)
        have NF8 := hI (show ¬ Four F S K T p8 from fun q => Or.elim q (ne_of_types h8.out F2.out.hF (by decide)) fun q => Or.elim q (ne_of_types h8.out F2.out.hS (by decide)) fun q => Or.elim q (ne_of_types h8.out F2.out.hK (by decide)) (ne_of_types h8.out F2.out.hT (by decide)))
        have NF9 := hI (show ¬ Four F S K T p9 from fun q => Or.elim q (ne_of_types h9.out F2.out.hF (by decide)) fun q => Or.elim q (ne_of_types h9.out F2.out.hS (by decide)) fun q => Or.elim q (ne_of_types h9.out F2.out.hK (by decide)) (ne_of_types h9.out F2.out.hT (by decide)))
        have OX6 := own_c OX.out hc6 (fun q e => by have : q = g := e; omega)
        have TT6 := TT.out.chs hc6 (fun q e => by have : q = g := e; omega)
        obtain ⟨Dx, dx, hvx, _, _, rx, _⟩ := own_all OX6
        obtain ⟨Dy, dy, hvy, _, _, ry, _⟩ := own_all (show w6.ownsRow w5.heap.size 57 1 v7 ys.length us7 from htt7.1 ▸ hov7)
        subst hvx hvy
        have hxs : xs.length = (srcs l s).length := by rw [txs_len2 _ _ HX.out]; simp [oldI]
        have hys : ys.length = (tgts l s).length := by rw [txs_len2 _ _ hty]; simp [newI]
        have TA := hI (table_any w6 Dx Dy dx dy us us7 xs ys o1 (txr_of rx TT6 (txs_le HC.out (fun x hx => (P6.out.all x hx).2.1) _ _ HX.out)) (txr_of ry htt7 (txs_le HC.out (fun x hx => (P6.out.all x hx).2.1) _ _ hty)) (by omega) (by omega))
        have TM := hI (fun (x : Nat × Nat × Nat) (hx : x ∈ tabTo xs ys (lstN o1) xs.length) => show x.1 < (srcs l s).length ∧ x.2.1 < (tgts l s).length ∧ x.2.2 ≤ 1000 by have := tabTo_mem xs ys (lstN o1) xs.length x hx; rw [← hxs, ← hys]; exact ⟨this.1, this.2.1, this.2.2.1⟩)
        have TL := hI (show (tabTo xs ys (lstN o1) xs.length).length < 40 from Nat.lt_of_le_of_lt (tabTo_len xs ys (lstN o1) xs.length) (by rw [hxs, hys]; exact rows_few l s H12.out))
        have TK := hI (fun (x : Nat × Nat × Nat) (hx : x ∈ tabTo xs ys (lstN o1) xs.length) => show (srcs l s).getD x.1 0 < s.tk.length by
          have h1 := (TM.out x hx).1
          rw [HTK.out]
          refine HL3.out _ ?_
          rw [List.getD_eq_getElem?_getD, List.getElem?_eq_getElem h1]
          exact List.getElem_mem h1)
        have o0 := O6.out.cell (k := 0) rfl
        clear hp6 hc6 rx ry TT6 OX6 hov7 htt7 hty hxs hys
        go_wp2_with fail
        refine TA.out.mono ?_
        rintro e w7 ⟨v, d, rfl, hto, hpm, hso, hb7⟩
        have B7 := hI hb7
        have hz := hpm.1
        have PL : Hid (d.toList.Perm (tabTo xs ys (lstN o1) xs.length)) := hI (perm_list (d := (tabTo xs ys (lstN o1) xs.length).toArray) (by rw [← hz]; exact hpm))
        have HSO := hI hso
        have HDZ : Hid (d.size < 40) := hI (by have := PL.out.length_eq; rw [Array.length_toList] at this; rw [this]; exact TL.out)
        have F7 := hI (F6.out.keep fun q hq => B7.out.block q hq)
        clear hb7 hz hpm hso o0
        rcases hto with ⟨rfl, hd0⟩ | ⟨g2, cap, rfl, hg1, hcap, hg2, hrow⟩
        · obtain rfl := Array.eq_empty_of_size_eq_zero hd0
          clear hd0
          have FI := hI (fold_is l (srcs l s) (tgts l s) xs ys (lstN o1) #[] #[] 40 s PL.out (List.Perm.refl _) (fun i j _ hj => by cases hj) TK.out (by simp))
          go_wp2_with (go_at_call 48; refine (sort_nil w7 _ _).mono ?_; rintro e w8 ⟨rfl, rfl⟩)
          have NL := hI (show Nlw w8 B b F S K T A c l w.heap.size p8 p9 w.heap.size D3 D7 d3 d7 (srcs l s) (tgts l s) #[] from ⟨(B7.out.block _ H6.out.lt).trans H6.out, (B7.out.block _ H86.out.lt).trans H86.out, (B7.out.block _ H96.out.lt).trans H96.out, R36.out.low B7.out B7.out.size, R76.out.low B7.out B7.out.size, F3N.out, F7N.out, fun k hk => srcs_kind hk, fun k hk => tgts_kind hk, (fun t ht => by simp at ht), Nat.lt_of_lt_of_le H6.out.lt B7.out.size, NF1.out, fun k hk => by simp at hk⟩)
          refine near_l w8 B b F S K T A c l s w.heap.size p8 p9 w.heap.size D3 D7 d3 d7 0 (srcs l s) (tgts l s) #[] F7.out NL.out NF1.out NF8.out NF9.out H04.out (by simp) (.slice none 0 0) (fun h => by simp at h) _ _ _ _ _ _ _ _ _ _ _ _ _ _ _ _ _ _ _ _ _ _ _ _ _ _ _ _ _ _ _ _ _ _ _ _ _ _ _ _ _ _ _ _ _ _ _ _ _ _ _ _ _ _ _ _ _ _ _ _ _ _ _ _ _ _ _ _ _ _ _ _ _ _ _ _ _ _ _ _ _ _ _ _ _ _ _ _ _ _ _ _ _ _ _ _ _ _ _ _ _ _ _ _ _ _ _ _ _ _ _ _ _ _ _ _ _ _ _ _ _ _ _ _ _ _ _ _ _ _ _ _ _ _ _ _ _ _ _ _ _ _ _ _ _ _ _ _ _ _ _ _ _  ?_
          refine hI ?_
          intro wr
          intros
          rename_i hfE hcE
          have GE : Hid (wr.heap[g]? = w6.heap[g]?) := hI ((hcE.out.block g (Nat.lt_of_lt_of_le P6.out.glt B7.out.size) (fun q => by have := (FL.out _ q).1; have := HAB.out.1; omega)).trans (B7.out.block g P6.out.glt))
          have CE : Hid (Chs (fun q => q = g ∨ Four F S K T q) w wr) := hI (((C6.out.trans (Chs.of_below B7.out _)).more (fun _ e => .inl e)).trans (hcE.out.more fun _ e => .inr e))
          go_wp2_with fail
          go_ret
          exact ⟨ret_int HRS.out.1.symm, ⟨kn6, w6, P6.out, GE.out⟩, fd_eq (HRS.out.2.trans FI.out) hfE.out, CE.out⟩
        · have SR := hI (sort_rows w6 w7 F6.out w.heap.size p8 p9 D3 D7 d3 d7 (srcs l s) (tgts l s) (H6.out.cell (k := 0) rfl) (H86.out.cell (k := 0) rfl) (H96.out.cell (k := 0) rfl) H6.out.lt H86.out.lt H96.out.lt R36.out R76.out HL3.out HL7.out B7.out g2 cap d hg1 hg2 hrow (fun x hx => TM.out x (PL.out.subset (by simpa using hx))) HSO.out HDZ.out POS.out.1 POS.out.2 (pls_asc _ _) (pls_asc _ _))
          obtain ⟨nd, hnd⟩ : ∃ nd, d.size = nd := ⟨_, rfl⟩
          rw [hnd] at SR ⊢
          have HND := hI hnd
          have HG1 := hI hg1
          clear hnd hrow hcap
          go_wp2_with (go_at_call 48; refine SR.out.mono ?_; rintro e w8 ⟨rfl, d2, hh2, hz2, hp2, hs2, hc8⟩; have RW2 := hI hh2; have PP2 := hI hp2; have SS2 := hI hs2; have HC8 := hI hc8; have HZ2 := hI hz2; clear hh2 hz2 hp2 hs2 hc8)
          have hz2 := HZ2.out
          clear HZ2 SR
          subst hz2
          have B68 : Hid (Below w6.heap.size w6 w8) := hI ⟨HC8.out.os.trans B7.out.os, HC8.out.tape.trans B7.out.tape, HC8.out.output.trans B7.out.output, Nat.le_trans B7.out.size HC8.out.size, fun q hq => (HC8.out.block q (Nat.lt_of_lt_of_le hq B7.out.size) (fun e => by have := HG1.out; have : q = g2 := e; omega)).trans (B7.out.block q hq)⟩
          have F8 := hI (F6.out.keep fun q hq => B68.out.block q hq)
          have FI := hI (fold_is l (srcs l s) (tgts l s) xs ys (lstN o1) d d2 40 s PL.out PP2.out SS2.out TK.out (by have := HND.out; have := HDZ.out; omega))
          have NL := hI (show Nlw w8 B b F S K T A c l w.heap.size p8 p9 g2 D3 D7 d3 d7 (srcs l s) (tgts l s) d2 from ⟨(B68.out.block _ H6.out.lt).trans H6.out, (B68.out.block _ H86.out.lt).trans H86.out, (B68.out.block _ H96.out.lt).trans H96.out, R36.out.low B68.out B68.out.size, R76.out.low B68.out B68.out.size, F3N.out, F7N.out, fun k hk => srcs_kind hk, fun k hk => tgts_kind hk, RW2.out, Nat.lt_of_lt_of_le hg2 HC8.out.size, (fun q => by have := (FL.out _ q).2; have := HG1.out; have := C6.out.size; omega), fun k hk => by
            have hk2 : k < d2.toList.length := by simpa using hk
            have := TM.out (d2.toList.getD k default) (PL.out.subset (PP2.out.subset (by rw [List.getD_eq_getElem?_getD, List.getElem?_eq_getElem hk2]; exact List.getElem_mem hk2)))
            exact ⟨this.1, this.2.1⟩⟩)
          refine near_l w8 B b F S K T A c l s w.heap.size p8 p9 g2 D3 D7 d3 d7 cap (srcs l s) (tgts l s) d2 F8.out NL.out NF1.out NF8.out NF9.out H04.out (by have := HND.out; have := HDZ.out; omega) (.slice (some ⟨g2, 0, none⟩) d2.size cap) (fun _ => rfl) _ _ _ _ _ _ _ _ _ _ _ _ _ _ _ _ _ _ _ _ _ _ _ _ _ _ _ _ _ _ _ _ _ _ _ _ _ _ _ _ _ _ _ _ _ _ _ _ _ _ _ _ _ _ _ _ _ _ _ _ _ _ _ _ _ _ _ _ _ _ _ _ _ _ _ _ _ _ _ _ _ _ _ _ _ _ _ _ _ _ _ _ _ _ _ _ _ _ _ _ _ _ _ _ _ _ _ _ _ _ _ _ _ _ _ _ _ _ _ _ _ _ _ _ _ _ _ _ _ _ _ _ _ _ _ _ _ _ _ _ _ _ _ _ _ _ _ _ _ _ _ _ _  ?_
          refine hI ?_
          intro wr
          intros
          rename_i hfE hcE
          have GE : Hid (wr.heap[g]? = w6.heap[g]?) := hI ((hcE.out.block g (Nat.lt_of_lt_of_le P6.out.glt B68.out.size) (fun q => by have := (FL.out _ q).1; have := HAB.out.1; omega)).trans (B68.out.block g P6.out.glt))
          have CE : Hid (Chs (fun q => q = g ∨ Four F S K T q) w wr) := hI (((C6.out.trans (Chs.of_below B68.out _)).more (fun _ e => .inl e)).trans (hcE.out.more fun _ e => .inr e))
          go_wp2_with fail
          go_ret
          exact ⟨ret_int HRS.out.1.symm, ⟨kn6, w6, P6.out, GE.out⟩, fd_eq (HRS.out.2.trans FI.out) hfE.out, CE.out⟩
      · have P6 := hI hp6
        have F6 := hI (F5.out.chsg hc6 HGB.out HA.out)
        have C6 := hI (C5.out.trans hc6)
        have RS := hI (HR2.out NE.out htn)
        clear hp6 hc6 htn
        go_wp2_with fail
        go_ret
        exact ⟨ret_int RS.out.1.symm, ⟨kn6, _, P6.out, rfl⟩, fd_eq RS.out.2 F6.out, C6.out.more (fun _ e => .inl e)⟩
    · have P5 := hI hp5
      have F5 := hI (F4.out.chsg hc5 HGB.out HA.out)
      have C5 := hI ((Chs.of_below B4.out (fun q => q = g)).trans hc5)
      have RS := hI (HR1.out NE.out htn)
      clear hp5 hc5 htn
      go_wp2_with fail
      go_ret
      exact ⟨ret_int RS.out.1.symm, ⟨kn5, _, P5.out, rfl⟩, fd_eq RS.out.2 F5.out, C5.out.more (fun _ e => .inl e)⟩
  by_cases c2 : 32 < o2
  · have LM : Hid (limN o2 = 32) := hI (by unfold limN; rw [if_pos (.inr c2)])
    go_upto_region 4 with fail
    clear hc1
    refine near4 w0 B b F S K T A c l s w.heap.size F0.out H0.out _ _ _ _ _ _ _ _ _ _ _ _ _ _ _ _ _ _ _ _ _ _ _ _ _ _ _ _ _ _ _ _ _ _ _ _ _ _ _ _ _ _ _ _ _ _ _ _ _ _ _ _ _ _ _ _ _ _ _ _ _ _ _ _ _ _ _ _ _ _ _ _ _ _ _ _ _ _ _ _ _ _ _ _ _ _ _ _ _ _ _ _ _ _ _ _ _ _ _ _ _ _ _ _ _ _ _ _ _ _ _ _ _ _ _ _ _ _ _ _ _ _ _ _ _ _ _ _ _ _ _ _ _ _ _ _ _ _ _ _ _ _ _ _ _ _ _ _ _ _ _ _ _ _ _ _ _ _ (fun _ _ o _ _ h => by cases o <;> exact h) ?_
    refine hI ?_
    intro p8 p9 D3 D7 d3 d7 w2
    intros
    rename_i h8 h9 o3 o7 hb2
    have P2 := hI (P0.out.below hb2.out)
    have F2 : Hid (Fnd w2 B b F S K T A c l s) := hI (F0.out.keep fun q hq => hb2.out.block q hq)
    have B2 := hI (B0.out.trans (hb2.out.mono B0.out.size))
    have H2 := hI (H0.out.below hb2.out H0.out.lt)
    have O2 := hI (O0.out.below hb2.out O0.out.lt)
    have hc0 := O2.out.cell (k := 0) rfl
    have hc8 := h8.out.cell (k := 0) rfl
    have hc9 := h9.out.cell (k := 0) rfl
    change Hid (w2.ownsRow w0.heap.size 3 1 (.slice D3 (srcs l s).length d3) (srcs l s).length (ntI2 (srcs l s))) at o3
    change Hid (w2.ownsRow w0.heap.size 3 1 (.slice D7 (tgts l s).length d7) (tgts l s).length (ntI2 (tgts l s))) at o7
    change w2.cell? ⟨p8, 0, none⟩ = some (.slice D3 (srcs l s).length d3) at hc8
    change w2.cell? ⟨p9, 0, none⟩ = some (.slice D7 (tgts l s).length d7) at hc9
    have hns : (srcs l s).length ≤ l.length := pls_len _ _
    have hnt : (tgts l s).length ≤ l.length := pls_len _ _
    have h40 := F0.out.short
    by_cases e1 : 1000 < o1
    · go_wp2_with fail
      go_ret
      exact ⟨ret_int (HR0.out (.inl e1)).1.symm, ⟨kn, _, P2.out, rfl⟩, fd_eq (HR0.out (.inl e1)).2 F2.out, Chs.of_below B2.out _⟩
    by_cases e2 : (srcs l s).length = 0
    · have q2 : (((srcs l s).length : Int) == 0) = true := by simp [e2]
      have E2 := hI e2
      clear e2
      go_wp2_with fail
      go_ret
      exact ⟨ret_int (HR0.out (.inr (.inl E2.out))).1.symm, ⟨kn, _, P2.out, rfl⟩, fd_eq (HR0.out (.inr (.inl E2.out))).2 F2.out, Chs.of_below B2.out _⟩
    have q2 : (((srcs l s).length : Int) == 0) = false := beq_eq_false_iff_ne.2 (by omega)
    by_cases e3 : (tgts l s).length = 0
    · have q3 : (((tgts l s).length : Int) == 0) = true := by simp [e3]
      have E3 := hI e3
      clear e3
      go_wp2_with fail
      go_ret
      exact ⟨ret_int (HR0.out (.inr (.inr (.inl E3.out)))).1.symm, ⟨kn, _, P2.out, rfl⟩, fd_eq (HR0.out (.inr (.inr (.inl E3.out)))).2 F2.out, Chs.of_below B2.out _⟩
    have q3 : (((tgts l s).length : Int) == 0) = false := beq_eq_false_iff_ne.2 (by omega)
    by_cases e4 : 32 < ((srcs l s).length : Int)
    · go_wp2_with fail
      go_ret
      exact ⟨ret_int (HR0.out (.inr (.inr (.inr (.inl (by rw [LM.out]; exact e4)))))).1.symm, ⟨kn, _, P2.out, rfl⟩, fd_eq (HR0.out (.inr (.inr (.inr (.inl (by rw [LM.out]; exact e4)))))).2 F2.out, Chs.of_below B2.out _⟩
    by_cases e5 : 32 < ((tgts l s).length : Int)
    · go_wp2_with fail
      go_ret
      exact ⟨ret_int (HR0.out (.inr (.inr (.inr (.inr (by rw [LM.out]; exact e5)))))).1.symm, ⟨kn, _, P2.out, rfl⟩, fd_eq (HR0.out (.inr (.inr (.inr (.inr (by rw [LM.out]; exact e5)))))).2 F2.out, Chs.of_below B2.out _⟩
    have NE : Hid (¬ earlyN o1 o2 (srcs l s).length (tgts l s).length) := hI (by unfold earlyN; rw [LM.out]; rintro (h | h | h | h | h) <;> omega)
    obtain ⟨_, _, hv3, _, _, hr3, hq3⟩ := own_all o3.out
    injection hv3 with ha _ hb
    subst ha hb
    obtain ⟨_, _, hv7, _, _, hr7, hq7⟩ := own_all o7.out
    injection hv7 with ha _ hb
    subst ha hb
    have R7 := hI hr7
    have R3 := hI hr3
    have HL3 := hI (fun k (hk : k ∈ srcs l s) => (pls_mem _ _ k hk).1)
    have HL7 := hI (fun k (hk : k ∈ tgts l s) => (pls_mem _ _ k hk).1)
    have Q3 := hI hq3
    have Q7 := hI hq7
    have POS := hI (And.intro (show 0 < (srcs l s).length by omega) (show 0 < (tgts l s).length by omega))
    clear e2 e3 hr3 hr7 hq3 hq7
    go_wp2_with fail
    refine near_o w2 B b F S K T A c l s w.heap.size F2.out H2.out HY.out (srcs l s) D3 d3 HL3.out (by omega) R3.out _ _ _ _ _ _ _ _ _ _ _ _ _ _ _ _ _ _ _ _ _ _ _ _ _ _ _ _ _ _ _ _ _ _ _ _ _ _ _ _ _ _ _ _ _ _ _ _ _ _ _ _ _ _ _ _ _ _ _ _ _ _ _ _ _ _ _ _ _ _ _ _ _ _ _ _ _ _ _ _ _ _ _ _ _ _ _ _ _ _ _ _ _ _ _ _ _ _ _ _ _ _ _ _ _ _ _ _ _ _ _ _ _ _ _ _ _ _ _ _ _ _ _ _ _ _ _ _ _ _ _ _ _ _ _ _ _ _ _ _ _ _ _ _ _ _ _ _ _ _ _ _ _ _ ?_
    refine hI ?_
    intro ov w3
    intros
    rename_i ho3 hb3
    have hc93 := (h9.out.below hb3.out h9.out.lt).cell (k := 0) rfl
    change w3.cell? ⟨p9, 0, none⟩ = some (.slice D7 (tgts l s).length d7) at hc93
    have F3 : Hid (Fnd w3 B b F S K T A c l s) := hI (F2.out.keep fun q hq => hb3.out.block q hq)
    have H3 := hI (H2.out.below hb3.out H2.out.lt)
    have P3 := hI (P2.out.below hb3.out)
    have B3 := hI (B2.out.trans (hb3.out.mono B2.out.size))
    have R73 := hI (R7.out.low hb3.out hb3.out.size)
    clear hc8 hc9 hc0
    go_wp2_with fail
    refine near_n w3 B b F S K T A c l s w.heap.size F3.out H3.out HY.out (tgts l s) D7 d7 HL7.out (by omega) R73.out _ _ _ _ _ _ _ _ _ _ _ _ _ _ _ _ _ _ _ _ _ _ _ _ _ _ _ _ _ _ _ _ _ _ _ _ _ _ _ _ _ _ _ _ _ _ _ _ _ _ _ _ _ _ _ _ _ _ _ _ _ _ _ _ _ _ _ _ _ _ _ _ _ _ _ _ _ _ _ _ _ _ _ _ _ _ _ _ _ _ _ _ _ _ _ _ _ _ _ _ _ _ _ _ _ _ _ _ _ _ _ _ _ _ _ _ _ _ _ _ _ _ _ _ _ _ _ _ _ _ _ _ _ _ _ _ _ _ _ _ _ _ _ _ _ _ _ _ _ _ _ _ _ _ ?_
    refine hI ?_
    intro ov4 w4
    intros
    rename_i ho4 hb4
    have F4 : Hid (Fnd w4 B b F S K T A c l s) := hI (F3.out.keep fun q hq => hb4.out.block q hq)
    have P4 := hI (P3.out.below hb4.out)
    have B4 := hI (B3.out.trans (hb4.out.mono B3.out.size))
    have O34 := hI (own_below ho3.out hb4.out)
    have hgw : g < w2.heap.size := Nat.lt_of_lt_of_le HGB.out F2.out.blt
    have TX := hI (texts_any w4 g m l0 t kn f P4.out HC.out w2.heap.size (oldI l s) ov (fun x hx => by obtain ⟨k, hk, rfl⟩ := List.mem_map.1 hx; rw [u8b_len]; exact (oks_at F0.out.oks (HL3.out k hk)).oid) (by rw [show (oldI l s).length = (srcs l s).length by simp [oldI]]; omega) (by rw [show (oldI l s).length = (srcs l s).length by simp [oldI]]; exact O34.out) hgw)
    obtain ⟨Do, do_, hvo, _⟩ := own_all O34.out
    subst hvo
    clear hc93
    go_wp2_with fail
    refine TX.out.mono ?_
    rintro e w5 ⟨kn5, hp5, hc5, ⟨xs, v2, us, htx, rfl, hov, htt⟩ | ⟨htn, rfl⟩⟩
    · have P5 := hI hp5
      have F5 := hI (F4.out.chsg hc5 HGB.out HA.out)
      have C5 := hI ((Chs.of_below B4.out (fun q => q = g)).trans hc5)
      have HX := hI htx
      have OX := hI (show w5.ownsRow w4.heap.size 57 1 v2 xs.length us from htt.1 ▸ hov)
      have TT := hI htt
      have HC5 := hI hc5
      have O45 := hI (own_c ho4.out hc5 (fun q e => by have := HAB.out.1; have := F3.out.blt; omega))
      have TY := hI (texts_any w5 g m l0 t kn5 f P5.out HC.out w3.heap.size (newI l s) ov4 (fun x hx => by obtain ⟨k, hk, rfl⟩ := List.mem_map.1 hx; rw [u8b_len]; exact (oks_at F0.out.oks (HL7.out k hk)).nid) (by rw [show (newI l s).length = (tgts l s).length by simp [newI]]; omega) (by rw [show (newI l s).length = (tgts l s).length by simp [newI]]; exact O45.out) (by have := HAB.out.1; have := F3.out.blt; omega))
      clear hp5 hc5 hov htt htx
      obtain ⟨Dn, dn, hvn, _⟩ := own_all O45.out
      subst hvn
      go_wp2_with fail
      refine TY.out.mono ?_
      rintro e w6 ⟨kn6, hp6, hc6, ⟨ys, v7, us7, hty, rfl, hov7, htt7⟩ | ⟨htn, rfl⟩⟩
      · have P6 := hI hp6
        have F6 := hI (F5.out.chsg hc6 HGB.out HA.out)
        have C6 := hI (C5.out.trans hc6)
        have HRS := hI (HR3.out NE.out xs ys HX.out hty)
        have L0 : g < w.heap.size := by have := HAB.out.1; have := HAB.out.2; omega
        have LS := B0.out.size
        have L4 : g < w4.heap.size := Nat.lt_of_lt_of_le L0 B4.out.size
        have C26 : Hid (Chs (fun q => q = g) w2 w6) := hI ((Chs.of_below (hb3.out.trans (hb4.out.mono hb3.out.size)) (fun q => q = g)).trans (HC5.out.trans hc6))
        have H6 := hI (show Ar w6 w.heap.size 67 [.pointer (some ⟨b, 0, none⟩)] from (C26.out.block _ H2.out.lt (fun e => by omega)).trans H2.out)
        have O6 := hI (show Ar w6 (w.heap.size + 1) 26 [.int .i64 o1, .int .i64 o2, .bool _] from (C26.out.block _ O2.out.lt (fun e => by omega)).trans O2.out)
        have H86 := hI (show Ar w6 p8 48 [.slice D3 (srcs l s).length d3] from (C26.out.block _ h8.out.lt (ne_of_types h8.out P2.out.blk (by decide))).trans h8.out)
        have H96 := hI (show Ar w6 p9 48 [.slice D7 (tgts l s).length d7] from (C26.out.block _ h9.out.lt (ne_of_types h9.out P2.out.blk (by decide))).trans h9.out)
        have R36 := hI (rv_chs4 R3.out C26.out (fun ad e q => by have := (Q3.out ad e).1; have : ad.block = g := q; omega))
        have R76 := hI (rv_chs4 R7.out C26.out (fun ad e q => by have := (Q7.out ad e).1; have : ad.block = g := q; omega))
        have F3N := hI (fun ad (e : D3 = some ad) (q : Four F S K T ad.block) => show False by have := (Q3.out ad e).1; have := (FL.out _ q).2; omega)
        have F7N := hI (fun ad (e : D7 = some ad) (q : Four F S K T ad.block) => show False by have := (Q7.out ad e).1; have := (FL.out _ q).2; omega)
        have NF1 := hI (show ¬ Four F S K T w.heap.size from fun q => by have := (FL.out _ q).2; omega)
        have NF8 := hI (show ¬ Four F S K T p8 from fun q => Or.elim q (ne_of_types h8.out F2.out.hF (by decide)) fun q => Or.elim q (ne_of_types h8.out F2.out.hS (by decide)) fun q => Or.elim q (ne_of_types h8.out F2.out.hK (by decide)) (ne_of_types h8.out F2.out.hT (by decide)))
        have NF9 := hI (show ¬ Four F S K T p9 from fun q => Or.elim q (ne_of_types h9.out F2.out.hF (by decide)) fun q => Or.elim q (ne_of_types h9.out F2.out.hS (by decide)) fun q => Or.elim q (ne_of_types h9.out F2.out.hK (by decide)) (ne_of_types h9.out F2.out.hT (by decide)))
        have OX6 := own_c OX.out hc6 (fun q e => by have : q = g := e; omega)
        have TT6 := TT.out.chs hc6 (fun q e => by have : q = g := e; omega)
        obtain ⟨Dx, dx, hvx, _, _, rx, _⟩ := own_all OX6
        obtain ⟨Dy, dy, hvy, _, _, ry, _⟩ := own_all (show w6.ownsRow w5.heap.size 57 1 v7 ys.length us7 from htt7.1 ▸ hov7)
        subst hvx hvy
        have hxs : xs.length = (srcs l s).length := by rw [txs_len2 _ _ HX.out]; simp [oldI]
        have hys : ys.length = (tgts l s).length := by rw [txs_len2 _ _ hty]; simp [newI]
        have TA := hI (table_any w6 Dx Dy dx dy us us7 xs ys o1 (txr_of rx TT6 (txs_le HC.out (fun x hx => (P6.out.all x hx).2.1) _ _ HX.out)) (txr_of ry htt7 (txs_le HC.out (fun x hx => (P6.out.all x hx).2.1) _ _ hty)) (by omega) (by omega))
        have TM := hI (fun (x : Nat × Nat × Nat) (hx : x ∈ tabTo xs ys (lstN o1) xs.length) => show x.1 < (srcs l s).length ∧ x.2.1 < (tgts l s).length ∧ x.2.2 ≤ 1000 by have := tabTo_mem xs ys (lstN o1) xs.length x hx; rw [← hxs, ← hys]; exact ⟨this.1, this.2.1, this.2.2.1⟩)
        have TL := hI (show (tabTo xs ys (lstN o1) xs.length).length < 40 from Nat.lt_of_le_of_lt (tabTo_len xs ys (lstN o1) xs.length) (by rw [hxs, hys]; exact rows_few l s H12.out))
        have TK := hI (fun (x : Nat × Nat × Nat) (hx : x ∈ tabTo xs ys (lstN o1) xs.length) => show (srcs l s).getD x.1 0 < s.tk.length by
          have h1 := (TM.out x hx).1
          rw [HTK.out]
          refine HL3.out _ ?_
          rw [List.getD_eq_getElem?_getD, List.getElem?_eq_getElem h1]
          exact List.getElem_mem h1)
        have o0 := O6.out.cell (k := 0) rfl
        clear hp6 hc6 rx ry TT6 OX6 hov7 htt7 hty hxs hys
        go_wp2_with fail
        refine TA.out.mono ?_
        rintro e w7 ⟨v, d, rfl, hto, hpm, hso, hb7⟩
        have B7 := hI hb7
        have hz := hpm.1
        have PL : Hid (d.toList.Perm (tabTo xs ys (lstN o1) xs.length)) := hI (perm_list (d := (tabTo xs ys (lstN o1) xs.length).toArray) (by rw [← hz]; exact hpm))
        have HSO := hI hso
        have HDZ : Hid (d.size < 40) := hI (by have := PL.out.length_eq; rw [Array.length_toList] at this; rw [this]; exact TL.out)
        have F7 := hI (F6.out.keep fun q hq => B7.out.block q hq)
        clear hb7 hz hpm hso o0
        rcases hto with ⟨rfl, hd0⟩ | ⟨g2, cap, rfl, hg1, hcap, hg2, hrow⟩
        · obtain rfl := Array.eq_empty_of_size_eq_zero hd0
          clear hd0
          have FI := hI (fold_is l (srcs l s) (tgts l s) xs ys (lstN o1) #[] #[] 40 s PL.out (List.Perm.refl _) (fun i j _ hj => by cases hj) TK.out (by simp))
          go_wp2_with (go_at_call 48; refine (sort_nil w7 _ _).mono ?_; rintro e w8 ⟨rfl, rfl⟩)
          have NL := hI (show Nlw w8 B b F S K T A c l w.heap.size p8 p9 w.heap.size D3 D7 d3 d7 (srcs l s) (tgts l s) #[] from ⟨(B7.out.block _ H6.out.lt).trans H6.out, (B7.out.block _ H86.out.lt).trans H86.out, (B7.out.block _ H96.out.lt).trans H96.out, R36.out.low B7.out B7.out.size, R76.out.low B7.out B7.out.size, F3N.out, F7N.out, fun k hk => srcs_kind hk, fun k hk => tgts_kind hk, (fun t ht => by simp at ht), Nat.lt_of_lt_of_le H6.out.lt B7.out.size, NF1.out, fun k hk => by simp at hk⟩)
          refine near_l w8 B b F S K T A c l s w.heap.size p8 p9 w.heap.size D3 D7 d3 d7 0 (srcs l s) (tgts l s) #[] F7.out NL.out NF1.out NF8.out NF9.out H04.out (by simp) (.slice none 0 0) (fun h => by simp at h) _ _ _ _ _ _ _ _ _ _ _ _ _ _ _ _ _ _ _ _ _ _ _ _ _ _ _ _ _ _ _ _ _ _ _ _ _ _ _ _ _ _ _ _ _ _ _ _ _ _ _ _ _ _ _ _ _ _ _ _ _ _ _ _ _ _ _ _ _ _ _ _ _ _ _ _ _ _ _ _ _ _ _ _ _ _ _ _ _ _ _ _ _ _ _ _ _ _ _ _ _ _ _ _ _ _ _ _ _ _ _ _ _ _ _ _ _ _ _ _ _ _ _ _ _ _ _ _ _ _ _ _ _ _ _ _ _ _ _ _ _ _ _ _ _ _ _ _ _ _ _ _ _  ?_
          refine hI ?_
          intro wr
          intros
          rename_i hfE hcE
          have GE : Hid (wr.heap[g]? = w6.heap[g]?) := hI ((hcE.out.block g (Nat.lt_of_lt_of_le P6.out.glt B7.out.size) (fun q => by have := (FL.out _ q).1; have := HAB.out.1; omega)).trans (B7.out.block g P6.out.glt))
          have CE : Hid (Chs (fun q => q = g ∨ Four F S K T q) w wr) := hI (((C6.out.trans (Chs.of_below B7.out _)).more (fun _ e => .inl e)).trans (hcE.out.more fun _ e => .inr e))
          go_wp2_with fail
          go_ret
          exact ⟨ret_int HRS.out.1.symm, ⟨kn6, w6, P6.out, GE.out⟩, fd_eq (HRS.out.2.trans FI.out) hfE.out, CE.out⟩
        · have SR := hI (sort_rows w6 w7 F6.out w.heap.size p8 p9 D3 D7 d3 d7 (srcs l s) (tgts l s) (H6.out.cell (k := 0) rfl) (H86.out.cell (k := 0) rfl) (H96.out.cell (k := 0) rfl) H6.out.lt H86.out.lt H96.out.lt R36.out R76.out HL3.out HL7.out B7.out g2 cap d hg1 hg2 hrow (fun x hx => TM.out x (PL.out.subset (by simpa using hx))) HSO.out HDZ.out POS.out.1 POS.out.2 (pls_asc _ _) (pls_asc _ _))
          obtain ⟨nd, hnd⟩ : ∃ nd, d.size = nd := ⟨_, rfl⟩
          rw [hnd] at SR ⊢
          have HND := hI hnd
          have HG1 := hI hg1
          clear hnd hrow hcap
          go_wp2_with (go_at_call 48; refine SR.out.mono ?_; rintro e w8 ⟨rfl, d2, hh2, hz2, hp2, hs2, hc8⟩; have RW2 := hI hh2; have PP2 := hI hp2; have SS2 := hI hs2; have HC8 := hI hc8; have HZ2 := hI hz2; clear hh2 hz2 hp2 hs2 hc8)
          have hz2 := HZ2.out
          clear HZ2 SR
          subst hz2
          have B68 : Hid (Below w6.heap.size w6 w8) := hI ⟨HC8.out.os.trans B7.out.os, HC8.out.tape.trans B7.out.tape, HC8.out.output.trans B7.out.output, Nat.le_trans B7.out.size HC8.out.size, fun q hq => (HC8.out.block q (Nat.lt_of_lt_of_le hq B7.out.size) (fun e => by have := HG1.out; have : q = g2 := e; omega)).trans (B7.out.block q hq)⟩
          have F8 := hI (F6.out.keep fun q hq => B68.out.block q hq)
          have FI := hI (fold_is l (srcs l s) (tgts l s) xs ys (lstN o1) d d2 40 s PL.out PP2.out SS2.out TK.out (by have := HND.out; have := HDZ.out; omega))
          have NL := hI (show Nlw w8 B b F S K T A c l w.heap.size p8 p9 g2 D3 D7 d3 d7 (srcs l s) (tgts l s) d2 from ⟨(B68.out.block _ H6.out.lt).trans H6.out, (B68.out.block _ H86.out.lt).trans H86.out, (B68.out.block _ H96.out.lt).trans H96.out, R36.out.low B68.out B68.out.size, R76.out.low B68.out B68.out.size, F3N.out, F7N.out, fun k hk => srcs_kind hk, fun k hk => tgts_kind hk, RW2.out, Nat.lt_of_lt_of_le hg2 HC8.out.size, (fun q => by have := (FL.out _ q).2; have := HG1.out; have := C6.out.size; omega), fun k hk => by
            have hk2 : k < d2.toList.length := by simpa using hk
            have := TM.out (d2.toList.getD k default) (PL.out.subset (PP2.out.subset (by rw [List.getD_eq_getElem?_getD, List.getElem?_eq_getElem hk2]; exact List.getElem_mem hk2)))
            exact ⟨this.1, this.2.1⟩⟩)
          refine near_l w8 B b F S K T A c l s w.heap.size p8 p9 g2 D3 D7 d3 d7 cap (srcs l s) (tgts l s) d2 F8.out NL.out NF1.out NF8.out NF9.out H04.out (by have := HND.out; have := HDZ.out; omega) (.slice (some ⟨g2, 0, none⟩) d2.size cap) (fun _ => rfl) _ _ _ _ _ _ _ _ _ _ _ _ _ _ _ _ _ _ _ _ _ _ _ _ _ _ _ _ _ _ _ _ _ _ _ _ _ _ _ _ _ _ _ _ _ _ _ _ _ _ _ _ _ _ _ _ _ _ _ _ _ _ _ _ _ _ _ _ _ _ _ _ _ _ _ _ _ _ _ _ _ _ _ _ _ _ _ _ _ _ _ _ _ _ _ _ _ _ _ _ _ _ _ _ _ _ _ _ _ _ _ _ _ _ _ _ _ _ _ _ _ _ _ _ _ _ _ _ _ _ _ _ _ _ _ _ _ _ _ _ _ _ _ _ _ _ _ _ _ _ _ _ _  ?_
          refine hI ?_
          intro wr
          intros
          rename_i hfE hcE
          have GE : Hid (wr.heap[g]? = w6.heap[g]?) := hI ((hcE.out.block g (Nat.lt_of_lt_of_le P6.out.glt B68.out.size) (fun q => by have := (FL.out _ q).1; have := HAB.out.1; omega)).trans (B68.out.block g P6.out.glt))
          have CE : Hid (Chs (fun q => q = g ∨ Four F S K T q) w wr) := hI (((C6.out.trans (Chs.of_below B68.out _)).more (fun _ e => .inl e)).trans (hcE.out.more fun _ e => .inr e))
          go_wp2_with fail
          go_ret
          exact ⟨ret_int HRS.out.1.symm, ⟨kn6, w6, P6.out, GE.out⟩, fd_eq (HRS.out.2.trans FI.out) hfE.out, CE.out⟩
      · have P6 := hI hp6
        have F6 := hI (F5.out.chsg hc6 HGB.out HA.out)
        have C6 := hI (C5.out.trans hc6)
        have RS := hI (HR2.out NE.out htn)
        clear hp6 hc6 htn
        go_wp2_with fail
        go_ret
        exact ⟨ret_int RS.out.1.symm, ⟨kn6, _, P6.out, rfl⟩, fd_eq RS.out.2 F6.out, C6.out.more (fun _ e => .inl e)⟩
    · have P5 := hI hp5
      have F5 := hI (F4.out.chsg hc5 HGB.out HA.out)
      have C5 := hI ((Chs.of_below B4.out (fun q => q = g)).trans hc5)
      have RS := hI (HR1.out NE.out htn)
      clear hp5 hc5 htn
      go_wp2_with fail
      go_ret
      exact ⟨ret_int RS.out.1.symm, ⟨kn5, _, P5.out, rfl⟩, fd_eq RS.out.2 F5.out, C5.out.more (fun _ e => .inl e)⟩
  have LM : Hid (limN o2 = o2) := hI (by unfold limN; rw [if_neg (by omega)])
  go_upto_region 4 with fail
  clear hc1
  refine near4 w0 B b F S K T A c l s w.heap.size F0.out H0.out _ _ _ _ _ _ _ _ _ _ _ _ _ _ _ _ _ _ _ _ _ _ _ _ _ _ _ _ _ _ _ _ _ _ _ _ _ _ _ _ _ _ _ _ _ _ _ _ _ _ _ _ _ _ _ _ _ _ _ _ _ _ _ _ _ _ _ _ _ _ _ _ _ _ _ _ _ _ _ _ _ _ _ _ _ _ _ _ _ _ _ _ _ _ _ _ _ _ _ _ _ _ _ _ _ _ _ _ _ _ _ _ _ _ _ _ _ _ _ _ _ _ _ _ _ _ _ _ _ _ _ _ _ _ _ _ _ _ _ _ _ _ _ _ _ _ _ _ _ _ _ _ _ _ _ _ _ _ (fun _ _ o _ _ h => by cases o <;> exact h) ?_
  refine hI ?_
  intro p8 p9 D3 D7 d3 d7 w2
  intros
  rename_i h8 h9 o3 o7 hb2
  have P2 := hI (P0.out.below hb2.out)
  have F2 : Hid (Fnd w2 B b F S K T A c l s) := hI (F0.out.keep fun q hq => hb2.out.block q hq)
  have B2 := hI (B0.out.trans (hb2.out.mono B0.out.size))
  have H2 := hI (H0.out.below hb2.out H0.out.lt)
  have O2 := hI (O0.out.below hb2.out O0.out.lt)
  have hc0 := O2.out.cell (k := 0) rfl
  have hc8 := h8.out.cell (k := 0) rfl
  have hc9 := h9.out.cell (k := 0) rfl
  change Hid (w2.ownsRow w0.heap.size 3 1 (.slice D3 (srcs l s).length d3) (srcs l s).length (ntI2 (srcs l s))) at o3
  change Hid (w2.ownsRow w0.heap.size 3 1 (.slice D7 (tgts l s).length d7) (tgts l s).length (ntI2 (tgts l s))) at o7
  change w2.cell? ⟨p8, 0, none⟩ = some (.slice D3 (srcs l s).length d3) at hc8
  change w2.cell? ⟨p9, 0, none⟩ = some (.slice D7 (tgts l s).length d7) at hc9
  have hns : (srcs l s).length ≤ l.length := pls_len _ _
  have hnt : (tgts l s).length ≤ l.length := pls_len _ _
  have h40 := F0.out.short
  by_cases e1 : 1000 < o1
  · go_wp2_with fail
    go_ret
    exact ⟨ret_int (HR0.out (.inl e1)).1.symm, ⟨kn, _, P2.out, rfl⟩, fd_eq (HR0.out (.inl e1)).2 F2.out, Chs.of_below B2.out _⟩
  by_cases e2 : (srcs l s).length = 0
  · have q2 : (((srcs l s).length : Int) == 0) = true := by simp [e2]
    have E2 := hI e2
    clear e2
    go_wp2_with fail
    go_ret
    exact ⟨ret_int (HR0.out (.inr (.inl E2.out))).1.symm, ⟨kn, _, P2.out, rfl⟩, fd_eq (HR0.out (.inr (.inl E2.out))).2 F2.out, Chs.of_below B2.out _⟩
  have q2 : (((srcs l s).length : Int) == 0) = false := beq_eq_false_iff_ne.2 (by omega)
  by_cases e3 : (tgts l s).length = 0
  · have q3 : (((tgts l s).length : Int) == 0) = true := by simp [e3]
    have E3 := hI e3
    clear e3
    go_wp2_with fail
    go_ret
    exact ⟨ret_int (HR0.out (.inr (.inr (.inl E3.out)))).1.symm, ⟨kn, _, P2.out, rfl⟩, fd_eq (HR0.out (.inr (.inr (.inl E3.out)))).2 F2.out, Chs.of_below B2.out _⟩
  have q3 : (((tgts l s).length : Int) == 0) = false := beq_eq_false_iff_ne.2 (by omega)
  by_cases e4 : o2 < ((srcs l s).length : Int)
  · go_wp2_with fail
    go_ret
    exact ⟨ret_int (HR0.out (.inr (.inr (.inr (.inl (by rw [LM.out]; exact e4)))))).1.symm, ⟨kn, _, P2.out, rfl⟩, fd_eq (HR0.out (.inr (.inr (.inr (.inl (by rw [LM.out]; exact e4)))))).2 F2.out, Chs.of_below B2.out _⟩
  by_cases e5 : o2 < ((tgts l s).length : Int)
  · go_wp2_with fail
    go_ret
    exact ⟨ret_int (HR0.out (.inr (.inr (.inr (.inr (by rw [LM.out]; exact e5)))))).1.symm, ⟨kn, _, P2.out, rfl⟩, fd_eq (HR0.out (.inr (.inr (.inr (.inr (by rw [LM.out]; exact e5)))))).2 F2.out, Chs.of_below B2.out _⟩
  have NE : Hid (¬ earlyN o1 o2 (srcs l s).length (tgts l s).length) := hI (by unfold earlyN; rw [LM.out]; rintro (h | h | h | h | h) <;> omega)
  obtain ⟨_, _, hv3, _, _, hr3, hq3⟩ := own_all o3.out
  injection hv3 with ha _ hb
  subst ha hb
  obtain ⟨_, _, hv7, _, _, hr7, hq7⟩ := own_all o7.out
  injection hv7 with ha _ hb
  subst ha hb
  have R7 := hI hr7
  have R3 := hI hr3
  have HL3 := hI (fun k (hk : k ∈ srcs l s) => (pls_mem _ _ k hk).1)
  have HL7 := hI (fun k (hk : k ∈ tgts l s) => (pls_mem _ _ k hk).1)
  have Q3 := hI hq3
  have Q7 := hI hq7
  have POS := hI (And.intro (show 0 < (srcs l s).length by omega) (show 0 < (tgts l s).length by omega))
  clear e2 e3 hr3 hr7 hq3 hq7
  go_wp2_with fail
  refine near_o w2 B b F S K T A c l s w.heap.size F2.out H2.out HY.out (srcs l s) D3 d3 HL3.out (by omega) R3.out _ _ _ _ _ _ _ _ _ _ _ _ _ _ _ _ _ _ _ _ _ _ _ _ _ _ _ _ _ _ _ _ _ _ _ _ _ _ _ _ _ _ _ _ _ _ _ _ _ _ _ _ _ _ _ _ _ _ _ _ _ _ _ _ _ _ _ _ _ _ _ _ _ _ _ _ _ _ _ _ _ _ _ _ _ _ _ _ _ _ _ _ _ _ _ _ _ _ _ _ _ _ _ _ _ _ _ _ _ _ _ _ _ _ _ _ _ _ _ _ _ _ _ _ _ _ _ _ _ _ _ _ _ _ _ _ _ _ _ _ _ _ _ _ _ _ _ _ _ _ _ _ _ _ ?_
  refine hI ?_
  intro ov w3
  intros
  rename_i ho3 hb3
  have hc93 := (h9.out.below hb3.out h9.out.lt).cell (k := 0) rfl
  change w3.cell? ⟨p9, 0, none⟩ = some (.slice D7 (tgts l s).length d7) at hc93
  have F3 : Hid (Fnd w3 B b F S K T A c l s) := hI (F2.out.keep fun q hq => hb3.out.block q hq)
  have H3 := hI (H2.out.below hb3.out H2.out.lt)
  have P3 := hI (P2.out.below hb3.out)
  have B3 := hI (B2.out.trans (hb3.out.mono B2.out.size))
  have R73 := hI (R7.out.low hb3.out hb3.out.size)
  clear hc8 hc9 hc0
  go_wp2_with fail
  refine near_n w3 B b F S K T A c l s w.heap.size F3.out H3.out HY.out (tgts l s) D7 d7 HL7.out (by omega) R73.out _ _ _ _ _ _ _ _ _ _ _ _ _ _ _ _ _ _ _ _ _ _ _ _ _ _ _ _ _ _ _ _ _ _ _ _ _ _ _ _ _ _ _ _ _ _ _ _ _ _ _ _ _ _ _ _ _ _ _ _ _ _ _ _ _ _ _ _ _ _ _ _ _ _ _ _ _ _ _ _ _ _ _ _ _ _ _ _ _ _ _ _ _ _ _ _ _ _ _ _ _ _ _ _ _ _ _ _ _ _ _ _ _ _ _ _ _ _ _ _ _ _ _ _ _ _ _ _ _ _ _ _ _ _ _ _ _ _ _ _ _ _ _ _ _ _ _ _ _ _ _ _ _ _ ?_
  refine hI ?_
  intro ov4 w4
  intros
  rename_i ho4 hb4
  have F4 : Hid (Fnd w4 B b F S K T A c l s) := hI (F3.out.keep fun q hq => hb4.out.block q hq)
  have P4 := hI (P3.out.below hb4.out)
  have B4 := hI (B3.out.trans (hb4.out.mono B3.out.size))
  have O34 := hI (own_below ho3.out hb4.out)
  have hgw : g < w2.heap.size := Nat.lt_of_lt_of_le HGB.out F2.out.blt
  have TX := hI (texts_any w4 g m l0 t kn f P4.out HC.out w2.heap.size (oldI l s) ov (fun x hx => by obtain ⟨k, hk, rfl⟩ := List.mem_map.1 hx; rw [u8b_len]; exact (oks_at F0.out.oks (HL3.out k hk)).oid) (by rw [show (oldI l s).length = (srcs l s).length by simp [oldI]]; omega) (by rw [show (oldI l s).length = (srcs l s).length by simp [oldI]]; exact O34.out) hgw)
  obtain ⟨Do, do_, hvo, _⟩ := own_all O34.out
  subst hvo
  clear hc93
  go_wp2_with fail
  refine TX.out.mono ?_
  rintro e w5 ⟨kn5, hp5, hc5, ⟨xs, v2, us, htx, rfl, hov, htt⟩ | ⟨htn, rfl⟩⟩
  · have P5 := hI hp5
    have F5 := hI (F4.out.chsg hc5 HGB.out HA.out)
    have C5 := hI ((Chs.of_below B4.out (fun q => q = g)).trans hc5)
    have HX := hI htx
    have OX := hI (show w5.ownsRow w4.heap.size 57 1 v2 xs.length us from htt.1 ▸ hov)
    have TT := hI htt
    have HC5 := hI hc5
    have O45 := hI (own_c ho4.out hc5 (fun q e => by have := HAB.out.1; have := F3.out.blt; omega))
    have TY := hI (texts_any w5 g m l0 t kn5 f P5.out HC.out w3.heap.size (newI l s) ov4 (fun x hx => by obtain ⟨k, hk, rfl⟩ := List.mem_map.1 hx; rw [u8b_len]; exact (oks_at F0.out.oks (HL7.out k hk)).nid) (by rw [show (newI l s).length = (tgts l s).length by simp [newI]]; omega) (by rw [show (newI l s).length = (tgts l s).length by simp [newI]]; exact O45.out) (by have := HAB.out.1; have := F3.out.blt; omega))
    clear hp5 hc5 hov htt htx
    obtain ⟨Dn, dn, hvn, _⟩ := own_all O45.out
    subst hvn
    go_wp2_with fail
    refine TY.out.mono ?_
    rintro e w6 ⟨kn6, hp6, hc6, ⟨ys, v7, us7, hty, rfl, hov7, htt7⟩ | ⟨htn, rfl⟩⟩
    · have P6 := hI hp6
      have F6 := hI (F5.out.chsg hc6 HGB.out HA.out)
      have C6 := hI (C5.out.trans hc6)
      have HRS := hI (HR3.out NE.out xs ys HX.out hty)
      have L0 : g < w.heap.size := by have := HAB.out.1; have := HAB.out.2; omega
      have LS := B0.out.size
      have L4 : g < w4.heap.size := Nat.lt_of_lt_of_le L0 B4.out.size
      have C26 : Hid (Chs (fun q => q = g) w2 w6) := hI ((Chs.of_below (hb3.out.trans (hb4.out.mono hb3.out.size)) (fun q => q = g)).trans (HC5.out.trans hc6))
      have H6 := hI (show Ar w6 w.heap.size 67 [.pointer (some ⟨b, 0, none⟩)] from (C26.out.block _ H2.out.lt (fun e => by omega)).trans H2.out)
      have O6 := hI (show Ar w6 (w.heap.size + 1) 26 [.int .i64 o1, .int .i64 o2, .bool _] from (C26.out.block _ O2.out.lt (fun e => by omega)).trans O2.out)
      have H86 := hI (show Ar w6 p8 48 [.slice D3 (srcs l s).length d3] from (C26.out.block _ h8.out.lt (ne_of_types h8.out P2.out.blk (by decide))).trans h8.out)
      have H96 := hI (show Ar w6 p9 48 [.slice D7 (tgts l s).length d7] from (C26.out.block _ h9.out.lt (ne_of_types h9.out P2.out.blk (by decide))).trans h9.out)
      have R36 := hI (rv_chs4 R3.out C26.out (fun ad e q => by have := (Q3.out ad e).1; have : ad.block = g := q; omega))
      have R76 := hI (rv_chs4 R7.out C26.out (fun ad e q => by have := (Q7.out ad e).1; have : ad.block = g := q; omega))
      have F3N := hI (fun ad (e : D3 = some ad) (q : Four F S K T ad.block) => show False by have := (Q3.out ad e).1; have := (FL.out _ q).2; omega)
      have F7N := hI (fun ad (e : D7 = some ad) (q : Four F S K T ad.block) => show False by have := (Q7.out ad e).1; have := (FL.out _ q).2; omega)
      have NF1 := hI (show ¬ Four F S K T w.heap.size from fun q => by have := (FL.out _ q).2; omega)
      have NF8 := hI (show ¬ Four F S K T p8 from fun q => Or.elim q (ne_of_types h8.out F2.out.hF (by decide)) fun q => Or.elim q (ne_of_types h8.out F2.out.hS (by decide)) fun q => Or.elim q (ne_of_types h8.out F2.out.hK (by decide)) (ne_of_types h8.out F2.out.hT (by decide)))
      have NF9 := hI (show ¬ Four F S K T p9 from fun q => Or.elim q (ne_of_types h9.out F2.out.hF (by decide)) fun q => Or.elim q (ne_of_types h9.out F2.out.hS (by decide)) fun q => Or.elim q (ne_of_types h9.out F2.out.hK (by decide)) (ne_of_types h9.out F2.out.hT (by decide)))
      have OX6 := own_c OX.out hc6 (fun q e => by have : q = g := e; omega)
      have TT6 := TT.out.chs hc6 (fun q e => by have : q = g := e; omega)
      obtain ⟨Dx, dx, hvx, _, _, rx, _⟩ := own_all OX6
      obtain ⟨Dy, dy, hvy, _, _, ry, _⟩ := own_all (show w6.ownsRow w5.heap.size 57 1 v7 ys.length us7 from htt7.1 ▸ hov7)
      subst hvx hvy
      have hxs : xs.length = (srcs l s).length := by rw [txs_len2 _ _ HX.out]; simp [oldI]
      have hys : ys.length = (tgts l s).length := by rw [txs_len2 _ _ hty]; simp [newI]
      have TA := hI (table_any w6 Dx Dy dx dy us us7 xs ys o1 (txr_of rx TT6 (txs_le HC.out (fun x hx => (P6.out.all x hx).2.1) _ _ HX.out)) (txr_of ry htt7 (txs_le HC.out (fun x hx => (P6.out.all x hx).2.1) _ _ hty)) (by omega) (by omega))
      have TM := hI (fun (x : Nat × Nat × Nat) (hx : x ∈ tabTo xs ys (lstN o1) xs.length) => show x.1 < (srcs l s).length ∧ x.2.1 < (tgts l s).length ∧ x.2.2 ≤ 1000 by have := tabTo_mem xs ys (lstN o1) xs.length x hx; rw [← hxs, ← hys]; exact ⟨this.1, this.2.1, this.2.2.1⟩)
      have TL := hI (show (tabTo xs ys (lstN o1) xs.length).length < 40 from Nat.lt_of_le_of_lt (tabTo_len xs ys (lstN o1) xs.length) (by rw [hxs, hys]; exact rows_few l s H12.out))
      have TK := hI (fun (x : Nat × Nat × Nat) (hx : x ∈ tabTo xs ys (lstN o1) xs.length) => show (srcs l s).getD x.1 0 < s.tk.length by
        have h1 := (TM.out x hx).1
        rw [HTK.out]
        refine HL3.out _ ?_
        rw [List.getD_eq_getElem?_getD, List.getElem?_eq_getElem h1]
        exact List.getElem_mem h1)
      have o0 := O6.out.cell (k := 0) rfl
      clear hp6 hc6 rx ry TT6 OX6 hov7 htt7 hty hxs hys
      go_wp2_with fail
      refine TA.out.mono ?_
      rintro e w7 ⟨v, d, rfl, hto, hpm, hso, hb7⟩
      have B7 := hI hb7
      have hz := hpm.1
      have PL : Hid (d.toList.Perm (tabTo xs ys (lstN o1) xs.length)) := hI (perm_list (d := (tabTo xs ys (lstN o1) xs.length).toArray) (by rw [← hz]; exact hpm))
      have HSO := hI hso
      have HDZ : Hid (d.size < 40) := hI (by have := PL.out.length_eq; rw [Array.length_toList] at this; rw [this]; exact TL.out)
      have F7 := hI (F6.out.keep fun q hq => B7.out.block q hq)
      clear hb7 hz hpm hso o0
      rcases hto with ⟨rfl, hd0⟩ | ⟨g2, cap, rfl, hg1, hcap, hg2, hrow⟩
      · obtain rfl := Array.eq_empty_of_size_eq_zero hd0
        clear hd0
        have FI := hI (fold_is l (srcs l s) (tgts l s) xs ys (lstN o1) #[] #[] 40 s PL.out (List.Perm.refl _) (fun i j _ hj => by cases hj) TK.out (by simp))
        go_wp2_with (go_at_call 48; refine (sort_nil w7 _ _).mono ?_; rintro e w8 ⟨rfl, rfl⟩)
        have NL := hI (show Nlw w8 B b F S K T A c l w.heap.size p8 p9 w.heap.size D3 D7 d3 d7 (srcs l s) (tgts l s) #[] from ⟨(B7.out.block _ H6.out.lt).trans H6.out, (B7.out.block _ H86.out.lt).trans H86.out, (B7.out.block _ H96.out.lt).trans H96.out, R36.out.low B7.out B7.out.size, R76.out.low B7.out B7.out.size, F3N.out, F7N.out, fun k hk => srcs_kind hk, fun k hk => tgts_kind hk, (fun t ht => by simp at ht), Nat.lt_of_lt_of_le H6.out.lt B7.out.size, NF1.out, fun k hk => by simp at hk⟩)
        refine near_l w8 B b F S K T A c l s w.heap.size p8 p9 w.heap.size D3 D7 d3 d7 0 (srcs l s) (tgts l s) #[] F7.out NL.out NF1.out NF8.out NF9.out H04.out (by simp) (.slice none 0 0) (fun h => by simp at h) _ _ _ _ _ _ _ _ _ _ _ _ _ _ _ _ _ _ _ _ _ _ _ _ _ _ _ _ _ _ _ _ _ _ _ _ _ _ _ _ _ _ _ _ _ _ _ _ _ _ _ _ _ _ _ _ _ _ _ _ _ _ _ _ _ _ _ _ _ _ _ _ _ _ _ _ _ _ _ _ _ _ _ _ _ _ _ _ _ _ _ _ _ _ _ _ _ _ _ _ _ _ _ _ _ _ _ _ _ _ _ _ _ _ _ _ _ _ _ _ _ _ _ _ _ _ _ _ _ _ _ _ _ _ _ _ _ _ _ _ _ _ _ _ _ _ _ _ _ _ _ _ _  ?_
        refine hI ?_
        intro wr
        intros
        rename_i hfE hcE
        have GE : Hid (wr.heap[g]? = w6.heap[g]?) := hI ((hcE.out.block g (Nat.lt_of_lt_of_le P6.out.glt B7.out.size) (fun q => by have := (FL.out _ q).1; have := HAB.out.1; omega)).trans (B7.out.block g P6.out.glt))
        have CE : Hid (Chs (fun q => q = g ∨ Four F S K T q) w wr) := hI (((C6.out.trans (Chs.of_below B7.out _)).more (fun _ e => .inl e)).trans (hcE.out.more fun _ e => .inr e))
        go_wp2_with fail
        go_ret
        exact ⟨ret_int HRS.out.1.symm, ⟨kn6, w6, P6.out, GE.out⟩, fd_eq (HRS.out.2.trans FI.out) hfE.out, CE.out⟩
      · have SR := hI (sort_rows w6 w7 F6.out w.heap.size p8 p9 D3 D7 d3 d7 (srcs l s) (tgts l s) (H6.out.cell (k := 0) rfl) (H86.out.cell (k := 0) rfl) (H96.out.cell (k := 0) rfl) H6.out.lt H86.out.lt H96.out.lt R36.out R76.out HL3.out HL7.out B7.out g2 cap d hg1 hg2 hrow (fun x hx => TM.out x (PL.out.subset (by simpa using hx))) HSO.out HDZ.out POS.out.1 POS.out.2 (pls_asc _ _) (pls_asc _ _))
        obtain ⟨nd, hnd⟩ : ∃ nd, d.size = nd := ⟨_, rfl⟩
        rw [hnd] at SR ⊢
        have HND := hI hnd
        have HG1 := hI hg1
        clear hnd hrow hcap
        go_wp2_with (go_at_call 48; refine SR.out.mono ?_; rintro e w8 ⟨rfl, d2, hh2, hz2, hp2, hs2, hc8⟩; have RW2 := hI hh2; have PP2 := hI hp2; have SS2 := hI hs2; have HC8 := hI hc8; have HZ2 := hI hz2; clear hh2 hz2 hp2 hs2 hc8)
        have hz2 := HZ2.out
        clear HZ2 SR
        subst hz2
        have B68 : Hid (Below w6.heap.size w6 w8) := hI ⟨HC8.out.os.trans B7.out.os, HC8.out.tape.trans B7.out.tape, HC8.out.output.trans B7.out.output, Nat.le_trans B7.out.size HC8.out.size, fun q hq => (HC8.out.block q (Nat.lt_of_lt_of_le hq B7.out.size) (fun e => by have := HG1.out; have : q = g2 := e; omega)).trans (B7.out.block q hq)⟩
        have F8 := hI (F6.out.keep fun q hq => B68.out.block q hq)
        have FI := hI (fold_is l (srcs l s) (tgts l s) xs ys (lstN o1) d d2 40 s PL.out PP2.out SS2.out TK.out (by have := HND.out; have := HDZ.out; omega))
        have NL := hI (show Nlw w8 B b F S K T A c l w.heap.size p8 p9 g2 D3 D7 d3 d7 (srcs l s) (tgts l s) d2 from ⟨(B68.out.block _ H6.out.lt).trans H6.out, (B68.out.block _ H86.out.lt).trans H86.out, (B68.out.block _ H96.out.lt).trans H96.out, R36.out.low B68.out B68.out.size, R76.out.low B68.out B68.out.size, F3N.out, F7N.out, fun k hk => srcs_kind hk, fun k hk => tgts_kind hk, RW2.out, Nat.lt_of_lt_of_le hg2 HC8.out.size, (fun q => by have := (FL.out _ q).2; have := HG1.out; have := C6.out.size; omega), fun k hk => by
          have hk2 : k < d2.toList.length := by simpa using hk
          have := TM.out (d2.toList.getD k default) (PL.out.subset (PP2.out.subset (by rw [List.getD_eq_getElem?_getD, List.getElem?_eq_getElem hk2]; exact List.getElem_mem hk2)))
          exact ⟨this.1, this.2.1⟩⟩)
        refine near_l w8 B b F S K T A c l s w.heap.size p8 p9 g2 D3 D7 d3 d7 cap (srcs l s) (tgts l s) d2 F8.out NL.out NF1.out NF8.out NF9.out H04.out (by have := HND.out; have := HDZ.out; omega) (.slice (some ⟨g2, 0, none⟩) d2.size cap) (fun _ => rfl) _ _ _ _ _ _ _ _ _ _ _ _ _ _ _ _ _ _ _ _ _ _ _ _ _ _ _ _ _ _ _ _ _ _ _ _ _ _ _ _ _ _ _ _ _ _ _ _ _ _ _ _ _ _ _ _ _ _ _ _ _ _ _ _ _ _ _ _ _ _ _ _ _ _ _ _ _ _ _ _ _ _ _ _ _ _ _ _ _ _ _ _ _ _ _ _ _ _ _ _ _ _ _ _ _ _ _ _ _ _ _ _ _ _ _ _ _ _ _ _ _ _ _ _ _ _ _ _ _ _ _ _ _ _ _ _ _ _ _ _ _ _ _ _ _ _ _ _ _ _ _ _ _  ?_
        refine hI ?_
        intro wr
        intros
        rename_i hfE hcE
        have GE : Hid (wr.heap[g]? = w6.heap[g]?) := hI ((hcE.out.block g (Nat.lt_of_lt_of_le P6.out.glt B68.out.size) (fun q => by have := (FL.out _ q).1; have := HAB.out.1; omega)).trans (B68.out.block g P6.out.glt))
        have CE : Hid (Chs (fun q => q = g ∨ Four F S K T q) w wr) := hI (((C6.out.trans (Chs.of_below B68.out _)).more (fun _ e => .inl e)).trans (hcE.out.more fun _ e => .inr e))
        go_wp2_with fail
        go_ret
        exact ⟨ret_int HRS.out.1.symm, ⟨kn6, w6, P6.out, GE.out⟩, fd_eq (HRS.out.2.trans FI.out) hfE.out, CE.out⟩
    · have P6 := hI hp6
      have F6 := hI (F5.out.chsg hc6 HGB.out HA.out)
      have C6 := hI (C5.out.trans hc6)
      have RS := hI (HR2.out NE.out htn)
      clear hp6 hc6 htn
      go_wp2_with fail
      go_ret
      exact ⟨ret_int RS.out.1.symm, ⟨kn6, _, P6.out, rfl⟩, fd_eq RS.out.2 F6.out, C6.out.more (fun _ e => .inl e)⟩
  · have P5 := hI hp5
    have F5 := hI (F4.out.chsg hc5 HGB.out HA.out)
    have C5 := hI ((Chs.of_below B4.out (fun q => q = g)).trans hc5)
    have RS := hI (HR1.out NE.out htn)
    clear hp5 hc5 htn
    go_wp2_with fail
    go_ret
    exact ⟨ret_int RS.out.1.symm, ⟨kn5, _, P5.out, rfl⟩, fd_eq RS.out.2 F5.out, C5.out.more (fun _ e => .inl e)⟩
end Go.Proofs.YtbmpidacoohdmaaGreat

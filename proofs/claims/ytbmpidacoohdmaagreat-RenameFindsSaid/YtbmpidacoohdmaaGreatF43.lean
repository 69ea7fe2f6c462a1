/- sleuthref26.near: the whole walk. sleuthref26.Find over a store that has nothing. -/
import Derived.Test.YtbmpidacoohdmaaGreatF41
import Derived.Test.YtbmpidacoohdmaaGreatF42
import Derived.Deep.CutRange
import Derived.Test.YtbmpidacoohdmaaGreatF38
import Derived.Test.YtbmpidacoohdmaaGreatF24
namespace Go.Proofs.YtbmpidacoohdmaaGreat
open Lib renaming hid → hI
open Go.RowKit Op
open Rn (Chg LReads CellsAt St isSource isTarget Flds rowsS)

theorem FB_lt {w : World} {B g : Nat} {v0 v1 v2 v3 : Value} {r : St} (h : Flds w B g 73 [v0, v1, v2, v3] (rowsS r)) : ∀ q, FB v0 v1 v2 v3 q → B ≤ q ∧ q < w.heap.size ∧ q ≠ g := by
  have one : ∀ (i : Nat) (v : Value) (e : TypeId × List Value), [v0, v1, v2, v3][i]? = some v → (rowsS r)[i]? = some e → ∀ q, v.ownBlock = some q → B ≤ q ∧ q < w.heap.size ∧ q ≠ g := fun i v e hv he q hq => by
    have := (h.own i v e hv he).lt q hq
    exact ⟨this.1, this.2, fun e2 => h.off i v hv (by rw [hq, e2])⟩
  rintro q (hq | hq | hq | hq)
  · exact one 0 v0 _ rfl rfl q hq
  · exact one 1 v1 _ rfl rfl q hq
  · exact one 2 v2 _ rfl rfl q hq
  · exact one 3 v3 _ rfl rfl q hq
structure RNP (w : World) (gs B g : Nat) (v0 v1 v2 v3 : Value) (r2 : St) (w2 : World) : Prop where
  fl : Flds w2 B g 73 [v0, v1, v2, v3] (rowsS r2)
  chs : Chs (fun q => q = gs ∨ FB v0 v1 v2 v3 q) w w2
theorem fl_eq {w : World} {B g : Nat} {vs : List Value} {r r2 : St} (e : r2 = r) (h : Flds w B g 73 vs (rowsS r)) : Flds w B g 73 vs (rowsS r2) := by rw [e]; exact h
set_option maxRecDepth 100000 in
set_option maxHeartbeats 2000000 in
theorem rnear_any (w : World) (gs : Nat) (l0 : List Ent) (AA : Option Addr) (cc : Nat) (fr : Bool) (t : Int) (f : List UInt8 → Option (List UInt8)) (hs : Rsp w gs l0 AA cc fr t) (hc : Cnt l0 f) (B g : Nat) (v0 v1 v2 v3 : Value) (l : List Chg) (A : Option Addr) (c : Nat) (s : St) (hf : Flds w B g 73 [v0, v1, v2, v3] (rowsS s)) (hlen : s.fr.length = l.length ∧ s.sc.length = l.length ∧ s.kd.length = l.length ∧ s.tk.length = l.length) (hB : B ≤ w.heap.size) (hgs : gs < B ∧ gs ≠ g) (hl : LReads w B A l) (hA : ∀ ad, A = some ad → ad.block ≠ gs) (ok : ∀ (k : Nat) (x : Chg), l[k]? = some x → x.ok) (h12 : l.length ≤ 12) (hby : BytL l) (o1 o2 : Int) (o3 : Bool) :
    Calls Tryz.prog 23 #[.pointer (some ⟨gs, 0, none⟩), .slice A l.length c, .agg #[v0, v1, v2, v3], .agg #[.int .i64 o1, .int .i64 o2, .bool o3]] w fun e w2 => e = .returned (.int .i64 (nearR l s f o1 o2)) ∧ RNP w gs B g v0 v1 v2 v3 (nearS l s f o1 o2) w2 := by
  obtain ⟨r, hr⟩ : ∃ r : Int, nearR l s f o1 o2 = r := ⟨_, rfl⟩
  obtain ⟨s2, hs2⟩ : ∃ s2 : St, nearS l s f o1 o2 = s2 := ⟨_, rfl⟩
  rw [hr, hs2]
  have HR0 := hI (fun h : earlyN o1 o2 (srcs l s).length (tgts l s).length => show r = 0 ∧ s2 = s by rw [← hr, ← hs2]; unfold nearR nearS; rw [if_pos h, if_pos h]; exact ⟨rfl, rfl⟩)
  have HR1 := hI (fun (h : ¬ earlyN o1 o2 (srcs l s).length (tgts l s).length) (k : Go.Proofs.YtbmpidacoohdmaaGreat.txs f (oldI l s) = none) => show r = 30 ∧ s2 = s by rw [← hr, ← hs2]; unfold nearR nearS; rw [if_neg h, if_neg h, k]; exact ⟨rfl, rfl⟩)
  have HR2 := hI (fun (h : ¬ earlyN o1 o2 (srcs l s).length (tgts l s).length) (k : Go.Proofs.YtbmpidacoohdmaaGreat.txs f (newI l s) = none) => show r = 30 ∧ s2 = s by rw [← hr, ← hs2]; unfold nearR nearS; rw [if_neg h, if_neg h, k]; cases Go.Proofs.YtbmpidacoohdmaaGreat.txs f (oldI l s) <;> exact ⟨rfl, rfl⟩)
  have HR3 := hI (fun (h : ¬ earlyN o1 o2 (srcs l s).length (tgts l s).length) (xs ys : List (List UInt8)) (k : Go.Proofs.YtbmpidacoohdmaaGreat.txs f (oldI l s) = some xs) (k2 : Go.Proofs.YtbmpidacoohdmaaGreat.txs f (newI l s) = some ys) => show r = 0 ∧ s2 = titer (rowsOf l (srcs l s) (tgts l s) xs ys (lstN o1)) s 40 by rw [← hr, ← hs2]; unfold nearR nearS; rw [if_neg h, if_neg h, k, k2]; exact ⟨rfl, rfl⟩)
  have H12 := hI h12
  have FBL := hI (FB_lt hf)
  have HGS := hI hgs
  have HBB := hI hB
  have HKK := hI ok
  have HY := hI hby
  have HC := hI hc
  have HA := hI hA
  have LEN := hI hlen
  have LB := hI hl
  have FW := hI hf
  have hn : l.length ≤ 40 := by omega
  have RFW := hI (rows_few l s h12)
  have B0 := hI (((Below.refl w.heap.size w).alloc (Nat.le_refl _) (.cells #[v0, v1, v2, v3] 73)).alloc (by simp) (.cells #[.int .i64 o1, .int .i64 o2, .bool o3] 43))
  have F0 : Hid (Flds ((w.alloc (.cells #[v0, v1, v2, v3] 73)).alloc (.cells #[.int .i64 o1, .int .i64 o2, .bool o3] 43)) B w.heap.size 73 [v0, v1, v2, v3] (rowsS s)) := hI ((hf.copied (fun i v hv => hf.below hv)).alloc _)
  have FG : Hid (Flds ((w.alloc (.cells #[v0, v1, v2, v3] 73)).alloc (.cells #[.int .i64 o1, .int .i64 o2, .bool o3] 43)) B g 73 [v0, v1, v2, v3] (rowsS s)) := hI ((hf.alloc _).alloc _)
  have S0 := hI (hs.below B0.out)
  have O0 := hI (Ar.new (w.alloc (.cells #[v0, v1, v2, v3] 73)) [.int .i64 o1, .int .i64 o2, .bool o3] 43)
  have hsz : (w.alloc (.cells #[v0, v1, v2, v3] 73)).heap.size = w.heap.size + 1 := by simp
  rw [hsz] at O0
  have L0 : Hid (LReads ((w.alloc (.cells #[v0, v1, v2, v3] 73)).alloc (.cells #[.int .i64 o1, .int .i64 o2, .bool o3] 43)) ((w.alloc (.cells #[v0, v1, v2, v3] 73)).alloc (.cells #[.int .i64 o1, .int .i64 o2, .bool o3] 43)).heap.size A l) := hI ((hl.keep fun p hp => B0.out.cell (Nat.lt_of_lt_of_le hp hB)).more (Nat.le_trans hB B0.out.size))
  have hc0 := O0.out.cell (k := 0) rfl
  have hc1 := O0.out.cell (k := 1) rfl
  clear hs hc hf hlen hB hgs hl hA ok hby hsz h12 hr hs2
  generalize hw0 : ((w.alloc (.cells #[v0, v1, v2, v3] 73)).alloc (.cells #[.int .i64 o1, .int .i64 o2, .bool o3] 43)) = w0 at *
  have LIM : Hid (limN o2 = if o2 < 0 ∨ 32 < o2 then 32 else o2) := hI rfl
  have LST : Hid (lstN o1 = if o1 < 1 then 1 else o1) := hI rfl
  have NEE := hI (fun (h1 : ¬ 1000 < o1) (h2 : ¬ (srcs l s).length = 0) (h3 : ¬ (tgts l s).length = 0) (h4 : ¬ limN o2 < ((srcs l s).length : Int)) (h5 : ¬ limN o2 < ((tgts l s).length : Int)) => show ¬ earlyN o1 o2 (srcs l s).length (tgts l s).length by unfold earlyN; rintro (h | h | h | h | h) <;> omega)
  have LS1 : Hid (lstN o1 > 1000 ↔ 1000 < o1) := hI (by unfold lstN; split <;> omega)
  have EA1 := hI (fun h : 1000 < o1 => HR0.out (.inl h))
  have EA2 := hI (fun h : (srcs l s).length = 0 => HR0.out (.inr (.inl h)))
  have EA3 := hI (fun h : (tgts l s).length = 0 => HR0.out (.inr (.inr (.inl h))))
  have EA4 := hI (fun h : limN o2 < ((srcs l s).length : Int) => HR0.out (.inr (.inr (.inr (.inl h)))))
  have EA5 := hI (fun h : limN o2 < ((tgts l s).length : Int) => HR0.out (.inr (.inr (.inr (.inr h)))))
  clear HR0
  generalize limN o2 = lm at *
  generalize lstN o1 = ls at *
  go_enter Tryz.func23, Tryz.ntmps23
  go_upto_region 2 with fail
  go_cut [37] from 32 to 37 (fun bv w' => ∃ b : Bool, bv = .bool b ∧ Hid (b = decide (o2 < 0 ∨ 32 < o2)) ∧ w0 = w')
  case first =>
    by_cases c1 : o2 < 0
    · have E : Hid (true = decide (o2 < 0 ∨ 32 < o2)) := hI (by simp [c1])
      go_wp2_with fail
      go_meet
      exact ⟨true, rfl, E, rfl⟩
    · by_cases c2 : 32 < o2
      · have E : Hid (true = decide (o2 < 0 ∨ 32 < o2)) := hI (by simp [c2])
        go_wp2_with fail
        go_meet
        exact ⟨true, rfl, E, rfl⟩
      · have E : Hid (false = decide (o2 < 0 ∨ 32 < o2)) := hI (decide_eq_false (by omega)).symm
        go_wp2_with fail
        go_meet
        exact ⟨false, rfl, E, rfl⟩
  obtain ⟨b, rfl, HB2, hWW⟩ := hcut
  subst hWW
  go_upto_if 37 with fail
  go_cut [9] from 32 to 37 (fun mv w' => mv = .int .i64 lm ∧ w0 = w')
  case first =>
    cases b with
    | true =>
      have E := hI (LIM.out.trans (if_pos (of_decide_eq_true HB2.out.symm)))
      go_wp2_with fail
      go_meet
      exact ⟨by rw [E.out], rfl⟩
    | false =>
      have E := hI (LIM.out.trans (if_neg (of_decide_eq_false HB2.out.symm)))
      go_wp2_with fail
      go_meet
      exact ⟨by rw [E.out], rfl⟩
  obtain ⟨rfl, hWW⟩ := hcut
  subst hWW
  go_upto_if 41 with fail
  go_cut [10] from 38 to 41 (fun mv w' => mv = .int .i64 ls ∧ w0 = w')
  case first =>
    by_cases c1 : o1 < 1
    · have E := hI (LST.out.trans (if_pos c1))
      go_wp2_with fail
      go_meet
      exact ⟨by rw [E.out], rfl⟩
    · have E := hI (LST.out.trans (if_neg c1))
      go_wp2_with fail
      go_meet
      exact ⟨by rw [E.out], rfl⟩
  obtain ⟨rfl, hWW⟩ := hcut
  subst hWW
  go_wp2_with fail
  clear hc0 hc1
  refine rnear1 w0 B w.heap.size v0 v1 v2 v3 l A c s F0.out LEN.out L0.out hn _ _ _ _ _ _ _ _ _ _ _ _ _ _ _ _ _ _ _ _ _ _ _ _ _ _ _ _ _ _ _ _ _ _ _ _ _ _ _ _ _ _ _ _ _ _ _ _ _ _ _ _ _ _ _ _ _ _ _ _ _ _ _ _ _ _ _ _ _ _ _ _ _ _ _ _ _ _ _ _ _ _ _ _ _ _ _ _ _ _ _ _ _ _ _ _ _ _ _ _ _ _ _ _ _ _ _ _ _ _ _ _ _ _ _ _ _ _ _ _ _ _ _ _ _ _ _ _ _ _ _ _ _ _ _ _ _ _ _ _ _ _ _ _ _ _ _ _ _ _ _ _ _ _ _ _ _ _ _ _ _ _ _ _ _ _ _ _ _ _ _ _ _ _ _ _ _ _ _ _ _ _ _ _ _ _ _ _ _ _ _ _ _ _ _ _ _ _ _ _ _ _ _ _ _ _ _ _ _ _ _ _ _ _ _ _ _ _ _ _ _ _ _ _ _ _ _ _ _ _ _ _ _ _ _ _ _ _ _ _ _ _ _ _ _ _ _ _ _ _ _ _ _ _ _ _ _ _ _ _ _ _ _ _ _ _ _ _ _ _ _ _ _ _ _ _ _ _ _ _ _ _ _ _ _ _ ?_
  refine hI ?_
  intro v11 v12 w2
  intros
  rename_i h11 h12 hb2
  have B2 := hI (B0.out.trans (hb2.out.mono B0.out.size))
  have S2 := hI (S0.out.below hb2.out)
  have F2 := hI (FG.out.later (Rn.later_of_below hb2.out (Nat.le_refl _)))
  have L2 : Hid (LReads w2 B A l) := hI (LB.out.keep fun p hp => B2.out.cell (Nat.lt_of_lt_of_le hp HBB.out))
  change Hid (w2.ownsRow w0.heap.size 3 1 v11 (srcs l s).length (ntI2 (srcs l s))) at h11
  change Hid (w2.ownsRow w0.heap.size 3 1 v12 (tgts l s).length (ntI2 (tgts l s))) at h12
  obtain ⟨D, d, rfl, _, hcd, hrv, hq3⟩ := own_all h11.out
  obtain ⟨E, e, rfl, _, hce, hre, hq7⟩ := own_all h12.out
  have hns : (srcs l s).length ≤ l.length := pls_len _ _
  have hnt : (tgts l s).length ≤ l.length := pls_len _ _
  have RD := hI hrv
  have RE := hI hre
  have QD := hI hq3
  have QE := hI hq7
  clear hrv hre hq3 hq7
  by_cases e1 : 1000 < o1
  · have e1' : (1000 : Int) < ls := LS1.out.2 e1
    go_wp2_with fail
    go_ret
    exact ⟨ret_int (EA1.out e1).1.symm, fl_eq (EA1.out e1).2 F2.out, Chs.of_below B2.out _⟩
  have e1' : ¬ (1000 : Int) < ls := fun h => e1 (LS1.out.1 h)
  by_cases e2 : (srcs l s).length = 0
  · have q2 : (((srcs l s).length : Int) == 0) = true := by simp [e2]
    have E2 := hI (EA2.out e2)
    clear e2
    go_wp2_with fail
    go_ret
    exact ⟨ret_int E2.out.1.symm, fl_eq E2.out.2 F2.out, Chs.of_below B2.out _⟩
  have q2 : (((srcs l s).length : Int) == 0) = false := beq_eq_false_iff_ne.2 (by omega)
  by_cases e3 : (tgts l s).length = 0
  · have q3 : (((tgts l s).length : Int) == 0) = true := by simp [e3]
    have E3 := hI (EA3.out e3)
    clear e3
    go_wp2_with fail
    go_ret
    exact ⟨ret_int E3.out.1.symm, fl_eq E3.out.2 F2.out, Chs.of_below B2.out _⟩
  have q3 : (((tgts l s).length : Int) == 0) = false := beq_eq_false_iff_ne.2 (by omega)
  by_cases e4 : lm < ((srcs l s).length : Int)
  · go_wp2_with fail
    go_ret
    exact ⟨ret_int (EA4.out e4).1.symm, fl_eq (EA4.out e4).2 F2.out, Chs.of_below B2.out _⟩
  by_cases e5 : lm < ((tgts l s).length : Int)
  · go_wp2_with fail
    go_ret
    exact ⟨ret_int (EA5.out e5).1.symm, fl_eq (EA5.out e5).2 F2.out, Chs.of_below B2.out _⟩
  have NE := hI (NEE.out (by omega) (by omega) (by omega) (by omega) (by omega))
  have HLS := hI (fun k (hk : k ∈ srcs l s) => (pls_mem _ _ k hk).1)
  have HLT := hI (fun k (hk : k ∈ tgts l s) => (pls_mem _ _ k hk).1)
  have G0 : Hid (gs < w0.heap.size) := hI (by have := HGS.out.1; have := HBB.out; have := B0.out.size; omega)
  have ND := hI (fun ad (q : D = some ad) => show ad.block ≠ gs by have := (QD.out ad q).1; have := G0.out; omega)
  have NEt := hI (fun ad (q : E = some ad) => show ad.block ≠ gs by have := (QE.out ad q).1; have := G0.out; omega)
  clear e2 e3 NEE EA1 EA2 EA3 EA4 EA5 LS1
  have LN2 : Hid (LReads w2 w2.heap.size A l) := hI (L2.out.more (Nat.le_trans HBB.out B2.out.size))
  go_wp2_with fail
  refine rnear2 w2 gs l0 _ _ _ t f S2.out HC.out l A c LN2.out HA.out HKK.out HY.out D d (srcs l s) HLS.out (by omega) RD.out ND.out _ _ _ _ _ _ _ _ _ _ _ _ _ _ _ _ _ _ _ _ _ _ _ _ _ _ _ _ _ _ _ _ _ _ _ _ _ _ _ _ _ _ _ _ _ _ _ _ _ _ _ _ _ _ _ _ _ _ _ _ _ _ _ _ _ _ _ _ _ _ _ _ _ _ _ _ _ _ _ _ _ _ _ _ _ _ _ _ _ _ _ _ _ _ _ _ _ _ _ _ _ _ _ _ _ _ _ _ _ _ _ _ _ _ _ _ _ _ _ _ _ _ _ _ _ _ _ _ _ _ _ _ _ _ _ _ _ _ _ _ _ _ _ _ _ _ _ _ _ _ _ _ _ _ _ _ _ _ _ _ _ _ _ _ _ _ _ _ _ _ _ _ _ _ _ _ _ _ _ _ _ _ _ _ _ _ _ _ _ _ _ _ _ _ _ _ _ _ _ _ _ _ _ _ _ _ _ _ _ _ _ _ _ _ _ _ _ _ _ _ _ _ _ _ _ _ _ _ _ _ _ _ _ _ _ _ _ _ _ _ _ _ _ _ _ _ _ _ _ _ _ _ _ _ _ _ _ _ _ _ _ _ _ _ _ _ _ _ _ _ _ _ _ _ _ _ _ _ _ _ _ _ _ _ _ _ ?_ ?_
  rotate_left
  · refine hI ?_
    intro fr3 w3 htn hp3 hc3
    intros
    have XN := hI (HR1.out NE.out htn.out)
    go_wp2_with fail
    go_ret
    exact ⟨ret_int XN.out.1.symm, fl_eq XN.out.2 (F2.out.keep fun k hk hkl => hc3.out.block k hkl (fun e => by have := HGS.out; rcases hk with hk | hk <;> omega)), (Chs.of_below B2.out _).trans (hc3.out.more fun _ q => .inl q)⟩
  refine hI ?_
  intro v14 us xs fr3 w3
  intros
  rename_i htx hp3 hc3 ho3 ht3
  have L3 : Hid (LReads w3 w3.heap.size A l) := hI ((LReads.gs LN2.out (Nat.le_refl _) hc3.out HA.out).more hc3.out.size)
  have RE3 := hI (rv_chs4 RE.out hc3.out (fun ad q h => NEt.out ad q h))
  have RD3 := hI (rv_chs4 RD.out hc3.out (fun ad q h => ND.out ad q h))
  obtain ⟨D4, d4, rfl, _⟩ := own_all ho3.out
  go_wp2_with fail
  refine rnear3 w3 gs l0 _ _ _ t f hp3.out HC.out l A c L3.out HA.out HKK.out HY.out E e (tgts l s) HLT.out (by omega) RE3.out NEt.out _ _ _ _ _ _ _ _ _ _ _ _ _ _ _ _ _ _ _ _ _ _ _ _ _ _ _ _ _ _ _ _ _ _ _ _ _ _ _ _ _ _ _ _ _ _ _ _ _ _ _ _ _ _ _ _ _ _ _ _ _ _ _ _ _ _ _ _ _ _ _ _ _ _ _ _ _ _ _ _ _ _ _ _ _ _ _ _ _ _ _ _ _ _ _ _ _ _ _ _ _ _ _ _ _ _ _ _ _ _ _ _ _ _ _ _ _ _ _ _ _ _ _ _ _ _ _ _ _ _ _ _ _ _ _ _ _ _ _ _ _ _ _ _ _ _ _ _ _ _ _ _ _ _ _ _ _ _ _ _ _ _ _ _ _ _ _ _ _ _ _ _ _ _ _ _ _ _ _ _ _ _ _ _ _ _ _ _ _ _ _ _ _ _ _ _ _ _ _ _ _ _ _ _ _ _ _ _ _ _ _ _ _ _ _ _ _ _ _ _ _ _ _ _ _ _ _ _ _ _ _ _ _ _ _ _ _ _ _ _ _ _ _ _ _ _ _ _ _ _ _ _ _ _ _ _ _ _ _ _ _ _ _ _ _ _ _ _ _ _ _ _ _ _ _ _ _ _ _ _ _ _ _ _ _ _ ?_ ?_
  rotate_left
  · refine hI ?_
    intro fr4 w4 htn hp4 hc4
    intros
    have XN := hI (HR2.out NE.out htn.out)
    have hc34 := hc3.out.trans hc4.out
    go_wp2_with fail
    go_ret
    exact ⟨ret_int XN.out.1.symm, fl_eq XN.out.2 (F2.out.keep fun k hk hkl => hc34.block k hkl (fun e => by have := HGS.out; rcases hk with hk | hk <;> omega)), (Chs.of_below B2.out _).trans (hc34.more fun _ q => .inl q)⟩
  refine hI ?_
  intro v15 us7 ys fr4 u
  intros
  rename_i hty hp4 hc4 ho4 ht4
  have C24 := hI (hc3.out.trans hc4.out)
  have L4 : Hid (LReads u u.heap.size A l) := hI ((LReads.gs L3.out (Nat.le_refl _) hc4.out HA.out).more hc4.out.size)
  have RE4 := hI (rv_chs4 RE3.out hc4.out (fun ad q h => NEt.out ad q h))
  have RD4 := hI (rv_chs4 RD3.out hc4.out (fun ad q h => ND.out ad q h))
  have GW2 : Hid (gs < w2.heap.size) := hI (Nat.lt_of_lt_of_le G0.out hb2.out.size)
  have OX4 := own_c ho3.out hc4.out (fun q e => by have : q = gs := e; have := GW2.out; omega)
  have TT4 := ht3.out.chs hc4.out (fun q e => by have : q = gs := e; have := GW2.out; omega)
  obtain ⟨Dx, dx, hvx, _, _, rx, _⟩ := own_all OX4
  injection hvx with hva _ hvb
  subst hva hvb
  obtain ⟨D5, d5, rfl, _, _, ry, _⟩ := own_all ho4.out
  have HA400 := fun x hx => (hp4.out.all x hx).2.1
  have X4 := hI (txr_of rx TT4 (txs_le HC.out HA400 _ _ htx.out))
  have X5 := hI (txr_of ry ht4.out (txs_le HC.out HA400 _ _ hty.out))
  have hxs : xs.length = (srcs l s).length := by rw [txs_len2 _ _ htx.out]; simp
  have hys : ys.length = (tgts l s).length := by rw [txs_len2 _ _ hty.out]; simp
  have HXS := hI hxs
  have HYS := hI hys
  have HRS := hI (HR3.out NE.out xs ys htx.out hty.out)
  clear rx ry OX4 TT4 hxs hys HA400
  have XL := hI (show rowTo l (srcs l s) (tgts l s) xs ys ls (srcs l s).length = rowsOf l (srcs l s) (tgts l s) xs ys ls by rw [← HXS.out]; rfl)
  have RL := hI (show (rowsOf l (srcs l s) (tgts l s) xs ys ls).length < 40 by rw [← XL.out]; exact Nat.lt_of_le_of_lt (rowTo_len _ _ _ _ _ _ _) (by rw [HYS.out]; exact RFW.out))
  have RI := hI (fun x (hx : x ∈ rowsOf l (srcs l s) (tgts l s) xs ys ls) => show x.1 < l.length ∧ x.2.1 < l.length by
    obtain ⟨y, hm, rfl⟩ := List.mem_map.1 hx
    obtain ⟨q1, q2, _⟩ := tabTo_mem xs ys ls xs.length y hm
    rw [HXS.out] at q1
    rw [HYS.out] at q2
    exact ⟨HLS.out _ (by show (srcs l s).getD y.1 0 ∈ _; rw [List.getD_eq_getElem?_getD, List.getElem?_eq_getElem q1]; exact List.getElem_mem q1), HLT.out _ (by show (tgts l s).getD y.2.1 0 ∈ _; rw [List.getD_eq_getElem?_getD, List.getElem?_eq_getElem q2]; exact List.getElem_mem q2)⟩)
  go_wp2_with fail
  refine rtab u l A c L4.out HKK.out (srcs l s) (tgts l s) HLS.out HLT.out (by omega) (by omega) hn D E D4 D5 d e d4 d5 RD4.out RE4.out us us7 xs ys X4.out X5.out HXS.out HYS.out ls u (Below.refl _ _) _ _ _ _ _ _ _ _ _ _ _ _ _ _ _ _ _ _ _ _ _ _ _ _ _ _ _ _ _ _ _ _ _ _ _ _ _ _ _ _ _ _ _ _ _ _ _ _ _ _ _ _ _ _ _ _ _ _ _ _ _ _ _ _ _ _ _ _ _ _ _ _ _ _ _ _ _ _ _ _ _ _ _ _ _ _ _ _ _ _ _ _ _ _ _ _ _ _ _ _ _ _ _ _ _ _ _ _ _ _ _ _ _ _ _ _ _ _ _ _ _ _ _ _ _ _ _ _ _ _ _ _ _ _ _ _ _ _ _ _ _ _ _ _ _ _ _ _ _ _ _ _ _ _ _ _ _ _ _ _ _ _ _ _ _ _ _ _ _ _ _ _ _ _ _ _ _ _ _ _ _ _ _ _ _ _ _ _ _ _ _ _ _ _ _ _ _ _ _ _ _ _ _ _ _ _ _ _ _ _ _ _ _ _ _ _ _ _ _ _ _ _ _ _ _ _ _ _ _ _ _ _ _ _ _ _ _ _ _ _ _ _ _ _ _ _ _ _ _ _ _ _ _ _ _ _ _ _ _ _ _ _ _ _ _ _ _ _ _ _ _ _ _ _ _ _ _ _ _ _ _ _ _ (fun _ _ o _ _ h => by cases o <;> exact h) ?_
  refine hI ?_
  intro v22 w5
  intros
  rename_i ho5 hb5
  rw [XL.out] at ho5
  generalize hrows : rowsOf l (srcs l s) (tgts l s) xs ys ls = rows at *
  obtain ⟨DR, dr, rfl, _, _, rr, hq⟩ := own_all0 ho5.out
  have RR := hI rr
  have HQ := hI hq
  have B25 : Hid (Chs (fun q => q = gs) w2 w5) := hI (C24.out.trans (Chs.of_below hb5.out _))
  have F5 : Hid (Flds w5 B w.heap.size 73 [v0, v1, v2, v3] (rowsS s)) := hI ((F0.out.later (Rn.later_of_below hb2.out (Nat.le_refl _))).keep fun k hk hkl => B25.out.block k hkl (fun e => by have := HGS.out; have := HBB.out; rcases hk with hk | hk <;> omega))
  have FBU := hI (fun q (h : FB v0 v1 v2 v3 q) => show q < u.heap.size by have := (FBL.out q h).2.1; have := B2.out.size; have := C24.out.size; omega)
  clear rr hq
  go_wp2_with fail
  refine rturn w5 B w.heap.size v0 v1 v2 v3 l.length s F5.out LEN.out DR dr rows RR.out (by have := RL.out; omega) RI.out (by omega) (fun ad q => by obtain ⟨g9, q9, _⟩ := HQ.out ad q; exact ⟨g9, q9⟩) (fun ad q h => by obtain ⟨g9, q9, q8, _⟩ := HQ.out ad q; have := FBU.out _ h; rw [q9] at this; have : g9 < u.heap.size := this; omega) _ _ _ _ _ _ _ _ _ _ _ _ _ _ _ _ _ _ _ _ _ _ _ _ _ _ _ _ _ _ _ _ _ _ _ _ _ _ _ _ _ _ _ _ _ _ _ _ _ _ _ _ _ _ _ _ _ _ _ _ _ _ _ _ _ _ _ _ _ _ _ _ _ _ _ _ _ _ _ _ _ _ _ _ _ _ _ _ _ _ _ _ _ _ _ _ _ _ _ _ _ _ _ _ _ _ _ _ _ _ _ _ _ _ _ _ _ _ _ _ _ _ _ _ _ _ _ _ _ _ _ _ _ _ _ _ _ _ _ _ _ _ _ _ _ _ _ _ _ _ _ _ _ _ _ _ _ _ _ _ _ _ _ _ _ _ _ _ _ _ _ _ _ _ _ _ _ _ _ _ _ _ _ _ _ _ _ _ _ _ _ _ _ _ _ _ _ _ _ _ _ _ _ _ _ _ _ _ _ _ _ _ _ _ _ _ _ _ _ _ _ _ _ _ _ _ _ _ _ _ _ _ _ _ _ _ _ _ _ _ _ _ _ _ _ _ _ _ _ _ _ _ _ _ _ _ _ _ _ _ _ _ _ _ _ _ _ _ _ _ _ _ _ _ _ _ _ _ _ _ _ _ _ _ _ _ _ _ ?_
  refine hI ?_
  intro w6
  intros
  rename_i hf6 hc6
  have TM := hI (titer_more rows s (fun x hx => by rw [LEN.out.2.2.2]; exact (RI.out x hx).1) 40 (by have := RL.out; omega))
  have C6 : Hid (Chs (fun q => q = gs ∨ FB v0 v1 v2 v3 q) w w6) := hI (((Chs.of_below B2.out _).trans (B25.out.more fun _ q => .inl q)).trans (hc6.out.more fun _ q => .inr q))
  have GB : Hid (w6.heap[g]? = some (.cells #[v0, v1, v2, v3] 73 (0, 0))) := hI ((C6.out.block g FW.out.lt (fun q => by rcases q with q | q; exact HGS.out.2 q.symm; exact (FBL.out g q).2.2 rfl)).trans FW.out.blk)
  go_wp2_with fail
  go_ret
  exact ⟨ret_int HRS.out.1.symm, fl_eq (HRS.out.2.trans TM.out) ⟨GB.out, hf6.out.len, hf6.out.own, hf6.out.far, FW.out.off⟩, C6.out⟩
end Go.Proofs.YtbmpidacoohdmaaGreat
namespace Go.Proofs.YtbmpidacoohdmaaGreat
open Go.RowKit Op
open Rn (Chg LReads CellsAt Fnd St Oks stP stR finP finR outTo Flds rowsS int_at boo_at)

theorem ld43_eq (a : Addr) : loadVar 43 a = ldT 43 a := rfl
theorem ld73_eq (a : Addr) : loadVar 73 a = ldT 73 a := rfl
theorem Rn.Flds.lower {w : World} {B B2 g : Nat} {t : TypeId} {vs : List Value} {rs : List (TypeId × List Value)} (h : Flds w B g t vs rs) (hB : B2 ≤ B) : Flds w B2 g t vs rs := by
  refine ⟨h.blk, h.len, fun i v r hv hr => ?_, h.far, h.off⟩
  obtain ⟨h1, h2⟩ := h.own i v r hv hr
  refine ⟨h1, ?_⟩
  rcases h2 with h2 | ⟨b, cap, cur, hv', hb, hrest⟩
  · exact .inl h2
  · exact .inr ⟨b, cap, cur, hv', Nat.le_trans hB hb, hrest⟩
theorem rtold (w1 : World) (l : List Chg) (A : Option Addr) (c B g : Nat) (v0 v1 v2 v3 : Value) (s : St) (h : Flds w1 B g 73 [v0, v1, v2, v3] (rowsS s)) (hlen : s.fr.length = l.length ∧ s.sc.length = l.length ∧ s.kd.length = l.length ∧ s.tk.length = l.length) (hl1 : LReads w1 w1.heap.size A l) (ok : Oks l) (hn : l.length ≤ 40) (hfr : ∀ k, 0 < s.kd.getD k 0 → ∃ i : Nat, i < l.length ∧ s.fr.getD k 0 = i) :
    Calls Tryz.prog 25 #[.slice A l.length c, .agg #[v0, v1, v2, v3]] w1
      fun e w' => ∃ v, e = .returned v ∧ w'.ownsRow w1.heap.size 53 70 v (outTo l s l.length).length ((outTo l s l.length).flatMap Chg.cells) ∧ Below w1.heap.size w1 w' := by
  obtain ⟨lF, lS, lK, lT⟩ := hlen
  obtain ⟨AF, cF, rfl, rF⟩ := Rn.own_rd (h.own 0 v0 _ rfl rfl)
  obtain ⟨AK, cK, rfl, rK⟩ := Rn.own_rd (h.own 1 v1 _ rfl rfl)
  obtain ⟨AS, cS, rfl, rS⟩ := Rn.own_rd (h.own 2 v2 _ rfl rfl)
  obtain ⟨AT, cT, rfl, rT⟩ := Rn.own_rd (h.own 3 v3 _ rfl rfl)
  have e0 : (Rn.ints s.fr).length = l.length := by simp [Rn.ints, lF]
  have e1 : (Rn.ints s.kd).length = l.length := by simp [Rn.ints, lK]
  have e2 : (Rn.ints s.sc).length = l.length := by simp [Rn.ints, lS]
  have e3 : (Rn.boos s.tk).length = l.length := by simp [Rn.boos, lT]
  simp only [e0, e1, e2, e3]
  exact Rn.told_any w1 l A AF AK AS AT c cF cK cS cT s hl1 ok hn rF rK rS rT lF lK lS lT hfr
theorem srcs_pr (l : List Chg) : srcs l (stP l) = srcs l (stR l) := by
  have h := Rn.agree l l.length (Nat.le_refl _)
  unfold srcs
  congr 1
  funext k
  unfold Rn.isSource
  rw [show (stP l).tk = (stR l).tk from h.tk]
theorem tgts_pr (l : List Chg) : tgts l (stP l) = tgts l (stR l) := by
  have h := Rn.agree l l.length (Nat.le_refl _)
  unfold tgts
  congr 1
  funext k
  unfold Rn.isTarget
  rw [show (stP l).kd = (stR l).kd from h.kd]
structure FRPost (w : World) (gs : Nat) (L : List Chg) (D : Option Addr) (w2 : World) : Prop where
  rd : LReads w2 w2.heap.size D L
  chs : Chs (fun k => k = gs) w w2
end Go.Proofs.YtbmpidacoohdmaaGreat

/- sleuthref26.near over a store that has nothing. -/
import Derived.Test.YtbmpidacoohdmaaGreatRnl
namespace Go.Proofs.YtbmpidacoohdmaaGreat
open Go.RowKit Op
open Rn (Chg LReads CellsAt Fnd St isSource isTarget Flds rowsS int_at boo_at info3c info4c)

structure RPost (w : World) (gs : Nat) (t : Int) (B g : Nat) (vs : List Value) (r : St) (w2 : World) : Prop where
  st : ∃ A c fr, Rsp w2 gs [] A c fr t
  fl : Flds w2 B g 73 vs (rowsS r)
  chs : Chs (fun k => k = gs) w w2
theorem Rn.Flds.chs {w w2 : World} {gs B g : Nat} {t : TypeId} {vs : List Value} {rs : List (TypeId × List Value)} (h : Flds w B g t vs rs) (hc : Chs (fun k => k = gs) w w2) (h1 : gs < B) (h2 : gs ≠ g) : Flds w2 B g t vs rs :=
  h.keep fun k hk hl => hc.block k hl (fun e => by subst e; rcases hk with hk | hk <;> omega)
attribute [local go_sem ↓] load42_eq
set_option maxRecDepth 100000 in
set_option maxHeartbeats 1000000 in
theorem rnear_short (w : World) (gs : Nat) (AA : Option Addr) (cc : Nat) (fr : Bool) (t : Int) (hs : Rsp w gs [] AA cc fr t) (B g : Nat) (v0 v1 v2 v3 : Value) (l : List Chg) (A : Option Addr) (c : Nat) (r : St) (hf : Flds w B g 73 [v0, v1, v2, v3] (rowsS r)) (hlen : r.fr.length = l.length ∧ r.sc.length = l.length ∧ r.kd.length = l.length ∧ r.tk.length = l.length) (hB : B ≤ w.heap.size) (hgs : gs < B ∧ gs ≠ g) (hl : LReads w B A l) (ok : ∀ (k : Nat) (x : Chg), l[k]? = some x → x.ok) (hn : l.length ≤ 40) (hby : BytL l) (o1 o2 : Int) (o3 : Bool) :
    Calls Tryz.prog 23 #[.pointer (some ⟨gs, 0, none⟩), .slice A l.length c, .agg #[v0, v1, v2, v3], .agg #[.int .i64 o1, .int .i64 o2, .bool o3]] w fun e w2 => e = .returned (.int .i64 (if earlyN o1 o2 (srcs l r).length (tgts l r).length then 0 else 30)) ∧ RPost w gs t B g [v0, v1, v2, v3] r w2 := by
  obtain ⟨rr, hr⟩ : ∃ rr : Int, (if earlyN o1 o2 (srcs l r).length (tgts l r).length then 0 else 30) = rr := ⟨_, rfl⟩
  rw [hr]
  have HR0 := Lib.hid (fun h : earlyN o1 o2 (srcs l r).length (tgts l r).length => hr.symm.trans (if_pos h))
  have HR1 := Lib.hid (fun h : ¬ earlyN o1 o2 (srcs l r).length (tgts l r).length => hr.symm.trans (if_neg h))
  clear hr
  have HGS := Lib.hid hgs
  have HBB := Lib.hid hB
  have HKK := Lib.hid ok
  have HY := Lib.hid hby
  have LEN := Lib.hid hlen
  have LB := Lib.hid hl
  have B0 := Lib.hid (((Below.refl w.heap.size w).alloc (Nat.le_refl _) (.cells #[v0, v1, v2, v3] 73)).alloc (by simp) (.cells #[.int .i64 o1, .int .i64 o2, .bool o3] 43))
  have F0 : Hid (Flds ((w.alloc (.cells #[v0, v1, v2, v3] 73)).alloc (.cells #[.int .i64 o1, .int .i64 o2, .bool o3] 43)) B w.heap.size 73 [v0, v1, v2, v3] (rowsS r)) := Lib.hid ((hf.copied (fun i v hv => hf.below hv)).alloc _)
  have FG : Hid (Flds ((w.alloc (.cells #[v0, v1, v2, v3] 73)).alloc (.cells #[.int .i64 o1, .int .i64 o2, .bool o3] 43)) B g 73 [v0, v1, v2, v3] (rowsS r)) := Lib.hid ((hf.alloc _).alloc _)
  have S0 := Lib.hid (hs.below B0.out)
  have O0 := Lib.hid (Ar.new (w.alloc (.cells #[v0, v1, v2, v3] 73)) [.int .i64 o1, .int .i64 o2, .bool o3] 43)
  have hsz : (w.alloc (.cells #[v0, v1, v2, v3] 73)).heap.size = w.heap.size + 1 := by simp
  rw [hsz] at O0
  have L0 : Hid (LReads ((w.alloc (.cells #[v0, v1, v2, v3] 73)).alloc (.cells #[.int .i64 o1, .int .i64 o2, .bool o3] 43)) ((w.alloc (.cells #[v0, v1, v2, v3] 73)).alloc (.cells #[.int .i64 o1, .int .i64 o2, .bool o3] 43)).heap.size A l) := Lib.hid ((hl.keep fun p hp => B0.out.cell (Nat.lt_of_lt_of_le hp hB)).more (Nat.le_trans hB B0.out.size))
  have hc0 := O0.out.cell (k := 0) rfl
  have hc1 := O0.out.cell (k := 1) rfl
  clear hs hf hlen hB hgs hl ok hby hsz
  generalize hw0 : ((w.alloc (.cells #[v0, v1, v2, v3] 73)).alloc (.cells #[.int .i64 o1, .int .i64 o2, .bool o3] 43)) = w0 at *
  go_enter Tryz.func23, Tryz.ntmps23
  by_cases c1 : o2 < 0
  · have LM : Hid (limN o2 = 32) := Lib.hid (by unfold limN; rw [if_pos (.inl c1)])
    by_cases d1 : o1 < 1
    · go_wp2_with fail
      clear hc0 hc1
      refine rnear1 w0 B w.heap.size v0 v1 v2 v3 l A c r F0.out LEN.out L0.out hn _ _ _ _ _ _ _ _ _ _ _ _ _ _ _ _ _ _ _ _ _ _ _ _ _ _ _ _ _ _ _ _ _ _ _ _ _ _ _ _ _ _ _ _ _ _ _ _ _ _ _ _ _ _ _ _ _ _ _ _ _ _ _ _ _ _ _ _ _ _ _ _ _ _ _ _ _ _ _ _ _ _ _ _ _ _ _ _ _ _ _ _ _ _ _ _ _ _ _ _ _ _ _ _ _ _ _ _ _ _ _ _ _ _ _ _ _ _ _ _ _ _ _ _ _ _ _ _ _ _ _ _ _ _ _ _ _ _ _ _ _ _ _ _ _ _ _ _ _ _ _ _ _ _ _ _ _ _ _ _ _ _ _ _ _ _ _ _ _ _ _ _ _ _ _ _ _ _ _ _ _ _ _ _ _ _ _ _ _ _ _ _ _ _ _ _ _ _ _ _ _ _ _ _ _ _ _ _ _ _ _ _ _ _ _ _ _ _ _ _ _ _ _ _ _ _ _ _ _ _ _ _ _ _ _ _ _ _ _ _ _ _ _ _ _ _ _ _ _ _ _ _ _ _ _ _ _ _ _ _ _ _ _ _ _ _ _ _ _ _ _ _ _ _ _ _ _ _ _ _ _ _ _ _ _ _ ?_
      refine Lib.hid ?_
      intro v11 v12 w2
      intros
      rename_i h11 h12 hb2
      have B2 := Lib.hid (B0.out.trans (hb2.out.mono B0.out.size))
      have S2 : Hid (∃ A c fr, Rsp w2 gs [] A c fr t) := Lib.hid ⟨_, _, _, S0.out.below hb2.out⟩
      have S3 := Lib.hid (S0.out.below hb2.out)
      have F2 := Lib.hid (FG.out.later (Rn.later_of_below hb2.out (Nat.le_refl _)))
      have L2 : Hid (LReads w2 B A l) := Lib.hid (LB.out.keep fun p hp => B2.out.cell (Nat.lt_of_lt_of_le hp HBB.out))
      change Hid (w2.ownsRow w0.heap.size 3 1 v11 (srcs l r).length (ntI2 (srcs l r))) at h11
      change Hid (w2.ownsRow w0.heap.size 3 1 v12 (tgts l r).length (ntI2 (tgts l r))) at h12
      obtain ⟨D, d, rfl, _, hcd, hrv, _⟩ := own_all h11.out
      obtain ⟨E, e, rfl, _, hce, _, _⟩ := own_all h12.out
      have hns : (srcs l r).length ≤ l.length := pls_len _ _
      have hnt : (tgts l r).length ≤ l.length := pls_len _ _
      have RV := Lib.hid hrv
      clear hrv
      have e1 : ¬ 1000 < o1 := by omega
      by_cases e2 : (srcs l r).length = 0
      · have q2 : (((srcs l r).length : Int) == 0) = true := by simp [e2]
        have E2 := Lib.hid e2
        clear e2
        go_wp2_with fail
        go_ret
        exact ⟨ret_int (HR0.out (.inr (.inl E2.out))).symm, S2.out, F2.out, Chs.of_below B2.out _⟩
      have q2 : (((srcs l r).length : Int) == 0) = false := beq_eq_false_iff_ne.2 (by omega)
      by_cases e3 : (tgts l r).length = 0
      · have q3 : (((tgts l r).length : Int) == 0) = true := by simp [e3]
        have E3 := Lib.hid e3
        clear e3
        go_wp2_with fail
        go_ret
        exact ⟨ret_int (HR0.out (.inr (.inr (.inl E3.out)))).symm, S2.out, F2.out, Chs.of_below B2.out _⟩
      have q3 : (((tgts l r).length : Int) == 0) = false := beq_eq_false_iff_ne.2 (by omega)
      by_cases e4 : 32 < ((srcs l r).length : Int)
      · go_wp2_with fail
        go_ret
        exact ⟨ret_int (HR0.out (.inr (.inr (.inr (.inl (by rw [LM.out]; exact e4)))))).symm, S2.out, F2.out, Chs.of_below B2.out _⟩
      by_cases e5 : 32 < ((tgts l r).length : Int)
      · go_wp2_with fail
        go_ret
        exact ⟨ret_int (HR0.out (.inr (.inr (.inr (.inr (by rw [LM.out]; exact e5)))))).symm, S2.out, F2.out, Chs.of_below B2.out _⟩
      have NE : Hid (¬ earlyN o1 o2 (srcs l r).length (tgts l r).length) := Lib.hid (by unfold earlyN; rw [LM.out]; rintro (h | h | h | h | h) <;> omega)
      obtain ⟨i0, hi0⟩ : ∃ i0, (srcs l r)[0]? = some i0 := ⟨(srcs l r)[0], List.getElem?_eq_getElem (by omega)⟩
      have hil := (pls_mem _ _ i0 (List.mem_of_getElem? hi0)).1
      obtain ⟨a1, rfl, _, hcell⟩ := RV.out.at_ (k := 0) (x := .int .i64 (i0 : Int)) (by simp [ntI2, hi0])
      obtain ⟨a2, rfl, _, hcc⟩ := L2.out i0 (l.getD i0 default) (by simp [hil])
      have hok := HKK.out i0 (l.getD i0 default) (by simp [hil])
      have hld := ld_oid hcc hok (HY.out i0 _ (by simp [hil])).1
      have h32 : (u8b (l.getD i0 default).oid).length = 32 := by rw [u8b_len]; exact hok.oid
      have hpos : 0 < (srcs l r).length := by omega
      rw [show a1.add 0 = a1 by simp [Addr.add]] at hcell
      have HR := Lib.hid (fread_any w2 gs [] _ _ _ _ S3.out (u8b (l.getD i0 default).oid) h32)
      clear hcc hok hi0 h32 e2 e3
      generalize u8b (l.getD i0 default).oid = id at *
      go_wp2_with fail
      go_loopw [16] (fun kv wr => kv = .int .i64 0 ∧ Hid (wr = w2)) (fun _ _ => 0)
      case atStart => exact ⟨rfl, rfl⟩
      case round =>
        obtain ⟨rfl, hw⟩ := hrel
        have hw := hw.out
        subst hw
        go_wp2_with (go_at_call 55; refine HR.out.mono ?_; rintro e5 w5 ⟨fr5, hs5, hc5, ⟨x, hx, _⟩ | ⟨_, rfl⟩⟩; (· cases hx); have C5 := Lib.hid hc5; have S5 := Lib.hid hs5; clear hc5 hs5)
        go_ret
        exact ⟨ret_int (HR1.out NE.out).symm, ⟨_, _, _, S5.out⟩, F2.out.chs C5.out HGS.out.1 HGS.out.2, (Chs.of_below B2.out _).trans C5.out⟩
    go_wp2_with fail
    clear hc0 hc1
    refine rnear1 w0 B w.heap.size v0 v1 v2 v3 l A c r F0.out LEN.out L0.out hn _ _ _ _ _ _ _ _ _ _ _ _ _ _ _ _ _ _ _ _ _ _ _ _ _ _ _ _ _ _ _ _ _ _ _ _ _ _ _ _ _ _ _ _ _ _ _ _ _ _ _ _ _ _ _ _ _ _ _ _ _ _ _ _ _ _ _ _ _ _ _ _ _ _ _ _ _ _ _ _ _ _ _ _ _ _ _ _ _ _ _ _ _ _ _ _ _ _ _ _ _ _ _ _ _ _ _ _ _ _ _ _ _ _ _ _ _ _ _ _ _ _ _ _ _ _ _ _ _ _ _ _ _ _ _ _ _ _ _ _ _ _ _ _ _ _ _ _ _ _ _ _ _ _ _ _ _ _ _ _ _ _ _ _ _ _ _ _ _ _ _ _ _ _ _ _ _ _ _ _ _ _ _ _ _ _ _ _ _ _ _ _ _ _ _ _ _ _ _ _ _ _ _ _ _ _ _ _ _ _ _ _ _ _ _ _ _ _ _ _ _ _ _ _ _ _ _ _ _ _ _ _ _ _ _ _ _ _ _ _ _ _ _ _ _ _ _ _ _ _ _ _ _ _ _ _ _ _ _ _ _ _ _ _ _ _ _ _ _ _ _ _ _ _ _ _ _ _ _ _ _ _ _ _ _ _ ?_
    refine Lib.hid ?_
    intro v11 v12 w2
    intros
    rename_i h11 h12 hb2
    have B2 := Lib.hid (B0.out.trans (hb2.out.mono B0.out.size))
    have S2 : Hid (∃ A c fr, Rsp w2 gs [] A c fr t) := Lib.hid ⟨_, _, _, S0.out.below hb2.out⟩
    have S3 := Lib.hid (S0.out.below hb2.out)
    have F2 := Lib.hid (FG.out.later (Rn.later_of_below hb2.out (Nat.le_refl _)))
    have L2 : Hid (LReads w2 B A l) := Lib.hid (LB.out.keep fun p hp => B2.out.cell (Nat.lt_of_lt_of_le hp HBB.out))
    change Hid (w2.ownsRow w0.heap.size 3 1 v11 (srcs l r).length (ntI2 (srcs l r))) at h11
    change Hid (w2.ownsRow w0.heap.size 3 1 v12 (tgts l r).length (ntI2 (tgts l r))) at h12
    obtain ⟨D, d, rfl, _, hcd, hrv, _⟩ := own_all h11.out
    obtain ⟨E, e, rfl, _, hce, _, _⟩ := own_all h12.out
    have hns : (srcs l r).length ≤ l.length := pls_len _ _
    have hnt : (tgts l r).length ≤ l.length := pls_len _ _
    have RV := Lib.hid hrv
    clear hrv
    by_cases e1 : 1000 < o1
    · go_wp2_with fail
      go_ret
      exact ⟨ret_int (HR0.out (.inl e1)).symm, S2.out, F2.out, Chs.of_below B2.out _⟩
    by_cases e2 : (srcs l r).length = 0
    · have q2 : (((srcs l r).length : Int) == 0) = true := by simp [e2]
      have E2 := Lib.hid e2
      clear e2
      go_wp2_with fail
      go_ret
      exact ⟨ret_int (HR0.out (.inr (.inl E2.out))).symm, S2.out, F2.out, Chs.of_below B2.out _⟩
    have q2 : (((srcs l r).length : Int) == 0) = false := beq_eq_false_iff_ne.2 (by omega)
    by_cases e3 : (tgts l r).length = 0
    · have q3 : (((tgts l r).length : Int) == 0) = true := by simp [e3]
      have E3 := Lib.hid e3
      clear e3
      go_wp2_with fail
      go_ret
      exact ⟨ret_int (HR0.out (.inr (.inr (.inl E3.out)))).symm, S2.out, F2.out, Chs.of_below B2.out _⟩
    have q3 : (((tgts l r).length : Int) == 0) = false := beq_eq_false_iff_ne.2 (by omega)
    by_cases e4 : 32 < ((srcs l r).length : Int)
    · go_wp2_with fail
      go_ret
      exact ⟨ret_int (HR0.out (.inr (.inr (.inr (.inl (by rw [LM.out]; exact e4)))))).symm, S2.out, F2.out, Chs.of_below B2.out _⟩
    by_cases e5 : 32 < ((tgts l r).length : Int)
    · go_wp2_with fail
      go_ret
      exact ⟨ret_int (HR0.out (.inr (.inr (.inr (.inr (by rw [LM.out]; exact e5)))))).symm, S2.out, F2.out, Chs.of_below B2.out _⟩
    have NE : Hid (¬ earlyN o1 o2 (srcs l r).length (tgts l r).length) := Lib.hid (by unfold earlyN; rw [LM.out]; rintro (h | h | h | h | h) <;> omega)
    obtain ⟨i0, hi0⟩ : ∃ i0, (srcs l r)[0]? = some i0 := ⟨(srcs l r)[0], List.getElem?_eq_getElem (by omega)⟩
    have hil := (pls_mem _ _ i0 (List.mem_of_getElem? hi0)).1
    obtain ⟨a1, rfl, _, hcell⟩ := RV.out.at_ (k := 0) (x := .int .i64 (i0 : Int)) (by simp [ntI2, hi0])
    obtain ⟨a2, rfl, _, hcc⟩ := L2.out i0 (l.getD i0 default) (by simp [hil])
    have hok := HKK.out i0 (l.getD i0 default) (by simp [hil])
    have hld := ld_oid hcc hok (HY.out i0 _ (by simp [hil])).1
    have h32 : (u8b (l.getD i0 default).oid).length = 32 := by rw [u8b_len]; exact hok.oid
    have hpos : 0 < (srcs l r).length := by omega
    rw [show a1.add 0 = a1 by simp [Addr.add]] at hcell
    have HR := Lib.hid (fread_any w2 gs [] _ _ _ _ S3.out (u8b (l.getD i0 default).oid) h32)
    clear hcc hok hi0 h32 e2 e3
    generalize u8b (l.getD i0 default).oid = id at *
    go_wp2_with fail
    go_loopw [16] (fun kv wr => kv = .int .i64 0 ∧ Hid (wr = w2)) (fun _ _ => 0)
    case atStart => exact ⟨rfl, rfl⟩
    case round =>
      obtain ⟨rfl, hw⟩ := hrel
      have hw := hw.out
      subst hw
      go_wp2_with (go_at_call 55; refine HR.out.mono ?_; rintro e5 w5 ⟨fr5, hs5, hc5, ⟨x, hx, _⟩ | ⟨_, rfl⟩⟩; (· cases hx); have C5 := Lib.hid hc5; have S5 := Lib.hid hs5; clear hc5 hs5)
      go_ret
      exact ⟨ret_int (HR1.out NE.out).symm, ⟨_, _, _, S5.out⟩, F2.out.chs C5.out HGS.out.1 HGS.out.2, (Chs.of_below B2.out _).trans C5.out⟩
  by_cases c2 : 32 < o2
  · have LM : Hid (limN o2 = 32) := Lib.hid (by unfold limN; rw [if_pos (.inr c2)])
    by_cases d1 : o1 < 1
    · go_wp2_with fail
      clear hc0 hc1
      refine rnear1 w0 B w.heap.size v0 v1 v2 v3 l A c r F0.out LEN.out L0.out hn _ _ _ _ _ _ _ _ _ _ _ _ _ _ _ _ _ _ _ _ _ _ _ _ _ _ _ _ _ _ _ _ _ _ _ _ _ _ _ _ _ _ _ _ _ _ _ _ _ _ _ _ _ _ _ _ _ _ _ _ _ _ _ _ _ _ _ _ _ _ _ _ _ _ _ _ _ _ _ _ _ _ _ _ _ _ _ _ _ _ _ _ _ _ _ _ _ _ _ _ _ _ _ _ _ _ _ _ _ _ _ _ _ _ _ _ _ _ _ _ _ _ _ _ _ _ _ _ _ _ _ _ _ _ _ _ _ _ _ _ _ _ _ _ _ _ _ _ _ _ _ _ _ _ _ _ _ _ _ _ _ _ _ _ _ _ _ _ _ _ _ _ _ _ _ _ _ _ _ _ _ _ _ _ _ _ _ _ _ _ _ _ _ _ _ _ _ _ _ _ _ _ _ _ _ _ _ _ _ _ _ _ _ _ _ _ _ _ _ _ _ _ _ _ _ _ _ _ _ _ _ _ _ _ _ _ _ _ _ _ _ _ _ _ _ _ _ _ _ _ _ _ _ _ _ _ _ _ _ _ _ _ _ _ _ _ _ _ _ _ _ _ _ _ _ _ _ _ _ _ _ _ _ _ _ _ ?_
      refine Lib.hid ?_
      intro v11 v12 w2
      intros
      rename_i h11 h12 hb2
      have B2 := Lib.hid (B0.out.trans (hb2.out.mono B0.out.size))
      have S2 : Hid (∃ A c fr, Rsp w2 gs [] A c fr t) := Lib.hid ⟨_, _, _, S0.out.below hb2.out⟩
      have S3 := Lib.hid (S0.out.below hb2.out)
      have F2 := Lib.hid (FG.out.later (Rn.later_of_below hb2.out (Nat.le_refl _)))
      have L2 : Hid (LReads w2 B A l) := Lib.hid (LB.out.keep fun p hp => B2.out.cell (Nat.lt_of_lt_of_le hp HBB.out))
      change Hid (w2.ownsRow w0.heap.size 3 1 v11 (srcs l r).length (ntI2 (srcs l r))) at h11
      change Hid (w2.ownsRow w0.heap.size 3 1 v12 (tgts l r).length (ntI2 (tgts l r))) at h12
      obtain ⟨D, d, rfl, _, hcd, hrv, _⟩ := own_all h11.out
      obtain ⟨E, e, rfl, _, hce, _, _⟩ := own_all h12.out
      have hns : (srcs l r).length ≤ l.length := pls_len _ _
      have hnt : (tgts l r).length ≤ l.length := pls_len _ _
      have RV := Lib.hid hrv
      clear hrv
      have e1 : ¬ 1000 < o1 := by omega
      by_cases e2 : (srcs l r).length = 0
      · have q2 : (((srcs l r).length : Int) == 0) = true := by simp [e2]
        have E2 := Lib.hid e2
        clear e2
        go_wp2_with fail
        go_ret
        exact ⟨ret_int (HR0.out (.inr (.inl E2.out))).symm, S2.out, F2.out, Chs.of_below B2.out _⟩
      have q2 : (((srcs l r).length : Int) == 0) = false := beq_eq_false_iff_ne.2 (by omega)
      by_cases e3 : (tgts l r).length = 0
      · have q3 : (((tgts l r).length : Int) == 0) = true := by simp [e3]
        have E3 := Lib.hid e3
        clear e3
        go_wp2_with fail
        go_ret
        exact ⟨ret_int (HR0.out (.inr (.inr (.inl E3.out)))).symm, S2.out, F2.out, Chs.of_below B2.out _⟩
      have q3 : (((tgts l r).length : Int) == 0) = false := beq_eq_false_iff_ne.2 (by omega)
      by_cases e4 : 32 < ((srcs l r).length : Int)
      · go_wp2_with fail
        go_ret
        exact ⟨ret_int (HR0.out (.inr (.inr (.inr (.inl (by rw [LM.out]; exact e4)))))).symm, S2.out, F2.out, Chs.of_below B2.out _⟩
      by_cases e5 : 32 < ((tgts l r).length : Int)
      · go_wp2_with fail
        go_ret
        exact ⟨ret_int (HR0.out (.inr (.inr (.inr (.inr (by rw [LM.out]; exact e5)))))).symm, S2.out, F2.out, Chs.of_below B2.out _⟩
      have NE : Hid (¬ earlyN o1 o2 (srcs l r).length (tgts l r).length) := Lib.hid (by unfold earlyN; rw [LM.out]; rintro (h | h | h | h | h) <;> omega)
      obtain ⟨i0, hi0⟩ : ∃ i0, (srcs l r)[0]? = some i0 := ⟨(srcs l r)[0], List.getElem?_eq_getElem (by omega)⟩
      have hil := (pls_mem _ _ i0 (List.mem_of_getElem? hi0)).1
      obtain ⟨a1, rfl, _, hcell⟩ := RV.out.at_ (k := 0) (x := .int .i64 (i0 : Int)) (by simp [ntI2, hi0])
      obtain ⟨a2, rfl, _, hcc⟩ := L2.out i0 (l.getD i0 default) (by simp [hil])
      have hok := HKK.out i0 (l.getD i0 default) (by simp [hil])
      have hld := ld_oid hcc hok (HY.out i0 _ (by simp [hil])).1
      have h32 : (u8b (l.getD i0 default).oid).length = 32 := by rw [u8b_len]; exact hok.oid
      have hpos : 0 < (srcs l r).length := by omega
      rw [show a1.add 0 = a1 by simp [Addr.add]] at hcell
      have HR := Lib.hid (fread_any w2 gs [] _ _ _ _ S3.out (u8b (l.getD i0 default).oid) h32)
      clear hcc hok hi0 h32 e2 e3
      generalize u8b (l.getD i0 default).oid = id at *
      go_wp2_with fail
      go_loopw [16] (fun kv wr => kv = .int .i64 0 ∧ Hid (wr = w2)) (fun _ _ => 0)
      case atStart => exact ⟨rfl, rfl⟩
      case round =>
        obtain ⟨rfl, hw⟩ := hrel
        have hw := hw.out
        subst hw
        go_wp2_with (go_at_call 55; refine HR.out.mono ?_; rintro e5 w5 ⟨fr5, hs5, hc5, ⟨x, hx, _⟩ | ⟨_, rfl⟩⟩; (· cases hx); have C5 := Lib.hid hc5; have S5 := Lib.hid hs5; clear hc5 hs5)
        go_ret
        exact ⟨ret_int (HR1.out NE.out).symm, ⟨_, _, _, S5.out⟩, F2.out.chs C5.out HGS.out.1 HGS.out.2, (Chs.of_below B2.out _).trans C5.out⟩
    go_wp2_with fail
    clear hc0 hc1
    refine rnear1 w0 B w.heap.size v0 v1 v2 v3 l A c r F0.out LEN.out L0.out hn _ _ _ _ _ _ _ _ _ _ _ _ _ _ _ _ _ _ _ _ _ _ _ _ _ _ _ _ _ _ _ _ _ _ _ _ _ _ _ _ _ _ _ _ _ _ _ _ _ _ _ _ _ _ _ _ _ _ _ _ _ _ _ _ _ _ _ _ _ _ _ _ _ _ _ _ _ _ _ _ _ _ _ _ _ _ _ _ _ _ _ _ _ _ _ _ _ _ _ _ _ _ _ _ _ _ _ _ _ _ _ _ _ _ _ _ _ _ _ _ _ _ _ _ _ _ _ _ _ _ _ _ _ _ _ _ _ _ _ _ _ _ _ _ _ _ _ _ _ _ _ _ _ _ _ _ _ _ _ _ _ _ _ _ _ _ _ _ _ _ _ _ _ _ _ _ _ _ _ _ _ _ _ _ _ _ _ _ _ _ _ _ _ _ _ _ _ _ _ _ _ _ _ _ _ _ _ _ _ _ _ _ _ _ _ _ _ _ _ _ _ _ _ _ _ _ _ _ _ _ _ _ _ _ _ _ _ _ _ _ _ _ _ _ _ _ _ _ _ _ _ _ _ _ _ _ _ _ _ _ _ _ _ _ _ _ _ _ _ _ _ _ _ _ _ _ _ _ _ _ _ _ _ _ _ _ ?_
    refine Lib.hid ?_
    intro v11 v12 w2
    intros
    rename_i h11 h12 hb2
    have B2 := Lib.hid (B0.out.trans (hb2.out.mono B0.out.size))
    have S2 : Hid (∃ A c fr, Rsp w2 gs [] A c fr t) := Lib.hid ⟨_, _, _, S0.out.below hb2.out⟩
    have S3 := Lib.hid (S0.out.below hb2.out)
    have F2 := Lib.hid (FG.out.later (Rn.later_of_below hb2.out (Nat.le_refl _)))
    have L2 : Hid (LReads w2 B A l) := Lib.hid (LB.out.keep fun p hp => B2.out.cell (Nat.lt_of_lt_of_le hp HBB.out))
    change Hid (w2.ownsRow w0.heap.size 3 1 v11 (srcs l r).length (ntI2 (srcs l r))) at h11
    change Hid (w2.ownsRow w0.heap.size 3 1 v12 (tgts l r).length (ntI2 (tgts l r))) at h12
    obtain ⟨D, d, rfl, _, hcd, hrv, _⟩ := own_all h11.out
    obtain ⟨E, e, rfl, _, hce, _, _⟩ := own_all h12.out
    have hns : (srcs l r).length ≤ l.length := pls_len _ _
    have hnt : (tgts l r).length ≤ l.length := pls_len _ _
    have RV := Lib.hid hrv
    clear hrv
    by_cases e1 : 1000 < o1
    · go_wp2_with fail
      go_ret
      exact ⟨ret_int (HR0.out (.inl e1)).symm, S2.out, F2.out, Chs.of_below B2.out _⟩
    by_cases e2 : (srcs l r).length = 0
    · have q2 : (((srcs l r).length : Int) == 0) = true := by simp [e2]
      have E2 := Lib.hid e2
      clear e2
      go_wp2_with fail
      go_ret
      exact ⟨ret_int (HR0.out (.inr (.inl E2.out))).symm, S2.out, F2.out, Chs.of_below B2.out _⟩
    have q2 : (((srcs l r).length : Int) == 0) = false := beq_eq_false_iff_ne.2 (by omega)
    by_cases e3 : (tgts l r).length = 0
    · have q3 : (((tgts l r).length : Int) == 0) = true := by simp [e3]
      have E3 := Lib.hid e3
      clear e3
      go_wp2_with fail
      go_ret
      exact ⟨ret_int (HR0.out (.inr (.inr (.inl E3.out)))).symm, S2.out, F2.out, Chs.of_below B2.out _⟩
    have q3 : (((tgts l r).length : Int) == 0) = false := beq_eq_false_iff_ne.2 (by omega)
    by_cases e4 : 32 < ((srcs l r).length : Int)
    · go_wp2_with fail
      go_ret
      exact ⟨ret_int (HR0.out (.inr (.inr (.inr (.inl (by rw [LM.out]; exact e4)))))).symm, S2.out, F2.out, Chs.of_below B2.out _⟩
    by_cases e5 : 32 < ((tgts l r).length : Int)
    · go_wp2_with fail
      go_ret
      exact ⟨ret_int (HR0.out (.inr (.inr (.inr (.inr (by rw [LM.out]; exact e5)))))).symm, S2.out, F2.out, Chs.of_below B2.out _⟩
    have NE : Hid (¬ earlyN o1 o2 (srcs l r).length (tgts l r).length) := Lib.hid (by unfold earlyN; rw [LM.out]; rintro (h | h | h | h | h) <;> omega)
    obtain ⟨i0, hi0⟩ : ∃ i0, (srcs l r)[0]? = some i0 := ⟨(srcs l r)[0], List.getElem?_eq_getElem (by omega)⟩
    have hil := (pls_mem _ _ i0 (List.mem_of_getElem? hi0)).1
    obtain ⟨a1, rfl, _, hcell⟩ := RV.out.at_ (k := 0) (x := .int .i64 (i0 : Int)) (by simp [ntI2, hi0])
    obtain ⟨a2, rfl, _, hcc⟩ := L2.out i0 (l.getD i0 default) (by simp [hil])
    have hok := HKK.out i0 (l.getD i0 default) (by simp [hil])
    have hld := ld_oid hcc hok (HY.out i0 _ (by simp [hil])).1
    have h32 : (u8b (l.getD i0 default).oid).length = 32 := by rw [u8b_len]; exact hok.oid
    have hpos : 0 < (srcs l r).length := by omega
    rw [show a1.add 0 = a1 by simp [Addr.add]] at hcell
    have HR := Lib.hid (fread_any w2 gs [] _ _ _ _ S3.out (u8b (l.getD i0 default).oid) h32)
    clear hcc hok hi0 h32 e2 e3
    generalize u8b (l.getD i0 default).oid = id at *
    go_wp2_with fail
    go_loopw [16] (fun kv wr => kv = .int .i64 0 ∧ Hid (wr = w2)) (fun _ _ => 0)
    case atStart => exact ⟨rfl, rfl⟩
    case round =>
      obtain ⟨rfl, hw⟩ := hrel
      have hw := hw.out
      subst hw
      go_wp2_with (go_at_call 55; refine HR.out.mono ?_; rintro e5 w5 ⟨fr5, hs5, hc5, ⟨x, hx, _⟩ | ⟨_, rfl⟩⟩; (· cases hx); have C5 := Lib.hid hc5; have S5 := Lib.hid hs5; clear hc5 hs5)
      go_ret
      exact ⟨ret_int (HR1.out NE.out).symm, ⟨_, _, _, S5.out⟩, F2.out.chs C5.out HGS.out.1 HGS.out.2, (Chs.of_below B2.out _).trans C5.out⟩
  have LM : Hid (limN o2 = o2) := Lib.hid (by unfold limN; rw [if_neg (by omega)])
  by_cases d1 : o1 < 1
  · go_wp2_with fail
    clear hc0 hc1
    refine rnear1 w0 B w.heap.size v0 v1 v2 v3 l A c r F0.out LEN.out L0.out hn _ _ _ _ _ _ _ _ _ _ _ _ _ _ _ _ _ _ _ _ _ _ _ _ _ _ _ _ _ _ _ _ _ _ _ _ _ _ _ _ _ _ _ _ _ _ _ _ _ _ _ _ _ _ _ _ _ _ _ _ _ _ _ _ _ _ _ _ _ _ _ _ _ _ _ _ _ _ _ _ _ _ _ _ _ _ _ _ _ _ _ _ _ _ _ _ _ _ _ _ _ _ _ _ _ _ _ _ _ _ _ _ _ _ _ _ _ _ _ _ _ _ _ _ _ _ _ _ _ _ _ _ _ _ _ _ _ _ _ _ _ _ _ _ _ _ _ _ _ _ _ _ _ _ _ _ _ _ _ _ _ _ _ _ _ _ _ _ _ _ _ _ _ _ _ _ _ _ _ _ _ _ _ _ _ _ _ _ _ _ _ _ _ _ _ _ _ _ _ _ _ _ _ _ _ _ _ _ _ _ _ _ _ _ _ _ _ _ _ _ _ _ _ _ _ _ _ _ _ _ _ _ _ _ _ _ _ _ _ _ _ _ _ _ _ _ _ _ _ _ _ _ _ _ _ _ _ _ _ _ _ _ _ _ _ _ _ _ _ _ _ _ _ _ _ _ _ _ _ _ _ _ _ _ _ _ ?_
    refine Lib.hid ?_
    intro v11 v12 w2
    intros
    rename_i h11 h12 hb2
    have B2 := Lib.hid (B0.out.trans (hb2.out.mono B0.out.size))
    have S2 : Hid (∃ A c fr, Rsp w2 gs [] A c fr t) := Lib.hid ⟨_, _, _, S0.out.below hb2.out⟩
    have S3 := Lib.hid (S0.out.below hb2.out)
    have F2 := Lib.hid (FG.out.later (Rn.later_of_below hb2.out (Nat.le_refl _)))
    have L2 : Hid (LReads w2 B A l) := Lib.hid (LB.out.keep fun p hp => B2.out.cell (Nat.lt_of_lt_of_le hp HBB.out))
    change Hid (w2.ownsRow w0.heap.size 3 1 v11 (srcs l r).length (ntI2 (srcs l r))) at h11
    change Hid (w2.ownsRow w0.heap.size 3 1 v12 (tgts l r).length (ntI2 (tgts l r))) at h12
    obtain ⟨D, d, rfl, _, hcd, hrv, _⟩ := own_all h11.out
    obtain ⟨E, e, rfl, _, hce, _, _⟩ := own_all h12.out
    have hns : (srcs l r).length ≤ l.length := pls_len _ _
    have hnt : (tgts l r).length ≤ l.length := pls_len _ _
    have RV := Lib.hid hrv
    clear hrv
    have e1 : ¬ 1000 < o1 := by omega
    by_cases e2 : (srcs l r).length = 0
    · have q2 : (((srcs l r).length : Int) == 0) = true := by simp [e2]
      have E2 := Lib.hid e2
      clear e2
      go_wp2_with fail
      go_ret
      exact ⟨ret_int (HR0.out (.inr (.inl E2.out))).symm, S2.out, F2.out, Chs.of_below B2.out _⟩
    have q2 : (((srcs l r).length : Int) == 0) = false := beq_eq_false_iff_ne.2 (by omega)
    by_cases e3 : (tgts l r).length = 0
    · have q3 : (((tgts l r).length : Int) == 0) = true := by simp [e3]
      have E3 := Lib.hid e3
      clear e3
      go_wp2_with fail
      go_ret
      exact ⟨ret_int (HR0.out (.inr (.inr (.inl E3.out)))).symm, S2.out, F2.out, Chs.of_below B2.out _⟩
    have q3 : (((tgts l r).length : Int) == 0) = false := beq_eq_false_iff_ne.2 (by omega)
    by_cases e4 : o2 < ((srcs l r).length : Int)
    · go_wp2_with fail
      go_ret
      exact ⟨ret_int (HR0.out (.inr (.inr (.inr (.inl (by rw [LM.out]; exact e4)))))).symm, S2.out, F2.out, Chs.of_below B2.out _⟩
    by_cases e5 : o2 < ((tgts l r).length : Int)
    · go_wp2_with fail
      go_ret
      exact ⟨ret_int (HR0.out (.inr (.inr (.inr (.inr (by rw [LM.out]; exact e5)))))).symm, S2.out, F2.out, Chs.of_below B2.out _⟩
    have NE : Hid (¬ earlyN o1 o2 (srcs l r).length (tgts l r).length) := Lib.hid (by unfold earlyN; rw [LM.out]; rintro (h | h | h | h | h) <;> omega)
    obtain ⟨i0, hi0⟩ : ∃ i0, (srcs l r)[0]? = some i0 := ⟨(srcs l r)[0], List.getElem?_eq_getElem (by omega)⟩
    have hil := (pls_mem _ _ i0 (List.mem_of_getElem? hi0)).1
    obtain ⟨a1, rfl, _, hcell⟩ := RV.out.at_ (k := 0) (x := .int .i64 (i0 : Int)) (by simp [ntI2, hi0])
    obtain ⟨a2, rfl, _, hcc⟩ := L2.out i0 (l.getD i0 default) (by simp [hil])
    have hok := HKK.out i0 (l.getD i0 default) (by simp [hil])
    have hld := ld_oid hcc hok (HY.out i0 _ (by simp [hil])).1
    have h32 : (u8b (l.getD i0 default).oid).length = 32 := by rw [u8b_len]; exact hok.oid
    have hpos : 0 < (srcs l r).length := by omega
    rw [show a1.add 0 = a1 by simp [Addr.add]] at hcell
    have HR := Lib.hid (fread_any w2 gs [] _ _ _ _ S3.out (u8b (l.getD i0 default).oid) h32)
    clear hcc hok hi0 h32 e2 e3
    generalize u8b (l.getD i0 default).oid = id at *
    go_wp2_with fail
    go_loopw [16] (fun kv wr => kv = .int .i64 0 ∧ Hid (wr = w2)) (fun _ _ => 0)
    case atStart => exact ⟨rfl, rfl⟩
    case round =>
      obtain ⟨rfl, hw⟩ := hrel
      have hw := hw.out
      subst hw
      go_wp2_with (go_at_call 55; refine HR.out.mono ?_; rintro e5 w5 ⟨fr5, hs5, hc5, ⟨x, hx, _⟩ | ⟨_, rfl⟩⟩; (· cases hx); have C5 := Lib.hid hc5; have S5 := Lib.hid hs5; clear hc5 hs5)
      go_ret
      exact ⟨ret_int (HR1.out NE.out).symm, ⟨_, _, _, S5.out⟩, F2.out.chs C5.out HGS.out.1 HGS.out.2, (Chs.of_below B2.out _).trans C5.out⟩
  go_wp2_with fail
  clear hc0 hc1
  refine rnear1 w0 B w.heap.size v0 v1 v2 v3 l A c r F0.out LEN.out L0.out hn _ _ _ _ _ _ _ _ _ _ _ _ _ _ _ _ _ _ _ _ _ _ _ _ _ _ _ _ _ _ _ _ _ _ _ _ _ _ _ _ _ _ _ _ _ _ _ _ _ _ _ _ _ _ _ _ _ _ _ _ _ _ _ _ _ _ _ _ _ _ _ _ _ _ _ _ _ _ _ _ _ _ _ _ _ _ _ _ _ _ _ _ _ _ _ _ _ _ _ _ _ _ _ _ _ _ _ _ _ _ _ _ _ _ _ _ _ _ _ _ _ _ _ _ _ _ _ _ _ _ _ _ _ _ _ _ _ _ _ _ _ _ _ _ _ _ _ _ _ _ _ _ _ _ _ _ _ _ _ _ _ _ _ _ _ _ _ _ _ _ _ _ _ _ _ _ _ _ _ _ _ _ _ _ _ _ _ _ _ _ _ _ _ _ _ _ _ _ _ _ _ _ _ _ _ _ _ _ _ _ _ _ _ _ _ _ _ _ _ _ _ _ _ _ _ _ _ _ _ _ _ _ _ _ _ _ _ _ _ _ _ _ _ _ _ _ _ _ _ _ _ _ _ _ _ _ _ _ _ _ _ _ _ _ _ _ _ _ _ _ _ _ _ _ _ _ _ _ _ _ _ _ _ _ _ _ ?_
  refine Lib.hid ?_
  intro v11 v12 w2
  intros
  rename_i h11 h12 hb2
  have B2 := Lib.hid (B0.out.trans (hb2.out.mono B0.out.size))
  have S2 : Hid (∃ A c fr, Rsp w2 gs [] A c fr t) := Lib.hid ⟨_, _, _, S0.out.below hb2.out⟩
  have S3 := Lib.hid (S0.out.below hb2.out)
  have F2 := Lib.hid (FG.out.later (Rn.later_of_below hb2.out (Nat.le_refl _)))
  have L2 : Hid (LReads w2 B A l) := Lib.hid (LB.out.keep fun p hp => B2.out.cell (Nat.lt_of_lt_of_le hp HBB.out))
  change Hid (w2.ownsRow w0.heap.size 3 1 v11 (srcs l r).length (ntI2 (srcs l r))) at h11
  change Hid (w2.ownsRow w0.heap.size 3 1 v12 (tgts l r).length (ntI2 (tgts l r))) at h12
  obtain ⟨D, d, rfl, _, hcd, hrv, _⟩ := own_all h11.out
  obtain ⟨E, e, rfl, _, hce, _, _⟩ := own_all h12.out
  have hns : (srcs l r).length ≤ l.length := pls_len _ _
  have hnt : (tgts l r).length ≤ l.length := pls_len _ _
  have RV := Lib.hid hrv
  clear hrv
  by_cases e1 : 1000 < o1
  · go_wp2_with fail
    go_ret
    exact ⟨ret_int (HR0.out (.inl e1)).symm, S2.out, F2.out, Chs.of_below B2.out _⟩
  by_cases e2 : (srcs l r).length = 0
  · have q2 : (((srcs l r).length : Int) == 0) = true := by simp [e2]
    have E2 := Lib.hid e2
    clear e2
    go_wp2_with fail
    go_ret
    exact ⟨ret_int (HR0.out (.inr (.inl E2.out))).symm, S2.out, F2.out, Chs.of_below B2.out _⟩
  have q2 : (((srcs l r).length : Int) == 0) = false := beq_eq_false_iff_ne.2 (by omega)
  by_cases e3 : (tgts l r).length = 0
  · have q3 : (((tgts l r).length : Int) == 0) = true := by simp [e3]
    have E3 := Lib.hid e3
    clear e3
    go_wp2_with fail
    go_ret
    exact ⟨ret_int (HR0.out (.inr (.inr (.inl E3.out)))).symm, S2.out, F2.out, Chs.of_below B2.out _⟩
  have q3 : (((tgts l r).length : Int) == 0) = false := beq_eq_false_iff_ne.2 (by omega)
  by_cases e4 : o2 < ((srcs l r).length : Int)
  · go_wp2_with fail
    go_ret
    exact ⟨ret_int (HR0.out (.inr (.inr (.inr (.inl (by rw [LM.out]; exact e4)))))).symm, S2.out, F2.out, Chs.of_below B2.out _⟩
  by_cases e5 : o2 < ((tgts l r).length : Int)
  · go_wp2_with fail
    go_ret
    exact ⟨ret_int (HR0.out (.inr (.inr (.inr (.inr (by rw [LM.out]; exact e5)))))).symm, S2.out, F2.out, Chs.of_below B2.out _⟩
  have NE : Hid (¬ earlyN o1 o2 (srcs l r).length (tgts l r).length) := Lib.hid (by unfold earlyN; rw [LM.out]; rintro (h | h | h | h | h) <;> omega)
  obtain ⟨i0, hi0⟩ : ∃ i0, (srcs l r)[0]? = some i0 := ⟨(srcs l r)[0], List.getElem?_eq_getElem (by omega)⟩
  have hil := (pls_mem _ _ i0 (List.mem_of_getElem? hi0)).1
  obtain ⟨a1, rfl, _, hcell⟩ := RV.out.at_ (k := 0) (x := .int .i64 (i0 : Int)) (by simp [ntI2, hi0])
  obtain ⟨a2, rfl, _, hcc⟩ := L2.out i0 (l.getD i0 default) (by simp [hil])
  have hok := HKK.out i0 (l.getD i0 default) (by simp [hil])
  have hld := ld_oid hcc hok (HY.out i0 _ (by simp [hil])).1
  have h32 : (u8b (l.getD i0 default).oid).length = 32 := by rw [u8b_len]; exact hok.oid
  have hpos : 0 < (srcs l r).length := by omega
  rw [show a1.add 0 = a1 by simp [Addr.add]] at hcell
  have HR := Lib.hid (fread_any w2 gs [] _ _ _ _ S3.out (u8b (l.getD i0 default).oid) h32)
  clear hcc hok hi0 h32 e2 e3
  generalize u8b (l.getD i0 default).oid = id at *
  go_wp2_with fail
  go_loopw [16] (fun kv wr => kv = .int .i64 0 ∧ Hid (wr = w2)) (fun _ _ => 0)
  case atStart => exact ⟨rfl, rfl⟩
  case round =>
    obtain ⟨rfl, hw⟩ := hrel
    have hw := hw.out
    subst hw
    go_wp2_with (go_at_call 55; refine HR.out.mono ?_; rintro e5 w5 ⟨fr5, hs5, hc5, ⟨x, hx, _⟩ | ⟨_, rfl⟩⟩; (· cases hx); have C5 := Lib.hid hc5; have S5 := Lib.hid hs5; clear hc5 hs5)
    go_ret
    exact ⟨ret_int (HR1.out NE.out).symm, ⟨_, _, _, S5.out⟩, F2.out.chs C5.out HGS.out.1 HGS.out.2, (Chs.of_below B2.out _).trans C5.out⟩
end Go.Proofs.YtbmpidacoohdmaaGreat

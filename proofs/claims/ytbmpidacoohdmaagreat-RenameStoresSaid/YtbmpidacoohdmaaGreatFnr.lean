/- sleuthref26.Find over a store that has nothing. -/
import Derived.Test.YtbmpidacoohdmaaGreatRns
namespace Go.Proofs.YtbmpidacoohdmaaGreat
open Go.RowKit Op
open Rn (Chg LReads CellsAt Fnd St Oks stP stR finP finR outTo Flds rowsS int_at boo_at)

theorem ld43_eq (a : Addr) : loadVar 43 a = ldT 43 a := rfl
theorem ld73_eq (a : Addr) : loadVar 73 a = ldT 73 a := rfl
theorem inf43 : (Tryz.prog.info? 43).map (·.size) = some 3 := by kernel_rfl
theorem Rn.Flds.lower {w : World} {B B2 g : Nat} {t : TypeId} {vs : List Value} {rs : List (TypeId × List Value)} (h : Flds w B g t vs rs) (hB : B2 ≤ B) : Flds w B2 g t vs rs := by
  refine ⟨h.blk, h.len, fun i v r hv hr => ?_, h.far, h.off⟩
  obtain ⟨h1, h2⟩ := h.own i v r hv hr
  refine ⟨h1, ?_⟩
  rcases h2 with h2 | ⟨b, cap, cur, hv', hb, hrest⟩
  · exact .inl h2
  · exact .inr ⟨b, cap, cur, hv', Nat.le_trans hB hb, hrest⟩
theorem rtold (w1 : World) (l : List Chg) (A : Option Addr) (c B g : Nat) (v0 v1 v2 v3 : Value) (s : St) (h : Flds w1 B g 73 [v0, v1, v2, v3] (rowsS s)) (hlen : s.fr.length = l.length ∧ s.sc.length = l.length ∧ s.kd.length = l.length ∧ s.tk.length = l.length) (hl1 : LReads w1 w1.heap.size A l) (ok : Oks l) (hn : l.length ≤ 40) (hfr : ∀ k, 0 < s.kd.getD k 0 → ∃ i : Nat, i < l.length ∧ s.fr.getD k 0 = i) :
    Calls Tryz.prog 25 #[.slice A l.length c, .agg #[v0, v1, v2, v3]] w1
      fun e w' => ∃ v, e = .returned v ∧ w'.ownsRow w1.heap.size 53 70 v (outTo l s l.length).length ((outTo l s l.length).flatMap Chg.cells) ∧ Below w1.heap.size w1 w' := by
  obtain ⟨lF, lS, lK, lT⟩ := hlen
  obtain ⟨AF, cF, rfl, rF⟩ := Rn.own_rd (h.own 0 v0 _ rfl rfl)
  obtain ⟨AK, cK, rfl, rK⟩ := Rn.own_rd (h.own 1 v1 _ rfl rfl)
  obtain ⟨AS, cS, rfl, rS⟩ := Rn.own_rd (h.own 2 v2 _ rfl rfl)
  obtain ⟨AT, cT, rfl, rT⟩ := Rn.own_rd (h.own 3 v3 _ rfl rfl)
  have e0 : (Rn.ints s.fr).length = l.length := by simp [Rn.ints, lF]
  have e1 : (Rn.ints s.kd).length = l.length := by simp [Rn.ints, lK]
  have e2 : (Rn.ints s.sc).length = l.length := by simp [Rn.ints, lS]
  have e3 : (Rn.boos s.tk).length = l.length := by simp [Rn.boos, lT]
  simp only [e0, e1, e2, e3]
  exact Rn.told_any w1 l A AF AK AS AT c cF cK cS cT s hl1 ok hn rF rK rS rT lF lK lS lT hfr
theorem srcs_pr (l : List Chg) : srcs l (stP l) = srcs l (stR l) := by
  have h := Rn.agree l l.length (Nat.le_refl _)
  unfold srcs
  congr 1
  funext k
  unfold Rn.isSource
  rw [show (stP l).tk = (stR l).tk from h.tk]
theorem tgts_pr (l : List Chg) : tgts l (stP l) = tgts l (stR l) := by
  have h := Rn.agree l l.length (Nat.le_refl _)
  unfold tgts
  congr 1
  funext k
  unfold Rn.isTarget
  rw [show (stP l).kd = (stR l).kd from h.kd]
theorem finR_len (l : List Chg) (o : Bool) : (finR l o).fr.length = l.length ∧ (finR l o).sc.length = l.length ∧ (finR l o).kd.length = l.length ∧ (finR l o).tk.length = l.length := by
  cases o with
  | false => exact Rn.refTo_len l l.length
  | true => exact Rn.rcTo_len l _ (Rn.refTo_len l l.length) l.length
structure FRPost (w : World) (gs : Nat) (L : List Chg) (D : Option Addr) (w2 : World) : Prop where
  rd : LReads w2 w2.heap.size D L
  chs : Chs (fun k => k = gs) w w2
theorem LReads.gs {w w2 : World} {B gs : Nat} {A : Option Addr} {l : List Chg} (h : LReads w B A l) (hB : B ≤ w.heap.size) (hc : Chs (fun k => k = gs) w w2) (hA : ∀ ad, A = some ad → ad.block ≠ gs) : LReads w2 B A l := fun k x hx => by
  obtain ⟨ad, e, hb, hcs⟩ := h k x hx
  exact ⟨ad, e, hb, hcs.keep fun p hp => World.cell?_of_block (hc.block p.block (by rw [hp, block_add]; omega) (fun q => hA ad e (by rw [← q, hp, block_add])))⟩
attribute [local go_sem ↓] ld43_eq ld73_eq
attribute [local go_sem] Rn.setRow_alloc_at

set_option maxHeartbeats 1000000 in
theorem rfind_short (w : World) (gs : Nat) (AA : Option Addr) (cc : Nat) (fr : Bool) (t : Int) (hs : Rsp w gs [] AA cc fr t) (A : Option Addr) (c : Nat) (l : List Chg) (hl : LReads w w.heap.size A l) (ok : Oks l) (hn : l.length ≤ 40) (hby : BytL l) (hA : ∀ ad, A = some ad → ad.block ≠ gs) (o1 o2 : Int) (o3 : Bool) :
    Calls Tryz.prog 8 #[.pointer (some ⟨gs, 0, none⟩), .slice A l.length c, .agg #[.int .i64 o1, .int .i64 o2, .bool o3]] w fun e w2 => ∃ D d, e = .returned (.tuple #[.slice D (resP l o1 o2 o3).length d, .int .i64 (if early l o1 o2 then 0 else 30)]) ∧ FRPost w gs (resP l o1 o2 o3) D w2 := by
  obtain ⟨r, hr⟩ : ∃ r : Int, (if early l o1 o2 then 0 else 30) = r := ⟨_, rfl⟩
  rw [hr]
  have HRE : Hid ((if earlyN o1 o2 (srcs l (stR l)).length (tgts l (stR l)).length then (0 : Int) else 30) = r) := Lib.hid (by rw [← srcs_pr, ← tgts_pr]; exact hr)
  have HR0 := Lib.hid (fun h : early l o1 o2 => hr.symm.trans (if_pos h))
  have HR1 := Lib.hid (fun h : ¬ early l o1 o2 => hr.symm.trans (if_neg h))
  have hgw : gs < w.heap.size := hs.lt
  have B0 := Lib.hid ((Below.refl w.heap.size w).alloc (Nat.le_refl _) (.cells #[.int .i64 o1, .int .i64 o2, .bool o3] 43))
  have O0 := Lib.hid (Ar.new w [.int .i64 o1, .int .i64 o2, .bool o3] 43)
  have S0 := Lib.hid (hs.below B0.out)
  have hl0 : LReads (w.alloc (.cells #[.int .i64 o1, .int .i64 o2, .bool o3] 43)) (w.alloc (.cells #[.int .i64 o1, .int .i64 o2, .bool o3] 43)).heap.size A l := (hl.keep fun p hp => B0.out.cell hp).more B0.out.size
  have LR0 := Lib.hid hl0
  have HX := Lib.hid (Rn.rexact_any _ l A c hl0 ok hn)
  have HY := Lib.hid hby
  have HA := Lib.hid hA
  have HK := Lib.hid ok
  have HGW := Lib.hid hgw
  have LEN := Lib.hid hn
  have SZ := Lib.hid (show (w.alloc (.cells #[.int .i64 o1, .int .i64 o2, .bool o3] 43)).heap.size = w.heap.size + 1 by simp)
  generalize hw0 : w.alloc (.cells #[.int .i64 o1, .int .i64 o2, .bool o3] 43) = w0 at *
  have RN0 := Lib.hid (fun h : early l o1 o2 => show resP l o1 o2 o3 = outTo l (finR l o3) l.length from (if_pos h).trans (Rn.fin_out l o3))
  have RN1 := Lib.hid (fun h : ¬ early l o1 o2 => show resP l o1 o2 o3 = [] from if_neg h)
  have ROK := Lib.hid (resP_oks l ok o1 o2 o3)
  generalize hL : resP l o1 o2 o3 = L at *
  clear hs hl ok hn hby hA hl0 hgw hL hr
  by_cases E : early l o1 o2
  · have hr0 := HR0.out E
    subst hr0
    cases o3 with
    | false =>
      go_enter Tryz.func8, Tryz.ntmps8
      go_wp2_with (first
    | (go_at_call 22; refine HX.out.mono ?_; rintro e w1 ⟨v0, v1, v2, v3, B, g, rfl, hF1, hB1, hBB⟩; have F1 := Lib.hid (hF1.lower hBB); have B1 := Lib.hid hB1; have HONE := Lib.hid (Rn.ones4 hF1); clear hF1 hB1 hBB)
    | (refine wpList_store_row rfl 73 (.tmp 8) (.tmp 11) rfl w1.heap.size #[v0, v1, v2, v3] rfl rfl 73 _ (heap_alloc_new _ _) Rn.info54 rfl HONE.out ?_; rw [Rn.setRow_alloc_at _ _ _ _ _ rfl]; have F2 : Hid (Flds (w1.alloc (.cells #[v0, v1, v2, v3] 73)) w0.heap.size w1.heap.size 73 [v0, v1, v2, v3] (rowsS (stR l))) := Lib.hid (F1.out.copied (fun i v hv => F1.out.below hv)); have B2 := Lib.hid (B1.out.alloc B1.out.size (.cells #[v0, v1, v2, v3] 73)); have O2 := Lib.hid (O0.out.below B2.out O0.out.lt); have S2 := Lib.hid (S0.out.below B2.out); have hld := ldA O2.out (n := 3) rfl Tryz.underlying43 rfl inf43; have hld2 := ldA (show Ar _ _ _ _ from F2.out.blk) (n := 4) rfl Tryz.underlying73 rfl Rn.info54; have W1 := Lib.hid B1.out.size)
    | (go_at_call 23; refine (rnear_short _ gs _ _ _ _ S2.out w0.heap.size w1.heap.size v0 v1 v2 v3 l A c (stR l) F2.out (Rn.refTo_len l l.length) B2.out.size ⟨S0.out.lt, by have := S0.out.lt; have := W1.out; omega⟩ (LR0.out.keep fun p hp => B2.out.cell hp) HK.out LEN.out HY.out o1 o2 _).mono ?_; rintro e w3 ⟨he, hp3⟩; obtain rfl := he.trans (by rw [HRE.out] : _ = Ending.returned (Value.int .i64 0)); have NP := Lib.hid hp3; clear hp3 he; have CH := Lib.hid (((Chs.of_below B0.out (fun q => q = gs)).trans (Chs.of_below B2.out (fun q => q = gs))).trans NP.out.chs); have O3 := Lib.hid (O2.out.chs NP.out.chs (fun k hk => S2.out.non (ty := 43) (by decide) k hk)); have hc2 := O3.out.cell (k := 2) rfl; have hld3 := ldA (show Ar _ _ _ _ from NP.out.fl.blk) (n := 4) rfl Tryz.underlying73 rfl Rn.info54; have L3 := Lib.hid (LReads.gs (LR0.out.keep fun p hp => B2.out.cell hp) B2.out.size NP.out.chs HA.out))
    | (go_at_call 25; refine (rtold _ l A c w0.heap.size w1.heap.size v0 v1 v2 v3 (finR l false) NP.out.fl (finR_len l false) (L3.out.more (Nat.le_trans B2.out.size NP.out.chs.size)) HK.out LEN.out (Rn.fin_frR l false)).mono ?_; rintro e w5 ⟨v, rfl, hO, hB5⟩; have G5 := Lib.hid hO; have B5 := Lib.hid hB5; clear hO hB5; obtain ⟨D, d, hv, hrd⟩ := Rn.own_reads ROK.out (by rw [RN0.out E]; exact G5.out); have RD := Lib.hid hrd; clear hrd; subst hv))
      go_ret2
      exact ⟨D, d, rfl, ⟨RD.out, CH.out.trans (Chs.of_below B5.out _)⟩⟩
    | true =>
      go_enter Tryz.func8, Tryz.ntmps8
      go_wp2_with (first
    | (go_at_call 22; refine HX.out.mono ?_; rintro e w1 ⟨v0, v1, v2, v3, B, g, rfl, hF1, hB1, hBB⟩; have F1 := Lib.hid (hF1.lower hBB); have B1 := Lib.hid hB1; have HONE := Lib.hid (Rn.ones4 hF1); clear hF1 hB1 hBB)
    | (refine wpList_store_row rfl 73 (.tmp 8) (.tmp 11) rfl w1.heap.size #[v0, v1, v2, v3] rfl rfl 73 _ (heap_alloc_new _ _) Rn.info54 rfl HONE.out ?_; rw [Rn.setRow_alloc_at _ _ _ _ _ rfl]; have F2 : Hid (Flds (w1.alloc (.cells #[v0, v1, v2, v3] 73)) w0.heap.size w1.heap.size 73 [v0, v1, v2, v3] (rowsS (stR l))) := Lib.hid (F1.out.copied (fun i v hv => F1.out.below hv)); have B2 := Lib.hid (B1.out.alloc B1.out.size (.cells #[v0, v1, v2, v3] 73)); have O2 := Lib.hid (O0.out.below B2.out O0.out.lt); have S2 := Lib.hid (S0.out.below B2.out); have hld := ldA O2.out (n := 3) rfl Tryz.underlying43 rfl inf43; have hld2 := ldA (show Ar _ _ _ _ from F2.out.blk) (n := 4) rfl Tryz.underlying73 rfl Rn.info54; have W1 := Lib.hid B1.out.size)
    | (go_at_call 23; refine (rnear_short _ gs _ _ _ _ S2.out w0.heap.size w1.heap.size v0 v1 v2 v3 l A c (stR l) F2.out (Rn.refTo_len l l.length) B2.out.size ⟨S0.out.lt, by have := S0.out.lt; have := W1.out; omega⟩ (LR0.out.keep fun p hp => B2.out.cell hp) HK.out LEN.out HY.out o1 o2 _).mono ?_; rintro e w3 ⟨he, hp3⟩; obtain rfl := he.trans (by rw [HRE.out] : _ = Ending.returned (Value.int .i64 0)); have NP := Lib.hid hp3; clear hp3 he; have CH := Lib.hid (((Chs.of_below B0.out (fun q => q = gs)).trans (Chs.of_below B2.out (fun q => q = gs))).trans NP.out.chs); have O3 := Lib.hid (O2.out.chs NP.out.chs (fun k hk => S2.out.non (ty := 43) (by decide) k hk)); have hc2 := O3.out.cell (k := 2) rfl; have hld3 := ldA (show Ar _ _ _ _ from NP.out.fl.blk) (n := 4) rfl Tryz.underlying73 rfl Rn.info54; have L3 := Lib.hid (LReads.gs (LR0.out.keep fun p hp => B2.out.cell hp) B2.out.size NP.out.chs HA.out))
    | (go_at_call 24; refine (Rn.rcopies_any w3 w0.heap.size w1.heap.size v0 v1 v2 v3 l A c (stR l) NP.out.fl (Rn.refTo_len l l.length) (Nat.le_trans B2.out.size NP.out.chs.size) L3.out HK.out LEN.out).mono ?_; rintro e w4 ⟨rfl, hF4, hB4⟩; have F4 : Hid (Flds w4 w0.heap.size w1.heap.size 73 [v0, v1, v2, v3] (rowsS (finR l true))) := Lib.hid hF4; have B4 := Lib.hid hB4; clear hF4 hB4; have hld4 := ldA (show Ar _ _ _ _ from F4.out.blk) (n := 4) rfl Tryz.underlying73 rfl Rn.info54)
    | (go_at_call 25; refine (rtold _ l A c w0.heap.size w1.heap.size v0 v1 v2 v3 (finR l true) F4.out (finR_len l true) ((L3.out.keep fun p hp => B4.out.cell hp).more (Nat.le_trans (Nat.le_trans B2.out.size NP.out.chs.size) B4.out.size)) HK.out LEN.out (Rn.fin_frR l true)).mono ?_; rintro e w5 ⟨v, rfl, hO, hB5⟩; have G5 := Lib.hid hO; have B5 := Lib.hid hB5; clear hO hB5; obtain ⟨D, d, hv, hrd⟩ := Rn.own_reads ROK.out (by rw [RN0.out E]; exact G5.out); have RD := Lib.hid hrd; clear hrd; subst hv))
      go_ret2
      have c4 : Chs (fun q => q = gs) w0 w4 := ⟨B4.out.os.trans (NP.out.chs.os.trans B2.out.os), B4.out.tape.trans (NP.out.chs.tape.trans B2.out.tape), B4.out.output.trans (NP.out.chs.output.trans B2.out.output), Nat.le_trans B2.out.size (Nat.le_trans NP.out.chs.size B4.out.size), fun k hk hn => (B4.out.block k hk).trans ((NP.out.chs.block k (Nat.lt_of_lt_of_le hk B2.out.size) hn).trans (B2.out.block k hk))⟩
      exact ⟨D, d, rfl, ⟨RD.out, ((Chs.of_below B0.out (fun q => q = gs)).trans c4).trans (Chs.of_below B5.out _)⟩⟩
  · have hr0 := HR1.out E
    subst hr0
    go_enter Tryz.func8, Tryz.ntmps8
    go_wp2_with (first
    | (go_at_call 22; refine HX.out.mono ?_; rintro e w1 ⟨v0, v1, v2, v3, B, g, rfl, hF1, hB1, hBB⟩; have F1 := Lib.hid (hF1.lower hBB); have B1 := Lib.hid hB1; have HONE := Lib.hid (Rn.ones4 hF1); clear hF1 hB1 hBB)
    | (refine wpList_store_row rfl 73 (.tmp 8) (.tmp 11) rfl w1.heap.size #[v0, v1, v2, v3] rfl rfl 73 _ (heap_alloc_new _ _) Rn.info54 rfl HONE.out ?_; rw [Rn.setRow_alloc_at _ _ _ _ _ rfl]; have F2 : Hid (Flds (w1.alloc (.cells #[v0, v1, v2, v3] 73)) w0.heap.size w1.heap.size 73 [v0, v1, v2, v3] (rowsS (stR l))) := Lib.hid (F1.out.copied (fun i v hv => F1.out.below hv)); have B2 := Lib.hid (B1.out.alloc B1.out.size (.cells #[v0, v1, v2, v3] 73)); have O2 := Lib.hid (O0.out.below B2.out O0.out.lt); have S2 := Lib.hid (S0.out.below B2.out); have hld := ldA O2.out (n := 3) rfl Tryz.underlying43 rfl inf43; have hld2 := ldA (show Ar _ _ _ _ from F2.out.blk) (n := 4) rfl Tryz.underlying73 rfl Rn.info54; have W1 := Lib.hid B1.out.size)
    | (go_at_call 23; refine (rnear_short _ gs _ _ _ _ S2.out w0.heap.size w1.heap.size v0 v1 v2 v3 l A c (stR l) F2.out (Rn.refTo_len l l.length) B2.out.size ⟨S0.out.lt, by have := S0.out.lt; have := W1.out; omega⟩ (LR0.out.keep fun p hp => B2.out.cell hp) HK.out LEN.out HY.out o1 o2 _).mono ?_; rintro e w3 ⟨he, hp3⟩; obtain rfl := he.trans (by rw [HRE.out] : _ = Ending.returned (Value.int .i64 30)); have NP := Lib.hid hp3; clear hp3 he; have CH := Lib.hid (((Chs.of_below B0.out (fun q => q = gs)).trans (Chs.of_below B2.out (fun q => q = gs))).trans NP.out.chs); have O3 := Lib.hid (O2.out.chs NP.out.chs (fun k hk => S2.out.non (ty := 43) (by decide) k hk)); have hc2 := O3.out.cell (k := 2) rfl; have hld3 := ldA (show Ar _ _ _ _ from NP.out.fl.blk) (n := 4) rfl Tryz.underlying73 rfl Rn.info54; have L3 := Lib.hid (LReads.gs (LR0.out.keep fun p hp => B2.out.cell hp) B2.out.size NP.out.chs HA.out)))
    go_ret2
    exact ⟨none, 0, by rw [RN1.out E]; rfl, ⟨by rw [RN1.out E]; exact fun k x hx => by simp at hx, CH.out⟩⟩
end Go.Proofs.YtbmpidacoohdmaaGreat

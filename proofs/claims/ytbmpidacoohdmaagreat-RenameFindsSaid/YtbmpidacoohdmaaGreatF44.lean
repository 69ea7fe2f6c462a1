/- sleuthref26.Find: by a contract, whatever the store holds. sleuthlaw26.RenameFinds: the walk of the law. -/
import Derived.Test.YtbmpidacoohdmaaGreatF43
import Derived.Test.YtbmpidacoohdmaaGreatF35
import Derived.Test.YtbmpidacoohdmaaGreatF36
namespace Go.Proofs.YtbmpidacoohdmaaGreat
open Lib renaming hid → hI
open Go.RowKit Op
open Rn (Chg LReads CellsAt Fnd St Oks stP stR outTo rcTo Flds rowsS int_at boo_at)

theorem oldI_pr (l : List Chg) : oldI l (stR l) = oldI l (stP l) := by unfold oldI; rw [srcs_pr]
theorem newI_pr (l : List Chg) : newI l (stR l) = newI l (stP l) := by unfold newI; rw [tgts_pr]
theorem nearR_pr (l : List Chg) (f : List UInt8 → Option (List UInt8)) (o1 o2 : Int) : nearR l (stR l) f o1 o2 = rNP l f o1 o2 := by
  unfold rNP nearR
  rw [oldI_pr, newI_pr, srcs_pr, tgts_pr]
theorem nearS_pr (l : List Chg) (f : List UInt8 → Option (List UInt8)) (o1 o2 : Int) : nearS l (stR l) f o1 o2 = nearG l (stP l) (stR l) f o1 o2 := by
  rw [nearS_is]
  unfold nearG
  rw [oldI_pr, newI_pr, srcs_pr, tgts_pr]
def Len4 (l : List Chg) (s : St) : Prop := s.fr.length = l.length ∧ s.sc.length = l.length ∧ s.kd.length = l.length ∧ s.tk.length = l.length
theorem near_len (l : List Chg) (f : List UInt8 → Option (List UInt8)) (o1 o2 : Int) : Len4 l (nearG l (stP l) (stR l) f o1 o2) := near_ind (P := Len4 l) l (stP l) (stR l) f o1 o2 (Rn.refTo_len l l.length) fun rows _ => titer_lens rows (stR l) (Rn.refTo_len l l.length) 40
theorem finNR_len (l : List Chg) (f : List UInt8 → Option (List UInt8)) (o1 o2 : Int) (o3 : Bool) : Len4 l (finNR l f o1 o2 o3) := by
  cases o3 with
  | false => exact near_len l f o1 o2
  | true => exact Rn.rcTo_len l _ (near_len l f o1 o2) l.length
theorem finN_frR (l : List Chg) (f : List UInt8 → Option (List UInt8)) (o1 o2 : Int) (o3 : Bool) : ∀ k, 0 < (finNR l f o1 o2 o3).kd.getD k 0 → ∃ i : Nat, i < l.length ∧ (finNR l f o1 o2 o3).fr.getD k 0 = i := fun k hk => by
  have h := finN_agree l f o1 o2 o3
  rw [← h.kd] at hk
  obtain ⟨i, h1, _, h3⟩ := h.fr k hk
  exact ⟨i, h1, h3⟩
attribute [local go_sem ↓] ld43_eq ld73_eq
attribute [local go_sem] Rn.setRow_alloc_at

set_option maxHeartbeats 2000000 in
theorem rfind_all (w : World) (gs : Nat) (l0 : List Ent) (AA : Option Addr) (cc : Nat) (fr : Bool) (t : Int) (f : List UInt8 → Option (List UInt8)) (hs : Rsp w gs l0 AA cc fr t) (hcn : Cnt l0 f) (A : Option Addr) (c : Nat) (l : List Chg) (hl : LReads w w.heap.size A l) (ok : Oks l) (hn : l.length ≤ 12) (hby : BytL l) (hA : ∀ ad, A = some ad → ad.block ≠ gs) (o1 o2 : Int) (o3 : Bool) :
    Calls Tryz.prog 8 #[.pointer (some ⟨gs, 0, none⟩), .slice A l.length c, .agg #[.int .i64 o1, .int .i64 o2, .bool o3]] w fun e w2 => ∃ D d, e = .returned (.tuple #[.slice D (resN l f o1 o2 o3).length d, .int .i64 (rNP l f o1 o2)]) ∧ FRPost w gs (resN l f o1 o2 o3) D w2 := by
  have HRE := hI (nearR_pr l f o1 o2)
  have RN0 := hI (fun h : rNP l f o1 o2 = 0 => show resN l f o1 o2 o3 = outTo l (finNR l f o1 o2 o3) l.length from (if_pos h).trans (finN_out l f o1 o2 o3))
  have RN1 := hI (fun h : ¬ rNP l f o1 o2 = 0 => show resN l f o1 o2 o3 = [] from if_neg h)
  have ROR := rNP_or l f o1 o2
  have ROK := hI (resN_oks l ok f o1 o2 o3)
  generalize rNP l f o1 o2 = r at *
  have hgw : gs < w.heap.size := hs.lt
  have B0 := hI ((Below.refl w.heap.size w).alloc (Nat.le_refl _) (.cells #[.int .i64 o1, .int .i64 o2, .bool o3] 43))
  have O0 := hI (Ar.new w [.int .i64 o1, .int .i64 o2, .bool o3] 43)
  have S0 := hI (hs.below B0.out)
  have hl0 : LReads (w.alloc (.cells #[.int .i64 o1, .int .i64 o2, .bool o3] 43)) (w.alloc (.cells #[.int .i64 o1, .int .i64 o2, .bool o3] 43)).heap.size A l := (hl.keep fun p hp => B0.out.cell hp).more B0.out.size
  have LR0 := hI hl0
  have HX := hI (Rn.rexact_any _ l A c hl0 ok (by omega))
  have HCN := hI hcn
  have HY := hI hby
  have HA := hI hA
  have HK := hI ok
  have HGW := hI hgw
  have LEN := hI hn
  have SZ := hI (show (w.alloc (.cells #[.int .i64 o1, .int .i64 o2, .bool o3] 43)).heap.size = w.heap.size + 1 by simp)
  generalize hw0 : w.alloc (.cells #[.int .i64 o1, .int .i64 o2, .bool o3] 43) = w0 at *
  generalize hL : resN l f o1 o2 o3 = L at *
  clear hs hl ok hn hby hA hl0 hgw hL hcn
  by_cases E : r = 0
  · subst E
    have HLE := hI (RN0.out rfl)
    clear ROR RN0 RN1
    cases o3 with
    | false =>
      go_enter Tryz.func8, Tryz.ntmps8
      go_wp2_with (first
    | (go_at_call 22; refine HX.out.mono ?_; rintro e w1 ⟨v0, v1, v2, v3, B, g, rfl, hF1, hB1, hBB⟩; have F1 := hI (hF1.lower hBB); have B1 := hI hB1; have HONE := hI (Rn.ones4 hF1); clear hF1 hB1 hBB)
    | (refine wpList_store_row rfl 73 (.tmp 8) (.tmp 11) rfl w1.heap.size #[v0, v1, v2, v3] rfl rfl 73 _ (heap_alloc_new _ _) Rn.info54 rfl HONE.out ?_; rw [Rn.setRow_alloc_at _ _ _ _ _ rfl]; have F2 : Hid (Flds (w1.alloc (.cells #[v0, v1, v2, v3] 73)) w0.heap.size w1.heap.size 73 [v0, v1, v2, v3] (rowsS (stR l))) := hI (F1.out.copied (fun i v hv => F1.out.below hv)); have B2 := hI (B1.out.alloc B1.out.size (.cells #[v0, v1, v2, v3] 73)); have O2 := hI (O0.out.below B2.out O0.out.lt); have S2 := hI (S0.out.below B2.out); have hld := ldA O2.out (n := 3) rfl Tryz.underlying43 rfl inf43; have hld2 := ldA (show Ar _ _ _ _ from F2.out.blk) (n := 4) rfl Tryz.underlying73 rfl Rn.info54; have W1 := hI B1.out.size)
    | (go_at_call 23; refine (rnear_any _ gs l0 _ _ _ t f S2.out HCN.out w0.heap.size w1.heap.size v0 v1 v2 v3 l A c (stR l) F2.out (Rn.refTo_len l l.length) B2.out.size ⟨S0.out.lt, by have := S0.out.lt; have := W1.out; omega⟩ (LR0.out.keep fun p hp => B2.out.cell hp) HA.out HK.out LEN.out HY.out o1 o2 _).mono ?_; rintro e w3 ⟨he, hp3⟩; obtain rfl := he.trans (by rw [HRE.out] : _ = Ending.returned (Value.int .i64 0)); rw [nearS_pr] at hp3; have NP := hI hp3; clear hp3 he; have CX : Hid (Chs (fun q => q = gs) w0 w3) := hI ⟨NP.out.chs.os.trans B2.out.os, NP.out.chs.tape.trans B2.out.tape, NP.out.chs.output.trans B2.out.output, Nat.le_trans B2.out.size NP.out.chs.size, fun k hk hn => (NP.out.chs.block k (Nat.lt_of_lt_of_le hk B2.out.size) (fun e => Or.elim e hn (fun e => by have := (FB_lt F2.out k e).1; omega))).trans (B2.out.block k hk)⟩; have O3 := hI (show Ar w3 w.heap.size 43 [.int .i64 o1, .int .i64 o2, .bool _] from (CX.out.block _ O0.out.lt (fun e => by have := HGW.out; omega)).trans O0.out); have hc2 := O3.out.cell (k := 2) rfl; have hld3 := ldA (show Ar _ _ _ _ from NP.out.fl.blk) (n := 4) rfl Tryz.underlying73 rfl Rn.info54; have L3 := hI (LReads.gs LR0.out (Nat.le_refl _) CX.out HA.out))
    | (go_at_call 25; refine (rtold _ l A c w0.heap.size w1.heap.size v0 v1 v2 v3 (finNR l f o1 o2 false) NP.out.fl (finNR_len l f o1 o2 false) (L3.out.more CX.out.size) HK.out (Nat.le_trans LEN.out (by omega)) (finN_frR l f o1 o2 false)).mono ?_; rintro e w5 ⟨v, rfl, hO, hB5⟩; have G5 := hI hO; have B5 := hI hB5; clear hO hB5; obtain ⟨D, d, hv, hrd⟩ := Rn.own_reads ROK.out (by rw [HLE.out]; exact G5.out); have RD := hI hrd; clear hrd; subst hv))
      go_ret2
      exact ⟨D, d, rfl, ⟨RD.out, ((Chs.of_below B0.out (fun q => q = gs)).trans CX.out).trans (Chs.of_below B5.out _)⟩⟩
    | true =>
      go_enter Tryz.func8, Tryz.ntmps8
      go_wp2_with (first
    | (go_at_call 22; refine HX.out.mono ?_; rintro e w1 ⟨v0, v1, v2, v3, B, g, rfl, hF1, hB1, hBB⟩; have F1 := hI (hF1.lower hBB); have B1 := hI hB1; have HONE := hI (Rn.ones4 hF1); clear hF1 hB1 hBB)
    | (refine wpList_store_row rfl 73 (.tmp 8) (.tmp 11) rfl w1.heap.size #[v0, v1, v2, v3] rfl rfl 73 _ (heap_alloc_new _ _) Rn.info54 rfl HONE.out ?_; rw [Rn.setRow_alloc_at _ _ _ _ _ rfl]; have F2 : Hid (Flds (w1.alloc (.cells #[v0, v1, v2, v3] 73)) w0.heap.size w1.heap.size 73 [v0, v1, v2, v3] (rowsS (stR l))) := hI (F1.out.copied (fun i v hv => F1.out.below hv)); have B2 := hI (B1.out.alloc B1.out.size (.cells #[v0, v1, v2, v3] 73)); have O2 := hI (O0.out.below B2.out O0.out.lt); have S2 := hI (S0.out.below B2.out); have hld := ldA O2.out (n := 3) rfl Tryz.underlying43 rfl inf43; have hld2 := ldA (show Ar _ _ _ _ from F2.out.blk) (n := 4) rfl Tryz.underlying73 rfl Rn.info54; have W1 := hI B1.out.size)
    | (go_at_call 23; refine (rnear_any _ gs l0 _ _ _ t f S2.out HCN.out w0.heap.size w1.heap.size v0 v1 v2 v3 l A c (stR l) F2.out (Rn.refTo_len l l.length) B2.out.size ⟨S0.out.lt, by have := S0.out.lt; have := W1.out; omega⟩ (LR0.out.keep fun p hp => B2.out.cell hp) HA.out HK.out LEN.out HY.out o1 o2 _).mono ?_; rintro e w3 ⟨he, hp3⟩; obtain rfl := he.trans (by rw [HRE.out] : _ = Ending.returned (Value.int .i64 0)); rw [nearS_pr] at hp3; have NP := hI hp3; clear hp3 he; have CX : Hid (Chs (fun q => q = gs) w0 w3) := hI ⟨NP.out.chs.os.trans B2.out.os, NP.out.chs.tape.trans B2.out.tape, NP.out.chs.output.trans B2.out.output, Nat.le_trans B2.out.size NP.out.chs.size, fun k hk hn => (NP.out.chs.block k (Nat.lt_of_lt_of_le hk B2.out.size) (fun e => Or.elim e hn (fun e => by have := (FB_lt F2.out k e).1; omega))).trans (B2.out.block k hk)⟩; have O3 := hI (show Ar w3 w.heap.size 43 [.int .i64 o1, .int .i64 o2, .bool _] from (CX.out.block _ O0.out.lt (fun e => by have := HGW.out; omega)).trans O0.out); have hc2 := O3.out.cell (k := 2) rfl; have hld3 := ldA (show Ar _ _ _ _ from NP.out.fl.blk) (n := 4) rfl Tryz.underlying73 rfl Rn.info54; have L3 := hI (LReads.gs LR0.out (Nat.le_refl _) CX.out HA.out))
    | (go_at_call 24; refine (Rn.rcopies_any w3 w0.heap.size w1.heap.size v0 v1 v2 v3 l A c (nearG l (stP l) (stR l) f o1 o2) NP.out.fl (near_len l f o1 o2) CX.out.size L3.out HK.out (Nat.le_trans LEN.out (by omega))).mono ?_; rintro e w4 ⟨rfl, hF4, hB4⟩; have F4 : Hid (Flds w4 w0.heap.size w1.heap.size 73 [v0, v1, v2, v3] (rowsS (finNR l f o1 o2 true))) := hI hF4; have B4 := hI hB4; clear hF4 hB4; have hld4 := ldA (show Ar _ _ _ _ from F4.out.blk) (n := 4) rfl Tryz.underlying73 rfl Rn.info54)
    | (go_at_call 25; refine (rtold _ l A c w0.heap.size w1.heap.size v0 v1 v2 v3 (finNR l f o1 o2 true) F4.out (finNR_len l f o1 o2 true) ((L3.out.keep fun p hp => B4.out.cell hp).more (Nat.le_trans CX.out.size B4.out.size)) HK.out (Nat.le_trans LEN.out (by omega)) (finN_frR l f o1 o2 true)).mono ?_; rintro e w5 ⟨v, rfl, hO, hB5⟩; have G5 := hI hO; have B5 := hI hB5; clear hO hB5; obtain ⟨D, d, hv, hrd⟩ := Rn.own_reads ROK.out (by rw [HLE.out]; exact G5.out); have RD := hI hrd; clear hrd; subst hv))
      go_ret2
      have c4 : Chs (fun q => q = gs) w0 w4 := ⟨B4.out.os.trans CX.out.os, B4.out.tape.trans CX.out.tape, B4.out.output.trans CX.out.output, Nat.le_trans CX.out.size B4.out.size, fun k hk hn => (B4.out.block k hk).trans (CX.out.block k hk hn)⟩
      exact ⟨D, d, rfl, ⟨RD.out, ((Chs.of_below B0.out (fun q => q = gs)).trans c4).trans (Chs.of_below B5.out _)⟩⟩
  · have hr0 : r = 30 := by omega
    subst hr0
    have hLe := RN1.out (by decide)
    clear ROR
    go_enter Tryz.func8, Tryz.ntmps8
    go_wp2_with (first
    | (go_at_call 22; refine HX.out.mono ?_; rintro e w1 ⟨v0, v1, v2, v3, B, g, rfl, hF1, hB1, hBB⟩; have F1 := hI (hF1.lower hBB); have B1 := hI hB1; have HONE := hI (Rn.ones4 hF1); clear hF1 hB1 hBB)
    | (refine wpList_store_row rfl 73 (.tmp 8) (.tmp 11) rfl w1.heap.size #[v0, v1, v2, v3] rfl rfl 73 _ (heap_alloc_new _ _) Rn.info54 rfl HONE.out ?_; rw [Rn.setRow_alloc_at _ _ _ _ _ rfl]; have F2 : Hid (Flds (w1.alloc (.cells #[v0, v1, v2, v3] 73)) w0.heap.size w1.heap.size 73 [v0, v1, v2, v3] (rowsS (stR l))) := hI (F1.out.copied (fun i v hv => F1.out.below hv)); have B2 := hI (B1.out.alloc B1.out.size (.cells #[v0, v1, v2, v3] 73)); have O2 := hI (O0.out.below B2.out O0.out.lt); have S2 := hI (S0.out.below B2.out); have hld := ldA O2.out (n := 3) rfl Tryz.underlying43 rfl inf43; have hld2 := ldA (show Ar _ _ _ _ from F2.out.blk) (n := 4) rfl Tryz.underlying73 rfl Rn.info54; have W1 := hI B1.out.size)
    | (go_at_call 23; refine (rnear_any _ gs l0 _ _ _ t f S2.out HCN.out w0.heap.size w1.heap.size v0 v1 v2 v3 l A c (stR l) F2.out (Rn.refTo_len l l.length) B2.out.size ⟨S0.out.lt, by have := S0.out.lt; have := W1.out; omega⟩ (LR0.out.keep fun p hp => B2.out.cell hp) HA.out HK.out LEN.out HY.out o1 o2 _).mono ?_; rintro e w3 ⟨he, hp3⟩; obtain rfl := he.trans (by rw [HRE.out] : _ = Ending.returned (Value.int .i64 30)); rw [nearS_pr] at hp3; have NP := hI hp3; clear hp3 he; have CX : Hid (Chs (fun q => q = gs) w0 w3) := hI ⟨NP.out.chs.os.trans B2.out.os, NP.out.chs.tape.trans B2.out.tape, NP.out.chs.output.trans B2.out.output, Nat.le_trans B2.out.size NP.out.chs.size, fun k hk hn => (NP.out.chs.block k (Nat.lt_of_lt_of_le hk B2.out.size) (fun e => Or.elim e hn (fun e => by have := (FB_lt F2.out k e).1; omega))).trans (B2.out.block k hk)⟩; have O3 := hI (show Ar w3 w.heap.size 43 [.int .i64 o1, .int .i64 o2, .bool _] from (CX.out.block _ O0.out.lt (fun e => by have := HGW.out; omega)).trans O0.out); have hc2 := O3.out.cell (k := 2) rfl; have hld3 := ldA (show Ar _ _ _ _ from NP.out.fl.blk) (n := 4) rfl Tryz.underlying73 rfl Rn.info54; have L3 := hI (LReads.gs LR0.out (Nat.le_refl _) CX.out HA.out)))
    go_ret2
    subst hLe
    exact ⟨none, 0, rfl, ⟨fun k x hx => by simp at hx, (Chs.of_below B0.out (fun q => q = gs)).trans CX.out⟩⟩
end Go.Proofs.YtbmpidacoohdmaaGreat
namespace Go.Proofs.YtbmpidacoohdmaaGreat
open Lib renaming hid → hI
open Go.RowKit Op
open Rn (Chg LReads CellsAt Oks ne_of_types)

attribute [local go_sem ↓] ld26_eq ld28_eq
set_option maxRecDepth 100000 in
set_option maxHeartbeats 2000000 in
theorem rfinds_any (w : World) (At Al Ai : Option Addr) (ct cl ci : Nat) (ts : List (List UInt8)) (L0 : List Chg) (ps : List (UInt8 × UInt8)) (o1 o2 : Int) (o3 : Bool)
    (ht : Rv w.heap.size w At (strs (ts.map bs))) (hl : LReads w w.heap.size Al L0) (ok : Rn.Oks L0) (hby : BytL L0) (hp : Rv w.heap.size w Ai (ps.flatMap fun p => [.int .u8 (p.1.toNat : Int), .int .u8 (p.2.toNat : Int)])) (htl : ts.length ≤ maxLen) (hll : L0.length ≤ maxLen) (hpl : ps.length ≤ maxLen) (hts : ∀ t ∈ ts, t.length ≤ maxLen) :
    Calls Tryz.prog 3 #[.agg #[.slice At ts.length ct, .slice Al L0.length cl, .slice Ai ps.length ci, .int .i64 o1, .int .i64 o2, .bool o3]] w fun e w2 => e = .returned (.bool true) ∧ Below w.heap.size w w2 := by
  have B0 := hI ((Below.refl w.heap.size w).alloc (Nat.le_refl _) (.cells #[.slice At ts.length ct, .slice Al L0.length cl, .slice Ai ps.length ci, .int .i64 o1, .int .i64 o2, .bool o3] 28))
  have Q0 := hI (Ar.new w [.slice At ts.length ct, .slice Al L0.length cl, .slice Ai ps.length ci, .int .i64 o1, .int .i64 o2, .bool o3] 28)
  have HM := hI (made_any (w.alloc (.cells #[.slice At ts.length ct, .slice Al L0.length cl, .slice Ai ps.length ci, .int .i64 o1, .int .i64 o2, .bool o3] 28)) At Al Ai ct cl ci ts L0 ps o1 o2 o3 (ht.low B0.out B0.out.size) ((hl.keep fun p hp => B0.out.cell hp).more B0.out.size) ok (hp.low B0.out B0.out.size) htl hll hpl hts)
  have LOK := hI (chgTo_ok (ids := idsB ts (bodB ts).length) (ps := ps) ok hby (fun x hx => idsB_mem x hx) (by simp [idsB]) (min 12 L0.length) (Nat.min_le_right _ _))
  have LLN := hI (chgTo_len (idsB ts (bodB ts).length) ps L0 (min 12 L0.length))
  have L12 := hI (Nat.min_le_left 12 L0.length)
  clear ht hl ok hby hp
  generalize hl : chgTo (idsB ts (bodB ts).length) ps L0 (min 12 L0.length) = l at *
  generalize hn12 : min 12 L0.length = n at *
  generalize stoF ts (bodB ts).length = f at *
  have hld := ldA Q0.out (n := 6) rfl Tryz.underlying28 rfl inf28
  generalize hw0 : w.alloc (.cells #[.slice At ts.length ct, .slice Al L0.length cl, .slice Ai ps.length ci, .int .i64 o1, .int .i64 o2, .bool o3] 28) = w0 at *
  have LO : Hid (Oks l) := hI (fun k x hx => (LOK.out x (List.mem_of_getElem? hx)).1)
  have LB : Hid (BytL l) := hI (fun k x hx => (LOK.out x (List.mem_of_getElem? hx)).2)
  have LN : Hid (l.length ≤ 12) := hI (by rw [LLN.out]; exact L12.out)
  clear hl hn12 LOK htl hll hpl hts
  go_enter Tryz.func3, Tryz.ntmps3
  go_wp2_with (go_at_call 6; refine HM.out.mono ?_; rintro e w1 ⟨b1, g1, m1, gd1, ova, ks, v, rfl, hbt, ho, hb1⟩; obtain ⟨D, d, hv, hmd⟩ := mde_of B0.out Q0.out hbt ho LLN.out hb1 LO.out; have MD := hI hmd; subst hv; clear hbt ho hb1 hmd)
  obtain ⟨m, l0, t, kn, hpsp, hcn⟩ := MD.out.psp
  have P2 := hI hpsp
  have CN := hI hcn
  clear hpsp hcn
  refine region_of (fun W => CD b1 g1 gd1 w.heap.size ova [.slice At ts.length ct, .slice Al L0.length cl, .slice Ai ps.length ci, .int .i64 o1, .int .i64 o2, .bool o3] W) (by kernel_rfl) ?_
  have HCC : Hid (CD b1 g1 gd1 w.heap.size ova [.slice At ts.length ct, .slice Al L0.length cl, .slice Ai ps.length ci, .int .i64 o1, .int .i64 o2, .bool o3] w1.drew) := hI (MD.out.cd.keep rfl rfl)
  have P3 := hI (P2.out.below (Below.refl w1.heap.size w1).drew)
  have RD3 : Hid (LReads w1.drew w1.drew.heap.size D l) := hI MD.out.rd
  have B3 := hI MD.out.bel.drew
  obtain ⟨lr, Ar2, cr, frr, tr, hr, hcr⟩ := MD.out.rsp
  have R3 := hI (hr.below (Below.refl w1.heap.size w1).drew)
  have CR := hI hcr
  clear hr hcr
  have FSX := hI (find_all w1.drew g1 m l0 t kn f P3.out CN.out D d l RD3.out LO.out LN.out LB.out (fun ad e => (MD.out.nd ad e).1) o1 o2 o3)
  have RLN : Hid ((resN l f o1 o2 o3).length ≤ 12) := hI (Nat.le_trans (resN_len l f o1 o2 o3) LN.out)
  have ROK := hI (resN_oks l LO.out f o1 o2 o3)
  generalize hL : resN l f o1 o2 o3 = L at *
  have HLE := hI hL
  clear hL
  generalize hw3 : w1.drew = w3 at *
  refine anyC_take 0 (v := ?_) HCC.out rfl (by kernel_rfl) (by kernel_rfl) (by kernel_rfl) (fun c a w h => by exact h) rfl (fun W hW => ?_) ?_
  rotate_left
  · go_simp
    try rfl
  simp only [Act.put]
  refine anyC_take 1 (v := ?_) HCC.out rfl (by kernel_rfl) (by kernel_rfl) (by kernel_rfl) (fun c a w h => by exact h) rfl (fun W hW => ?_) ?_
  rotate_left
  · go_simp
    try rfl
  simp only [Act.put]
  refine anyC_take 2 (v := ?_) HCC.out rfl (by kernel_rfl) (by kernel_rfl) (by kernel_rfl) (fun c a w h => by exact h) rfl (fun W hW => ?_) ?_
  rotate_left
  · go_simp
    try rfl
  simp only [Act.put]
  refine anyC_take 3 (v := ?_) HCC.out rfl (by kernel_rfl) (by kernel_rfl) (by kernel_rfl) (fun c a w h => by exact h) rfl (fun W hW => ?_) ?_
  rotate_left
  · have := hW.store; go_simp
    try rfl
  simp only [Act.put]
  refine anyC_take 4 (v := ?_) HCC.out rfl (by kernel_rfl) (by kernel_rfl) (by kernel_rfl) (fun c a w h => by exact h) rfl (fun W hW => ?_) ?_
  rotate_left
  · go_simp
    try rfl
  simp only [Act.put]
  refine anyC_take 5 (v := ?_) HCC.out rfl (by kernel_rfl) (by kernel_rfl) (by kernel_rfl) (fun c a w h => by exact h) rfl (fun W hW => ?_) ?_
  rotate_left
  · go_simp
    try rfl
  simp only [Act.put]
  refine anyC_take 6 (v := ?_) HCC.out rfl (by kernel_rfl) (by kernel_rfl) (by kernel_rfl) (fun c a w h => by exact h) rfl (fun W hW => ?_) ?_
  rotate_left
  · have := ldP hW.ask (k := 3) (n := 3) rfl rfl Tryz.underlying26 rfl inf26; go_simp
    try rfl
  simp only [Act.put]
  refine anyC_one 7 HCC.out (by kernel_rfl) rfl ?_
  go_wp2_with (go_at_call 7; refine FSX.out.mono ?_; rintro e w4 ⟨D4, d4, rfl, hf4⟩; have F4 := hI hf4; clear hf4)
  have HC4 := hI (HCC.out.chs F4.out.chs MD.out.nb.1 MD.out.nh.1)
  have RD4 := hI (LReads.chs RD3.out F4.out.chs (fun ad e => (MD.out.nd ad e).1))
  clear hw3
  refine anyC_take 8 (v := ?_) HC4.out rfl (by kernel_rfl) (by kernel_rfl) (by kernel_rfl) (fun c a w h => by exact h) rfl (fun W hW => ?_) ?_
  rotate_left
  · go_simp
    try rfl
  simp only [Act.put]
  refine anyC_take 9 (v := ?_) HC4.out rfl (by kernel_rfl) (by kernel_rfl) (by kernel_rfl) (fun c a w h => by exact h) rfl (fun W hW => ?_) ?_
  rotate_left
  · go_simp
    try rfl
  simp only [Act.put]
  refine anyC_take 10 (v := ?_) HC4.out rfl (by kernel_rfl) (by kernel_rfl) (by kernel_rfl) (fun c a w h => by exact h) rfl (fun W hW => ?_) ?_
  rotate_left
  · go_simp
    try rfl
  simp only [Act.put]
  refine anyC_one 11 HC4.out (by kernel_rfl) rfl ?_
  go_wp2_with fail
  refine anyC_one 12 HC4.out (by kernel_rfl) rfl ?_
  go_wp2_with fail
  refine anyC_done HC4.out (by kernel_rfl) ?_ _
  have X4 := hI (Below.chs B3.out F4.out.chs MD.out.low.1 (Nat.le_refl _))
  have RS4 := hI (R3.out.far F4.out.chs (fun q hq => P3.out.non (ty := 5) (by decide) q (.inl hq)) (fun q hq => P3.out.non (ty := 99) (by decide) q (.inl hq)) MD.out.ng)
  have L4 : Hid (LReads w4 w4.heap.size D4 L) := hI F4.out.rd
  go_wp2_with fail
  refine region_of (fun W => CD b1 g1 gd1 w.heap.size ova [.slice At ts.length ct, .slice Al L0.length cl, .slice Ai ps.length ci, .int .i64 o1, .int .i64 o2, .bool o3] W) (by kernel_rfl) ?_
  have HC5 : Hid (CD b1 g1 gd1 w.heap.size ova [.slice At ts.length ct, .slice Al L0.length cl, .slice Ai ps.length ci, .int .i64 o1, .int .i64 o2, .bool o3] w4.drew) := hI (HC4.out.keep rfl rfl)
  have Y5 := hI (Below.refl w4.heap.size w4).drew
  generalize w4.drew = w5 at *
  refine anyC_take 0 (v := ?_) HC5.out rfl (by kernel_rfl) (by kernel_rfl) (by kernel_rfl) (fun c a w h => by exact h) rfl (fun W hW => ?_) ?_
  rotate_left
  · go_simp
    try rfl
  simp only [Act.put]
  refine anyC_take 1 (v := ?_) HC5.out rfl (by kernel_rfl) (by kernel_rfl) (by kernel_rfl) (fun c a w h => by exact h) rfl (fun W hW => ?_) ?_
  rotate_left
  · go_simp
    try rfl
  simp only [Act.put]
  refine anyC_take 2 (v := ?_) HC5.out rfl (by kernel_rfl) (by kernel_rfl) (by kernel_rfl) (fun c a w h => by exact h) rfl (fun W hW => ?_) ?_
  rotate_left
  · go_simp
    try rfl
  simp only [Act.put]
  refine anyC_take 3 (v := ?_) HC5.out rfl (by kernel_rfl) (by kernel_rfl) (by kernel_rfl) (fun c a w h => by exact h) rfl (fun W hW => ?_) ?_
  rotate_left
  · have := hW.store2; go_simp
    try rfl
  simp only [Act.put]
  refine anyC_take 4 (v := ?_) HC5.out rfl (by kernel_rfl) (by kernel_rfl) (by kernel_rfl) (fun c a w h => by exact h) rfl (fun W hW => ?_) ?_
  rotate_left
  · go_simp
    try rfl
  simp only [Act.put]
  refine anyC_take 5 (v := ?_) HC5.out rfl (by kernel_rfl) (by kernel_rfl) (by kernel_rfl) (fun c a w h => by exact h) rfl (fun W hW => ?_) ?_
  rotate_left
  · go_simp
    try rfl
  simp only [Act.put]
  refine anyC_take 6 (v := ?_) HC5.out rfl (by kernel_rfl) (by kernel_rfl) (by kernel_rfl) (fun c a w h => by exact h) rfl (fun W hW => ?_) ?_
  rotate_left
  · have := ldP hW.ask (k := 3) (n := 3) rfl rfl Tryz.underlying26 rfl inf26; go_simp
    try rfl
  simp only [Act.put]
  refine anyC_one 7 HC5.out (by kernel_rfl) rfl ?_
  go_wp2_with (go_at_call 9; refine (plain_any w5 o1 o2 o3).mono ?_; rintro e w6 ⟨rfl, hb6⟩; have Y6 := hI (Y5.out.trans (hb6.mono Y5.out.size)); have HC6 := hI (HC5.out.below hb6); clear hb6)
  have RS6 := hI (RS4.out.below Y6.out)
  have RD6 : Hid (LReads w6 w6.heap.size D l) := hI ((RD4.out.keep fun p hp => Y6.out.cell hp).more Y6.out.size)
  have FT := hI (rfind_all w6 gd1 lr Ar2 cr frr tr f RS6.out CR.out D d l RD6.out LO.out LN.out LB.out (fun ad e => (MD.out.nd ad e).2) o1 o2 o3)
  rw [HLE.out] at FT
  refine anyC_one 8 HC6.out (by kernel_rfl) rfl ?_
  go_wp2_with (go_at_call 8; refine FT.out.mono ?_; rintro e w7 ⟨D7, d7, rfl, hf7⟩; have F7 := hI hf7; clear hf7)
  have HC7 := hI (HC6.out.chs F7.out.chs MD.out.nb.2 MD.out.nh.2)
  refine anyC_take 9 (v := ?_) HC7.out rfl (by kernel_rfl) (by kernel_rfl) (by kernel_rfl) (fun c a w h => by exact h) rfl (fun W hW => ?_) ?_
  rotate_left
  · go_simp
    try rfl
  simp only [Act.put]
  refine anyC_take 10 (v := ?_) HC7.out rfl (by kernel_rfl) (by kernel_rfl) (by kernel_rfl) (fun c a w h => by exact h) rfl (fun W hW => ?_) ?_
  rotate_left
  · go_simp
    try rfl
  simp only [Act.put]
  refine anyC_take 11 (v := ?_) HC7.out rfl (by kernel_rfl) (by kernel_rfl) (by kernel_rfl) (fun c a w h => by exact h) rfl (fun W hW => ?_) ?_
  rotate_left
  · go_simp
    try rfl
  simp only [Act.put]
  refine anyC_one 12 HC7.out (by kernel_rfl) rfl ?_
  go_wp2_with fail
  refine anyC_one 13 HC7.out (by kernel_rfl) rfl ?_
  go_wp2_with fail
  refine anyC_done HC7.out (by kernel_rfl) ?_ _
  have X6 := hI (X4.out.trans (Y6.out.mono X4.out.size))
  have X7 := hI (Below.chs X6.out F7.out.chs MD.out.low.2 (Nat.le_refl _))
  have L46 : Hid (LReads w6 w4.heap.size D4 L) := hI (L4.out.keep fun p hp => Y6.out.cell hp)
  have A7 : Hid (LReads w7 w4.heap.size D4 L) := hI (LReads.off L46.out Y6.out.size ROK.out F7.out.chs RS6.out.blk (by simp))
  have E7 : Hid (LReads w7 w7.heap.size D7 L) := hI F7.out.rd
  generalize rNP l f o1 o2 = r at *
  go_wp2_with (first
    | (go_at_call 10; refine (same_true w7 L D4 D7 d4 d7 A7.out E7.out ROK.out (Nat.le_trans RLN.out (by omega))).mono ?_; rintro e w11 ⟨rfl, hb11⟩; have Z11 := hI hb11; clear hb11)
    | (go_at_call 11; refine (Rn.works_any w11).mono ?_; rintro e w14 ⟨rfl, hb14⟩; have Z14 := hI (Z11.out.trans (hb14.mono Z11.out.size)); clear hb14))
  go_ret
  exact ⟨rfl, X7.out.trans (Z14.out.mono X7.out.size)⟩
end Go.Proofs.YtbmpidacoohdmaaGreat

/- rename.Find over a store that has none of the texts. -/
import Derived.Test.YtbmpidacoohdmaaGreatNrs
import Derived.Test.YtbmpidacoohdmaaGreatRCop
import Derived.Test.YtbmpidacoohdmaaGreatRSame
import Derived.Test.YtbmpidacoohdmaaGreatRRow
namespace Go.Proofs.YtbmpidacoohdmaaGreat
open Go.RowKit Op
open Rn (Chg LReads CellsAt Fnd St Oks stP finP outTo)

def early (l : List Chg) (o1 o2 : Int) : Prop := earlyN o1 o2 (srcs l (stP l)).length (tgts l (stP l)).length
instance (l : List Chg) (o1 o2 : Int) : Decidable (early l o1 o2) := by unfold early; infer_instance
def resP (l : List Chg) (o1 o2 : Int) (o3 : Bool) : List Chg := if early l o1 o2 then outTo l (finP l o3) l.length else []
theorem resP_oks (l : List Chg) (h : Oks l) (o1 o2 : Int) (o3 : Bool) : Oks (resP l o1 o2 o3) := by
  unfold resP
  split
  · exact Rn.oks_of_mem (Rn.out_oks l h _ (Rn.fin_frP l o3) _ (Nat.le_refl _))
  · intro k x hx; simp at hx
theorem resP_len (l : List Chg) (o1 o2 : Int) (o3 : Bool) : (resP l o1 o2 o3).length ≤ l.length := by
  unfold resP
  split
  · exact Rn.outTo_len _ _ _
  · simp
structure FPost (w : World) (g m : Nat) (l0 : List Ent) (t : Int) (L : List Chg) (D : Option Addr) (w2 : World) : Prop where
  st : ∃ kn, Psp w2 g m l0 t kn
  rd : LReads w2 w2.heap.size D L
  chs : Chs (fun k => k = g) w w2

theorem Psp.young {w0 w3 w4 : World} {g m : Nat} {l : List Ent} {t kn kn3 : Int} (h : Psp w0 g m l t kn) (h3 : Psp w3 g m l t kn3) (hc : Chs (fun q => q = g) w0 w4) (e : w4.heap[g]? = w3.heap[g]?) : Psp w4 g m l t kn3 := h.turn hc (e.trans h3.blk)
theorem ld26_eq (a : Addr) : loadVar 26 a = ldT 26 a := rfl
theorem inf26 : (Tryz.prog.info? 26).map (·.size) = some 3 := by kernel_rfl
theorem early_nil (l : List Chg) (s : St) (o1 o2 : Int) (h : l = []) : earlyN o1 o2 (srcs l s).length (tgts l s).length := .inr (.inl (by subst h; rfl))
attribute [local go_sem ↓] ld26_eq
set_option maxHeartbeats 1000000 in
theorem find_short (w : World) (g m : Nat) (l0 : List Ent) (t kn : Int) (f : List UInt8 → Option (List UInt8)) (hs : Psp w g m l0 t kn) (hc : Cnt l0 f) (A : Option Addr) (c : Nat) (l : List Chg) (hl : LReads w w.heap.size A l) (ok : Oks l) (hn : l.length ≤ 40) (hby : BytL l) (hA : ∀ ad, A = some ad → ad.block ≠ g) (o1 o2 : Int) (o3 : Bool) (hno : ¬ early l o1 o2 → txs f (oldI l (stP l)) = none) :
    Calls Tryz.prog 7 #[.pointer (some ⟨g, 0, none⟩), .slice A l.length c, .agg #[.int .i64 o1, .int .i64 o2, .bool o3]] w fun e w2 => ∃ D d, e = .returned (.tuple #[.slice D (resP l o1 o2 o3).length d, .int .i64 (if early l o1 o2 then 0 else 30)]) ∧ FPost w g m l0 t (resP l o1 o2 o3) D w2 := by
  obtain ⟨r, hr⟩ : ∃ r : Int, (if early l o1 o2 then 0 else 30) = r := ⟨_, rfl⟩
  rw [hr]
  have HRE : Hid ((if earlyN o1 o2 (srcs l (stP l)).length (tgts l (stP l)).length then (0 : Int) else 30) = r) := Lib.hid hr
  have HR0 := Lib.hid (fun h : early l o1 o2 => hr.symm.trans (if_pos h))
  have HR1 := Lib.hid (fun h : ¬ early l o1 o2 => hr.symm.trans (if_neg h))
  have hgw : g < w.heap.size := hs.glt
  have B0 := Lib.hid ((Below.refl w.heap.size w).alloc (Nat.le_refl _) (.cells #[.int .i64 o1, .int .i64 o2, .bool o3] 26))
  have O0 := Lib.hid (Ar.new w [.int .i64 o1, .int .i64 o2, .bool o3] 26)
  have P0 := Lib.hid (hs.below B0.out)
  have hl0 : LReads (w.alloc (.cells #[.int .i64 o1, .int .i64 o2, .bool o3] 26)) (w.alloc (.cells #[.int .i64 o1, .int .i64 o2, .bool o3] 26)).heap.size A l := (hl.keep fun p hp => B0.out.cell hp).more B0.out.size
  have HS := Lib.hid (Rn.start_any _ A c l hl0 ok hn)
  have HC := Lib.hid hc
  have HY := Lib.hid hby
  have HA := Lib.hid hA
  have HNO := Lib.hid hno
  have HK := Lib.hid ok
  have HGW := Lib.hid hgw
  have LEN := Lib.hid hn
  have SZ := Lib.hid (show (w.alloc (.cells #[.int .i64 o1, .int .i64 o2, .bool o3] 26)).heap.size = w.heap.size + 1 by simp)
  generalize hw0 : w.alloc (.cells #[.int .i64 o1, .int .i64 o2, .bool o3] 26) = w0 at *
  have RN0 := Lib.hid (fun h : early l o1 o2 => show resP l o1 o2 o3 = outTo l (finP l o3) l.length from if_pos h)
  have RN1 := Lib.hid (fun h : ¬ early l o1 o2 => show resP l o1 o2 o3 = [] from if_neg h)
  have ROK := Lib.hid (resP_oks l ok o1 o2 o3)
  generalize hL : resP l o1 o2 o3 = L at *
  clear hs hl ok hn hby hA hno hc hl0 hgw hL hr
  by_cases E : early l o1 o2
  · have hr0 := HR0.out E
    subst hr0
    cases o3 with
    | false =>
      go_enter Tryz.func7, Tryz.ntmps7
      go_wp2_with (first
    | (go_at_call 17; refine HS.out.mono ?_; rintro e w1 ⟨b, F, S, K, T, rfl, hF1, hB1⟩; have F1 := Lib.hid hF1; have B1 := Lib.hid hB1; clear hF1 hB1)
    | (go_at_call 18; refine (Rn.exact_any F1.out).mono ?_; rintro e w2 ⟨rfl, hF2, hB2⟩; have F2 : Hid (Fnd w2 w0.heap.size b F S K T A c l (stP l)) := Lib.hid hF2; have B2 := Lib.hid (B1.out.trans hB2); clear hF2 hB2; have O2 := Lib.hid (O0.out.below B2.out O0.out.lt); have P2 := Lib.hid (P0.out.below B2.out); have hld := ldA O2.out (n := 3) rfl Tryz.underlying26 rfl inf26)
    | (go_at_call 19; refine (near_short w2 g m l0 t kn f P2.out HC.out w0.heap.size b F S K T A c l (stP l) F2.out HY.out P0.out.glt HA.out o1 o2 _ HNO.out).mono ?_; rintro e w3 ⟨he, hp3⟩; obtain rfl := he.trans (by rw [HRE.out] : _ = Ending.returned (Value.int .i64 0)); have NP := Lib.hid hp3; clear hp3 he; have CH := Lib.hid (((Chs.of_below B0.out (fun q => q = g)).trans (Chs.of_below (B2.out) (fun q => q = g))).trans NP.out.chs); have O3 := Lib.hid (O2.out.chs NP.out.chs (fun k hk => P2.out.non (ty := 26) (by decide) k (.inl hk))); have hc2 := O3.out.cell (k := 2) rfl)
    | (go_at_call 21; refine (Rn.changes_any (show Fnd w3 w0.heap.size b F S K T A c l (finP l false) from NP.out.fd) _ rfl (Rn.fin_frP l false)).mono ?_; rintro e w5 ⟨v, rfl, hO, hB5⟩; have G5 := Lib.hid hO; have B5 := Lib.hid hB5; clear hO hB5; obtain ⟨D, d, hv, hrd⟩ := Rn.own_reads ROK.out (by rw [RN0.out E]; exact G5.out); have RD := Lib.hid hrd; clear hrd; subst hv))
      go_ret2
      obtain ⟨kn3, hst⟩ := NP.out.st
      exact ⟨D, d, rfl, ⟨⟨kn3, hst.below B5.out⟩, RD.out, CH.out.trans (Chs.of_below B5.out _)⟩⟩
    | true =>
      go_enter Tryz.func7, Tryz.ntmps7
      go_wp2_with (first
    | (go_at_call 17; refine HS.out.mono ?_; rintro e w1 ⟨b, F, S, K, T, rfl, hF1, hB1⟩; have F1 := Lib.hid hF1; have B1 := Lib.hid hB1; clear hF1 hB1)
    | (go_at_call 18; refine (Rn.exact_any F1.out).mono ?_; rintro e w2 ⟨rfl, hF2, hB2⟩; have F2 : Hid (Fnd w2 w0.heap.size b F S K T A c l (stP l)) := Lib.hid hF2; have B2 := Lib.hid (B1.out.trans hB2); clear hF2 hB2; have O2 := Lib.hid (O0.out.below B2.out O0.out.lt); have P2 := Lib.hid (P0.out.below B2.out); have hld := ldA O2.out (n := 3) rfl Tryz.underlying26 rfl inf26)
    | (go_at_call 19; refine (near_short w2 g m l0 t kn f P2.out HC.out w0.heap.size b F S K T A c l (stP l) F2.out HY.out P0.out.glt HA.out o1 o2 _ HNO.out).mono ?_; rintro e w3 ⟨he, hp3⟩; obtain rfl := he.trans (by rw [HRE.out] : _ = Ending.returned (Value.int .i64 0)); have NP := Lib.hid hp3; clear hp3 he; have CH := Lib.hid (((Chs.of_below B0.out (fun q => q = g)).trans (Chs.of_below (B2.out) (fun q => q = g))).trans NP.out.chs); have O3 := Lib.hid (O2.out.chs NP.out.chs (fun k hk => P2.out.non (ty := 26) (by decide) k (.inl hk))); have hc2 := O3.out.cell (k := 2) rfl)
    | (go_at_call 20; refine (Rn.copies_any NP.out.fd).mono ?_; rintro e w4 ⟨rfl, hF4, hB4⟩; have F4 : Hid (Fnd w4 w0.heap.size b F S K T A c l (finP l true)) := Lib.hid hF4; have B4 := Lib.hid hB4; clear hF4 hB4)
    | (go_at_call 21; refine (Rn.changes_any F4.out _ rfl (Rn.fin_frP l true)).mono ?_; rintro e w5 ⟨v, rfl, hO, hB5⟩; have G5 := Lib.hid hO; have B5 := Lib.hid hB5; clear hO hB5; obtain ⟨D, d, hv, hrd⟩ := Rn.own_reads ROK.out (by rw [RN0.out E]; exact G5.out); have RD := Lib.hid hrd; clear hrd; subst hv))
      go_ret2
      obtain ⟨kn3, hst⟩ := NP.out.st
      have hg4 : w4.heap[g]? = w3.heap[g]? := B4.out.block g P0.out.glt
      have c4 : Chs (fun q => q = g) w0 w4 := ⟨B4.out.os.trans (NP.out.chs.os.trans B2.out.os), B4.out.tape.trans (NP.out.chs.tape.trans B2.out.tape), B4.out.output.trans (NP.out.chs.output.trans B2.out.output), Nat.le_trans B2.out.size (Nat.le_trans NP.out.chs.size B4.out.size), fun k hk hn => (B4.out.block k hk).trans ((NP.out.chs.block k (Nat.lt_of_lt_of_le hk B2.out.size) hn).trans (B2.out.block k hk))⟩
      have hst4 := P0.out.young hst c4 hg4
      exact ⟨D, d, rfl, ⟨⟨kn3, hst4.below B5.out⟩, RD.out, ((Chs.of_below B0.out (fun q => q = g)).trans c4).trans (Chs.of_below B5.out _)⟩⟩
  · have hr0 := HR1.out E
    subst hr0
    go_enter Tryz.func7, Tryz.ntmps7
    go_wp2_with (first
    | (go_at_call 17; refine HS.out.mono ?_; rintro e w1 ⟨b, F, S, K, T, rfl, hF1, hB1⟩; have F1 := Lib.hid hF1; have B1 := Lib.hid hB1; clear hF1 hB1)
    | (go_at_call 18; refine (Rn.exact_any F1.out).mono ?_; rintro e w2 ⟨rfl, hF2, hB2⟩; have F2 : Hid (Fnd w2 w0.heap.size b F S K T A c l (stP l)) := Lib.hid hF2; have B2 := Lib.hid (B1.out.trans hB2); clear hF2 hB2; have O2 := Lib.hid (O0.out.below B2.out O0.out.lt); have P2 := Lib.hid (P0.out.below B2.out); have hld := ldA O2.out (n := 3) rfl Tryz.underlying26 rfl inf26)
    | (go_at_call 19; refine (near_short w2 g m l0 t kn f P2.out HC.out w0.heap.size b F S K T A c l (stP l) F2.out HY.out P0.out.glt HA.out o1 o2 _ HNO.out).mono ?_; rintro e w3 ⟨he, hp3⟩; obtain rfl := he.trans (by rw [HRE.out] : _ = Ending.returned (Value.int .i64 30)); have NP := Lib.hid hp3; clear hp3 he; have CH := Lib.hid (((Chs.of_below B0.out (fun q => q = g)).trans (Chs.of_below (B2.out) (fun q => q = g))).trans NP.out.chs); have O3 := Lib.hid (O2.out.chs NP.out.chs (fun k hk => P2.out.non (ty := 26) (by decide) k (.inl hk))); have hc2 := O3.out.cell (k := 2) rfl))
    go_ret2
    exact ⟨none, 0, by rw [RN1.out E]; rfl, ⟨NP.out.st, by rw [RN1.out E]; exact fun k x hx => by simp at hx, CH.out⟩⟩
end Go.Proofs.YtbmpidacoohdmaaGreat

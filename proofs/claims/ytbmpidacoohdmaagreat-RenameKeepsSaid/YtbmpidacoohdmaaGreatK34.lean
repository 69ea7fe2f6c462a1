/- rename.Find: by a contract, whatever the store holds. What a law over made changes knows behind its first call of rename.Find. -/
import Derived.Test.YtbmpidacoohdmaaGreatK33
import Derived.Test.YtbmpidacoohdmaaGreatK22
import Derived.Test.YtbmpidacoohdmaaGreatK23
namespace Go.Proofs.YtbmpidacoohdmaaGreat
open Go.RowKit Op
open Rn (Chg LReads CellsAt Fnd St Oks stP outTo)

noncomputable def rNP (l : List Chg) (f : List UInt8 → Option (List UInt8)) (o1 o2 : Int) : Int := nearR l (stP l) f o1 o2
noncomputable def resN (l : List Chg) (f : List UInt8 → Option (List UInt8)) (o1 o2 : Int) (o3 : Bool) : List Chg := if rNP l f o1 o2 = 0 then outTo l (finNP l f o1 o2 o3) l.length else []
theorem rNP_or (l : List Chg) (f : List UInt8 → Option (List UInt8)) (o1 o2 : Int) : rNP l f o1 o2 = 0 ∨ rNP l f o1 o2 = 30 := by
  unfold rNP nearR
  split
  · exact .inl rfl
  · split
    · exact .inl rfl
    · exact .inr rfl
theorem resN_oks (l : List Chg) (h : Oks l) (f : List UInt8 → Option (List UInt8)) (o1 o2 : Int) (o3 : Bool) : Oks (resN l f o1 o2 o3) := by
  unfold resN
  split
  · exact Rn.oks_of_mem (Rn.out_oks l h _ (finN_frP l f o1 o2 o3) _ (Nat.le_refl _))
  · intro k x hx; simp at hx
theorem resN_len (l : List Chg) (f : List UInt8 → Option (List UInt8)) (o1 o2 : Int) (o3 : Bool) : (resN l f o1 o2 o3).length ≤ l.length := by
  unfold resN
  split
  · exact Rn.outTo_len _ _ _
  · simp
theorem stP_tk (l : List Chg) : (stP l).tk.length = l.length := (kst_P l).lT
attribute [local go_sem ↓] ld26_eq
set_option maxHeartbeats 2000000 in
theorem find_all (w : World) (g m : Nat) (l0 : List Ent) (t kn : Int) (f : List UInt8 → Option (List UInt8)) (hs : Psp w g m l0 t kn) (hc : Cnt l0 f) (A : Option Addr) (c : Nat) (l : List Chg) (hl : LReads w w.heap.size A l) (ok : Oks l) (hn : l.length ≤ 12) (hby : BytL l) (hA : ∀ ad, A = some ad → ad.block ≠ g) (o1 o2 : Int) (o3 : Bool) :
    Calls Tryz.prog 7 #[.pointer (some ⟨g, 0, none⟩), .slice A l.length c, .agg #[.int .i64 o1, .int .i64 o2, .bool o3]] w fun e w2 => ∃ D d, e = .returned (.tuple #[.slice D (resN l f o1 o2 o3).length d, .int .i64 (rNP l f o1 o2)]) ∧ FPost w g m l0 t (resN l f o1 o2 o3) D w2 := by
  have HRE := Lib.hid (show nearR l (stP l) f o1 o2 = rNP l f o1 o2 from rfl)
  have RN0 := Lib.hid (fun h : rNP l f o1 o2 = 0 => show resN l f o1 o2 o3 = outTo l (finNP l f o1 o2 o3) l.length from if_pos h)
  have RN1 := Lib.hid (fun h : ¬ rNP l f o1 o2 = 0 => show resN l f o1 o2 o3 = [] from if_neg h)
  have ROR := rNP_or l f o1 o2
  have ROK := Lib.hid (resN_oks l ok f o1 o2 o3)
  generalize rNP l f o1 o2 = r at *
  have hgw : g < w.heap.size := hs.glt
  have B0 := Lib.hid ((Below.refl w.heap.size w).alloc (Nat.le_refl _) (.cells #[.int .i64 o1, .int .i64 o2, .bool o3] 26))
  have O0 := Lib.hid (Ar.new w [.int .i64 o1, .int .i64 o2, .bool o3] 26)
  have P0 := Lib.hid (hs.below B0.out)
  have hl0 : LReads (w.alloc (.cells #[.int .i64 o1, .int .i64 o2, .bool o3] 26)) (w.alloc (.cells #[.int .i64 o1, .int .i64 o2, .bool o3] 26)).heap.size A l := (hl.keep fun p hp => B0.out.cell hp).more B0.out.size
  have HS := Lib.hid (Rn.start_any _ A c l hl0 ok (by omega))
  have HC := Lib.hid hc
  have HY := Lib.hid hby
  have HA := Lib.hid hA
  have HK := Lib.hid ok
  have HGW := Lib.hid hgw
  have LEN := Lib.hid hn
  have SZ := Lib.hid (show (w.alloc (.cells #[.int .i64 o1, .int .i64 o2, .bool o3] 26)).heap.size = w.heap.size + 1 by simp)
  generalize hw0 : w.alloc (.cells #[.int .i64 o1, .int .i64 o2, .bool o3] 26) = w0 at *
  generalize hL : resN l f o1 o2 o3 = L at *
  clear hs hl ok hn hby hA hc hl0 hgw hL
  by_cases E : r = 0
  · subst E
    have HLE := Lib.hid (RN0.out rfl)
    clear ROR RN0 RN1
    cases o3 with
    | false =>
      go_enter Tryz.func7, Tryz.ntmps7
      go_wp2_with (first
    | (go_at_call 17; refine HS.out.mono ?_; rintro e w1 ⟨b, F, S, K, T, rfl, hF1, hB1⟩; have F1 := Lib.hid hF1; have B1 := Lib.hid hB1; clear hF1 hB1)
    | (go_at_call 18; refine (Rn.exact_any F1.out).mono ?_; rintro e w2 ⟨rfl, hF2, hB2⟩; have F2 : Hid (Fnd w2 w0.heap.size b F S K T A c l (stP l)) := Lib.hid hF2; have B2 := Lib.hid (B1.out.trans hB2); clear hF2 hB2; have O2 := Lib.hid (O0.out.below B2.out O0.out.lt); have P2 := Lib.hid (P0.out.below B2.out); have hld := ldA O2.out (n := 3) rfl Tryz.underlying26 rfl inf26)
    | (go_at_call 19; refine (near_any w2 g m l0 t kn f P2.out HC.out w0.heap.size b F S K T A c l (stP l) F2.out HY.out P0.out.glt HA.out o1 o2 _ LEN.out (k04_P l) (stP_tk l)).mono ?_; rintro e w3 ⟨he, hp3⟩; obtain rfl := he.trans (by rw [HRE.out] : _ = Ending.returned (Value.int .i64 0)); have NP := Lib.hid hp3; clear hp3 he; have CX : Hid (Chs (fun q => q = g) w0 w3) := Lib.hid ⟨NP.out.chs.os.trans B2.out.os, NP.out.chs.tape.trans B2.out.tape, NP.out.chs.output.trans B2.out.output, Nat.le_trans B2.out.size NP.out.chs.size, fun k hk hn => (NP.out.chs.block k (Nat.lt_of_lt_of_le hk B2.out.size) (fun e => Or.elim e hn (fun e => by have := (four_lt F2.out k e).1; omega))).trans (B2.out.block k hk)⟩; have O3 := Lib.hid (show Ar w3 w.heap.size 26 [.int .i64 o1, .int .i64 o2, .bool _] from (CX.out.block _ O0.out.lt (fun e => by have := HGW.out; omega)).trans O0.out); have hc2 := O3.out.cell (k := 2) rfl)
    | (go_at_call 21; refine (Rn.changes_any (show Fnd w3 w0.heap.size b F S K T A c l (finNP l f o1 o2 false) from NP.out.fd) _ rfl (finN_frP l f o1 o2 false)).mono ?_; rintro e w5 ⟨v, rfl, hO, hB5⟩; have G5 := Lib.hid hO; have B5 := Lib.hid hB5; clear hO hB5; have G6 := G5.out; rw [← HLE.out] at G6; obtain ⟨D, d, hv, hrd⟩ := Rn.own_reads ROK.out G6; clear G6; have RD := Lib.hid hrd; clear hrd; subst hv))
      go_ret2
      obtain ⟨kn3, w3', hst, he3⟩ := NP.out.st
      have hst3 := P0.out.young hst CX.out he3
      exact ⟨D, d, rfl, ⟨⟨kn3, hst3.below B5.out⟩, RD.out, ((Chs.of_below B0.out (fun q => q = g)).trans CX.out).trans (Chs.of_below B5.out _)⟩⟩
    | true =>
      go_enter Tryz.func7, Tryz.ntmps7
      go_wp2_with (first
    | (go_at_call 17; refine HS.out.mono ?_; rintro e w1 ⟨b, F, S, K, T, rfl, hF1, hB1⟩; have F1 := Lib.hid hF1; have B1 := Lib.hid hB1; clear hF1 hB1)
    | (go_at_call 18; refine (Rn.exact_any F1.out).mono ?_; rintro e w2 ⟨rfl, hF2, hB2⟩; have F2 : Hid (Fnd w2 w0.heap.size b F S K T A c l (stP l)) := Lib.hid hF2; have B2 := Lib.hid (B1.out.trans hB2); clear hF2 hB2; have O2 := Lib.hid (O0.out.below B2.out O0.out.lt); have P2 := Lib.hid (P0.out.below B2.out); have hld := ldA O2.out (n := 3) rfl Tryz.underlying26 rfl inf26)
    | (go_at_call 19; refine (near_any w2 g m l0 t kn f P2.out HC.out w0.heap.size b F S K T A c l (stP l) F2.out HY.out P0.out.glt HA.out o1 o2 _ LEN.out (k04_P l) (stP_tk l)).mono ?_; rintro e w3 ⟨he, hp3⟩; obtain rfl := he.trans (by rw [HRE.out] : _ = Ending.returned (Value.int .i64 0)); have NP := Lib.hid hp3; clear hp3 he; have CX : Hid (Chs (fun q => q = g) w0 w3) := Lib.hid ⟨NP.out.chs.os.trans B2.out.os, NP.out.chs.tape.trans B2.out.tape, NP.out.chs.output.trans B2.out.output, Nat.le_trans B2.out.size NP.out.chs.size, fun k hk hn => (NP.out.chs.block k (Nat.lt_of_lt_of_le hk B2.out.size) (fun e => Or.elim e hn (fun e => by have := (four_lt F2.out k e).1; omega))).trans (B2.out.block k hk)⟩; have O3 := Lib.hid (show Ar w3 w.heap.size 26 [.int .i64 o1, .int .i64 o2, .bool _] from (CX.out.block _ O0.out.lt (fun e => by have := HGW.out; omega)).trans O0.out); have hc2 := O3.out.cell (k := 2) rfl)
    | (go_at_call 20; refine (Rn.copies_any NP.out.fd).mono ?_; rintro e w4 ⟨rfl, hF4, hB4⟩; have F4 : Hid (Fnd w4 w0.heap.size b F S K T A c l (finNP l f o1 o2 true)) := Lib.hid hF4; have B4 := Lib.hid hB4; clear hF4 hB4)
    | (go_at_call 21; refine (Rn.changes_any F4.out _ rfl (finN_frP l f o1 o2 true)).mono ?_; rintro e w5 ⟨v, rfl, hO, hB5⟩; have G5 := Lib.hid hO; have B5 := Lib.hid hB5; clear hO hB5; have G6 := G5.out; rw [← HLE.out] at G6; obtain ⟨D, d, hv, hrd⟩ := Rn.own_reads ROK.out G6; clear G6; have RD := Lib.hid hrd; clear hrd; subst hv))
      go_ret2
      obtain ⟨kn3, w3', hst, he3⟩ := NP.out.st
      have c4 : Chs (fun q => q = g) w0 w4 := ⟨B4.out.os.trans CX.out.os, B4.out.tape.trans CX.out.tape, B4.out.output.trans CX.out.output, Nat.le_trans CX.out.size B4.out.size, fun k hk hn => (B4.out.block k hk).trans (CX.out.block k hk hn)⟩
      have hst4 := P0.out.young hst c4 ((B4.out.block g P0.out.glt).trans he3)
      exact ⟨D, d, rfl, ⟨⟨kn3, hst4.below B5.out⟩, RD.out, ((Chs.of_below B0.out (fun q => q = g)).trans c4).trans (Chs.of_below B5.out _)⟩⟩
  · have hr0 : r = 30 := by omega
    subst hr0
    have hLe := RN1.out (by decide)
    clear ROR
    go_enter Tryz.func7, Tryz.ntmps7
    go_wp2_with (first
    | (go_at_call 17; refine HS.out.mono ?_; rintro e w1 ⟨b, F, S, K, T, rfl, hF1, hB1⟩; have F1 := Lib.hid hF1; have B1 := Lib.hid hB1; clear hF1 hB1)
    | (go_at_call 18; refine (Rn.exact_any F1.out).mono ?_; rintro e w2 ⟨rfl, hF2, hB2⟩; have F2 : Hid (Fnd w2 w0.heap.size b F S K T A c l (stP l)) := Lib.hid hF2; have B2 := Lib.hid (B1.out.trans hB2); clear hF2 hB2; have O2 := Lib.hid (O0.out.below B2.out O0.out.lt); have P2 := Lib.hid (P0.out.below B2.out); have hld := ldA O2.out (n := 3) rfl Tryz.underlying26 rfl inf26)
    | (go_at_call 19; refine (near_any w2 g m l0 t kn f P2.out HC.out w0.heap.size b F S K T A c l (stP l) F2.out HY.out P0.out.glt HA.out o1 o2 _ LEN.out (k04_P l) (stP_tk l)).mono ?_; rintro e w3 ⟨he, hp3⟩; obtain rfl := he.trans (by rw [HRE.out] : _ = Ending.returned (Value.int .i64 30)); have NP := Lib.hid hp3; clear hp3 he; have CX : Hid (Chs (fun q => q = g) w0 w3) := Lib.hid ⟨NP.out.chs.os.trans B2.out.os, NP.out.chs.tape.trans B2.out.tape, NP.out.chs.output.trans B2.out.output, Nat.le_trans B2.out.size NP.out.chs.size, fun k hk hn => (NP.out.chs.block k (Nat.lt_of_lt_of_le hk B2.out.size) (fun e => Or.elim e hn (fun e => by have := (four_lt F2.out k e).1; omega))).trans (B2.out.block k hk)⟩; have O3 := Lib.hid (show Ar w3 w.heap.size 26 [.int .i64 o1, .int .i64 o2, .bool _] from (CX.out.block _ O0.out.lt (fun e => by have := HGW.out; omega)).trans O0.out); have hc2 := O3.out.cell (k := 2) rfl))
    go_ret2
    obtain ⟨kn3, w3', hst, he3⟩ := NP.out.st
    have hst3 := P0.out.young hst CX.out he3
    subst hLe
    exact ⟨none, 0, rfl, ⟨⟨kn3, hst3⟩, fun k x hx => by simp at hx, (Chs.of_below B0.out (fun q => q = g)).trans CX.out⟩⟩
end Go.Proofs.YtbmpidacoohdmaaGreat
namespace Go.Proofs.YtbmpidacoohdmaaGreat
open Go.RowKit Op
open Rn (Chg LReads CellsAt Oks ne_of_types)

structure CD (b g gd h : Nat) (ov : Value) (cs : List Value) (W : World) : Prop where
  own : ∃ cl, W.heap[b]? = some (.cells #[.pointer (some ⟨g, 0, none⟩), .pointer (some ⟨gd, 0, none⟩), .slice none 0 0, .slice none 0 0, .slice none 0 0, .bool cl, .bool false, ov, .bool false] 40 (0, 0))
  ask : Ar W h 28 cs
theorem CD.store {b g gd h : Nat} {ov : Value} {cs : List Value} {W : World} (H : CD b g gd h ov cs W) : W.cell? ⟨b, 0, none⟩ = some (.pointer (some ⟨g, 0, none⟩)) := by
  obtain ⟨cl, hb⟩ := H.own
  rw [cell_of_row W b 0 _ _ _ hb]; rfl
theorem CD.store2 {b g gd h : Nat} {ov : Value} {cs : List Value} {W : World} (H : CD b g gd h ov cs W) : W.cell? ⟨b, 1, none⟩ = some (.pointer (some ⟨gd, 0, none⟩)) := by
  obtain ⟨cl, hb⟩ := H.own
  rw [cell_of_row W b 1 _ _ _ hb]; rfl
theorem CD.keep {b g gd h : Nat} {ov : Value} {cs : List Value} {W W2 : World} (H : CD b g gd h ov cs W) (hb : W2.heap[b]? = W.heap[b]?) (hh : W2.heap[h]? = W.heap[h]?) : CD b g gd h ov cs W2 := by
  obtain ⟨cl, h1⟩ := H.own
  exact ⟨⟨cl, hb.trans h1⟩, hh.trans H.ask⟩
theorem CD.lt {b g gd h : Nat} {ov : Value} {cs : List Value} {W : World} (H : CD b g gd h ov cs W) : b < W.heap.size ∧ h < W.heap.size := by
  obtain ⟨cl, h1⟩ := H.own
  exact ⟨(Array.getElem?_eq_some_iff.1 h1).1, H.ask.lt⟩
theorem CD.below {b g gd h : Nat} {ov : Value} {cs : List Value} {W W2 : World} (H : CD b g gd h ov cs W) (hb : Below W.heap.size W W2) : CD b g gd h ov cs W2 := H.keep (hb.block _ H.lt.1) (hb.block _ H.lt.2)
theorem CD.chs {b g gd h q : Nat} {ov : Value} {cs : List Value} {W W2 : World} (H : CD b g gd h ov cs W) (hb : Chs (fun k => k = q) W W2) (h1 : b ≠ q) (h2 : h ≠ q) : CD b g gd h ov cs W2 := H.keep (hb.block _ H.lt.1 h1) (hb.block _ H.lt.2 h2)
/-- All that is known behind 'made', of the stores, the input and the changes. -/
structure Mde (w w1 : World) (b g gd : Nat) (ov : Value) (cs : List Value) (l : List Chg) (D : Option Addr) (f : List UInt8 → Option (List UInt8)) : Prop where
  low : w.heap.size ≤ g ∧ w.heap.size ≤ gd
  cd : CD b g gd w.heap.size ov cs w1
  psp : ∃ m l0 t kn, Psp w1 g m l0 t kn ∧ Cnt l0 f
  rsp : ∃ l0 A c fr t, Rsp w1 gd l0 A c fr t ∧ Cnt l0 f
  rd : LReads w1 w1.heap.size D l
  nb : b ≠ g ∧ b ≠ gd
  nh : w.heap.size ≠ g ∧ w.heap.size ≠ gd
  ng : gd ≠ g
  nd : ∀ ad, D = some ad → ad.block ≠ g ∧ ad.block ≠ gd
  bel : Below w.heap.size w w1
theorem mde_of {w w0 w1 : World} {b g m gd n k : Nat} {ov v : Value} {ks : List Kpt} {cs : List Value} {l : List Chg} {f : List UInt8 → Option (List UInt8)} (hw0 : Below w.heap.size w w0) (hq : Ar w0 w.heap.size 28 cs) (h : Bth w1 w0.heap.size b g m gd ov ks n f) (ho : w1.ownsRow w0.heap.size 53 70 v k (l.flatMap Chg.cells)) (hk : l.length = k) (hb : Below w0.heap.size w0 w1) (ok : Oks l) : ∃ D d, v = .slice D l.length d ∧ Mde w w1 b g gd ov cs l D f := by
  obtain ⟨l0, kn, t, hp, _, _, hc⟩ := h.psp
  obtain ⟨l2, A2, c2, fr2, t2, hr, _, _, hc2⟩ := h.rsp
  obtain ⟨lb, lg, lm, lgd⟩ := h.low
  obtain ⟨cl, hblk⟩ := h.blk
  obtain ⟨D, d, hv, hrd⟩ := Rn.own_reads ok (by rw [hk]; exact ho)
  have hq1 := hq.below hb hq.lt
  have hs := hw0.size
  have nd : ∀ ad, D = some ad → ad.block ≠ g ∧ ad.block ≠ gd := fun ad e => by
    obtain ⟨cs9, fr9, h9⟩ := own_typ ho ad.block (by rw [hv, e]; rfl)
    refine ⟨fun q => ?_, fun q => ?_⟩
    · have := (h9.symm.trans (q ▸ hp.blk))
      injection this with this
      injection this with _ this
      revert this
      decide
    · have := (h9.symm.trans (q ▸ hr.blk))
      injection this with this
      injection this with _ this
      revert this
      decide
  exact ⟨D, d, hv, ⟨by omega, by omega⟩, ⟨⟨cl, hblk⟩, hq1⟩, ⟨m, l0, t, kn, hp, hc⟩, ⟨l2, A2, c2, fr2, t2, hr, hc2⟩, hrd, ⟨ne_of_types hblk hp.blk (by decide), ne_of_types hblk hr.blk (by decide)⟩, ⟨ne_of_types hq1 hp.blk (by decide), ne_of_types hq1 hr.blk (by decide)⟩, ne_of_types hr.blk hp.blk (by decide), nd, hw0.trans (hb.mono hs)⟩
end Go.Proofs.YtbmpidacoohdmaaGreat

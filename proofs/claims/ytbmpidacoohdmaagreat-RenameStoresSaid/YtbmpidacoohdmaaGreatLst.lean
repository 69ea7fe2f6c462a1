/- sleuthlaw26.RenameStores: the walk of the law. -/
import Derived.Test.YtbmpidacoohdmaaGreatLsp
import Derived.Test.YtbmpidacoohdmaaGreatRSame
namespace Go.Proofs.YtbmpidacoohdmaaGreat
open Go.RowKit Op
open Rn (Chg LReads CellsAt Oks)

theorem ld28_eq (a : Addr) : loadVar 28 a = ldT 28 a := rfl
theorem inf28 : (Tryz.prog.info? 28).map (·.size) = some 6 := by kernel_rfl
theorem bd26_eq (ps : Array (Nat × Value)) : Instr.build 26 ps = bdT 26 ps := rfl
theorem run_bd26 (o2 : Int) (W : World) : (bdT 26 #[(0, .int .i64 1001), (1, .int .i64 o2)]).run Tryz.prog W = .ok (.agg #[.int .i64 1001, .int .i64 o2, .bool false]) W := run_build W 26 _ _ (by kernel_rfl)
theorem same_true (w : World) (a : List Chg) (A D : Option Addr) (c d : Nat) {Ba Bb : Nat} (ha : LReads w Ba A a) (hb : LReads w Bb D a) (ok : Oks a) (hn : a.length ≤ 40) :
    Calls Tryz.prog 10 #[.slice A a.length c, .slice D a.length d] w fun e w' => e = .returned (.bool true) ∧ Below w.heap.size w w' := by
  have h := Rn.same_any w a a A D c d Ba Bb ha hb ok ok hn (by omega)
  rw [show decide (a = a) = true from decide_eq_true rfl] at h
  exact h.mono fun e w' ⟨he, m, hm⟩ => ⟨he, by subst hm; exact Rn.below_drewN (Below.refl _ _) m⟩
structure CC (b2 g2 gd2 h : Nat) (cs : List Value) (W : World) : Prop where
  own : ∃ cl, W.heap[b2]? = some (.cells #[.pointer (some ⟨g2, 0, none⟩), .pointer (some ⟨gd2, 0, none⟩), .slice none 0 0, .slice none 0 0, .slice none 0 0, .bool cl, .bool false, .slice none 0 0, .bool false] 40 (0, 0))
  ask : Ar W h 28 cs
theorem CC.store {b2 g2 gd2 h : Nat} {cs : List Value} {W : World} (H : CC b2 g2 gd2 h cs W) : W.cell? ⟨b2, 0, none⟩ = some (.pointer (some ⟨g2, 0, none⟩)) := by
  obtain ⟨cl, hb⟩ := H.own
  rw [cell_of_row W b2 0 _ _ _ hb]; rfl
theorem CC.keep {b2 g2 gd2 h : Nat} {cs : List Value} {W W2 : World} (H : CC b2 g2 gd2 h cs W) (hb : W2.heap[b2]? = W.heap[b2]?) (hh : W2.heap[h]? = W.heap[h]?) : CC b2 g2 gd2 h cs W2 := by
  obtain ⟨cl, h1⟩ := H.own
  exact ⟨⟨cl, hb.trans h1⟩, hh.trans H.ask⟩
theorem CC.lt {b2 g2 gd2 h : Nat} {cs : List Value} {W : World} (H : CC b2 g2 gd2 h cs W) : b2 < W.heap.size ∧ h < W.heap.size := by
  obtain ⟨cl, h1⟩ := H.own
  exact ⟨(Array.getElem?_eq_some_iff.1 h1).1, H.ask.lt⟩
theorem CC.below {b2 g2 gd2 h : Nat} {cs : List Value} {W W2 : World} (H : CC b2 g2 gd2 h cs W) (hb : Below W.heap.size W W2) : CC b2 g2 gd2 h cs W2 := H.keep (hb.block _ H.lt.1) (hb.block _ H.lt.2)
theorem CC.chs {b2 g2 gd2 h g : Nat} {cs : List Value} {W W2 : World} (H : CC b2 g2 gd2 h cs W) (hb : Chs (fun q => q = g) W W2) (h1 : b2 ≠ g) (h2 : h ≠ g) : CC b2 g2 gd2 h cs W2 := H.keep (hb.block _ H.lt.1 h1) (hb.block _ H.lt.2 h2)
theorem LReads.chs {w w2 : World} {gs : Nat} {A : Option Addr} {l : List Chg} (h : LReads w w.heap.size A l) (hc : Chs (fun k => k = gs) w w2) (hA : ∀ ad, A = some ad → ad.block ≠ gs) : LReads w2 w2.heap.size A l := (LReads.gs h (Nat.le_refl _) hc hA).more hc.size
theorem LReads.off {w w2 : World} {g B : Nat} {A : Option Addr} {l : List Chg} {cs : Array Value} {ty : TypeId} {f : Nat × Nat} (h : LReads w B A l) (hB : B ≤ w.heap.size) (ok : Oks l) (hc : Chs (fun q => q = g) w w2) (hg : w.heap[g]? = some (.cells cs ty f)) (hs : cs.size < 70) : LReads w2 B A l := fun k x hx => by
  obtain ⟨ad, e, hb, hcs⟩ := h k x hx
  refine ⟨ad, e, hb, hcs.keep fun p hp => World.cell?_of_block (hc.block p.block (by rw [hp, block_add]; omega) (fun q => ?_))⟩
  have hl : x.cells[69]? = some (.int .i64 x.score) := Rn.Chg.score_at _ (ok k x hx)
  have hc69 := hcs 69 _ hl
  rw [hp, block_add] at q
  rw [Addr.add_add, show ad.add (k * 70 + 69) = ⟨g, ad.off + (k * 70 + 69), none⟩ by unfold Addr.add; rw [if_neg (by omega), ← q], cell_of_row w g _ _ _ _ hg] at hc69
  have := (Array.getElem?_eq_some_iff.1 hc69).1
  omega
theorem Below.chs {C g : Nat} {w0 w w2 : World} (hb : Below C w0 w) (hc : Chs (fun q => q = g) w w2) (hg : C ≤ g) (hC : C ≤ w0.heap.size) : Below C w0 w2 :=
  ⟨hc.os.trans hb.os, hc.tape.trans hb.tape, hc.output.trans hb.output, Nat.le_trans hb.size hc.size, fun k hk => (hc.block k (by have := hb.size; omega) (by omega)).trans (hb.block k hk)⟩
attribute [local go_sem ↓] ld26_eq ld28_eq bd26_eq
attribute [local go_sem] run_bd26

set_option maxRecDepth 100000 in
set_option maxHeartbeats 2000000 in
theorem rstores_any (w : World) (At Al Ai : Option Addr) (ct cl ci : Nat) (ts : List (List UInt8)) (L0 : List Chg) (ps : List (UInt8 × UInt8)) (o1 o2 : Int) (o3 : Bool)
    (ht : Rv w.heap.size w At (strs (ts.map bs))) (hl : LReads w w.heap.size Al L0) (ok : Rn.Oks L0) (hby : BytL L0) (hp : Rv w.heap.size w Ai (ps.flatMap fun p => [.int .u8 (p.1.toNat : Int), .int .u8 (p.2.toNat : Int)])) (htl : ts.length ≤ maxLen) (hll : L0.length ≤ maxLen) (hpl : ps.length ≤ maxLen) (hts : ∀ t ∈ ts, t.length ≤ maxLen) :
    Calls Tryz.prog 5 #[.agg #[.slice At ts.length ct, .slice Al L0.length cl, .slice Ai ps.length ci, .int .i64 o1, .int .i64 o2, .bool o3]] w fun e w2 => e = .returned (.bool true) ∧ Below w.heap.size w w2 := by
  have B0 := Lib.hid ((Below.refl w.heap.size w).alloc (Nat.le_refl _) (.cells #[.slice At ts.length ct, .slice Al L0.length cl, .slice Ai ps.length ci, .int .i64 o1, .int .i64 o2, .bool o3] 28))
  have Q0 := Lib.hid (Ar.new w [.slice At ts.length ct, .slice Al L0.length cl, .slice Ai ps.length ci, .int .i64 o1, .int .i64 o2, .bool o3] 28)
  have HM := Lib.hid (made_any (w.alloc (.cells #[.slice At ts.length ct, .slice Al L0.length cl, .slice Ai ps.length ci, .int .i64 o1, .int .i64 o2, .bool o3] 28)) At Al Ai ct cl ci ts L0 ps o1 o2 o3 (ht.low B0.out B0.out.size) ((hl.keep fun p hp => B0.out.cell hp).more B0.out.size) ok (hp.low B0.out B0.out.size) htl hll hpl hts)
  have LOK := Lib.hid (chgTo_ok (ids := idsB ts (bodB ts).length) (ps := ps) ok hby (fun x hx => idsB_mem x hx) (by simp [idsB]) (min 12 L0.length) (Nat.min_le_right _ _))
  have LLN := Lib.hid (chgTo_len (idsB ts (bodB ts).length) ps L0 (min 12 L0.length))
  have L12 := Lib.hid (Nat.min_le_left 12 L0.length)
  clear ht hl ok hby hp
  generalize hl : chgTo (idsB ts (bodB ts).length) ps L0 (min 12 L0.length) = l at *
  generalize hn12 : min 12 L0.length = n at *
  have hld := ldA Q0.out (n := 6) rfl Tryz.underlying28 rfl inf28
  generalize hw0 : w.alloc (.cells #[.slice At ts.length ct, .slice Al L0.length cl, .slice Ai ps.length ci, .int .i64 o1, .int .i64 o2, .bool o3] 28) = w0 at *
  have LO : Hid (Oks l) := Lib.hid (fun k x hx => (LOK.out x (List.mem_of_getElem? hx)).1)
  have LB : Hid (BytL l) := Lib.hid (fun k x hx => (LOK.out x (List.mem_of_getElem? hx)).2)
  have LN : Hid (l.length ≤ 12) := Lib.hid (by rw [LLN.out]; exact L12.out)
  clear hl hn12 LOK htl hll hpl hts
  go_enter Tryz.func5, Tryz.ntmps5
  go_wp2_with (first
    | (go_at_call 6; refine HM.out.mono ?_; rintro e w1 ⟨b1, g1, m1, gd1, ova, ks, v, rfl, _, ho, hb1⟩; obtain ⟨D, d, hv, hrd⟩ := Rn.own_reads LO.out (by rw [LLN.out]; exact ho); have B1 := Lib.hid (B0.out.trans (hb1.mono B0.out.size)); have RD := Lib.hid hrd; have Q1 := Lib.hid (Q0.out.below hb1 Q0.out.lt); subst hv; have DLT := Lib.hid (fun q hq => (ho.lt q hq).2); clear ho hb1 hrd)
    | (go_at_call 13; refine (built_any w1).mono ?_; rintro e w2 ⟨b2, g2, m2, gd2, rfl, hbt, hb2⟩; have BT := Lib.hid hbt; have H2 := Lib.hid hb2; clear hbt hb2))
  obtain ⟨l0, kn, t, hpsp, _, _, hcnt⟩ := BT.out.psp
  obtain ⟨_, lowg, _, _⟩ := BT.out.low
  have CN := Lib.hid hcnt
  have P2 := Lib.hid hpsp
  have C2 : Hid (CC b2 g2 gd2 w.heap.size [.slice At ts.length ct, .slice Al L0.length cl, .slice Ai ps.length ci, .int .i64 o1, .int .i64 o2, .bool o3] w2) := Lib.hid ⟨BT.out.blk, Q1.out.below H2.out Q1.out.lt⟩
  have HG : Hid (w1.heap.size ≤ g2) := Lib.hid lowg
  have HD : Hid (∀ ad, D = some ad → ad.block ≠ g2) := Lib.hid (fun ad e => by have := DLT.out ad.block (by subst e; rfl); have := HG.out; omega)
  have HH : Hid (w.heap.size ≠ g2) := Lib.hid (by have := Q1.out.lt; have := HG.out; omega)
  have HB2 : Hid (b2 ≠ g2) := Lib.hid (fun e => by obtain ⟨cl, hb⟩ := BT.out.blk; have hs := P2.out.blk; rw [← e, hb] at hs; injection hs with hs; injection hs with _ hs; revert hs; decide)
  have RD2 : Hid (LReads w2 w2.heap.size D l) := Lib.hid ((RD.out.keep fun p hp => H2.out.cell hp).more H2.out.size)
  have BB := Lib.hid (B1.out.trans (H2.out.mono B1.out.size))
  clear hpsp hcnt lowg
  refine region_of (fun W => CC b2 g2 gd2 w.heap.size [.slice At ts.length ct, .slice Al L0.length cl, .slice Ai ps.length ci, .int .i64 o1, .int .i64 o2, .bool o3] W) (by kernel_rfl) ?_
  have B3 := Lib.hid BB.out.drew
  have HCC : Hid (CC b2 g2 gd2 w.heap.size [.slice At ts.length ct, .slice Al L0.length cl, .slice Ai ps.length ci, .int .i64 o1, .int .i64 o2, .bool o3] w2.drew) := Lib.hid (C2.out.keep rfl rfl)
  have P3 := Lib.hid (P2.out.below (Below.refl w2.heap.size w2).drew)
  have RD3 : Hid (LReads w2.drew w2.drew.heap.size D l) := RD2
  obtain ⟨r, hr⟩ : ∃ r : Int, (if early l o1 o2 then 0 else 30) = r := ⟨_, rfl⟩
  have FSX := find_short w2.drew g2 m2 l0 t kn _ P3.out CN.out D d l RD3.out LO.out (Nat.le_trans LN.out (by omega)) LB.out HD.out o1 o2 o3 (no_text l o1 o2)
  rw [hr] at FSX
  replace FSX := Lib.hid FSX
  have HR := Lib.hid hr
  clear hr
  have RLN : Hid ((resP l o1 o2 o3).length ≤ 12) := Lib.hid (Nat.le_trans (resP_len l o1 o2 o3) LN.out)
  have ROK := Lib.hid (resP_oks l LO.out o1 o2 o3)
  generalize hL : resP l o1 o2 o3 = L at *
  have HLE := Lib.hid hL
  clear hL
  generalize hw3 : w2.drew = w3 at *
  refine anyC_take 0 (v := ?_) HCC.out rfl (by kernel_rfl) (by kernel_rfl) (by kernel_rfl) (fun c a w h => by exact h) rfl (fun W hW => ?_) ?_
  rotate_left
  · go_simp
    try rfl
  simp only [Act.put]
  refine anyC_take 1 (v := ?_) HCC.out rfl (by kernel_rfl) (by kernel_rfl) (by kernel_rfl) (fun c a w h => by exact h) rfl (fun W hW => ?_) ?_
  rotate_left
  · go_simp
    try rfl
  simp only [Act.put]
  refine anyC_take 2 (v := ?_) HCC.out rfl (by kernel_rfl) (by kernel_rfl) (by kernel_rfl) (fun c a w h => by exact h) rfl (fun W hW => ?_) ?_
  rotate_left
  · go_simp
    try rfl
  simp only [Act.put]
  refine anyC_take 3 (v := ?_) HCC.out rfl (by kernel_rfl) (by kernel_rfl) (by kernel_rfl) (fun c a w h => by exact h) rfl (fun W hW => ?_) ?_
  rotate_left
  · have := hW.store; go_simp
    try rfl
  simp only [Act.put]
  refine anyC_take 4 (v := ?_) HCC.out rfl (by kernel_rfl) (by kernel_rfl) (by kernel_rfl) (fun c a w h => by exact h) rfl (fun W hW => ?_) ?_
  rotate_left
  · go_simp
    try rfl
  simp only [Act.put]
  refine anyC_take 5 (v := ?_) HCC.out rfl (by kernel_rfl) (by kernel_rfl) (by kernel_rfl) (fun c a w h => by exact h) rfl (fun W hW => ?_) ?_
  rotate_left
  · go_simp
    try rfl
  simp only [Act.put]
  refine anyC_take 6 (v := ?_) HCC.out rfl (by kernel_rfl) (by kernel_rfl) (by kernel_rfl) (fun c a w h => by exact h) rfl (fun W hW => ?_) ?_
  rotate_left
  · have := ldP hW.ask (k := 3) (n := 3) rfl rfl Tryz.underlying26 rfl inf26; go_simp
    try rfl
  simp only [Act.put]
  refine anyC_one 7 HCC.out (by kernel_rfl) rfl ?_
  go_wp2_with (go_at_call 7; refine FSX.out.mono ?_; rintro e w4 ⟨D4, d4, rfl, hf4⟩; have F4 := Lib.hid hf4; clear hf4)
  have HC4 := Lib.hid (HCC.out.chs F4.out.chs HB2.out HH.out)
  have RD4 := Lib.hid (LReads.chs RD3.out F4.out.chs HD.out)
  clear hw3
  refine anyC_take 8 (v := ?_) HC4.out rfl (by kernel_rfl) (by kernel_rfl) (by kernel_rfl) (fun c a w h => by exact h) rfl (fun W hW => ?_) ?_
  rotate_left
  · go_simp
    try rfl
  simp only [Act.put]
  refine anyC_take 9 (v := ?_) HC4.out rfl (by kernel_rfl) (by kernel_rfl) (by kernel_rfl) (fun c a w h => by exact h) rfl (fun W hW => ?_) ?_
  rotate_left
  · go_simp
    try rfl
  simp only [Act.put]
  refine anyC_take 10 (v := ?_) HC4.out rfl (by kernel_rfl) (by kernel_rfl) (by kernel_rfl) (fun c a w h => by exact h) rfl (fun W hW => ?_) ?_
  rotate_left
  · go_simp
    try rfl
  simp only [Act.put]
  refine anyC_take 11 (v := ?_) HC4.out rfl (by kernel_rfl) (by kernel_rfl) (by kernel_rfl) (fun c a w h => by exact h) rfl (fun W hW => ?_) ?_
  rotate_left
  · go_simp
    try rfl
  simp only [Act.put]
  refine anyC_take 12 (v := ?_) HC4.out rfl (by kernel_rfl) (by kernel_rfl) (by kernel_rfl) (fun c a w h => by exact h) rfl (fun W hW => ?_) ?_
  rotate_left
  · go_simp
    try rfl
  simp only [Act.put]
  refine anyC_done HC4.out (by kernel_rfl) ?_ _
  have X4 := Lib.hid (Below.chs B3.out F4.out.chs (Nat.le_trans B1.out.size HG.out) (Nat.le_refl _))
  obtain ⟨kn4, hp4⟩ := F4.out.st
  have P4 := Lib.hid hp4
  have L4 : Hid (LReads w4 w4.heap.size D4 L) := Lib.hid F4.out.rd
  have G4 := Lib.hid hp4.glt
  have M4 := Lib.hid hp4.mlt
  clear hp4
  have Y5 := Lib.hid ((Below.refl w4.heap.size w4).alloc (Nat.le_refl _) (.cells #[.slice none 0 0, .int .i64 0, .slice none 0 0, .bool false] 63))
  have R5 : Hid (Rsp (w4.alloc (.cells #[.slice none 0 0, .int .i64 0, .slice none 0 0, .bool false] 63)) w4.heap.size [] none 0 false 0) := Lib.hid ⟨Ar.new w4 [.slice none 0 0, .int .i64 0, .slice none 0 0, .bool false] 63, fun _ => rfl, Nat.le_refl _, Rv.nil, fun ad e => (by cases e), fun x hx => (by cases hx), Nat.zero_le _⟩
  have HC5 := Lib.hid (HC4.out.below Y5.out)
  have hld5 := ldP HC5.out.ask (k := 3) (n := 3) rfl rfl Tryz.underlying26 rfl inf26
  have W14 : Hid (w1.heap.size ≤ w4.heap.size) := Lib.hid (Nat.le_trans HG.out (Nat.le_of_lt G4.out))
  have DS : Hid (∀ ad, D = some ad → ad.block ≠ w4.heap.size) := Lib.hid (fun ad e => by have := DLT.out ad.block (by subst e; rfl); have := W14.out; omega)
  have N5 : Hid (b2 ≠ w4.heap.size ∧ w.heap.size ≠ w4.heap.size) := Lib.hid ⟨Nat.ne_of_lt HC4.out.lt.1, Nat.ne_of_lt HC4.out.lt.2⟩
  have SZ5 := Lib.hid (show (w4.alloc (.cells #[.slice none 0 0, .int .i64 0, .slice none 0 0, .bool false] 63)).heap.size = w4.heap.size + 1 by simp)
  generalize hw5 : w4.alloc (.cells #[.slice none 0 0, .int .i64 0, .slice none 0 0, .bool false] 63) = w5 at *
  go_wp2_with (first
    | (go_at_call 9; refine (plain_any w5 o1 o2 o3).mono ?_; rintro e w6 ⟨rfl, hb6⟩; have Y6 := Lib.hid hb6; have R6 := Lib.hid (R5.out.below hb6); have RD6 : Hid (LReads w6 w6.heap.size D l) := Lib.hid ((RD4.out.keep fun p hp => ((Y5.out.trans (hb6.mono Y5.out.size)).cell hp)).more (Nat.le_trans Y5.out.size hb6.size)); clear hb6)
    | (go_at_call 8; have hq := rfind_short w6 w4.heap.size none 0 false 0 R6.out D d l RD6.out LO.out (Nat.le_trans LN.out (by omega)) LB.out DS.out o1 o2 o3; rw [HR.out, HLE.out] at hq; refine hq.mono ?_; clear hq; rintro e w7 ⟨D7, d7, rfl, hf7⟩; have F7 := Lib.hid hf7; clear hf7))
  have X6 := Lib.hid ((X4.out.trans (Y5.out.mono X4.out.size)).trans (Y6.out.mono (Nat.le_trans X4.out.size Y5.out.size)))
  have X7 := Lib.hid (Below.chs X6.out F7.out.chs X4.out.size (Nat.le_refl _))
  have Y46 := Lib.hid (Y5.out.trans (Y6.out.mono Y5.out.size))
  have HC7 := Lib.hid ((HC5.out.below Y6.out).chs F7.out.chs N5.out.1 N5.out.2)
  have P7 := Lib.hid ((P4.out.below Y46.out).far F7.out.chs (R6.out.non (ty := 5) (by decide)) (Nat.ne_of_lt G4.out) (Nat.ne_of_lt M4.out))
  have RD7 := Lib.hid (LReads.chs RD6.out F7.out.chs DS.out)
  have L47 : Hid (LReads w7 w4.heap.size D4 L) := Lib.hid (L4.out.keep fun p hp => (World.cell?_of_block (F7.out.chs.block p.block (Nat.lt_of_lt_of_le hp (Nat.le_trans Y5.out.size Y6.out.size)) (Nat.ne_of_lt hp))).trans (Y46.out.cell hp))
  have L77 : Hid (LReads w7 w7.heap.size D7 L) := Lib.hid F7.out.rd
  clear hw5
  refine region_of (fun W => CC b2 g2 gd2 w.heap.size [.slice At ts.length ct, .slice Al L0.length cl, .slice Ai ps.length ci, .int .i64 o1, .int .i64 o2, .bool o3] W) (by kernel_rfl) ?_
  have X8 := Lib.hid X7.out.drew
  have HC8 : Hid (CC b2 g2 gd2 w.heap.size [.slice At ts.length ct, .slice Al L0.length cl, .slice Ai ps.length ci, .int .i64 o1, .int .i64 o2, .bool o3] w7.drew) := Lib.hid (HC7.out.keep rfl rfl)
  have P8 := Lib.hid (P7.out.below (Below.refl w7.heap.size w7).drew)
  have RD8 : Hid (LReads w7.drew w7.drew.heap.size D l) := RD7
  have L48 : Hid (LReads w7.drew w4.heap.size D4 L) := L47
  have L78 : Hid (LReads w7.drew w7.drew.heap.size D7 L) := L77
  have FT := find_short w7.drew g2 m2 l0 t kn4 _ P8.out CN.out D d l RD8.out LO.out (Nat.le_trans LN.out (by omega)) LB.out HD.out 1001 o2 false (no_text l 1001 o2)
  rw [resP_ex, if_pos (show early l 1001 o2 from .inl (by omega))] at FT
  replace FT := Lib.hid FT
  have S48 : Hid (w4.heap.size ≤ w7.drew.heap.size) := Lib.hid (Nat.le_trans (Nat.le_trans Y5.out.size Y6.out.size) F7.out.chs.size)
  generalize hw8 : w7.drew = w8 at *
  refine anyC_take 0 (v := ?_) HC8.out rfl (by kernel_rfl) (by kernel_rfl) (by kernel_rfl) (fun c a w h => by exact h) rfl (fun W hW => ?_) ?_
  rotate_left
  · go_simp
    try rfl
  simp only [Act.put]
  refine anyC_take 1 (v := ?_) HC8.out rfl (by kernel_rfl) (by kernel_rfl) (by kernel_rfl) (fun c a w h => by exact h) rfl (fun W hW => ?_) ?_
  rotate_left
  · go_simp
    try rfl
  simp only [Act.put]
  refine anyC_take 2 (v := ?_) HC8.out rfl (by kernel_rfl) (by kernel_rfl) (by kernel_rfl) (fun c a w h => by exact h) rfl (fun W hW => ?_) ?_
  rotate_left
  · go_simp
    try rfl
  simp only [Act.put]
  refine anyC_take 3 (v := ?_) HC8.out rfl (by kernel_rfl) (by kernel_rfl) (by kernel_rfl) (fun c a w h => by exact h) rfl (fun W hW => ?_) ?_
  rotate_left
  · have := hW.store; go_simp
    try rfl
  simp only [Act.put]
  refine anyC_take 4 (v := ?_) HC8.out rfl (by kernel_rfl) (by kernel_rfl) (by kernel_rfl) (fun c a w h => by exact h) rfl (fun W hW => ?_) ?_
  rotate_left
  · go_simp
    try rfl
  simp only [Act.put]
  refine anyC_take 5 (v := ?_) HC8.out rfl (by kernel_rfl) (by kernel_rfl) (by kernel_rfl) (fun c a w h => by exact h) rfl (fun W hW => ?_) ?_
  rotate_left
  · go_simp
    try rfl
  simp only [Act.put]
  refine anyC_take 6 (v := ?_) HC8.out rfl (by kernel_rfl) (by kernel_rfl) (by kernel_rfl) (fun c a w h => by exact h) rfl (fun W hW => ?_) ?_
  rotate_left
  · go_simp
    try rfl
  simp only [Act.put]
  refine anyC_take 7 (v := ?_) HC8.out rfl (by kernel_rfl) (by kernel_rfl) (by kernel_rfl) (fun c a w h => by exact h) rfl (fun W hW => ?_) ?_
  rotate_left
  · have := hW.ask.cell (k := 4) rfl; go_simp
    try rfl
  simp only [Act.put]
  refine anyC_take 8 (v := ?_) HC8.out rfl (by kernel_rfl) (by kernel_rfl) (by kernel_rfl) (fun c a w h => by exact h) rfl (fun W hW => ?_) ?_
  rotate_left
  · go_simp
    try rfl
  simp only [Act.put]
  refine anyC_one 9 HC8.out (by kernel_rfl) rfl ?_
  go_wp2_with (go_at_call 7; refine FT.out.mono ?_; rintro e w9 ⟨D9, d9, rfl, hf9⟩; have F9 := Lib.hid hf9; clear hf9)
  have HC9 := Lib.hid (HC8.out.chs F9.out.chs HB2.out HH.out)
  clear hw8
  refine anyC_take 10 (v := ?_) HC9.out rfl (by kernel_rfl) (by kernel_rfl) (by kernel_rfl) (fun c a w h => by exact h) rfl (fun W hW => ?_) ?_
  rotate_left
  · go_simp
    try rfl
  simp only [Act.put]
  refine anyC_take 11 (v := ?_) HC9.out rfl (by kernel_rfl) (by kernel_rfl) (by kernel_rfl) (fun c a w h => by exact h) rfl (fun W hW => ?_) ?_
  rotate_left
  · go_simp
    try rfl
  simp only [Act.put]
  refine anyC_take 12 (v := ?_) HC9.out rfl (by kernel_rfl) (by kernel_rfl) (by kernel_rfl) (fun c a w h => by exact h) rfl (fun W hW => ?_) ?_
  rotate_left
  · go_simp
    try rfl
  simp only [Act.put]
  refine anyC_take 13 (v := ?_) HC9.out rfl (by kernel_rfl) (by kernel_rfl) (by kernel_rfl) (fun c a w h => by exact h) rfl (fun W hW => ?_) ?_
  rotate_left
  · go_simp
    try rfl
  simp only [Act.put]
  refine anyC_take 14 (v := ?_) HC9.out rfl (by kernel_rfl) (by kernel_rfl) (by kernel_rfl) (fun c a w h => by exact h) rfl (fun W hW => ?_) ?_
  rotate_left
  · go_simp
    try rfl
  simp only [Act.put]
  refine anyC_done HC9.out (by kernel_rfl) ?_ _
  have X9 := Lib.hid (Below.chs X8.out F9.out.chs (Nat.le_trans B1.out.size HG.out) (Nat.le_refl _))
  have A9 : Hid (LReads w9 w4.heap.size D4 L) := Lib.hid (LReads.off L48.out S48.out ROK.out F9.out.chs P8.out.blk (by simp))
  have E9 : Hid (LReads w9 w8.heap.size D7 L) := Lib.hid (LReads.off L78.out (Nat.le_refl _) ROK.out F9.out.chs P8.out.blk (by simp))
  have G9 : Hid (LReads w9 w9.heap.size D9 (Rn.exactL l)) := Lib.hid F9.out.rd
  have RD9 : Hid (LReads w9 w9.heap.size D l) := Lib.hid (LReads.chs RD8.out F9.out.chs HD.out)
  have EOK := Lib.hid (Rn.exactL_oks l LO.out)
  have ELN : Hid ((Rn.exactL l).length ≤ 12) := Lib.hid (Nat.le_trans (Rn.exactL_len l) LN.out)
  go_wp2_with (first
    | (go_at_call_of 10 (Value.slice D4 L.length d4); refine (same_true w9 L D4 D7 d4 d7 A9.out E9.out ROK.out (Nat.le_trans RLN.out (by omega))).mono ?_; rintro e w11 ⟨rfl, hb11⟩; have Z11 := Lib.hid hb11; have RD11 : Hid (LReads w11 w11.heap.size D l) := Lib.hid ((RD9.out.keep fun p hp => hb11.cell hp).more hb11.size); clear hb11)
    | (go_at_call 14; refine (Rn.ref_any (c := d) RD11.out LO.out (Nat.le_trans LN.out (by omega))).mono ?_; rintro e w12 ⟨D12, d12, rfl, hr12, hb12⟩; have Z12 := Lib.hid (Z11.out.trans (hb12.mono Z11.out.size)); have R12 := Lib.hid hr12; have G12 : Hid (LReads w12 w9.heap.size D9 (Rn.exactL l)) := Lib.hid (G9.out.keep fun p hp => Z12.out.cell hp); clear hr12 hb12)
    | (go_at_call_of 10 (Value.slice D9 (Rn.exactL l).length d9); refine (same_true w12 (Rn.exactL l) D9 D12 d9 d12 G12.out R12.out EOK.out (Nat.le_trans ELN.out (by omega))).mono ?_; rintro e w13 ⟨rfl, hb13⟩; have Z13 := Lib.hid (Z12.out.trans (hb13.mono Z12.out.size)); clear hb13)
    | (go_at_call 11; refine (Rn.works_any w13).mono ?_; rintro e w14 ⟨rfl, hb14⟩; have Z14 := Lib.hid (Z13.out.trans (hb14.mono Z13.out.size)); clear hb14))
  go_ret
  exact ⟨rfl, X9.out.trans (Z14.out.mono X9.out.size)⟩
end Go.Proofs.YtbmpidacoohdmaaGreat

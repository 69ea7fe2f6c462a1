/- sleuthlaw26.RenameKeeps: the walk of the law. -/
import Derived.Test.YtbmpidacoohdmaaGreatK34
import Derived.Test.YtbmpidacoohdmaaGreatK36
namespace Go.Proofs.YtbmpidacoohdmaaGreat
open Go.RowKit Op
open Rn (Chg LReads CellsAt Oks outTo)

attribute [local go_sem ↓] ld26_eq ld28_eq
set_option maxRecDepth 100000 in
set_option maxHeartbeats 2000000 in
theorem rkeeps_any (w : World) (At Al Ai : Option Addr) (ct cl ci : Nat) (ts : List (List UInt8)) (L0 : List Chg) (ps : List (UInt8 × UInt8)) (o1 o2 : Int) (o3 : Bool)
    (ht : Rv w.heap.size w At (strs (ts.map bs))) (hl : LReads w w.heap.size Al L0) (ok : Rn.Oks L0) (hby : BytL L0) (hp : Rv w.heap.size w Ai (ps.flatMap fun p => [.int .u8 (p.1.toNat : Int), .int .u8 (p.2.toNat : Int)])) (htl : ts.length ≤ maxLen) (hll : L0.length ≤ maxLen) (hpl : ps.length ≤ maxLen) (hts : ∀ t ∈ ts, t.length ≤ maxLen) :
    Calls Tryz.prog 4 #[.agg #[.slice At ts.length ct, .slice Al L0.length cl, .slice Ai ps.length ci, .int .i64 o1, .int .i64 o2, .bool o3]] w fun e w2 => e = .returned (.bool true) ∧ Below w.heap.size w w2 := by
  have B0 := Lib.hid ((Below.refl w.heap.size w).alloc (Nat.le_refl _) (.cells #[.slice At ts.length ct, .slice Al L0.length cl, .slice Ai ps.length ci, .int .i64 o1, .int .i64 o2, .bool o3] 28))
  have Q0 := Lib.hid (Ar.new w [.slice At ts.length ct, .slice Al L0.length cl, .slice Ai ps.length ci, .int .i64 o1, .int .i64 o2, .bool o3] 28)
  have HM := Lib.hid (made_any (w.alloc (.cells #[.slice At ts.length ct, .slice Al L0.length cl, .slice Ai ps.length ci, .int .i64 o1, .int .i64 o2, .bool o3] 28)) At Al Ai ct cl ci ts L0 ps o1 o2 o3 (ht.low B0.out B0.out.size) ((hl.keep fun p hp => B0.out.cell hp).more B0.out.size) ok (hp.low B0.out B0.out.size) htl hll hpl hts)
  have LOK := Lib.hid (chgTo_ok (ids := idsB ts (bodB ts).length) (ps := ps) ok hby (fun x hx => idsB_mem x hx) (by simp [idsB]) (min 12 L0.length) (Nat.min_le_right _ _))
  have LLN := Lib.hid (chgTo_len (idsB ts (bodB ts).length) ps L0 (min 12 L0.length))
  have L12 := Lib.hid (Nat.min_le_left 12 L0.length)
  clear ht hl ok hby hp
  generalize hl : chgTo (idsB ts (bodB ts).length) ps L0 (min 12 L0.length) = l at *
  generalize hn12 : min 12 L0.length = n at *
  generalize stoF ts (bodB ts).length = f at *
  have hld := ldA Q0.out (n := 6) rfl Tryz.underlying28 rfl inf28
  generalize hw0 : w.alloc (.cells #[.slice At ts.length ct, .slice Al L0.length cl, .slice Ai ps.length ci, .int .i64 o1, .int .i64 o2, .bool o3] 28) = w0 at *
  have LO : Hid (Oks l) := Lib.hid (fun k x hx => (LOK.out x (List.mem_of_getElem? hx)).1)
  have LB : Hid (BytL l) := Lib.hid (fun k x hx => (LOK.out x (List.mem_of_getElem? hx)).2)
  have LN : Hid (l.length ≤ 12) := Lib.hid (by rw [LLN.out]; exact L12.out)
  clear hl hn12 LOK htl hll hpl hts
  go_enter Tryz.func4, Tryz.ntmps4
  go_wp2_with (go_at_call 6; refine HM.out.mono ?_; rintro e w1 ⟨b1, g1, m1, gd1, ova, ks, v, rfl, hbt, ho, hb1⟩; obtain ⟨D, d, hv, hmd⟩ := mde_of B0.out Q0.out hbt ho LLN.out hb1 LO.out; have MD := Lib.hid hmd; subst hv; clear hbt ho hb1 hmd)
  obtain ⟨m, l0, t, kn, hpsp, hcn⟩ := MD.out.psp
  have P2 := Lib.hid hpsp
  have CN := Lib.hid hcn
  clear hpsp hcn
  refine region_of (fun W => CD b1 g1 gd1 w.heap.size ova [.slice At ts.length ct, .slice Al L0.length cl, .slice Ai ps.length ci, .int .i64 o1, .int .i64 o2, .bool o3] W) (by kernel_rfl) ?_
  have HCC : Hid (CD b1 g1 gd1 w.heap.size ova [.slice At ts.length ct, .slice Al L0.length cl, .slice Ai ps.length ci, .int .i64 o1, .int .i64 o2, .bool o3] w1.drew) := Lib.hid (MD.out.cd.keep rfl rfl)
  have P3 := Lib.hid (P2.out.below (Below.refl w1.heap.size w1).drew)
  have RD3 : Hid (LReads w1.drew w1.drew.heap.size D l) := Lib.hid MD.out.rd
  have B3 := Lib.hid MD.out.bel.drew
  obtain ⟨lr, Ar2, cr, frr, tr, hr, hcr⟩ := MD.out.rsp
  have R3 := Lib.hid (hr.below (Below.refl w1.heap.size w1).drew)
  have CR := Lib.hid hcr
  clear hr hcr
  have FSX := Lib.hid (find_all w1.drew g1 m l0 t kn f P3.out CN.out D d l RD3.out LO.out LN.out LB.out (fun ad e => (MD.out.nd ad e).1) o1 o2 o3)
  have RLN : Hid ((resN l f o1 o2 o3).length ≤ 12) := Lib.hid (Nat.le_trans (resN_len l f o1 o2 o3) LN.out)
  have ROK := Lib.hid (resN_oks l LO.out f o1 o2 o3)
  have RN0 := Lib.hid (fun h : rNP l f o1 o2 = 0 => show resN l f o1 o2 o3 = outTo l (finNP l f o1 o2 o3) l.length from if_pos h)
  have RN1 := Lib.hid (fun h : ¬ rNP l f o1 o2 = 0 => show resN l f o1 o2 o3 = [] from if_neg h)
  have ROR := Lib.hid (rNP_or l f o1 o2)
  generalize resN l f o1 o2 o3 = L at *
  generalize rNP l f o1 o2 = r at *
  generalize hw3 : w1.drew = w3 at *
  refine anyC_take 0 (v := ?_) HCC.out rfl (by kernel_rfl) (by kernel_rfl) (by kernel_rfl) (fun c a w h => by exact h) rfl (fun W hW => ?_) ?_
  rotate_left
  · go_simp
    try rfl
  simp only [Act.put]
  refine anyC_take 1 (v := ?_) HCC.out rfl (by kernel_rfl) (by kernel_rfl) (by kernel_rfl) (fun c a w h => by exact h) rfl (fun W hW => ?_) ?_
  rotate_left
  · go_simp
    try rfl
  simp only [Act.put]
  refine anyC_take 2 (v := ?_) HCC.out rfl (by kernel_rfl) (by kernel_rfl) (by kernel_rfl) (fun c a w h => by exact h) rfl (fun W hW => ?_) ?_
  rotate_left
  · go_simp
    try rfl
  simp only [Act.put]
  refine anyC_take 3 (v := ?_) HCC.out rfl (by kernel_rfl) (by kernel_rfl) (by kernel_rfl) (fun c a w h => by exact h) rfl (fun W hW => ?_) ?_
  rotate_left
  · have := hW.store; go_simp
    try rfl
  simp only [Act.put]
  refine anyC_take 4 (v := ?_) HCC.out rfl (by kernel_rfl) (by kernel_rfl) (by kernel_rfl) (fun c a w h => by exact h) rfl (fun W hW => ?_) ?_
  rotate_left
  · go_simp
    try rfl
  simp only [Act.put]
  refine anyC_take 5 (v := ?_) HCC.out rfl (by kernel_rfl) (by kernel_rfl) (by kernel_rfl) (fun c a w h => by exact h) rfl (fun W hW => ?_) ?_
  rotate_left
  · go_simp
    try rfl
  simp only [Act.put]
  refine anyC_take 6 (v := ?_) HCC.out rfl (by kernel_rfl) (by kernel_rfl) (by kernel_rfl) (fun c a w h => by exact h) rfl (fun W hW => ?_) ?_
  rotate_left
  · have := ldP hW.ask (k := 3) (n := 3) rfl rfl Tryz.underlying26 rfl inf26; go_simp
    try rfl
  simp only [Act.put]
  refine anyC_one 7 HCC.out (by kernel_rfl) rfl ?_
  go_wp2_with (go_at_call 7; refine FSX.out.mono ?_; rintro e w4 ⟨D4, d4, rfl, hf4⟩; have F4 := Lib.hid hf4; clear hf4)
  have HC4 := Lib.hid (HCC.out.chs F4.out.chs MD.out.nb.1 MD.out.nh.1)
  have RD4 := Lib.hid (LReads.chs RD3.out F4.out.chs (fun ad e => (MD.out.nd ad e).1))
  clear hw3
  refine anyC_take 8 (v := ?_) HC4.out rfl (by kernel_rfl) (by kernel_rfl) (by kernel_rfl) (fun c a w h => by exact h) rfl (fun W hW => ?_) ?_
  rotate_left
  · go_simp
    try rfl
  simp only [Act.put]
  refine anyC_take 9 (v := ?_) HC4.out rfl (by kernel_rfl) (by kernel_rfl) (by kernel_rfl) (fun c a w h => by exact h) rfl (fun W hW => ?_) ?_
  rotate_left
  · go_simp
    try rfl
  simp only [Act.put]
  refine anyC_take 10 (v := ?_) HC4.out rfl (by kernel_rfl) (by kernel_rfl) (by kernel_rfl) (fun c a w h => by exact h) rfl (fun W hW => ?_) ?_
  rotate_left
  · go_simp
    try rfl
  simp only [Act.put]
  refine anyC_one 11 HC4.out (by kernel_rfl) rfl ?_
  go_wp2_with fail
  refine anyC_one 12 HC4.out (by kernel_rfl) rfl ?_
  go_wp2_with fail
  refine anyC_done HC4.out (by kernel_rfl) ?_ _
  have X4 := Lib.hid (Below.chs B3.out F4.out.chs MD.out.low.1 (Nat.le_refl _))
  have L4 : Hid (LReads w4 w4.heap.size D4 L) := Lib.hid F4.out.rd
  rcases ROR.out with hr | hr
  · subst hr
    have HLE := Lib.hid (RN0.out rfl)
    clear RN0 RN1 ROR FSX
    have Y5 := Lib.hid ((Below.refl w4.heap.size w4).alloc (Nat.le_refl _) (.cells ((cntK l 0).map fun n : Nat => Value.int .i64 (n : Int)).toArray 3))
    have A5 := Lib.hid (Ar.new w4 ((cntK l 0).map fun n : Nat => Value.int .i64 (n : Int)) 3)
    go_wp2_with fail
    refine kcount w4 D d l RD4.out LO.out (Nat.le_trans LN.out (by omega)) _ Y5.out w4.heap.size (Nat.le_refl _) A5.out _ _ _ _ _ _ _ _ _ _ _ _ _ _ _ _ _ _ _ _ _ _ _ _ _ _ _ _ _ _ _ _ _ _ _ _ _ _ _ _ _ _ _ _ _ _ _ _ _ _ _ _ _ _ _ _ _ _ _ _ _ _ _ _ _ _ _ _ _ _ _ _ _ _ _ _ _ _ _ _ _ _ _ _ _ _ _ _ _ _ _ _ _ _ _ _ _ _ _ _ _ _ _ _ _ _ _ _ _ _ _ _ _ _ _ _ _ _ _ _ _ _ _ _ _ _ _ _ _ _ _ _ _ _ _ _ _ _ _ _ _ _ _ _ _ _ _ _ _ _ _ _ _ _ _ _ _ _ _ _ _ _ _ _ _ _ _ _ _ _ _ _ _ _ _ _ _ _ _ _ _ _ _ _ _ _ _ _ _ _ _ _ _ _ _ _ _ _ _ _ _ _ _ _ _ _ _ _ _ _ _ _ _ _ _ _ _ _ _ _ _ _ _ _ _ _ _ _ _ _ _ _ _ _ _ _ _ _ _ _ _ _ _ _ ?_
    refine Lib.hid ?_
    intro w6
    intros
    rename_i ha6 hb6
    have L6 : Hid (LReads w6 w6.heap.size D l) := Lib.hid ((RD4.out.keep fun p hp => hb6.out.cell hp).more hb6.out.size)
    have L46 : Hid (LReads w6 w6.heap.size D4 L) := Lib.hid ((L4.out.keep fun p hp => hb6.out.cell hp).more hb6.out.size)
    go_wp2_with fail
    refine kloop w6 D D4 d d4 l L L6.out LO.out L46.out ROK.out (Nat.le_trans LN.out (by omega)) (Nat.le_trans RLN.out (by omega)) (finNP l f o1 o2 o3) (finN_kst l f o1 o2 o3) HLE.out _ _ _ _ _ _ _ _ _ _ _ _ _ _ _ _ _ _ _ _ _ _ _ _ _ _ _ _ _ _ _ _ _ _ _ _ _ _ _ _ _ _ _ _ _ _ _ _ _ _ _ _ _ _ _ _ _ _ _ _ _ _ _ _ _ _ _ _ _ _ _ _ _ _ _ _ _ _ _ _ _ _ _ _ _ _ _ _ _ _ _ _ _ _ _ _ _ _ _ _ _ _ _ _ _ _ _ _ _ _ _ _ _ _ _ _ _ _ _ _ _ _ _ _ _ _ _ _ _ _ _ _ _ _ _ _ _ _ _ _ _ _ _ _ _ _ _ _ _ _ _ _ _ _ _ _ _ _ _ _ _ _ _ _ _ _ _ _ _ _ _ _ _ _ _ _ _ _ _ _ _ _ _ _ _ _ _ _ _ _ _ _ _ _ _ _ _ _ _ _ _ _ _ _ _ _ _ _ _ _ _ _ _ _ _ _ _ _ _ _ _ _ _ _ _ _ _ _ _ _ _ _ _ _ _ _ _ _ _ ?_
    refine Lib.hid ?_
    intro ad rm rn cp a p w7
    intros
    rename_i hat hnm hw7
    have FN := Lib.hid (fin4 hnm.out (by have := hat.out; rw [HLE.out, out_len] at this; exact this))
    have bad : ad ≤ 40 := by rw [hnm.out.ad]; exact Nat.le_trans (cntN_le _ _) (Nat.le_trans hat.out.pl (Nat.le_trans LN.out (by omega)))
    have brm : rm ≤ 40 := by rw [hnm.out.rm]; exact Nat.le_trans (cntN_le _ _) (Nat.le_trans hat.out.pl (Nat.le_trans LN.out (by omega)))
    have brn : rn ≤ 40 := by rw [hnm.out.rn]; exact Nat.le_trans (cntN_le _ _) (Nat.le_trans hat.out.pl (Nat.le_trans LN.out (by omega)))
    have bcp : cp ≤ 40 := by rw [hnm.out.cp]; exact Nat.le_trans (cntN_le _ _) (Nat.le_trans hat.out.pl (Nat.le_trans LN.out (by omega)))
    have hcnt : ∀ c : Nat, 1 ≤ c → c ≤ 3 → w7.cell? ⟨w4.heap.size, c, none⟩ = some (.int .i64 ((cntN (kndP l (c : Int)) l.length : Nat) : Int)) := fun c h1 h3 => by
      have e := cntK_is l c h1 h3 l.length
      have hl6 := cntK_len l l.length
      obtain ⟨m, rfl⟩ := hw7.out
      refine (ha6.out.cell (k := c) ?_ : _)
      rw [List.getElem?_map, ← e, List.getD_eq_getElem?_getD, List.getElem?_eq_getElem (by omega)]
      rfl
    have c1 : w7.cell? ⟨w4.heap.size, 1, none⟩ = some (.int .i64 ((cntN (kndP l 1) l.length : Nat) : Int)) := hcnt 1 (by omega) (by omega)
    have c2 : w7.cell? ⟨w4.heap.size, 2, none⟩ = some (.int .i64 ((cntN (kndP l 2) l.length : Nat) : Int)) := hcnt 2 (by omega) (by omega)
    have c3 : w7.cell? ⟨w4.heap.size, 3, none⟩ = some (.int .i64 ((cntN (kndP l 3) l.length : Nat) : Int)) := hcnt 3 (by omega) (by omega)
    have B7 : Hid (Below w4.heap.size w4 w7) := Lib.hid (by obtain ⟨m, rfl⟩ := hw7.out; exact below_dr hb6.out m)
    have HC7 := Lib.hid (HC4.out.below B7.out)
    have c5 := HC7.out.ask.cell (k := 5) rfl
    have X7 := Lib.hid (X4.out.trans (B7.out.mono X4.out.size))
    rw [← FN.out.a] at c1
    rw [← FN.out.r] at c2
    have FO := Lib.hid FN.out.o
    have FC := Lib.hid FN.out.c
    clear hcnt hnm hat FN ha6
    generalize cntN (kndP l 3) l.length = n3 at *
    generalize w4.heap.size = gn at *
    have e1 : ((ad : Int) + (rn : Int) + (cp : Int) == ((ad + rn + cp : Nat) : Int)) = true := by simp
    have e2 : ((rm : Int) + (rn : Int) == ((rm + rn : Nat) : Int)) = true := by simp
    by_cases hcp : cp = 0
    · have e3 : ((cp : Int) == 0) = true := by simp [hcp]
      clear hcp FO FC
      cases o3 <;> by_cases hn3 : 0 < n3
      all_goals
        first
          | have e4 : (0 : Int) < (n3 : Int) := by omega
          | have e4 : ¬ (0 : Int) < (n3 : Int) := by omega
        clear hn3
        go_wp2_with (go_at_call 11; refine (Rn.works_any w7).mono ?_; rintro e w14 ⟨rfl, hb14⟩; have Z14 := Lib.hid hb14; clear hb14)
        go_ret
        exact ⟨rfl, X7.out.trans (Z14.out.mono X7.out.size)⟩
    · have ho3 : o3 = true := by
        cases o3 with
        | true => rfl
        | false => exact absurd (FO.out rfl) hcp
      have hn3 : 0 < n3 := by
        rcases Nat.eq_zero_or_pos n3 with h | h
        · exact absurd (FC.out h) hcp
        · exact h
      subst ho3
      have e4 : (0 : Int) < (n3 : Int) := by omega
      clear hcp hn3 FO FC
      go_wp2_with (go_at_call 11; refine (Rn.works_any w7).mono ?_; rintro e w14 ⟨rfl, hb14⟩; have Z14 := Lib.hid hb14; clear hb14)
      go_ret
      exact ⟨rfl, X7.out.trans (Z14.out.mono X7.out.size)⟩
  · subst hr
    have HLE := RN1.out (by decide)
    subst HLE
    go_wp2_with (go_at_call 11; refine (Rn.works_any w4).mono ?_; rintro e w14 ⟨rfl, hb14⟩; have Z14 := Lib.hid hb14; clear hb14)
    go_ret
    exact ⟨rfl, X4.out.trans (Z14.out.mono X4.out.size)⟩
end Go.Proofs.YtbmpidacoohdmaaGreat

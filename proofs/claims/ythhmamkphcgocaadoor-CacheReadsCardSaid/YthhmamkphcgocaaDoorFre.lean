/- sleuthref33.Read by a contract. -/
import Derived.Test.YthhmamkphcgocaaDoorFro
namespace Go.Proofs.YthhmamkphcgocaaDoor
open Go.RowKit

attribute [local go_sem ↓] load42_eq store42_eq new42_eq run_new42 ldT47 ldT73 ldT52 ldT44 ldT71 ldT94 stT47 stT73 stT52 stT94 nwT47 nwT73 nwT52 nwT94 bxT47 bxT73 bxT52 bxT42 bxT44 bxT67 bdT47 bdT73 bdT52 bdT94 bdT67 run_nw47 run_nw73 run_nw52 run_nw94 bsT24 bsT28 bsT45
attribute [local go_sem] run_bxT bs_toList run_bd67
set_option maxRecDepth 100000 in
set_option maxHeartbeats 2000000 in
theorem fread_any (w : World) (A : Option Addr) (c : Nat) (b : List UInt8) (h : Rv w.heap.size w A (bys b)) (hn : A = none → c = 0) (hc : b.length ≤ c) (hb : b.length ≤ 10000000) :
    Calls Tryd.prog 8 #[.slice A b.length c] w (FrOut w (readP b)) := by
  by_cases h44 : b.length < 44
  · have HR : Hid (readP b = ([], 10)) := Lib.hid (by unfold readP; rw [if_pos h44])
    generalize readP b = R at *
    clear h
    go_enter Tryd.func8, Tryd.ntmps8
    go_wp2_with fail
    go_ret2
    exact RdOut.bad HR.out rfl (Below.refl _ _)
  · obtain ⟨l, tl, hbl, htl⟩ : ∃ l tl, b = l ++ tl ∧ tl.length = 32 := ⟨b.take (b.length - 32), b.drop (b.length - 32), (List.take_append_drop _ _).symm, by rw [List.length_drop]; omega⟩
    have hlen : b.length = l.length + 32 := by rw [hbl, List.length_append, htl]
    have ht : b.take (b.length - 32) = l := by rw [hlen, Nat.add_sub_cancel, hbl, List.take_left]
    have hd : b.drop (b.length - 32) = tl := by rw [hlen, Nat.add_sub_cancel, hbl, List.drop_left]
    have HR : Hid (readP b = if ¬ (l.take 4 = [66, 76, 77, 67] ∧ (l.drop 4).take 4 = be4 1) then ([], 12) else if shaOf l ≠ tl then ([], 13) else if 64 < bigN ((l.drop 8).take 4) then ([], 5) else
      if (lotsP l (bigN ((l.drop 8).take 4)) [] 12).2.2 ≠ 0 then ([], (lotsP l (bigN ((l.drop 8).take 4)) [] 12).2.2) else if (lotsP l (bigN ((l.drop 8).take 4)) [] 12).2.1 < l.length then ([], 11) else
      if checkP (lotsP l (bigN ((l.drop 8).take 4)) [] 12).1 ≠ 0 then ([], checkP (lotsP l (bigN ((l.drop 8).take 4)) [] 12).1) else ((lotsP l (bigN ((l.drop 8).take 4)) [] 12).1, 0)) := Lib.hid (by
        unfold readP
        rw [if_neg h44]
        dsimp only
        rw [ht, hd])
    obtain ⟨ad, rfl, hadl, _⟩ := h.some_ (by rw [bys_len]; omega)
    have hl12 : 12 ≤ l.length := by omega
    have hll : l.length ≤ 10000000 := by omega
    have HRB := Lib.hid h
    have HRL : Hid (Rv w.heap.size w (some ad) (bys l)) := Lib.hid (by have := h.front l.length; rwa [hbl, List.take_left] at this)
    have HR4 : Hid (Rv w.heap.size w (some ad) (bys (l.take 4))) := Lib.hid (HRL.out.front 4)
    have HR8 : Hid (Rv w.heap.size w (some (ad.add 4)) (bys ((l.drop 4).take 4))) := Lib.hid (by
      have := rv_cut HRL.out (c := c) (by omega) 4 4 (by omega)
      rwa [if_neg (by omega)] at this)
    have hb1 : ((l.drop 4).take 4).length = 4 := by rw [List.length_take, List.length_drop]; omega
    have ht4 : (l.take 4).length = 4 := by rw [List.length_take]; omega
    have HTK : Hid (rTake b 32 l.length 0 = (tl, l.length + 32, 0)) := Lib.hid (by
      unfold rTake
      rw [if_neg (by omega), if_pos (by omega), ← hd, List.take_of_length_le (by rw [List.length_drop]; omega), hlen, Nat.add_sub_cancel])
    have hcl : l.length + 32 ≤ c := by omega
    have HBL := Lib.hid hlen
    have hbn : b.length ≤ 10000000 := hb
    rw [hlen]
    generalize readP b = R at *
    clear h hn hc hb h44 ht hd
    generalize hv8 : (l.drop 4).take 4 = v8 at *
    generalize ht4' : l.take 4 = t4 at *
    go_enter Tryd.func8, Tryd.ntmps8
    have hcv : ∀ W, Below w.heap.size w W → (convert 22 9 (.slice (some ad) 4 c)).run Tryd.prog W = .ok (.string (bs t4)) W := fun W hW => by
      have := conv22 c (HR4.out.below hW)
      rwa [ht4] at this
    by_cases h4 : t4 = [66, 76, 77, 67]
    rotate_left
    · have HRR : Hid (R = ([], 12)) := Lib.hid (by rw [HR.out, if_pos (fun q => h4 q.1)])
      have hq4 : (t4 == [66, 76, 77, 67]) = false := beq_eq_false_iff_ne.2 h4
      have hcn : ∀ n, (convert 22 9 (.slice (some ad) 4 c)).run Tryd.prog (w.drewN n) = .ok (.string (bs t4)) (w.drewN n) := fun n => hcv _ ⟨rfl, rfl, rfl, Nat.le_refl _, fun _ _ => rfl⟩
      clear HR hcv
      have r4 : (4 : Int) ≤ (c : Int) := by omega
      go_wp2_with fail
      refine wp_region_quiet_lit (by kernel_rfl) (by kernel_rfl) ?_
      repeat (go_big_quiet_step (fail))
      refine wpQuiet_nil ?_
      rintro _ ⟨n, rfl⟩
      go_wp2_with fail
      go_ret2
      exact RdOut.bad HRR.out rfl ⟨rfl, rfl, rfl, Nat.le_refl _, fun _ _ => rfl⟩
    have hq4 : (t4 == [66, 76, 77, 67]) = true := beq_iff_eq.2 h4
    have r4 : (4 : Int) ≤ (c : Int) := by omega
    have r8 : (8 : Int) ≤ (c : Int) := by omega
    have r9 : ¬ c = 4 := by omega
    go_wp2_with fail
    have HC0 : Hid (Below w.heap.size w w.drew) := Lib.hid (Below.refl _ _).drew
    refine region_of (fun W => Below w.heap.size w W) (by kernel_rfl) ?_
    refine anyC_take 0 (v := ?_) HC0.out rfl (by kernel_rfl) (by kernel_rfl) (by kernel_rfl) (fun _ _ _ h => h) rfl (fun W hW => ?_) ?_
    rotate_left
    · go_simp
      try rfl
    simp only [Act.put]
    refine anyC_take 1 (v := ?_) HC0.out rfl (by kernel_rfl) (by kernel_rfl) (by kernel_rfl) (fun _ _ _ h => h) rfl (fun W hW => ?_) ?_
    rotate_left
    · go_simp
      try rfl
    simp only [Act.put]
    refine anyC_take 2 (v := ?_) HC0.out rfl (by kernel_rfl) (by kernel_rfl) (by kernel_rfl) (fun _ _ _ h => h) rfl (fun W hW => ?_) ?_
    rotate_left
    · go_simp
      try rfl
    simp only [Act.put]
    refine anyC_take 3 (v := ?_) HC0.out rfl (by kernel_rfl) (by kernel_rfl) (by kernel_rfl) (fun _ _ _ h => h) rfl (fun W hW => ?_) ?_
    rotate_left
    · go_simp
      try rfl
    simp only [Act.put]
    refine anyC_take 4 (v := ?_) HC0.out rfl (by kernel_rfl) (by kernel_rfl) (by kernel_rfl) (fun _ _ _ h => h) rfl (fun W hW => ?_) ?_
    rotate_left
    · go_simp
      try rfl
    simp only [Act.put]
    refine anyC_take 5 (v := ?_) HC0.out rfl (by kernel_rfl) (by kernel_rfl) (by kernel_rfl) (fun _ _ _ h => h) (by kernel_rfl) (fun W hW => ?_) ?_
    rotate_left
    · go_simp
      try rfl
    simp only [Act.put]
    refine anyC_take 6 (v := ?_) HC0.out rfl (by kernel_rfl) (by kernel_rfl) (by kernel_rfl) (fun _ _ _ h => h) (by kernel_rfl) (fun W hW => ?_) ?_
    rotate_left
    · go_simp
      try rfl
    simp only [Act.put]
    refine anyC_one 7 HC0.out (by kernel_rfl) rfl ?_
    have hbg := fbig_any w.drew 1 4 (by omega) (by omega)
    rw [show beN 4 1 = be4 1 by rfl] at hbg
    have HBG := Lib.hid hbg
    clear hbg hcv
    go_wp2_with (go_at_call 24; refine HBG.out.mono ?_; rintro en w2 ⟨u, rfl, ho, hb2⟩; obtain ⟨E, f, hv, _, hf, hrv, _⟩ := own_all ho; subst hv; have B2 := Lib.hid (HC0.out.trans (hb2.mono HC0.out.size)); have hsm := fsame_any w2 (some (ad.add 4)) E (c - 4) f v8 (be4 1) (HR8.out.below B2.out) hrv; rw [hb1, be4_len] at hsm; have HSM := Lib.hid hsm; clear ho hb2 hrv hsm HBG)
    obtain ⟨dq, hdq⟩ : ∃ dq, decide (v8 = be4 1) = dq := ⟨_, rfl⟩
    rw [hdq] at HSM
    have HDQ := Lib.hid hdq
    clear hdq
    refine anyC_one 8 B2.out (by kernel_rfl) rfl ?_
    go_wp2_with (go_at_call 11; refine HSM.out.mono ?_; rintro en w9 ⟨rfl, hw9⟩; subst w9)
    refine anyC_take 9 (v := ?_) B2.out rfl (by kernel_rfl) (by kernel_rfl) (by kernel_rfl) (fun _ _ _ h => h) (by kernel_rfl) (fun W hW => ?_) ?_
    rotate_left
    · go_simp
      try rfl
    simp only [Act.put]
    refine anyC_take 10 (v := ?_) B2.out rfl (by kernel_rfl) (by kernel_rfl) (by kernel_rfl) (fun _ _ _ h => h) rfl (fun W hW => ?_) ?_
    rotate_left
    · go_simp
      try rfl
    simp only [Act.put]
    refine anyC_done B2.out (by kernel_rfl) ?_ _
    clear HSM r4 r8 r9
    cases dq with
    | false =>
      have HRR : Hid (R = ([], 12)) := Lib.hid (by rw [HR.out, if_pos (fun q => of_decide_eq_false HDQ.out q.2)])
      clear HR
      go_wp2_with fail
      go_ret2
      exact RdOut.bad HRR.out rfl B2.out
    | true =>
    have HR2 : Hid (R = if shaOf l ≠ tl then ([], 13) else if 64 < bigN ((l.drop 8).take 4) then ([], 5) else
      if (lotsP l (bigN ((l.drop 8).take 4)) [] 12).2.2 ≠ 0 then ([], (lotsP l (bigN ((l.drop 8).take 4)) [] 12).2.2) else if (lotsP l (bigN ((l.drop 8).take 4)) [] 12).2.1 < l.length then ([], 11) else
      if checkP (lotsP l (bigN ((l.drop 8).take 4)) [] 12).1 ≠ 0 then ([], checkP (lotsP l (bigN ((l.drop 8).take 4)) [] 12).1) else ((lotsP l (bigN ((l.drop 8).take 4)) [] 12).1, 0)) := Lib.hid (by rw [HR.out, if_neg (fun q => q ⟨h4, of_decide_eq_true HDQ.out⟩)])
    clear HR HDQ HR4 HR8 h4 hq4 hb1 ht4
    have hs2 := B2.out.size
    have P3 := Lib.hid (rf_new (w := w2) ((HRB.out.below B2.out).more hs2) (by omega) (c := c) (by omega) (by omega) l.length (by omega))
    rw [HBL.out] at P3
    have B3 := Lib.hid (B2.out.alloc hs2 (.cells #[.slice (some ad) (l.length + 32) c, .int .i64 l.length, .int .i64 0] 67))
    have wl : IntKind.i64.wrap (l.length : Int) = (l.length : Int) := IntWalk.i64_in _ (by omega)
    go_wp2_with fail
    obtain ⟨g1, hg1⟩ : ∃ g1, w2.heap.size = g1 := ⟨_, rfl⟩
    rw [hg1] at P3 hs2 ⊢
    clear hg1
    generalize w2.alloc (.cells #[.slice (some ad) (l.length + 32) c, .int .i64 l.length, .int .i64 0] 67) = w3 at *
    have P3d : Hid (Rf w3.drew g1 (some ad) c b l.length 0) := Lib.hid (Rd.drew P3.out)
    have hid := fid_any w3.drew g1 (some ad) c b l.length 0 P3d.out
    rw [HTK.out] at hid
    dsimp only at hid
    rw [padI_id htl] at hid
    have HID := Lib.hid hid
    have HC0 := Lib.hid B3.out.drew
    have wr0 : (0 : Int) ≤ (l.length : Int) := by omega
    have wr1 : (l.length : Int) ≤ (c : Int) := by omega
    obtain ⟨dq, hdq⟩ : ∃ dq, decide (tl = shaOf l) = dq := ⟨_, rfl⟩
    have hcmp := fun W => run_neq_id tl (shaOf l) htl (shaOf_len l) W
    rw [hdq] at hcmp
    have HDQ := Lib.hid hdq
    clear hdq hid P3 P3d
    refine region_of (fun _ => True) (by kernel_rfl) ?_
    refine anyC_take 0 (v := ?_) trivial rfl (by kernel_rfl) (by kernel_rfl) (by kernel_rfl) (fun _ _ _ h => h) rfl (fun W hW => ?_) ?_
    rotate_left
    · go_simp
      try rfl
    simp only [Act.put]
    refine anyC_take 2 (v := ?_) trivial rfl (by kernel_rfl) (by kernel_rfl) (by kernel_rfl) (fun _ _ _ h => h) rfl (fun W hW => ?_) ?_
    rotate_left
    · go_simp
      try rfl
    simp only [Act.put]
    refine anyC_take 3 (v := ?_) trivial rfl (by kernel_rfl) (by kernel_rfl) (by kernel_rfl) (fun _ _ _ h => h) rfl (fun W hW => ?_) ?_
    rotate_left
    · go_simp
      try rfl
    simp only [Act.put]
    refine anyC_take 4 (v := ?_) trivial rfl (by kernel_rfl) (by kernel_rfl) (by kernel_rfl) (fun _ _ _ h => h) rfl (fun W hW => ?_) ?_
    rotate_left
    · go_simp
      try rfl
    simp only [Act.put]
    refine anyC_take 5 (v := ?_) trivial rfl (by kernel_rfl) (by kernel_rfl) (by kernel_rfl) (fun _ _ _ h => h) rfl (fun W hW => ?_) ?_
    rotate_left
    · go_simp
      try rfl
    simp only [Act.put]
    refine anyC_take 6 (v := ?_) trivial rfl (by kernel_rfl) (by kernel_rfl) (by kernel_rfl) (fun _ _ _ h => h) rfl (fun W hW => ?_) ?_
    rotate_left
    · go_simp
      try rfl
    simp only [Act.put]
    refine anyC_one 1 trivial (by kernel_rfl) rfl ?_
    go_wp2_with (go_at_call 25; refine HID.out.mono ?_; rintro en w4 ⟨rfl, _, hg4⟩; have B4 := Lib.hid (HC0.out.trans (below_of_grown hg4 HC0.out.size (fun q hq => by have := Option.some.inj hq; omega))); have HOF := Lib.hid (fof_any w4 (some ad) c l (HRL.out.below B4.out) B4.out.size (fun e => by cases e) (by omega)); clear hg4 HID)
    refine anyC_one 7 trivial (by kernel_rfl) rfl ?_
    go_wp2_with (go_at_call 26; refine HOF.out.mono ?_; rintro en w5 ⟨rfl, hb5⟩; have B5 := Lib.hid (B4.out.trans (hb5.mono B4.out.size)); clear hb5 HOF)
    refine anyC_take 8 (v := ?_) trivial rfl (by kernel_rfl) (by kernel_rfl) (by kernel_rfl) (fun _ _ _ h => h) rfl (fun W hW => ?_) ?_
    rotate_left
    · go_simp
      try rfl
    simp only [Act.put]
    refine anyC_done trivial (by kernel_rfl) ?_ _
    clear hcmp HC0
    cases dq with
    | false =>
      have HRR : Hid (R = ([], 13)) := Lib.hid (by rw [HR2.out, if_pos (fun q => of_decide_eq_false HDQ.out q.symm)])
      clear HR2
      go_wp2_with fail
      go_ret2
      exact RdOut.bad HRR.out rfl B5.out
    | true =>
    have hsh := (of_decide_eq_true HDQ.out).symm
    obtain ⟨n, hnn⟩ : ∃ n, bigN ((l.drop 8).take 4) = n := ⟨_, rfl⟩
    have hr6 : rBig l 4 8 0 = (n, 12, 0) := by
      unfold rBig rTake
      rw [if_neg (by omega), if_pos (by omega)]
      dsimp only
      rw [hnn]
    have hn32 : n < 4294967296 := by
      rw [← hnn]
      exact (be4_big4 (by rw [List.length_take, List.length_drop]; omega)).2
    rw [hnn] at HR2
    have HR3 : Hid (R = if 64 < n then ([], 5) else if (lotsP l n [] 12).2.2 ≠ 0 then ([], (lotsP l n [] 12).2.2) else if (lotsP l n [] 12).2.1 < l.length then ([], 11) else
      if checkP (lotsP l n [] 12).1 ≠ 0 then ([], checkP (lotsP l n [] 12).1) else ((lotsP l n [] 12).1, 0)) := Lib.hid (by rw [HR2.out, if_neg (fun q => q hsh)])
    have HR6 := Lib.hid hr6
    have hs5 := B5.out.size
    have P6 := Lib.hid (rf_new (w := w5) ((HRL.out.below B5.out).more hs5) (by omega) (c := c) (by omega) (by omega) 8 (by omega))
    have B6 := Lib.hid (B5.out.alloc hs5 (.cells #[.slice (some ad) l.length c, .int .i64 8, .int .i64 0] 67))
    have hc7 := frbig_any _ _ _ _ _ _ _ 4 4 rfl P6.out (by omega)
    rw [hr6] at hc7
    dsimp only at hc7
    have HC7 := Lib.hid hc7
    clear HR2 hnn hr6 hsh HDQ HRB HTK HBL hc7
    obtain ⟨g, hgg⟩ : ∃ g, w5.heap.size = g := ⟨_, rfl⟩
    rw [hgg] at HC7 P6
    have hgw : w.heap.size ≤ g := by omega
    by_cases h64 : 64 < n
    · have HRR : Hid (R = ([], 5)) := Lib.hid (by rw [HR3.out, if_pos h64])
      clear HR3
      go_wp2_with fail
      refine HC7.out.mono ?_
      rintro en w7 ⟨rfl, _, hg7⟩
      have B7 := Lib.hid (B6.out.trans (below_of_grown hg7 B6.out.size (fun q hq => by have := Option.some.inj hq; omega)))
      go_wp2_with fail
      go_ret2
      exact RdOut.bad HRR.out rfl B7.out
    have hn64 : n ≤ 64 := by omega
    obtain ⟨r, hr⟩ : ∃ r, lotsP l n [] 12 = r := ⟨_, rfl⟩
    have HR4 : Hid (R = if r.2.2 ≠ 0 then ([], r.2.2) else if r.2.1 < l.length then ([], 11) else if checkP r.1 ≠ 0 then ([], checkP r.1) else (r.1, 0)) := Lib.hid (by rw [HR3.out, if_neg h64, hr])
    have HRS := Lib.hid hr
    clear HR3 hr
    go_wp2_with fail
    refine HC7.out.mono ?_
    rintro en w7 ⟨rfl, hp7, hg7⟩
    have B7 := Lib.hid (B6.out.trans (below_of_grown hg7 B6.out.size (fun q hq => by have := Option.some.inj hq; omega)))
    have P7 := Lib.hid hp7
    have wn : IntKind.i64.wrap (n : Int) = (n : Int) := IntWalk.i64_in _ (by omega)
    clear hp7 hg7 HC7 P6 B6 HR6 HRL hcl hbn
    have hg5 := P7.out.lt
    have HBS := Lib.hid B7.out.size
    go_wp2_with fail
    refine frow_loop w w7 g ad c l n r hn64 hgw HBS B7 P7 HRS _ _ _ _ _ _ _ _ _ _ _ _ _ _ _ _ _ _ _ _ _ _ _ _ _ _ _ _ _ _ _ _ _ _ _ _ _ _ _ _ _ _ _ _ _ _ _ _ _ _ _ _ _ _ _ _ _ _ _ _ _ _ _ _ _ _ _ _ _ _ _ _ _ _ _ _ _ _ _ _ _ _ _ _ _ _ _ _ _ _ _ _ _ _ _ _ _ _ _ _ _ _ _ _ _ _ _ _ _ _ _ _ _ _ _ _ _ _ _ _ _ _ _ _ _ _ _ _ _ _ _ _ _ _ _ _ _ _ _ _ _ _ _ _ _ _ _ _ _ _ _ _ _ _ _ _ _ _ _ _ _ ?_ ?_
    · refine Lib.hid ?_
      intro ee W2 hee hre hb z0 z1 z4 z5 z6 z7 z8 z9 z10 z11 z12 z13 z14 z15 z16 z17 z18 z19 z20 z21 z22 z23 z24 z25 z26 z27 z28 z29 z30 z31 z32 z33 z34 z35 z36 z37 z38 z39 z40 z41 z42 z43 z44 z45 z46 z47 z48 z49 z50 z51 z52 z53 z54 z55 z56 z57 z58 z59 z60 z61 z62 z63 z64 z65 z66 z67 z68 z69 z70 z71 z72 z73 z74 z75 z76 z77 z78 z79 z80 z81 z82 z83 z84 z85 z86 z87 z88 z89 z90 z91 z92 z93 z94 z95 z96 z97 z98 z99 z100 z101 z102 z103 z104 z105 z106 z107 z108 z109 z110 z111 z112 z113 z114 z115 z116 z117 z118 z119 z120 z121 z122 z123 z124 z125 z126 z127 z128 z129 z130 z131 z132 z133 z134 z135 z136 z137 z138 z139 z140 z141 z142 z143 z144 z145 z146 z147 z148 z149 z150 z151 z152 z153 z154 z155 z156 z157 z158 z159 z160 z161 z162 z163
      have HRR : Hid (R = ([], ee)) := Lib.hid (by rw [HR4.out, hre, if_pos hee])
      clear HR4 hre hee
      have HB2 := Lib.hid hb
      go_ret2
      exact RdOut.bad HRR.out rfl HB2.out
    refine Lib.hid ?_
    intro ms k' sv wr hr hmn hrp hown hrows hbel z0 z1 z2 z3 z4 z6 z8 z9 z10 z11 z12 z13 z14 z15 z16 z17 z18 z19 z20 z21 z22 z23 z24 z25 z26 z27 z28 z29 z30 z31 z32 z33 z34 z35 z36 z37 z38 z39 z40 z41 z42 z43 z44 z45 z46 z47 z48 z49 z50 z51 z52 z53 z54 z55 z56 z57 z58 z59 z60 z61 z62 z63 z64 z65 z66 z67 z68 z69 z70 z71 z72 z73 z74 z75 z76 z77 z78 z79 z80 z81 z82 z83 z84 z85 z86 z87 z88 z89 z90 z91 z92 z93 z94 z95 z96 z97 z98 z99 z100 z101 z102 z103 z104 z105 z106 z107 z108 z109 z110 z111 z112 z113 z114 z115 z116 z117 z118 z119 z120 z121 z122 z123 z124 z125 z126 z127 z128 z129 z130 z131 z132 z133 z134 z135 z136 z137 z138 z139 z140 z141 z142 z143 z144 z145 z146 z147 z148 z149 z150 z151 z152 z153 z154 z155 z156 z157 z158 z159 z160 z161 z162 z163
    subst hr
    dsimp only at HR4
    have HR5 : Hid (R = if k' < l.length then ([], 11) else if checkP (ms.map (·.r)) ≠ 0 then ([], checkP (ms.map (·.r))) else (ms.map (·.r), 0)) := Lib.hid (by rw [HR4.out, if_neg (by omega)])
    have hms : ms.length ≤ 64 := by omega
    have hrp := Lib.hid hrp
    have hown := Lib.hid hown
    have hrows := Lib.hid hrows
    have hbel := Lib.hid hbel
    have hsz := hbel.out.size
    clear hmn P7 HRS B7
    obtain ⟨D2, d2, hv, hD2, hd2, _⟩ := own_all hown.out
    subst hv
    have ce0 := Rd.c0 hrp.out
    have ce1 := Rd.c1 hrp.out
    clear HR4 hrp
    have HBN : Hid (∀ nn, Below w.heap.size w (wr.drewN nn)) := Lib.hid (fun nn => ⟨hbel.out.os, hbel.out.tape, hbel.out.output, hbel.out.size, hbel.out.block⟩)
    go_wp2_with fail
    refine wp_region_quiet_lit (by kernel_rfl) (by kernel_rfl) ?_
    repeat (go_big_quiet_step (fail))
    refine wpQuiet_nil ?_
    rintro _ ⟨nn, rfl⟩
    by_cases hkk : k' < l.length
    · have HRR : Hid (R = ([], 11)) := Lib.hid (by rw [HR5.out, if_pos hkk])
      clear HR5
      go_wp2_with fail
      go_ret2
      exact RdOut.bad HRR.out rfl (HBN.out _)
    · have HR6 : Hid (R = if checkP (ms.map (·.r)) ≠ 0 then ([], checkP (ms.map (·.r))) else (ms.map (·.r), 0)) := Lib.hid (by rw [HR5.out, if_neg hkk])
      have HMV := Lib.hid (fun nn => (Mv.of_own3 (W := wr.drewN nn) hown.out hrows.out))
      have hb0 := hbel.out.size
      have HCK := Lib.hid (fun nn => fcheck_any (wr.drewN nn) D2 d2 ms (HMV.out nn) (fun m hm => (hrows.out m hm).1.small) (by omega))
      generalize checkP (ms.map (·.r)) = ck at *
      clear HR5
      by_cases hck : ck = 0
      · have HRR : Hid (R = (ms.map (·.r), 0)) := Lib.hid (by rw [HR6.out, if_neg (fun q => q hck)])
        subst hck
        go_wp2_with (go_at_call 30; refine (HCK.out nn).mono ?_; rintro e w2 ⟨rfl, hb2⟩; have B2 := Lib.hid ((HBN.out nn).trans (hb2.mono hb0)); have MV2 := Lib.hid ((HMV.out nn).below hb2); clear hb2)
        go_ret2
        refine ⟨D2, d2, ms, ?_, ?_, MV2.out, fun m hm => (hrows.out m hm).1, hd2, hD2, B2.out⟩
        · rw [HRR.out]; rfl
        · rw [HRR.out]
      · have HRR : Hid (R = ([], ck)) := Lib.hid (by rw [HR6.out, if_pos hck])
        have hq : ((ck : Int) == 0) = false := beq_eq_false_iff_ne.2 (by omega)
        go_wp2_with (go_at_call 30; refine (HCK.out nn).mono ?_; rintro e w2 ⟨rfl, hb2⟩; have B2 := Lib.hid ((HBN.out nn).trans (hb2.mono hb0)); clear hb2)
        go_ret2
        exact RdOut.bad HRR.out rfl B2.out
end Go.Proofs.YthhmamkphcgocaaDoor

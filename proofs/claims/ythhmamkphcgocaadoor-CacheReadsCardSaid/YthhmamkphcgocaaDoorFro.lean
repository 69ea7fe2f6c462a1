/- The outer loop of sleuthref33.Read: the rows. -/
import Derived.Test.YthhmamkphcgocaaDoorFrn
namespace Go.Proofs.YthhmamkphcgocaaDoor
open Go.RowKit

attribute [local go_sem ↓] load42_eq store42_eq new42_eq run_new42 ldT47 ldT73 ldT52 ldT44 ldT71 ldT94 stT47 stT73 stT52 stT94 nwT47 nwT73 nwT52 nwT94 bxT47 bxT73 bxT52 bxT42 bxT44 bxT67 bdT47 bdT73 bdT52 bdT94 bdT67 run_nw47 run_nw73 run_nw52 run_nw94 bsT24 bsT28 bsT45
attribute [local go_sem] run_bxT bs_toList run_bd67
set_option maxRecDepth 100000 in
set_option maxHeartbeats 2000000 in
theorem frow_loop (w w7 : World) (g : Nat) (ad : Addr) (c : Nat) (l : List UInt8) (n : Nat) (r : List Lot × Nat × Nat) (hn64 : n ≤ 64) (hgw : w.heap.size ≤ g) (HBS : Hid (w.heap.size ≤ w7.heap.size))
    (B7 : Hid (Below w.heap.size w w7)) (P7 : Hid (Rf w7 g (some ad) c l 12 0)) (HRS : Hid (lotsP l n [] 12 = r)) (Q0 : Exit → Act → World → Prop)
    (z0 z1 z2 z3 z4 z9 z10 z11 z12 z13 z14 z15 z16 z17 z18 z19 z20 z21 z22 z23 z24 z25 z26 z27 z28 z29 z30 z31 z32 z33 z34 z35 z36 z37 z38 z39 z40 z41 z42 z43 z44 z45 z46 z47 z48 z49 z50 z51 z52 z53 z54 z55 z56 z57 z58 z59 z60 z61 z62 z63 z64 z65 z66 z67 z68 z69 z70 z71 z72 z73 z74 z75 z76 z77 z78 z79 z80 z81 z82 z83 z84 z85 z86 z87 z88 z89 z90 z91 z92 z93 z94 z95 z96 z97 z98 z99 z100 z101 z102 z103 z104 z105 z106 z107 z108 z109 z110 z111 z112 z113 z114 z115 z116 z117 z118 z119 z120 z121 z122 z123 z124 z125 z126 z127 z128 z129 z130 z131 z132 z133 z134 z135 z136 z137 z138 z139 z140 z141 z142 z143 z144 z145 z146 z147 z148 z149 z150 z151 z152 z153 z154 z155 z156 z157 z158 z159 z160 z161 z162 z163 : Value)
    (hret : Hid (∀ (ee : Nat) (W' : World), ee ≠ 0 → r.2.2 = ee → Below w.heap.size w W' → ∀ z0 z1 z4 z5 z6 z7 z8 z9 z10 z11 z12 z13 z14 z15 z16 z17 z18 z19 z20 z21 z22 z23 z24 z25 z26 z27 z28 z29 z30 z31 z32 z33 z34 z35 z36 z37 z38 z39 z40 z41 z42 z43 z44 z45 z46 z47 z48 z49 z50 z51 z52 z53 z54 z55 z56 z57 z58 z59 z60 z61 z62 z63 z64 z65 z66 z67 z68 z69 z70 z71 z72 z73 z74 z75 z76 z77 z78 z79 z80 z81 z82 z83 z84 z85 z86 z87 z88 z89 z90 z91 z92 z93 z94 z95 z96 z97 z98 z99 z100 z101 z102 z103 z104 z105 z106 z107 z108 z109 z110 z111 z112 z113 z114 z115 z116 z117 z118 z119 z120 z121 z122 z123 z124 z125 z126 z127 z128 z129 z130 z131 z132 z133 z134 z135 z136 z137 z138 z139 z140 z141 z142 z143 z144 z145 z146 z147 z148 z149 z150 z151 z152 z153 z154 z155 z156 z157 z158 z159 z160 z161 z162 z163 : Value, Q0 .ret ⟨List.toArray (z0 :: z1 :: (.slice none 0 0) :: (.int .i64 (ee : Int)) :: z4 :: z5 :: z6 :: z7 :: z8 :: z9 :: z10 :: z11 :: z12 :: z13 :: z14 :: z15 :: z16 :: z17 :: z18 :: z19 :: z20 :: z21 :: z22 :: z23 :: z24 :: z25 :: z26 :: z27 :: z28 :: z29 :: z30 :: z31 :: z32 :: z33 :: z34 :: z35 :: z36 :: z37 :: z38 :: z39 :: z40 :: z41 :: z42 :: z43 :: z44 :: z45 :: z46 :: z47 :: z48 :: z49 :: z50 :: z51 :: z52 :: z53 :: z54 :: z55 :: z56 :: z57 :: z58 :: z59 :: z60 :: z61 :: z62 :: z63 :: z64 :: z65 :: z66 :: z67 :: z68 :: z69 :: z70 :: z71 :: z72 :: z73 :: z74 :: z75 :: z76 :: z77 :: z78 :: z79 :: z80 :: z81 :: z82 :: z83 :: z84 :: z85 :: z86 :: z87 :: z88 :: z89 :: z90 :: z91 :: z92 :: z93 :: z94 :: z95 :: z96 :: z97 :: z98 :: z99 :: z100 :: z101 :: z102 :: z103 :: z104 :: z105 :: z106 :: z107 :: z108 :: z109 :: z110 :: z111 :: z112 :: z113 :: z114 :: z115 :: z116 :: z117 :: z118 :: z119 :: z120 :: z121 :: z122 :: z123 :: z124 :: z125 :: z126 :: z127 :: z128 :: z129 :: z130 :: z131 :: z132 :: z133 :: z134 :: z135 :: z136 :: z137 :: z138 :: z139 :: z140 :: z141 :: z142 :: z143 :: z144 :: z145 :: z146 :: z147 :: z148 :: z149 :: z150 :: z151 :: z152 :: z153 :: z154 :: z155 :: z156 :: z157 :: z158 :: z159 :: z160 :: z161 :: z162 :: z163 :: []), []⟩ W'))
    (hexit : Hid (∀ (ms : List Mot) (k' : Nat) (sv : Value) (W' : World), (ms.map (·.r), k', 0) = r → ms.length = n → Rf W' g (some ad) c l k' 0 → W'.ownsRow w7.heap.size 73 38 sv ms.length (mots ms) →
      (∀ m ∈ ms, gotL m.r ∧ W'.ownsRow w7.heap.size 52 34 (.slice m.A m.r.os.length m.c) m.r.os.length (orgs m.r.os)) → Below w.heap.size w W' → ∀ z0 z1 z2 z3 z4 z6 z8 z9 z10 z11 z12 z13 z14 z15 z16 z17 z18 z19 z20 z21 z22 z23 z24 z25 z26 z27 z28 z29 z30 z31 z32 z33 z34 z35 z36 z37 z38 z39 z40 z41 z42 z43 z44 z45 z46 z47 z48 z49 z50 z51 z52 z53 z54 z55 z56 z57 z58 z59 z60 z61 z62 z63 z64 z65 z66 z67 z68 z69 z70 z71 z72 z73 z74 z75 z76 z77 z78 z79 z80 z81 z82 z83 z84 z85 z86 z87 z88 z89 z90 z91 z92 z93 z94 z95 z96 z97 z98 z99 z100 z101 z102 z103 z104 z105 z106 z107 z108 z109 z110 z111 z112 z113 z114 z115 z116 z117 z118 z119 z120 z121 z122 z123 z124 z125 z126 z127 z128 z129 z130 z131 z132 z133 z134 z135 z136 z137 z138 z139 z140 z141 z142 z143 z144 z145 z146 z147 z148 z149 z150 z151 z152 z153 z154 z155 z156 z157 z158 z159 z160 z161 z162 z163 : Value, Q0 (.exit 0) ⟨List.toArray (z0 :: z1 :: z2 :: z3 :: z4 :: (.pointer (some ⟨g, 0, none⟩)) :: z6 :: sv :: z8 :: z9 :: z10 :: z11 :: z12 :: z13 :: z14 :: z15 :: z16 :: z17 :: z18 :: z19 :: z20 :: z21 :: z22 :: z23 :: z24 :: z25 :: z26 :: z27 :: z28 :: z29 :: z30 :: z31 :: z32 :: z33 :: z34 :: z35 :: z36 :: z37 :: z38 :: z39 :: z40 :: z41 :: z42 :: z43 :: z44 :: z45 :: z46 :: z47 :: z48 :: z49 :: z50 :: z51 :: z52 :: z53 :: z54 :: z55 :: z56 :: z57 :: z58 :: z59 :: z60 :: z61 :: z62 :: z63 :: z64 :: z65 :: z66 :: z67 :: z68 :: z69 :: z70 :: z71 :: z72 :: z73 :: z74 :: z75 :: z76 :: z77 :: z78 :: z79 :: z80 :: z81 :: z82 :: z83 :: z84 :: z85 :: z86 :: z87 :: z88 :: z89 :: z90 :: z91 :: z92 :: z93 :: z94 :: z95 :: z96 :: z97 :: z98 :: z99 :: z100 :: z101 :: z102 :: z103 :: z104 :: z105 :: z106 :: z107 :: z108 :: z109 :: z110 :: z111 :: z112 :: z113 :: z114 :: z115 :: z116 :: z117 :: z118 :: z119 :: z120 :: z121 :: z122 :: z123 :: z124 :: z125 :: z126 :: z127 :: z128 :: z129 :: z130 :: z131 :: z132 :: z133 :: z134 :: z135 :: z136 :: z137 :: z138 :: z139 :: z140 :: z141 :: z142 :: z143 :: z144 :: z145 :: z146 :: z147 :: z148 :: z149 :: z150 :: z151 :: z152 :: z153 :: z154 :: z155 :: z156 :: z157 :: z158 :: z159 :: z160 :: z161 :: z162 :: z163 :: []), []⟩ W')) :
    Code.wp Tryd.prog (Code.loop fre1) Q0 ⟨List.toArray (z0 :: z1 :: z2 :: z3 :: z4 :: (.pointer (some ⟨g, 0, none⟩)) :: (.int .u64 (n : Int)) :: (.slice none 0 0) :: (.int .i64 (0 : Int)) :: z9 :: z10 :: z11 :: z12 :: z13 :: z14 :: z15 :: z16 :: z17 :: z18 :: z19 :: z20 :: z21 :: z22 :: z23 :: z24 :: z25 :: z26 :: z27 :: z28 :: z29 :: z30 :: z31 :: z32 :: z33 :: z34 :: z35 :: z36 :: z37 :: z38 :: z39 :: z40 :: z41 :: z42 :: z43 :: z44 :: z45 :: z46 :: z47 :: z48 :: z49 :: z50 :: z51 :: z52 :: z53 :: z54 :: z55 :: z56 :: z57 :: z58 :: z59 :: z60 :: z61 :: z62 :: z63 :: z64 :: z65 :: z66 :: z67 :: z68 :: z69 :: z70 :: z71 :: z72 :: z73 :: z74 :: z75 :: z76 :: z77 :: z78 :: z79 :: z80 :: z81 :: z82 :: z83 :: z84 :: z85 :: z86 :: z87 :: z88 :: z89 :: z90 :: z91 :: z92 :: z93 :: z94 :: z95 :: z96 :: z97 :: z98 :: z99 :: z100 :: z101 :: z102 :: z103 :: z104 :: z105 :: z106 :: z107 :: z108 :: z109 :: z110 :: z111 :: z112 :: z113 :: z114 :: z115 :: z116 :: z117 :: z118 :: z119 :: z120 :: z121 :: z122 :: z123 :: z124 :: z125 :: z126 :: z127 :: z128 :: z129 :: z130 :: z131 :: z132 :: z133 :: z134 :: z135 :: z136 :: z137 :: z138 :: z139 :: z140 :: z141 :: z142 :: z143 :: z144 :: z145 :: z146 :: z147 :: z148 :: z149 :: z150 :: z151 :: z152 :: z153 :: z154 :: z155 :: z156 :: z157 :: z158 :: z159 :: z160 :: z161 :: z162 :: z163 :: []), []⟩ w7 := by
  conv => arg 2; arg 1; whnf
  have wn : IntKind.i64.wrap (n : Int) = (n : Int) := IntWalk.i64_in _ (by omega)
  have hg5 := P7.out.lt
  go_loopw [7, 8] (fun sv kv wr => ∃ (ms : List Mot) (k' : Nat), ms.length ≤ n ∧ kv = .int .i64 ms.length ∧ Hid (lotsP l (n - ms.length) (ms.map (·.r)) k' = r) ∧ Hid (Rf wr g (some ad) c l k' 0) ∧ Hid (wr.ownsRow w7.heap.size 73 38 sv ms.length (mots ms)) ∧ Hid (∀ m ∈ ms, gotL m.r ∧ wr.ownsRow w7.heap.size 52 34 (.slice m.A m.r.os.length m.c) m.r.os.length (orgs m.r.os)) ∧ Hid (Below w.heap.size w wr) ∧ w7.heap.size ≤ wr.heap.size) (fun _ kv _ => n - (intOf kv).toNat)
  case atStart => exact ⟨[], 12, Nat.zero_le _, rfl, HRS, P7, World.ownsRow_nil _ _ _ _, Lib.hid (by simp), B7, Nat.le_refl _⟩
  case round =>
    clear HRS B7
    obtain ⟨ms, k', hms, rfl, hlots, hrp, hown, hrows, hbel, hsz⟩ := hrel
    have hkl := hrp.out.le
    by_cases hlt : ms.length < n
    · have hst := hlots.out
      rw [show n - ms.length = (n - ms.length - 1) + 1 by omega, lotsP_more] at hst
      have FX : Hid (Fx w w7 wr g (some ad) c l 12) := Lib.hid ⟨P7.out, hgw, HBS.out, hsz⟩
      have HBW := Lib.hid (fun h => (lot_bwd (l := l) (k := k') (e := 0) h).2 hkl)
      have hlot : lotP l k' 0 = lotP l k' 0 := rfl
      have hc1 := fid_any wr g (some ad) c l k' 0 hrp.out
      have HLP : Hid (∀ hd, hedP l k' 0 = hd → lotP l k' 0 = (if hd.e ≠ 0 then (default, hd.k, hd.e) else if 7 < hd.mark then (default, hd.k, 12) else
        (⟨hd.id, hd.path, hd.algo, bitP hd.mark 0, bitP hd.mark 1, bitP hd.mark 2, (orgsP l (rVar l 400 hd.k hd.e).1 [] (rVar l 400 hd.k hd.e).2.1 (rVar l 400 hd.k hd.e).2.2).1⟩, (orgsP l (rVar l 400 hd.k hd.e).1 [] (rVar l 400 hd.k hd.e).2.1 (rVar l 400 hd.k hd.e).2.2).2.1, (orgsP l (rVar l 400 hd.k hd.e).1 [] (rVar l 400 hd.k hd.e).2.1 (rVar l 400 hd.k hd.e).2.2).2.2))) := Lib.hid (fun hd h => by unfold lotP; rw [h])
      generalize lotP l k' 0 = lp at *
      have HST := Lib.hid hst
      obtain ⟨hd, hhd⟩ : ∃ hd, hedP l k' 0 = hd := ⟨_, rfl⟩
      have HLOT := Lib.hid (HLP.out hd hhd)
      have HHD := Lib.hid hhd
      unfold hedP at HHD
      dsimp only at HHD
      have hsm1 := rTake_small l 32 k' 0
      generalize rTake l 32 k' 0 = q1 at *
      obtain ⟨x1, k1, e1⟩ := q1
      dsimp only at HHD hc1 hsm1
      have hx1 := padI_len x1 hsm1
      generalize padI x1 = id at *
      generalize hq2 : rText l 120 k1 e1 = q2 at *
      obtain ⟨x2, k2, e2⟩ := q2
      dsimp only at HHD
      have HQ2 := Lib.hid hq2
      have hb3 := big1_lt l k2 e2
      generalize hq3 : rBig l 1 k2 e2 = q3 at *
      obtain ⟨x3, k3, e3⟩ := q3
      dsimp only at HHD hb3
      have HQ3 := Lib.hid hq3
      have hb4 := big1_lt l k3 e3
      generalize hq4 : rBig l 1 k3 e3 = q4 at *
      obtain ⟨x4, k4, e4⟩ := q4
      dsimp only at HHD hb4
      have HQ4 := Lib.hid hq4
      have HDD := HHD.out
      subst HDD
      dsimp only at HLOT
      have HC1 := Lib.hid hc1
      have l1 := fun W => run_bd73a id hx1 W
      have wx3 : IntKind.i64.wrap (x3 : Int) = (x3 : Int) := IntWalk.i64_in _ (by omega)
      have wx4 : IntKind.i64.wrap (x4 : Int) = (x4 : Int) := IntWalk.i64_in _ (by omega)
      clear hst hlots hlot hc1 hq2 hq3 hq4 HLP
      go_wp2_with fail
      refine HC1.out.mono ?_
      rintro en w8 ⟨rfl, hp8, hg8⟩
      have n0 : Ar (w8.alloc (.cells zM.cells.toArray 73)) w8.heap.size 73 zM.cells := Ar.new w8 _ _
      have hstm := stM73 (n := ⟨⟨id, [], 0, false, false, false, []⟩, none, 0⟩) n0 rfl hx1
      have hga : w8.grownBy (w8.alloc (.cells zM.cells.toArray 73)) none := grown_alloc (grown_refl w8 none) _
      have hgr := grown_row (w8.alloc (.cells zM.cells.toArray 73)) w8.heap.size (Mot.mk ⟨id, [], 0, false, false, false, []⟩ none 0).cells.toArray
      have hs8 := hg8.size
      have b8 := hbel.out.trans (below_of_grown hg8 hbel.out.size (fun q hq => by have := Option.some.inj hq; omega))
      have TF9 : Hid (Tf w w7 wr ((w8.alloc (.cells zM.cells.toArray 73)).setRow w8.heap.size (Mot.mk ⟨id, [], 0, false, false, false, []⟩ none 0).cells.toArray) g (some ad) c l w8.heap.size ⟨⟨id, [], 0, false, false, false, []⟩, none, 0⟩ k1 e1) := Lib.hid
        ⟨Rd.past P7.out (Rd.later hp8 hga) hgr (by omega), n0.setRow _, hs8, fun ho => own_row ((own_low ho hg8 hg5).alloc _) _ _ (fun q => by have := ((own_low ho hg8 hg5).lt _ q).2; omega), below_row (b8.alloc b8.size _) _ _ b8.size⟩
      have hc2 := frtext_any _ g (some ad) c l k1 e1 120 TF9.out.rp (by omega)
      rw [show rText l ((120 : Nat) : Int) k1 e1 = (x2, k2, e2) from HQ2.out] at hc2
      dsimp only at hc2
      have HC2 := Lib.hid hc2
      clear hp8 hg8 n0 hga hgr b8 hc2 HC1 hs8
      go_upto_region 18 with (go_at_call 28; refine HC2.out.mono ?_; rintro en w10 ⟨rfl, hp10, hg10⟩; have TF10 := Lib.hid (TF9.out.read FX.out hp10 hg10); have c32 := TF10.out.rx.cell (m_at _ hx1 0 rfl); have f32 := TF10.out.rx.frozen 32; have TF11 := Lib.hid (TF10.out.set FX.out 32 (.string (bs x2)) (setPath id [] 0 false false false [] none 0 hx1 x2)); have HC3 := Lib.hid (by have hc3 := frbig_any _ g (some ad) c l k2 e2 1 1 rfl TF11.out.rp (by omega); rw [HQ3.out] at hc3; exact hc3); clear hp10 hg10 HC2)
      clear hstm TF9 c32 f32 TF10
      generalize w8.heap.size = X at *
      generalize w10.setCell ⟨X, 32, none⟩ (.string (bs x2)) = w11 at *
      try dsimp only at HC3
      go_upto_region 19 with (go_at_call 27; refine HC3.out.mono ?_; rintro en w12 ⟨rfl, hp12, hg12⟩; have TF12 := Lib.hid (TF11.out.read FX.out hp12 hg12); have c33 := TF12.out.rx.cell (m_at _ hx1 1 rfl); have f33 := TF12.out.rx.frozen 33; have TF13 := Lib.hid (TF12.out.set FX.out 33 (.int .i64 (x3 : Int)) (setAlgo (m := ⟨⟨id, x2, 0, false, false, false, []⟩, none, 0⟩) hx1 (x3 : Int))); have HC4 := Lib.hid (by have hc4 := frbig_any _ g (some ad) c l k3 e3 1 1 rfl TF13.out.rp (by omega); rw [HQ4.out] at hc4; exact hc4); clear hp12 hg12 HC3)
      clear TF11 c33 f33 TF12
      generalize w12.setCell ⟨X, 33, none⟩ (.int .i64 (x3 : Int)) = w13 at *
      try dsimp only at HC4
      go_upto_region 20 with (go_at_call 27; refine HC4.out.mono ?_; rintro en w14 ⟨rfl, hp14, hg14⟩; have TF14 := Lib.hid (TF13.out.read FX.out hp14 hg14); have ce := Rd.c2 hp14; clear hp14 hg14 HC4)
      clear TF13
      by_cases he4 : e4 = 0
      rotate_left
      · skip
        have HRR : Hid (r.2.2 = e4) := Lib.hid (by
          have e1 := HLOT.out
          rw [if_pos he4] at e1
          have e2 := HST.out
          rw [e1, if_pos he4] at e2
          rw [← e2])
        have hq : ((e4 : Int) == 0) = false := beq_eq_false_iff_ne.2 (by omega)
        clear HLOT HST
        go_wp2_with fail
        refine wp_region_quiet_lit (by kernel_rfl) (by kernel_rfl) ?_
        repeat (go_big_quiet_step (fail))
        refine wpQuiet_nil ?_
        rintro _ ⟨nn, rfl⟩
        go_wp2_with fail
        exact hret.out e4 (w14.drewN nn) he4 HRR.out ⟨TF14.out.bel.os, TF14.out.bel.tape, TF14.out.bel.output, TF14.out.bel.size, TF14.out.bel.block⟩ _ _ _ _ _ _ _ _ _ _ _ _ _ _ _ _ _ _ _ _ _ _ _ _ _ _ _ _ _ _ _ _ _ _ _ _ _ _ _ _ _ _ _ _ _ _ _ _ _ _ _ _ _ _ _ _ _ _ _ _ _ _ _ _ _ _ _ _ _ _ _ _ _ _ _ _ _ _ _ _ _ _ _ _ _ _ _ _ _ _ _ _ _ _ _ _ _ _ _ _ _ _ _ _ _ _ _ _ _ _ _ _ _ _ _ _ _ _ _ _ _ _ _ _ _ _ _ _ _ _ _ _ _ _ _ _ _ _ _ _ _ _ _ _ _ _ _ _ _ _ _ _ _ _ _ _ _ _ _ _ _ _
      subst he4
      by_cases h7 : 7 < x4
      · skip
        have HRR : Hid (r.2.2 = 12) := Lib.hid (by
          have e1 := HLOT.out
          rw [if_neg (by omega), if_pos h7] at e1
          have e2 := HST.out
          rw [e1, if_pos (show (12 : Nat) ≠ 0 by decide)] at e2
          rw [← e2])
        clear HLOT HST
        go_wp2_with fail
        exact hret.out 12 _ (by omega) HRR.out TF14.out.bel _ _ _ _ _ _ _ _ _ _ _ _ _ _ _ _ _ _ _ _ _ _ _ _ _ _ _ _ _ _ _ _ _ _ _ _ _ _ _ _ _ _ _ _ _ _ _ _ _ _ _ _ _ _ _ _ _ _ _ _ _ _ _ _ _ _ _ _ _ _ _ _ _ _ _ _ _ _ _ _ _ _ _ _ _ _ _ _ _ _ _ _ _ _ _ _ _ _ _ _ _ _ _ _ _ _ _ _ _ _ _ _ _ _ _ _ _ _ _ _ _ _ _ _ _ _ _ _ _ _ _ _ _ _ _ _ _ _ _ _ _ _ _ _ _ _ _ _ _ _ _ _ _ _ _ _ _ _ _ _ _ _
      have hx7 : x4 ≤ 7 := by omega
      have hlp := HLOT.out
      rw [if_neg (by omega), if_neg h7] at hlp
      have hn0 := rVar_le l 400 k4 0
      have hn1 := rVar_bad l 400 k4 0
      generalize hq5 : rVar l 400 k4 0 = q5 at *
      obtain ⟨n0, k5, e5⟩ := q5
      dsimp only at hlp hn0 hn1
      generalize hop : orgsP l n0 [] k5 e5 = op at *
      have HOP := Lib.hid hop
      have t0 : ((x4 : Int) % 2 == 1) = bitP x4 0 := by unfold bitP; rw [Bool.eq_iff_iff]; simp; omega
      have t1 : ((x4 : Int) / 2 % 2 == 1) = bitP x4 1 := by unfold bitP; rw [Bool.eq_iff_iff]; simp; omega
      have t2 : ((x4 : Int) / 4 == 1) = bitP x4 2 := by unfold bitP; rw [Bool.eq_iff_iff]; simp; omega
      generalize bitP x4 0 = b0 at *
      generalize bitP x4 1 = b1 at *
      generalize bitP x4 2 = b2 at *
      have HQ5 := Lib.hid hq5
      have wn0 : IntKind.i64.wrap (n0 : Int) = (n0 : Int) := IntWalk.i64_in _ (by omega)
      have HLPP := Lib.hid hlp
      clear HLOT hlp hq5 hop
      have c34 := TF14.out.rx.cell (m_at _ hx1 2 rfl)
      have f34 := TF14.out.rx.frozen 34
      have TF15 := Lib.hid (TF14.out.set FX.out 34 (.bool b0) (setDe (m := ⟨⟨id, x2, (x3 : Int), false, false, false, []⟩, none, 0⟩) hx1 b0))
      have c35 := TF15.out.rx.cell (m_at _ hx1 3 rfl)
      have f35 := TF15.out.rx.frozen 35
      have TF16 := Lib.hid (TF15.out.set FX.out 35 (.bool b1) (setMo hx1 b1))
      have c36 := TF16.out.rx.cell (m_at _ hx1 4 rfl)
      have f36 := TF16.out.rx.frozen 36
      have TF17 := Lib.hid (TF16.out.set FX.out 36 (.bool b2) (setCo hx1 b2))
      have HC5 := Lib.hid (by have hc5 := frvar_any _ g (some ad) c l k4 0 400 TF17.out.rp; rw [HQ5.out] at hc5; exact hc5)
      clear TF14 TF15 TF16
      try dsimp only at HC5
      go_wp2_with (go_at_call 29; refine HC5.out.mono ?_; rintro en w18 ⟨rfl, hp18, hg18⟩; have TF18 := Lib.hid (TF17.out.read FX.out hp18 hg18); clear hp18 hg18 HC5)
      have T18 : Hid (Tf w w7 wr w18 g (some ad) c l X ⟨⟨id, x2, (x3 : Int), b0, b1, b2, []⟩, none, 0⟩ k5 e5) := TF18
      clear TF17 TF18 t0 t1 t2 c34 c35 c36 f34 f35 f36 ce HHD hhd HQ2 HQ3 HQ4 HQ5 l1 wx3 wx4
      obtain ⟨wo, hwo⟩ : ∃ wo, wo = wr := ⟨_, rfl⟩
      rw [← hwo] at T18 FX hrp hown hrows hbel hsz
      clear hwo
      have HRT := hret
      have HIN := Lib.hid hn1
      clear hn1 hret hexit
      refine forg_loop w w7 wo _ g ad c l X n0 k5 e5 x3 id x2 b0 b1 b2 op hx1 hn0 HIN.out FX HOP T18 _ _ _ _ _ _ _ _ _ _ _ _ _ _ _ _ _ _ _ _ _ _ _ _ _ _ _ _ _ _ _ _ _ _ _ _ _ _ _ _ _ _ _ _ _ _ _ _ _ _ _ _ _ _ _ _ _ _ _ _ _ _ _ _ _ _ _ _ _ _ _ _ _ _ _ _ _ _ _ _ _ _ _ _ _ _ _ _ _ _ _ _ _ _ _ _ _ _ _ _ _ _ _ _ _ _ _ _ _ _ _ _ _ _ _ _ _ _ _ _ _ _ _ _ _ _ _ _ _ _ _ _ _ _ _ _ _ _ _ _ _ _ _ _ _ _ _ _ _ _ _ _ _ _ _ _ _ _ _ _ _ ?_ ?_
      · refine Lib.hid ?_
        intro ee W' hee hop hb z0 z1 z4 z5 z6 z7 z8 z9 z10 z11 z12 z13 z14 z15 z16 z17 z18 z19 z20 z21 z22 z23 z24 z25 z26 z27 z28 z29 z30 z31 z32 z33 z34 z35 z36 z37 z38 z39 z40 z41 z42 z43 z44 z45 z46 z47 z48 z49 z50 z51 z52 z53 z54 z55 z56 z57 z58 z59 z60 z61 z62 z63 z64 z65 z66 z67 z68 z69 z70 z71 z72 z73 z74 z75 z76 z77 z78 z79 z80 z81 z82 z83 z84 z85 z86 z87 z88 z89 z90 z91 z92 z93 z94 z95 z96 z97 z98 z99 z100 z101 z102 z103 z104 z105 z106 z107 z108 z109 z110 z111 z112 z113 z114 z115 z116 z117 z118 z119 z120 z121 z122 z123 z124 z125 z126 z127 z128 z129 z130 z131 z132 z133 z134 z135 z136 z137 z138 z139 z140 z141 z142 z143 z144 z145 z146 z147 z148 z149 z150 z151 z152 z153 z154 z155 z156 z157 z158 z159 z160 z161 z162 z163
        have HEE := Lib.hid (show r.2.2 = ee by
          have e1 := HLPP.out
          have e2 := HST.out
          rw [e1, if_pos (show op.2.2 ≠ 0 by rw [hop]; exact hee)] at e2
          rw [← e2]
          exact hop)
        exact HRT.out ee _ hee HEE.out hb _ _ _ _ _ _ _ _ _ _ _ _ _ _ _ _ _ _ _ _ _ _ _ _ _ _ _ _ _ _ _ _ _ _ _ _ _ _ _ _ _ _ _ _ _ _ _ _ _ _ _ _ _ _ _ _ _ _ _ _ _ _ _ _ _ _ _ _ _ _ _ _ _ _ _ _ _ _ _ _ _ _ _ _ _ _ _ _ _ _ _ _ _ _ _ _ _ _ _ _ _ _ _ _ _ _ _ _ _ _ _ _ _ _ _ _ _ _ _ _ _ _ _ _ _ _ _ _ _ _ _ _ _ _ _ _ _ _ _ _ _ _ _ _ _ _ _ _ _ _ _ _ _ _ _ _ _ _ _ _ _ _
      refine Lib.hid ?_
      intro acc D d kk ee wr hpe hal ts ho hoks y2 y3 y12 y13 y105 y106 y107 y108 y109 y110 y111 y112 y113 y114 y115 y116 y117 y118 y119 y120 y121 y122 y123 y124 y125 y126 y127 y128 y129 y130 y131 y132 y133 y134
      subst hpe
      dsimp only at HLPP
      have ts := Lib.hid ts
      have ho := Lib.hid ho
      have hoks := Lib.hid hoks
      have hret := HRT
      clear T18 HOP HIN
      have ce := Rd.c2 ts.out.rp
      by_cases hee0 : ee = 0
      rotate_left
      · skip
        have HRR : Hid (r.2.2 = ee) := Lib.hid (by
          have e1 := HLPP.out
          have e2 := HST.out
          rw [e1, if_pos hee0] at e2
          rw [← e2])
        have hq : ((ee : Int) == 0) = false := beq_eq_false_iff_ne.2 (by omega)
        go_wp2_with fail
        refine wp_region_quiet_lit (by kernel_rfl) (by kernel_rfl) ?_
        repeat (go_big_quiet_step (fail))
        refine wpQuiet_nil ?_
        rintro _ ⟨nn, rfl⟩
        go_wp2_with fail
        exact hret.out ee (wr.drewN nn) hee0 HRR.out ⟨ts.out.bel.os, ts.out.bel.tape, ts.out.bel.output, ts.out.bel.size, ts.out.bel.block⟩ _ _ _ _ _ _ _ _ _ _ _ _ _ _ _ _ _ _ _ _ _ _ _ _ _ _ _ _ _ _ _ _ _ _ _ _ _ _ _ _ _ _ _ _ _ _ _ _ _ _ _ _ _ _ _ _ _ _ _ _ _ _ _ _ _ _ _ _ _ _ _ _ _ _ _ _ _ _ _ _ _ _ _ _ _ _ _ _ _ _ _ _ _ _ _ _ _ _ _ _ _ _ _ _ _ _ _ _ _ _ _ _ _ _ _ _ _ _ _ _ _ _ _ _ _ _ _ _ _ _ _ _ _ _ _ _ _ _ _ _ _ _ _ _ _ _ _ _ _ _ _ _ _ _ _ _ _ _ _ _ _ _
      · skip
        subst hee0
        have lm73 := b73 ts.out.rx hx1
        have l10 := fun W => run_bs28 (m := ⟨⟨id, x2, (x3 : Int), b0, b1, b2, acc⟩, D, d⟩) hx1 W
        have NW := Lib.hid (new_rv wr (Mot.mk ⟨id, x2, (x3 : Int), b0, b1, b2, acc⟩ D d).cells 73 _ rfl)
        have O7 := Lib.hid (ts.out.kp hown.out)
        have O8 := Lib.hid (O7.out.alloc (.cells (Mot.mk ⟨id, x2, (x3 : Int), b0, b1, b2, acc⟩ D d).cells.toArray 73))
        have HML := Lib.hid (Mot.len (m := ⟨⟨id, x2, (x3 : Int), b0, b1, b2, acc⟩, D, d⟩) hx1)
        have HMO := Lib.hid (Mot.one ⟨⟨id, x2, (x3 : Int), b0, b1, b2, acc⟩, D, d⟩)
        have HTM := Lib.hid (show mots ms ++ (Mot.mk ⟨id, x2, (x3 : Int), b0, b1, b2, acc⟩ D d).cells = mots (ms ++ [⟨⟨id, x2, (x3 : Int), b0, b1, b2, acc⟩, D, d⟩]) by rw [← mots_single, mots_app])
        have e1 := HST.out
        rw [HLPP.out] at e1
        rw [if_neg (fun h : (0 : Nat) ≠ 0 => h rfl)] at e1
        have HST2 := Lib.hid e1
        have hbw := HBW.out
        rw [HLPP.out] at hbw
        have HGL := Lib.hid (hbw rfl).1
        have hwo := FX.out.hr
        have HR7 : Hid (∀ x ∈ ms ++ [(⟨⟨id, x2, (x3 : Int), b0, b1, b2, acc⟩, D, d⟩ : Mot)], gotL x.r ∧ wr.ownsRow w7.heap.size 52 34 (.slice x.A x.r.os.length x.c) x.r.os.length (orgs x.r.os)) := Lib.hid fun x hx => by
          rcases List.mem_append.1 hx with hx | hx
          · obtain ⟨a1, a2⟩ := hrows.out x hx
            exact ⟨a1, ts.out.kp a2⟩
          · obtain rfl := List.mem_singleton.1 hx
            exact ⟨HGL.out, own_less ho.out (by have := ts.out.hX; omega)⟩
        have hs7 : (wr.alloc (.cells (Mot.mk ⟨id, x2, (x3 : Int), b0, b1, b2, acc⟩ D d).cells.toArray 73)).heap.size = wr.heap.size + 1 := World.size_alloc _ _
        have HS7 := Lib.hid hs7
        have hszr : w7.heap.size ≤ wr.heap.size := by have := ts.out.hX; have := ts.out.rx.lt; omega
        have TB := Lib.hid ts.out.bel
        have PP := Lib.hid ts.out.rp
        clear hs7 e1 hbw
        go_wp2_with (at_builtin; refine wpList_app sl28 rfl (.tmp 144) (.tmp 146) rfl w7.heap.size _ ms.length (mots ms) rfl O8.out (some ⟨wr.heap.size, 0, none⟩) 1 1 (Mot.mk ⟨id, x2, (x3 : Int), b0, b1, b2, acc⟩ D d).cells rfl (fun e => by cases e) (by rw [HML.out]) NW.out HMO.out (by unfold maxLen; omega) (by omega) (by rw [HS7.out]; omega) ?_; intro v9 w9 ho9 ha9; rw [HTM.out] at ho9; have O9 := Lib.hid ho9; have A9 := Lib.hid ha9; clear ho9 ha9)
        have hel : (ms ++ [(⟨⟨id, x2, (x3 : Int), b0, b1, b2, acc⟩, D, d⟩ : Mot)]).length = ms.length + 1 := by simp
        refine ⟨⟨ms ++ [⟨⟨id, x2, (x3 : Int), b0, b1, b2, acc⟩, D, d⟩], kk, by omega, by rw [hel]; rfl, ?_, ?_, ?_, ?_, ?_, ?_⟩, by simp [intOf]; omega⟩
        · rw [hel, List.map_append, show n - (ms.length + 1) = n - ms.length - 1 by omega]
          exact HST2
        · exact Lib.hid (Rd.aside P7.out (Rd.later PP.out (grown_alloc (grown_refl _ none) _)) A9.out.grown (fun q hq => (O8.out.lt q hq).1))
        · rw [hel]
          exact O9
        · exact Lib.hid fun x hx => ⟨(HR7.out x hx).1, own_past ((HR7.out x hx).2.alloc _) O8.out (by decide) A9.out.grown⟩
        · exact Lib.hid ((TB.out.alloc TB.out.size _).trans (below_of_grown A9.out.grown (by have := TB.out.size; rw [HS7.out]; omega) (fun q hq => by have := (O8.out.lt q hq).1; have := HBS.out; omega)))
        · have := A9.out.grown.size
          rw [HS7.out] at this
          omega
    · skip
      have hne : ms.length = n := by omega
      have hr := hlots.out
      rw [hne, Nat.sub_self, lotsP] at hr
      have HRF := Lib.hid hr
      have HMN := Lib.hid hne
      clear hr hne hlots
      go_wp2_with fail
      exact hexit.out ms k' u7 _ HRF.out HMN.out hrp.out hown.out hrows.out hbel.out _ _ _ _ _ _ _ _ _ _ _ _ _ _ _ _ _ _ _ _ _ _ _ _ _ _ _ _ _ _ _ _ _ _ _ _ _ _ _ _ _ _ _ _ _ _ _ _ _ _ _ _ _ _ _ _ _ _ _ _ _ _ _ _ _ _ _ _ _ _ _ _ _ _ _ _ _ _ _ _ _ _ _ _ _ _ _ _ _ _ _ _ _ _ _ _ _ _ _ _ _ _ _ _ _ _ _ _ _ _ _ _ _ _ _ _ _ _ _ _ _ _ _ _ _ _ _ _ _ _ _ _ _ _ _ _ _ _ _ _ _ _ _ _ _ _ _ _ _ _ _ _ _ _ _ _ _ _ _ _ _ _
end Go.Proofs.YthhmamkphcgocaaDoor

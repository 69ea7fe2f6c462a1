/- The inner loop of sleuthref33.Read: a row's origins. -/
import Derived.Test.YthhmamkphcgocaaDoorFrm
import Derived.Test.YthhmamkphcgocaaDoorLop
namespace Go.Proofs.YthhmamkphcgocaaDoor
open Go.RowKit

noncomputable def fre1 : Code := (Tryd.f8.body.bind firstLoop).getD .skip
noncomputable def fre2 : Code := (firstLoop fre1).getD .skip
attribute [local go_sem ↓] load42_eq store42_eq new42_eq run_new42 ldT47 ldT73 ldT52 ldT44 ldT71 ldT94 stT47 stT73 stT52 stT94 nwT47 nwT73 nwT52 nwT94 bxT47 bxT73 bxT52 bxT42 bxT44 bxT67 bdT47 bdT73 bdT52 bdT94 bdT67 run_nw47 run_nw73 run_nw52 run_nw94 bsT24 bsT28 bsT45
attribute [local go_sem] run_bxT bs_toList run_bd67
set_option maxRecDepth 100000 in
set_option maxHeartbeats 2000000 in
theorem forg_loop (w w7 wo W : World) (g : Nat) (ad : Addr) (c : Nat) (l : List UInt8) (X n0 k5 e5 x3 : Nat) (id x2 : List UInt8) (b0 b1 b2 : Bool) (op : List Org × Nat × Nat)
    (hx1 : id.length = 32) (hn0 : n0 ≤ 400) (hn1 : e5 ≠ 0 → n0 = 0) (FX : Hid (Fx w w7 wo g (some ad) c l 12)) (HOP : Hid (orgsP l n0 [] k5 e5 = op))
    (T18 : Hid (Tf w w7 wo W g (some ad) c l X ⟨⟨id, x2, (x3 : Int), b0, b1, b2, []⟩, none, 0⟩ k5 e5)) (Q0 : Exit → Act → World → Prop)
    (z0 z1 z2 z3 z4 z6 z7 z8 z10 z13 z14 z15 z16 z17 z18 z19 z20 z21 z22 z23 z24 z25 z26 z27 z28 z29 z30 z31 z32 z33 z34 z35 z36 z37 z38 z39 z40 z41 z42 z43 z44 z45 z46 z47 z48 z49 z50 z51 z52 z53 z54 z55 z56 z57 z58 z59 z60 z61 z62 z63 z64 z65 z66 z67 z68 z69 z70 z71 z72 z73 z74 z75 z76 z77 z78 z79 z80 z81 z82 z83 z84 z85 z86 z87 z88 z89 z90 z91 z92 z93 z94 z95 z96 z97 z98 z99 z100 z101 z102 z103 z104 z105 z106 z107 z108 z109 z110 z111 z112 z113 z114 z115 z116 z117 z118 z119 z120 z121 z122 z123 z124 z125 z126 z127 z128 z129 z130 z131 z132 z133 z134 z135 z136 z137 z138 z139 z140 z141 z142 z143 z144 z145 z146 z147 z148 z149 z150 z151 z152 z153 z154 z155 z156 z157 z158 z159 z160 z161 z162 z163 : Value)
    (hret : Hid (∀ (ee : Nat) (W' : World), ee ≠ 0 → op.2.2 = ee → Below w.heap.size w W' → ∀ z0 z1 z4 z5 z6 z7 z8 z9 z10 z11 z12 z13 z14 z15 z16 z17 z18 z19 z20 z21 z22 z23 z24 z25 z26 z27 z28 z29 z30 z31 z32 z33 z34 z35 z36 z37 z38 z39 z40 z41 z42 z43 z44 z45 z46 z47 z48 z49 z50 z51 z52 z53 z54 z55 z56 z57 z58 z59 z60 z61 z62 z63 z64 z65 z66 z67 z68 z69 z70 z71 z72 z73 z74 z75 z76 z77 z78 z79 z80 z81 z82 z83 z84 z85 z86 z87 z88 z89 z90 z91 z92 z93 z94 z95 z96 z97 z98 z99 z100 z101 z102 z103 z104 z105 z106 z107 z108 z109 z110 z111 z112 z113 z114 z115 z116 z117 z118 z119 z120 z121 z122 z123 z124 z125 z126 z127 z128 z129 z130 z131 z132 z133 z134 z135 z136 z137 z138 z139 z140 z141 z142 z143 z144 z145 z146 z147 z148 z149 z150 z151 z152 z153 z154 z155 z156 z157 z158 z159 z160 z161 z162 z163 : Value, Q0 .ret ⟨List.toArray (z0 :: z1 :: (.slice none 0 0) :: (.int .i64 (ee : Int)) :: z4 :: z5 :: z6 :: z7 :: z8 :: z9 :: z10 :: z11 :: z12 :: z13 :: z14 :: z15 :: z16 :: z17 :: z18 :: z19 :: z20 :: z21 :: z22 :: z23 :: z24 :: z25 :: z26 :: z27 :: z28 :: z29 :: z30 :: z31 :: z32 :: z33 :: z34 :: z35 :: z36 :: z37 :: z38 :: z39 :: z40 :: z41 :: z42 :: z43 :: z44 :: z45 :: z46 :: z47 :: z48 :: z49 :: z50 :: z51 :: z52 :: z53 :: z54 :: z55 :: z56 :: z57 :: z58 :: z59 :: z60 :: z61 :: z62 :: z63 :: z64 :: z65 :: z66 :: z67 :: z68 :: z69 :: z70 :: z71 :: z72 :: z73 :: z74 :: z75 :: z76 :: z77 :: z78 :: z79 :: z80 :: z81 :: z82 :: z83 :: z84 :: z85 :: z86 :: z87 :: z88 :: z89 :: z90 :: z91 :: z92 :: z93 :: z94 :: z95 :: z96 :: z97 :: z98 :: z99 :: z100 :: z101 :: z102 :: z103 :: z104 :: z105 :: z106 :: z107 :: z108 :: z109 :: z110 :: z111 :: z112 :: z113 :: z114 :: z115 :: z116 :: z117 :: z118 :: z119 :: z120 :: z121 :: z122 :: z123 :: z124 :: z125 :: z126 :: z127 :: z128 :: z129 :: z130 :: z131 :: z132 :: z133 :: z134 :: z135 :: z136 :: z137 :: z138 :: z139 :: z140 :: z141 :: z142 :: z143 :: z144 :: z145 :: z146 :: z147 :: z148 :: z149 :: z150 :: z151 :: z152 :: z153 :: z154 :: z155 :: z156 :: z157 :: z158 :: z159 :: z160 :: z161 :: z162 :: z163 :: []), []⟩ W'))
    (hexit : Hid (∀ (acc : List Org) (D : Option Addr) (d kk ee : Nat) (W' : World), (acc, kk, ee) = op → acc.length = n0 → Tf w w7 wo W' g (some ad) c l X ⟨⟨id, x2, (x3 : Int), b0, b1, b2, acc⟩, D, d⟩ kk ee →
      W'.ownsRow (X + 1) 52 34 (.slice D acc.length d) acc.length (orgs acc) → (∀ o ∈ acc, o.ok) → ∀ y2 y3 y12 y13 y105 y106 y107 y108 y109 y110 y111 y112 y113 y114 y115 y116 y117 y118 y119 y120 y121 y122 y123 y124 y125 y126 y127 y128 y129 y130 y131 y132 y133 y134 : Value, Q0 (.exit 2) ⟨List.toArray (z0 :: z1 :: y2 :: y3 :: z4 :: (.pointer (some ⟨g, 0, none⟩)) :: z6 :: z7 :: z8 :: (.pointer (some ⟨X, 0, none⟩)) :: z10 :: (.int .i64 (n0 : Int)) :: y12 :: y13 :: z14 :: z15 :: z16 :: z17 :: z18 :: z19 :: z20 :: z21 :: z22 :: z23 :: z24 :: z25 :: z26 :: z27 :: z28 :: z29 :: z30 :: z31 :: z32 :: z33 :: z34 :: z35 :: z36 :: z37 :: z38 :: z39 :: z40 :: z41 :: z42 :: z43 :: z44 :: z45 :: z46 :: z47 :: z48 :: z49 :: z50 :: z51 :: z52 :: z53 :: z54 :: z55 :: z56 :: z57 :: z58 :: z59 :: z60 :: z61 :: z62 :: z63 :: z64 :: z65 :: z66 :: z67 :: z68 :: z69 :: z70 :: z71 :: z72 :: z73 :: z74 :: z75 :: z76 :: z77 :: z78 :: z79 :: z80 :: z81 :: z82 :: z83 :: z84 :: z85 :: z86 :: z87 :: z88 :: z89 :: z90 :: z91 :: z92 :: z93 :: z94 :: z95 :: z96 :: z97 :: z98 :: z99 :: z100 :: z101 :: z102 :: z103 :: z104 :: y105 :: y106 :: y107 :: y108 :: y109 :: y110 :: y111 :: y112 :: y113 :: y114 :: y115 :: y116 :: y117 :: y118 :: y119 :: y120 :: y121 :: y122 :: y123 :: y124 :: y125 :: y126 :: y127 :: y128 :: y129 :: y130 :: y131 :: y132 :: y133 :: y134 :: z135 :: z136 :: z137 :: z138 :: z139 :: z140 :: z141 :: z142 :: z143 :: z144 :: z145 :: z146 :: z147 :: z148 :: z149 :: z150 :: z151 :: z152 :: z153 :: z154 :: z155 :: z156 :: z157 :: z158 :: z159 :: z160 :: z161 :: z162 :: z163 :: []), []⟩ W')) :
    Code.wp Tryd.prog (Code.loop fre2) Q0 ⟨List.toArray (z0 :: z1 :: z2 :: z3 :: z4 :: (.pointer (some ⟨g, 0, none⟩)) :: z6 :: z7 :: z8 :: (.pointer (some ⟨X, 0, none⟩)) :: z10 :: (.int .i64 (n0 : Int)) :: (.int .i64 (0 : Int)) :: z13 :: z14 :: z15 :: z16 :: z17 :: z18 :: z19 :: z20 :: z21 :: z22 :: z23 :: z24 :: z25 :: z26 :: z27 :: z28 :: z29 :: z30 :: z31 :: z32 :: z33 :: z34 :: z35 :: z36 :: z37 :: z38 :: z39 :: z40 :: z41 :: z42 :: z43 :: z44 :: z45 :: z46 :: z47 :: z48 :: z49 :: z50 :: z51 :: z52 :: z53 :: z54 :: z55 :: z56 :: z57 :: z58 :: z59 :: z60 :: z61 :: z62 :: z63 :: z64 :: z65 :: z66 :: z67 :: z68 :: z69 :: z70 :: z71 :: z72 :: z73 :: z74 :: z75 :: z76 :: z77 :: z78 :: z79 :: z80 :: z81 :: z82 :: z83 :: z84 :: z85 :: z86 :: z87 :: z88 :: z89 :: z90 :: z91 :: z92 :: z93 :: z94 :: z95 :: z96 :: z97 :: z98 :: z99 :: z100 :: z101 :: z102 :: z103 :: z104 :: z105 :: z106 :: z107 :: z108 :: z109 :: z110 :: z111 :: z112 :: z113 :: z114 :: z115 :: z116 :: z117 :: z118 :: z119 :: z120 :: z121 :: z122 :: z123 :: z124 :: z125 :: z126 :: z127 :: z128 :: z129 :: z130 :: z131 :: z132 :: z133 :: z134 :: z135 :: z136 :: z137 :: z138 :: z139 :: z140 :: z141 :: z142 :: z143 :: z144 :: z145 :: z146 :: z147 :: z148 :: z149 :: z150 :: z151 :: z152 :: z153 :: z154 :: z155 :: z156 :: z157 :: z158 :: z159 :: z160 :: z161 :: z162 :: z163 :: []), []⟩ W := by
  conv => arg 2; arg 1; whnf
  go_loopw [12] (fun jv wr => ∃ (acc : List Org) (D : Option Addr) (d kk ee : Nat), acc.length ≤ n0 ∧ jv = .int .i64 acc.length ∧ (ee ≠ 0 → n0 = 0) ∧ Hid (orgsP l (n0 - acc.length) acc kk ee = op) ∧ Hid (Tf w w7 wo wr g (some ad) c l X ⟨⟨id, x2, (x3 : Int), b0, b1, b2, acc⟩, D, d⟩ kk ee) ∧ Hid (wr.ownsRow (X + 1) 52 34 (.slice D acc.length d) acc.length (orgs acc)) ∧ Hid (∀ o ∈ acc, o.ok)) (fun jv _ => n0 - (intOf jv).toNat)
  case atStart => exact ⟨[], none, 0, k5, e5, Nat.zero_le _, rfl, hn1, HOP, T18, World.ownsRow_nil _ _ _ _, Lib.hid (by simp)⟩
  case round =>
    clear T18 HOP
    obtain ⟨acc, D, d, kk, ee, hj, rfl, hee, hop, ts, ho, hoks⟩ := hrel
    by_cases hjl : acc.length < n0
    · skip
      have he0 : ee = 0 := by
        by_cases h : ee = 0
        · exact h
        · have := hee h; omega
      subst he0
      obtain ⟨nr, hnr⟩ : ∃ nr, n0 - acc.length = nr + 1 := ⟨n0 - acc.length - 1, by omega⟩
      have hc6 := fid_any wr g (some ad) c l kk 0 ts.out.rp
      have hp := hop.out
      rw [hnr, orgsP, if_neg (by omega)] at hp
      unfold orgP at hp
      dsimp only at hp
      have hys := rTake_small l 32 kk 0
      generalize rTake l 32 kk 0 = p1 at *
      obtain ⟨y1, ka, ea⟩ := p1
      dsimp only at hp hc6 hys
      have hy1 := padI_len y1 hys
      generalize padI y1 = yid at *
      have hyt := rText_le l ka ea
      generalize hp2 : rText l 120 ka ea = p2 at *
      obtain ⟨y2, kb, eb⟩ := p2
      dsimp only at hp hyt
      have hyv := rVar_le l 399 kb eb
      generalize hp3 : rVar l 399 kb eb = p3 at *
      obtain ⟨y3, kc, ec⟩ := p3
      dsimp only at hp hyv
      have HPN := Lib.hid hp
      have HP2 := Lib.hid hp2
      have HP3 := Lib.hid hp3
      have HC6 := Lib.hid hc6
      have HOK : Hid (∀ o ∈ acc ++ [(⟨yid, y2, (y3 : Int)⟩ : Org)], o.ok) := Lib.hid fun o ho => by
        rcases List.mem_append.1 ho with h | h
        · exact hoks.out o h
        · rw [List.mem_singleton.1 h]
          exact ⟨hy1, by dsimp only; unfold maxLen; omega⟩
      have HOA := Lib.hid (show orgs acc ++ (Org.mk yid y2 (y3 : Int)).cells = orgs (acc ++ [⟨yid, y2, (y3 : Int)⟩]) by rw [← orgs_single, orgs_app])
      have wy3 : IntKind.i64.wrap (y3 : Int) = (y3 : Int) := IntWalk.i64_in _ (by omega)
      have l7 := fun W => run_bd52a yid hy1 W
      have HNR := Lib.hid hnr
      clear hp hp2 hp3 hc6 hop hoks hys hnr
      go_wp2_with fail
      refine HC6.out.mono ?_
      rintro en w20 ⟨rfl, hp20, hg20⟩
      have hsto := stO52 (o := zO) (p := ⟨yid, [], 0⟩) (Ar.new w20 zO.cells 52) rfl hy1
      rw [new_set] at hsto
      have TG21 := Lib.hid (Tg.new (ts.out.read FX.out hp20 hg20) FX.out (own_low ho.out hg20 (by have := FX.out.r5.lt; have := FX.out.hr; have := ts.out.hX; omega)) ⟨yid, [], 0⟩)
      have HC7 := Lib.hid (by have hc7 := frtext_any _ g (some ad) c l ka ea 120 TG21.out.tf.rp (by omega); rw [show rText l ((120 : Nat) : Int) ka ea = (y2, kb, eb) from HP2.out] at hc7; exact hc7)
      try dsimp only at HC7
      clear hp20 hg20 HC6 ts ho
      go_upto_region 33 with (go_at_call 28; refine HC7.out.mono ?_; rintro en w22 ⟨rfl, hp22, hg22⟩; have TG22 := Lib.hid (TG21.out.read FX.out hp22 hg22); have c32 := TG22.out.ry.cell (Org.c_path hy1); have f32 := TG22.out.ry.frozen 32; have TG23 := Lib.hid (TG22.out.set FX.out 32 (.string (bs y2)) (setOPath yid [] y2 0 hy1)); have HC8 := Lib.hid (by have hc8 := frvar_any _ g (some ad) c l kb eb 399 TG23.out.tf.rp; rw [HP3.out] at hc8; exact hc8); clear hp22 hg22 HC7)
      clear TG21 TG22 c32 f32 hsto l7
      generalize w20.heap.size = Y at *
      generalize w22.setCell ⟨Y, 32, none⟩ (.string (bs y2)) = w23 at *
      try dsimp only at HC8
      go_upto_region 34 with (go_at_call 29; refine HC8.out.mono ?_; rintro en w24 ⟨rfl, hp24, hg24⟩; have TG24 := Lib.hid (TG23.out.read FX.out hp24 hg24); have c33 := TG24.out.ry.cell (Org.c_line hy1); have f33 := TG24.out.ry.frozen 33; have TG25 := Lib.hid (TG24.out.set FX.out 33 (.int .i64 (y3 : Int)) (setOLine yid y2 0 (y3 : Int) hy1)); clear hp24 hg24 HC8)
      clear TG23 TG24 c33 f33
      generalize w24.setCell ⟨Y, 33, none⟩ (.int .i64 (y3 : Int)) = w25 at *
      have ce := Rd.c2 TG25.out.tf.rp
      by_cases hec : ec = 0
      rotate_left
      · skip
        have HRR : Hid (op.2.2 = ec) := Lib.hid (by
          have e0 := HPN.out
          rw [orgsP_end _ _ _ _ _ (.inr hec)] at e0
          rw [← e0])
        have hq : ((ec : Int) == 0) = false := beq_eq_false_iff_ne.2 (by omega)
        go_wp2_with fail
        refine wp_region_quiet_lit (by kernel_rfl) (by kernel_rfl) ?_
        repeat (go_big_quiet_step (fail))
        refine wpQuiet_nil ?_
        rintro _ ⟨nn, rfl⟩
        go_wp2_with fail
        exact hret.out ec (w25.drewN nn) hec HRR.out ⟨TG25.out.tf.bel.os, TG25.out.tf.bel.tape, TG25.out.tf.bel.output, TG25.out.tf.bel.size, TG25.out.tf.bel.block⟩ _ _ _ _ _ _ _ _ _ _ _ _ _ _ _ _ _ _ _ _ _ _ _ _ _ _ _ _ _ _ _ _ _ _ _ _ _ _ _ _ _ _ _ _ _ _ _ _ _ _ _ _ _ _ _ _ _ _ _ _ _ _ _ _ _ _ _ _ _ _ _ _ _ _ _ _ _ _ _ _ _ _ _ _ _ _ _ _ _ _ _ _ _ _ _ _ _ _ _ _ _ _ _ _ _ _ _ _ _ _ _ _ _ _ _ _ _ _ _ _ _ _ _ _ _ _ _ _ _ _ _ _ _ _ _ _ _ _ _ _ _ _ _ _ _ _ _ _ _ _ _ _ _ _ _ _ _ _ _ _ _ _
      · skip
        subst hec
        have c37 := TG25.out.tf.rx.cell (m_at _ hx1 5 rfl)
        have lo52 := ldO52 TG25.out.ry.at0 hy1
        have l10 := fun W => run_bs45 (o := ⟨yid, y2, (y3 : Int)⟩) hy1 W
        have NW := Lib.hid (new_rv w25 (Org.mk yid y2 (y3 : Int)).cells 52 _ rfl)
        have T26 := Lib.hid (TG25.out.tf.aside FX.out (grown_alloc (grown_refl w25 none) (.cells (Org.mk yid y2 (y3 : Int)).cells.toArray 52)) (fun q hq => by cases hq))
        have O26 := Lib.hid (TG25.out.ow.alloc (.cells (Org.mk yid y2 (y3 : Int)).cells.toArray 52))
        have HML := Lib.hid (Org.len (o := ⟨yid, y2, (y3 : Int)⟩) hy1)
        have HON := Lib.hid (Org.one ⟨yid, y2, (y3 : Int)⟩)
        have hXs := TG25.out.tf.rx.lt
        have hs26 : (w25.alloc (.cells (Org.mk yid y2 (y3 : Int)).cells.toArray 52)).heap.size = w25.heap.size + 1 := World.size_alloc _ _
        have HS26 := Lib.hid hs26
        clear hs26
        go_wp2_with (at_builtin; refine wpList_app sl45 rfl (.tmp 130) (.tmp 132) rfl (X + 1) (.slice D acc.length d) acc.length (orgs acc) rfl O26.out (some ⟨w25.heap.size, 0, none⟩) 1 1 (Org.mk yid y2 (y3 : Int)).cells rfl (fun e => by cases e) (by rw [HML.out]) NW.out HON.out (by unfold maxLen; omega) (by omega) (by rw [HS26.out]; omega) ?_; intro v27 w27 ho27 ha27; rw [HOA.out] at ho27; have T27 := Lib.hid (T26.out.more FX.out O26.out ha27.grown); obtain ⟨D2, d2, hv27, _⟩ := own_all ho27; subst hv27; have c37 := T27.out.rx.cell (m_at _ hx1 5 rfl); have f37 := T27.out.rx.frozen 37; have T28 := Lib.hid (T27.out.set FX.out 37 (.slice D2 (acc.length + 1) d2) (setOs hx1 (acc ++ [⟨yid, y2, (y3 : Int)⟩]) D2 d2 (acc.length + 1) (by simp))); have O28 := Lib.hid (Tf.own_set (X := X) 37 (.slice D2 (acc.length + 1) d2) ho27); clear ho27 ha27)
        have hel : (acc ++ [(⟨yid, y2, (y3 : Int)⟩ : Org)]).length = acc.length + 1 := by simp
        refine ⟨⟨acc ++ [⟨yid, y2, (y3 : Int)⟩], D2, d2, kc, 0, by omega, by rw [hel]; rfl, fun h => absurd rfl h, ?_, T28, ?_, HOK⟩, by simp [intOf]; omega⟩
        · rw [hel, show n0 - (acc.length + 1) = nr by have := HNR.out; omega]
          exact HPN
        · rw [List.length_append]
          exact O28
    · skip
      have hje : n0 - acc.length = 0 := by omega
      have hpe := hop.out
      rw [hje, orgsP] at hpe
      have HPE := Lib.hid hpe
      have HJE := Lib.hid (show acc.length = n0 by omega)
      clear hpe hop hje
      go_wp2_with fail
      exact hexit.out acc D d kk ee _ HPE.out HJE.out ts.out ho.out hoks.out _ _ _ _ _ _ _ _ _ _ _ _ _ _ _ _ _ _ _ _ _ _ _ _ _ _ _ _ _ _ _ _ _ _
end Go.Proofs.YthhmamkphcgocaaDoor

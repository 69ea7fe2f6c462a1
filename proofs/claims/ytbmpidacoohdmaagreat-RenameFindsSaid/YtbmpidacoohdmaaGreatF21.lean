/- rename: near's two lists of places, in whatever order they are made. -/
import Derived.Test.YtbmpidacoohdmaaGreatF19
import Derived.Test.YtbmpidacoohdmaaGreatF20
import Derived.Deep.RegionWith
namespace Go.Proofs.YtbmpidacoohdmaaGreat
open Lib renaming hid → hI
open Go.RowKit Op
open Rn (Chg LReads CellsAt Fnd St isSource isTarget)

/-- The regions of a number in a code. -/
def regsIn (n : Nat) : Code → List Code
  | .region i ops d => if i == n then [.region i ops d] else []
  | .seq a b => regsIn n a ++ regsIn n b
  | .block _ c => regsIn n c
  | .loop c => regsIn n c
  | .scope c => regsIn n c
  | .cond _ a b => regsIn n a ++ regsIn n b
  | _ => []
theorem anyC_three {P : Program} {ops : Array Oper} {md : Region.Mode} {C : World → Prop} {Q : Exit → Act → World → Prop} {f : Nat} {listed : Array Bool} {a : Act} {w : World} {o o2 o3 : Oper} (i j k : Nat) (hC : C w) (hr : Region.ready md ops listed = [i, j, k]) (hi : ops[i]? = some o) (hj : ops[j]? = some o2) (hk : ops[k]? = some o3)
    (h : wpList P ops (Exit.then (anyC P md ops C Q f (listed.setIfInBounds i true)) Q) [o] a w) (h2 : wpList P ops (Exit.then (anyC P md ops C Q f (listed.setIfInBounds j true)) Q) [o2] a w) (h3 : wpList P ops (Exit.then (anyC P md ops C Q f (listed.setIfInBounds k true)) Q) [o3] a w) : anyC P md ops C Q (f + 1) listed a w := by
  refine ⟨hC, fun h0 => (by rw [hr] at h0; cases h0), fun n hn => ?_⟩
  rw [hr, List.mem_cons, List.mem_cons, List.mem_singleton] at hn
  rcases hn with rfl | rfl | rfl
  · exact anyC_step n hi h
  · exact anyC_step n hj h2
  · exact anyC_step n hk h3
noncomputable def near4_code : Code := ((Tryz.f19.body.map (regsIn 4)).getD []).getD 0 .skip
theorem run_al48 (w : World) : (Instr.alloc 48 true (.tuple #[])).run Tryz.prog w = .ok (.pointer (some ⟨w.heap.size, 0, none⟩)) (w.alloc (.cells #[.slice none 0 0] 48)) := by
  go_simp
set_option maxRecDepth 100000 in
set_option maxHeartbeats 1000000 in
theorem near4 (w : World) (B b F S K T : Nat) (A : Option Addr) (c : Nat) (l : List Chg) (s : St) (pb : Nat) (hf : Fnd w B b F S K T A c l s) (hpb : Ar w pb 67 [.pointer (some ⟨b, 0, none⟩)]) (Q0 : Exit → Act → World → Prop) (z0 z1 z2 z4 z5 z6 z7 z8 z9 z10 z11 z12 z13 z14 z15 z16 z17 z18 z19 z20 z21 z22 z23 z24 z25 z26 z27 z28 z29 z30 z31 z32 z33 z34 z35 z36 z37 z38 z39 z40 z41 z42 z43 z44 z45 z46 z47 z48 z49 z50 z51 z52 z53 z54 z55 z56 z57 z58 z59 z60 z61 z62 z63 z64 z65 z66 z67 z68 z69 z70 z71 z72 z73 z74 z75 z76 z77 z78 z79 z80 z81 z82 z83 z84 z85 z86 z87 z88 z89 z90 z91 z92 z93 z94 z95 z96 z97 z98 z99 z100 z101 z102 z103 z104 z105 z106 z107 z108 z109 z110 z111 z112 z113 z114 z115 z116 z117 z118 z119 z120 z121 z122 z123 z124 z125 z126 z127 z128 z129 z130 z131 z132 z133 z134 z135 z136 z137 z138 z139 z140 z141 z142 z143 z144 z145 z146 z147 z148 z149 z150 z151 z152 z153 z154 z155 z156 z157 : Value)
    (hpan : ∀ c a o v w, Q0 (.panic c) (Act.put a o v) w → Q0 (.panic c) a w)
    (hexit : Hid (∀ (p8 p9 : Nat) (D3 D7 : Option Addr) (d3 d7 : Nat) (w2 : World) (y32 y33 y34 y35 y36 y37 y38 y39 : Value), Hid (Ar w2 p8 48 [.slice D3 (pls (isSource l s) l.length).length d3]) → Hid (Ar w2 p9 48 [.slice D7 (pls (isTarget l s) l.length).length d7]) → Hid (w2.ownsRow w.heap.size 3 1 (.slice D3 (pls (isSource l s) l.length).length d3) (pls (isSource l s) l.length).length (ntI2 (pls (isSource l s) l.length))) → Hid (w2.ownsRow w.heap.size 3 1 (.slice D7 (pls (isTarget l s) l.length).length d7) (pls (isTarget l s) l.length).length (ntI2 (pls (isTarget l s) l.length))) → Hid (Below w.heap.size w w2) → Q0 .normal ⟨List.toArray (z0::z1::z2::(.pointer (some ⟨pb, 0, none⟩))::z4::z5::z6::z7::(.pointer (some ⟨p8, 0, none⟩))::(.pointer (some ⟨p9, 0, none⟩))::z10::z11::z12::z13::z14::z15::z16::z17::z18::z19::z20::z21::z22::z23::z24::z25::z26::z27::z28::z29::z30::z31::y32::y33::y34::y35::y36::y37::y38::y39::z40::z41::z42::z43::z44::z45::z46::z47::z48::z49::z50::z51::z52::z53::z54::z55::z56::z57::z58::z59::z60::z61::z62::z63::z64::z65::z66::z67::z68::z69::z70::z71::z72::z73::z74::z75::z76::z77::z78::z79::z80::z81::z82::z83::z84::z85::z86::z87::z88::z89::z90::z91::z92::z93::z94::z95::z96::z97::z98::z99::z100::z101::z102::z103::z104::z105::z106::z107::z108::z109::z110::z111::z112::z113::z114::z115::z116::z117::z118::z119::z120::z121::z122::z123::z124::z125::z126::z127::z128::z129::z130::z131::z132::z133::z134::z135::z136::z137::z138::z139::z140::z141::z142::z143::z144::z145::z146::z147::z148::z149::z150::z151::z152::z153::z154::z155::z156::z157::[]), []⟩ w2)) :
    Code.wp Tryz.prog near4_code Q0 ⟨List.toArray (z0::z1::z2::(.pointer (some ⟨pb, 0, none⟩))::z4::z5::z6::z7::z8::z9::z10::z11::z12::z13::z14::z15::z16::z17::z18::z19::z20::z21::z22::z23::z24::z25::z26::z27::z28::z29::z30::z31::z32::z33::z34::z35::z36::z37::z38::z39::z40::z41::z42::z43::z44::z45::z46::z47::z48::z49::z50::z51::z52::z53::z54::z55::z56::z57::z58::z59::z60::z61::z62::z63::z64::z65::z66::z67::z68::z69::z70::z71::z72::z73::z74::z75::z76::z77::z78::z79::z80::z81::z82::z83::z84::z85::z86::z87::z88::z89::z90::z91::z92::z93::z94::z95::z96::z97::z98::z99::z100::z101::z102::z103::z104::z105::z106::z107::z108::z109::z110::z111::z112::z113::z114::z115::z116::z117::z118::z119::z120::z121::z122::z123::z124::z125::z126::z127::z128::z129::z130::z131::z132::z133::z134::z135::z136::z137::z138::z139::z140::z141::z142::z143::z144::z145::z146::z147::z148::z149::z150::z151::z152::z153::z154::z155::z156::z157::[]), []⟩ w := by
  conv => arg 2; whnf
  have HC := hI (Below.refl w.heap.size w).drew
  have HF := hI hf
  have PB := hI hpb
  refine region_of (fun W => Below w.heap.size w W) (by kernel_rfl) ?_
  have LP : ∀ W, Below w.heap.size w W → W.cell? ⟨pb, 0, none⟩ = some (.pointer (some ⟨b, 0, none⟩)) := fun W hW => (PB.out.below hW PB.out.lt).cell (k := 0) rfl
  clear hf hpb
  refine anyC_take 0 (v := ?_) HC.out rfl (by kernel_rfl) (by kernel_rfl) (by kernel_rfl) (fun c a w h => hpan c a _ _ w h) rfl (fun W hW => ?_) ?_
  rotate_left
  · have := LP W hW; go_simp
    try rfl
  simp only [Act.put]
  refine anyC_take 1 (v := ?_) HC.out rfl (by kernel_rfl) (by kernel_rfl) (by kernel_rfl) (fun c a w h => hpan c a _ _ w h) rfl (fun W hW => ?_) ?_
  rotate_left
  · have := LP W hW; go_simp
    try rfl
  simp only [Act.put]
  refine anyC_take 2 (v := ?_) HC.out rfl (by kernel_rfl) (by kernel_rfl) (by kernel_rfl) (fun c a w h => hpan c a _ _ w h) rfl (fun W hW => ?_) ?_
  rotate_left
  · go_simp
    try rfl
  simp only [Act.put]
  refine anyC_take 4 (v := ?_) HC.out rfl (by kernel_rfl) (by kernel_rfl) (by kernel_rfl) (fun c a w h => hpan c a _ _ w h) rfl (fun W hW => ?_) ?_
  rotate_left
  · have := LP W hW; go_simp
    try rfl
  simp only [Act.put]
  refine anyC_take 5 (v := ?_) HC.out rfl (by kernel_rfl) (by kernel_rfl) (by kernel_rfl) (fun c a w h => hpan c a _ _ w h) rfl (fun W hW => ?_) ?_
  rotate_left
  · have := LP W hW; go_simp
    try rfl
  simp only [Act.put]
  refine anyC_take 6 (v := ?_) HC.out rfl (by kernel_rfl) (by kernel_rfl) (by kernel_rfl) (fun c a w h => hpan c a _ _ w h) rfl (fun W hW => ?_) ?_
  rotate_left
  · go_simp
    try rfl
  simp only [Act.put]
  clear LP
  have H0 := HC
  generalize hw0 : w.drew = w0 at *
  refine anyC_three 3 8 9 H0.out (by kernel_rfl) rfl rfl rfl ?_ ?_ ?_
  · have f1 : Fnd w0 B b F S K T A c l s := HF.out.keep fun q hq => H0.out.block q hq
    have HL1 := hI (left_src f1)
    clear f1
    go_wp2_with (go_at_call 45; refine HL1.out.mono ?_; rintro e w1 ⟨v, rfl, ho, hb⟩; obtain ⟨D3, d3, hvv, _⟩ := own_all ho; subst hvv; have O3 := hI (own_less ho H0.out.size); have h1 := hI hb; clear ho hb)
    have H1 := hI (H0.out.trans (h1.out.mono H0.out.size))
    refine anyC_three 7 8 9 H1.out (by kernel_rfl) rfl rfl rfl ?_ ?_ ?_
    · have f2 : Fnd w1 B b F S K T A c l s := HF.out.keep fun q hq => H1.out.block q hq
      have HL2 := hI (left_tgt f2)
      clear f2
      go_wp2_with (go_at_call 45; refine HL2.out.mono ?_; rintro e w2 ⟨v, rfl, ho, hb⟩; obtain ⟨D7, d7, hvv, _⟩ := own_all ho; subst hvv; have O7 := hI (own_less ho H1.out.size); have h2 := hI hb; clear ho hb)
      have H2 := hI (H1.out.trans (h2.out.mono H1.out.size))
      replace O3 := hI (own_below O3.out h2.out)
      refine anyC_two 8 9 H2.out (by kernel_rfl) rfl rfl ?_ ?_
      · have h3 := hI ((Below.refl w2.heap.size w2).alloc (Nat.le_refl _) (.cells #[.slice none 0 0] 48))
        have H3 := hI (H2.out.trans (h3.out.mono H2.out.size))
        have A8 := hI (Ar.new w2 [.slice none 0 0] 48)
        have L8 := hI H2.out.size
        replace O3 := hI (own_below O3.out h3.out)
        replace O7 := hI (own_below O7.out h3.out)
        have A80 : Hid (w2.heap.size < (w2.alloc (.cells #[.slice none 0 0] 48)).heap.size) := hI A8.out.lt
        have hal3 := run_al48 w2
        generalize hw3 : w2.alloc (.cells #[.slice none 0 0] 48) = w3 at *
        generalize hp8 : w2.heap.size = p8 at *
        go_wp2_with fail
        clear hw3 hp8 hal3
        refine anyC_one 9 H3.out (by kernel_rfl) rfl ?_
        · have h4 := hI ((Below.refl w3.heap.size w3).alloc (Nat.le_refl _) (.cells #[.slice none 0 0] 48))
          have H4 := hI (H3.out.trans (h4.out.mono H3.out.size))
          have A9 := hI (Ar.new w3 [.slice none 0 0] 48)
          have L9 := hI H3.out.size
          replace O3 := hI (own_below O3.out h4.out)
          replace O7 := hI (own_below O7.out h4.out)
          replace A8 := hI (A8.out.below h4.out A8.out.lt)
          have hlt4 := (show p8 < w3.heap.size from A80.out)
          have A90 : Hid (w3.heap.size < (w3.alloc (.cells #[.slice none 0 0] 48)).heap.size) := hI A9.out.lt
          have hal4 := run_al48 w3
          generalize hw4 : w3.alloc (.cells #[.slice none 0 0] 48) = w4 at *
          generalize hp9 : w3.heap.size = p9 at *
          have NE : Hid (p9 ≠ p8) := hI (by omega)
          clear hlt4
          go_wp2_with fail
          clear hw4 hp9 hal4
          replace A80 : Hid (p8 < w4.heap.size) := hI A8.out.lt
          refine anyC_one 10 H4.out (by kernel_rfl) rfl ?_
          have k8 := A8.out.cell (k := 0) rfl
          have j8 := A8.out.frozen 0
          go_wp2_with fail
          have a8 := hI (A8.out.set 0 (.slice D3 (pls (isSource l s) l.length).length d3))
          have a9 := hI (A9.out.other ⟨p8, 0, none⟩ (.slice D3 (pls (isSource l s) l.length).length d3) (show p9 ≠ p8 from NE.out))
          have O3a := hI (own_chs O3.out (Chs.of_grown (grown_set (grown_refl w4 (some p8)) 0 (.slice D3 (pls (isSource l s) l.length).length d3))) (fun q e h => by subst h; exact own_ne O3.out (fun cs f h2 => by have := A8.out.symm.trans h2; injection this with this; injection this with _ e; revert e; decide) e.symm))
          have O7a := hI (own_chs O7.out (Chs.of_grown (grown_set (grown_refl w4 (some p8)) 0 (.slice D3 (pls (isSource l s) l.length).length d3))) (fun q e h => by subst h; exact own_ne O7.out (fun cs f h2 => by have := A8.out.symm.trans h2; injection this with this; injection this with _ e; revert e; decide) e.symm))
          have Hz := hI (H4.out.setCell (p := ⟨p8, 0, none⟩) L8.out (.slice D3 (pls (isSource l s) l.length).length d3))
          generalize hwz : w4.setCell ⟨p8, 0, none⟩ (.slice D3 (pls (isSource l s) l.length).length d3) = wz at *
          refine anyC_one 11 Hz.out (by kernel_rfl) rfl ?_
          have k9 := a9.out.cell (k := 0) rfl
          have j9 := a9.out.frozen 0
          go_wp2_with fail
          have Hy := hI (Hz.out.setCell (p := ⟨p9, 0, none⟩) L9.out (.slice D7 (pls (isTarget l s) l.length).length d7))
          have b9 := hI (a9.out.set 0 (.slice D7 (pls (isTarget l s) l.length).length d7))
          have b8 := hI (a8.out.other ⟨p9, 0, none⟩ (.slice D7 (pls (isTarget l s) l.length).length d7) (show p8 ≠ p9 from fun q => NE.out q.symm))
          have O3b := hI (own_chs O3a.out (Chs.of_grown (grown_set (grown_refl wz (some p9)) 0 (.slice D7 (pls (isTarget l s) l.length).length d7))) (fun q e h => by subst h; exact own_ne O3a.out (fun cs f h2 => by have := a9.out.symm.trans h2; injection this with this; injection this with _ e; revert e; decide) e.symm))
          have O7b := hI (own_chs O7a.out (Chs.of_grown (grown_set (grown_refl wz (some p9)) 0 (.slice D7 (pls (isTarget l s) l.length).length d7))) (fun q e h => by subst h; exact own_ne O7a.out (fun cs f h2 => by have := a9.out.symm.trans h2; injection this with this; injection this with _ e; revert e; decide) e.symm))
          refine anyC_done Hy.out (by kernel_rfl) ?_ _
          exact hexit.out _ _ _ _ _ _ _ _ _ _ _ _ _ _ _ b8 b9 O3b O7b Hy
      · have h5 := hI ((Below.refl w2.heap.size w2).alloc (Nat.le_refl _) (.cells #[.slice none 0 0] 48))
        have H5 := hI (H2.out.trans (h5.out.mono H2.out.size))
        have A9 := hI (Ar.new w2 [.slice none 0 0] 48)
        have L9 := hI H2.out.size
        replace O3 := hI (own_below O3.out h5.out)
        replace O7 := hI (own_below O7.out h5.out)
        have A90 : Hid (w2.heap.size < (w2.alloc (.cells #[.slice none 0 0] 48)).heap.size) := hI A9.out.lt
        have hal5 := run_al48 w2
        generalize hw5 : w2.alloc (.cells #[.slice none 0 0] 48) = w5 at *
        generalize hp9 : w2.heap.size = p9 at *
        go_wp2_with fail
        clear hw5 hp9 hal5
        refine anyC_one 8 H5.out (by kernel_rfl) rfl ?_
        · have h6 := hI ((Below.refl w5.heap.size w5).alloc (Nat.le_refl _) (.cells #[.slice none 0 0] 48))
          have H6 := hI (H5.out.trans (h6.out.mono H5.out.size))
          have A8 := hI (Ar.new w5 [.slice none 0 0] 48)
          have L8 := hI H5.out.size
          replace O3 := hI (own_below O3.out h6.out)
          replace O7 := hI (own_below O7.out h6.out)
          replace A9 := hI (A9.out.below h6.out A9.out.lt)
          have hlt6 := (show p9 < w5.heap.size from A90.out)
          have A80 : Hid (w5.heap.size < (w5.alloc (.cells #[.slice none 0 0] 48)).heap.size) := hI A8.out.lt
          have hal6 := run_al48 w5
          generalize hw6 : w5.alloc (.cells #[.slice none 0 0] 48) = w6 at *
          generalize hp8 : w5.heap.size = p8 at *
          have NE : Hid (p9 ≠ p8) := hI (by omega)
          clear hlt6
          go_wp2_with fail
          clear hw6 hp8 hal6
          replace A90 : Hid (p9 < w6.heap.size) := hI A9.out.lt
          refine anyC_one 10 H6.out (by kernel_rfl) rfl ?_
          have k8 := A8.out.cell (k := 0) rfl
          have j8 := A8.out.frozen 0
          go_wp2_with fail
          have a8 := hI (A8.out.set 0 (.slice D3 (pls (isSource l s) l.length).length d3))
          have a9 := hI (A9.out.other ⟨p8, 0, none⟩ (.slice D3 (pls (isSource l s) l.length).length d3) (show p9 ≠ p8 from NE.out))
          have O3a := hI (own_chs O3.out (Chs.of_grown (grown_set (grown_refl w6 (some p8)) 0 (.slice D3 (pls (isSource l s) l.length).length d3))) (fun q e h => by subst h; exact own_ne O3.out (fun cs f h2 => by have := A8.out.symm.trans h2; injection this with this; injection this with _ e; revert e; decide) e.symm))
          have O7a := hI (own_chs O7.out (Chs.of_grown (grown_set (grown_refl w6 (some p8)) 0 (.slice D3 (pls (isSource l s) l.length).length d3))) (fun q e h => by subst h; exact own_ne O7.out (fun cs f h2 => by have := A8.out.symm.trans h2; injection this with this; injection this with _ e; revert e; decide) e.symm))
          have Hz := hI (H6.out.setCell (p := ⟨p8, 0, none⟩) L8.out (.slice D3 (pls (isSource l s) l.length).length d3))
          generalize hwz : w6.setCell ⟨p8, 0, none⟩ (.slice D3 (pls (isSource l s) l.length).length d3) = wz at *
          refine anyC_one 11 Hz.out (by kernel_rfl) rfl ?_
          have k9 := a9.out.cell (k := 0) rfl
          have j9 := a9.out.frozen 0
          go_wp2_with fail
          have Hy := hI (Hz.out.setCell (p := ⟨p9, 0, none⟩) L9.out (.slice D7 (pls (isTarget l s) l.length).length d7))
          have b9 := hI (a9.out.set 0 (.slice D7 (pls (isTarget l s) l.length).length d7))
          have b8 := hI (a8.out.other ⟨p9, 0, none⟩ (.slice D7 (pls (isTarget l s) l.length).length d7) (show p8 ≠ p9 from fun q => NE.out q.symm))
          have O3b := hI (own_chs O3a.out (Chs.of_grown (grown_set (grown_refl wz (some p9)) 0 (.slice D7 (pls (isTarget l s) l.length).length d7))) (fun q e h => by subst h; exact own_ne O3a.out (fun cs f h2 => by have := a9.out.symm.trans h2; injection this with this; injection this with _ e; revert e; decide) e.symm))
          have O7b := hI (own_chs O7a.out (Chs.of_grown (grown_set (grown_refl wz (some p9)) 0 (.slice D7 (pls (isTarget l s) l.length).length d7))) (fun q e h => by subst h; exact own_ne O7a.out (fun cs f h2 => by have := a9.out.symm.trans h2; injection this with this; injection this with _ e; revert e; decide) e.symm))
          refine anyC_done Hy.out (by kernel_rfl) ?_ _
          exact hexit.out _ _ _ _ _ _ _ _ _ _ _ _ _ _ _ b8 b9 O3b O7b Hy
    · have h7 := hI ((Below.refl w1.heap.size w1).alloc (Nat.le_refl _) (.cells #[.slice none 0 0] 48))
      have H7 := hI (H1.out.trans (h7.out.mono H1.out.size))
      have A8 := hI (Ar.new w1 [.slice none 0 0] 48)
      have L8 := hI H1.out.size
      replace O3 := hI (own_below O3.out h7.out)
      have A80 : Hid (w1.heap.size < (w1.alloc (.cells #[.slice none 0 0] 48)).heap.size) := hI A8.out.lt
      have hal7 := run_al48 w1
      generalize hw7 : w1.alloc (.cells #[.slice none 0 0] 48) = w7 at *
      generalize hp8 : w1.heap.size = p8 at *
      go_wp2_with fail
      clear hw7 hp8 hal7
      refine anyC_two 7 9 H7.out (by kernel_rfl) rfl rfl ?_ ?_
      · have f8 : Fnd w7 B b F S K T A c l s := HF.out.keep fun q hq => H7.out.block q hq
        have HL8 := hI (left_tgt f8)
        clear f8
        go_wp2_with (go_at_call 45; refine HL8.out.mono ?_; rintro e w8 ⟨v, rfl, ho, hb⟩; obtain ⟨D7, d7, hvv, _⟩ := own_all ho; subst hvv; have O7 := hI (own_less ho H7.out.size); have h8 := hI hb; clear ho hb)
        have H8 := hI (H7.out.trans (h8.out.mono H7.out.size))
        replace O3 := hI (own_below O3.out h8.out)
        replace A8 := hI (A8.out.below h8.out A8.out.lt)
        replace A80 : Hid (p8 < w8.heap.size) := hI A8.out.lt
        refine anyC_one 9 H8.out (by kernel_rfl) rfl ?_
        · have h9 := hI ((Below.refl w8.heap.size w8).alloc (Nat.le_refl _) (.cells #[.slice none 0 0] 48))
          have H9 := hI (H8.out.trans (h9.out.mono H8.out.size))
          have A9 := hI (Ar.new w8 [.slice none 0 0] 48)
          have L9 := hI H8.out.size
          replace O3 := hI (own_below O3.out h9.out)
          replace A8 := hI (A8.out.below h9.out A8.out.lt)
          replace O7 := hI (own_below O7.out h9.out)
          have hlt9 := (show p8 < w8.heap.size from A80.out)
          have A90 : Hid (w8.heap.size < (w8.alloc (.cells #[.slice none 0 0] 48)).heap.size) := hI A9.out.lt
          have hal9 := run_al48 w8
          generalize hw9 : w8.alloc (.cells #[.slice none 0 0] 48) = w9 at *
          generalize hp9 : w8.heap.size = p9 at *
          have NE : Hid (p9 ≠ p8) := hI (by omega)
          clear hlt9
          go_wp2_with fail
          clear hw9 hp9 hal9
          replace A80 : Hid (p8 < w9.heap.size) := hI A8.out.lt
          refine anyC_one 10 H9.out (by kernel_rfl) rfl ?_
          have k8 := A8.out.cell (k := 0) rfl
          have j8 := A8.out.frozen 0
          go_wp2_with fail
          have a8 := hI (A8.out.set 0 (.slice D3 (pls (isSource l s) l.length).length d3))
          have a9 := hI (A9.out.other ⟨p8, 0, none⟩ (.slice D3 (pls (isSource l s) l.length).length d3) (show p9 ≠ p8 from NE.out))
          have O3a := hI (own_chs O3.out (Chs.of_grown (grown_set (grown_refl w9 (some p8)) 0 (.slice D3 (pls (isSource l s) l.length).length d3))) (fun q e h => by subst h; exact own_ne O3.out (fun cs f h2 => by have := A8.out.symm.trans h2; injection this with this; injection this with _ e; revert e; decide) e.symm))
          have O7a := hI (own_chs O7.out (Chs.of_grown (grown_set (grown_refl w9 (some p8)) 0 (.slice D3 (pls (isSource l s) l.length).length d3))) (fun q e h => by subst h; exact own_ne O7.out (fun cs f h2 => by have := A8.out.symm.trans h2; injection this with this; injection this with _ e; revert e; decide) e.symm))
          have Hz := hI (H9.out.setCell (p := ⟨p8, 0, none⟩) L8.out (.slice D3 (pls (isSource l s) l.length).length d3))
          generalize hwz : w9.setCell ⟨p8, 0, none⟩ (.slice D3 (pls (isSource l s) l.length).length d3) = wz at *
          refine anyC_one 11 Hz.out (by kernel_rfl) rfl ?_
          have k9 := a9.out.cell (k := 0) rfl
          have j9 := a9.out.frozen 0
          go_wp2_with fail
          have Hy := hI (Hz.out.setCell (p := ⟨p9, 0, none⟩) L9.out (.slice D7 (pls (isTarget l s) l.length).length d7))
          have b9 := hI (a9.out.set 0 (.slice D7 (pls (isTarget l s) l.length).length d7))
          have b8 := hI (a8.out.other ⟨p9, 0, none⟩ (.slice D7 (pls (isTarget l s) l.length).length d7) (show p8 ≠ p9 from fun q => NE.out q.symm))
          have O3b := hI (own_chs O3a.out (Chs.of_grown (grown_set (grown_refl wz (some p9)) 0 (.slice D7 (pls (isTarget l s) l.length).length d7))) (fun q e h => by subst h; exact own_ne O3a.out (fun cs f h2 => by have := a9.out.symm.trans h2; injection this with this; injection this with _ e; revert e; decide) e.symm))
          have O7b := hI (own_chs O7a.out (Chs.of_grown (grown_set (grown_refl wz (some p9)) 0 (.slice D7 (pls (isTarget l s) l.length).length d7))) (fun q e h => by subst h; exact own_ne O7a.out (fun cs f h2 => by have := a9.out.symm.trans h2; injection this with this; injection this with _ e; revert e; decide) e.symm))
          refine anyC_done Hy.out (by kernel_rfl) ?_ _
          exact hexit.out _ _ _ _ _ _ _ _ _ _ _ _ _ _ _ b8 b9 O3b O7b Hy
      · have h10 := hI ((Below.refl w7.heap.size w7).alloc (Nat.le_refl _) (.cells #[.slice none 0 0] 48))
        have H10 := hI (H7.out.trans (h10.out.mono H7.out.size))
        have A9 := hI (Ar.new w7 [.slice none 0 0] 48)
        have L9 := hI H7.out.size
        replace O3 := hI (own_below O3.out h10.out)
        replace A8 := hI (A8.out.below h10.out A8.out.lt)
        have hlt10 := (show p8 < w7.heap.size from A80.out)
        have A90 : Hid (w7.heap.size < (w7.alloc (.cells #[.slice none 0 0] 48)).heap.size) := hI A9.out.lt
        have hal10 := run_al48 w7
        generalize hw10 : w7.alloc (.cells #[.slice none 0 0] 48) = w10 at *
        generalize hp9 : w7.heap.size = p9 at *
        have NE : Hid (p9 ≠ p8) := hI (by omega)
        clear hlt10
        go_wp2_with fail
        clear hw10 hp9 hal10
        replace A80 : Hid (p8 < w10.heap.size) := hI A8.out.lt
        refine anyC_one 7 H10.out (by kernel_rfl) rfl ?_
        · have f11 : Fnd w10 B b F S K T A c l s := HF.out.keep fun q hq => H10.out.block q hq
          have HL11 := hI (left_tgt f11)
          clear f11
          go_wp2_with (go_at_call 45; refine HL11.out.mono ?_; rintro e w11 ⟨v, rfl, ho, hb⟩; obtain ⟨D7, d7, hvv, _⟩ := own_all ho; subst hvv; have O7 := hI (own_less ho H10.out.size); have h11 := hI hb; clear ho hb)
          have H11 := hI (H10.out.trans (h11.out.mono H10.out.size))
          replace O3 := hI (own_below O3.out h11.out)
          replace A8 := hI (A8.out.below h11.out A8.out.lt)
          replace A9 := hI (A9.out.below h11.out A9.out.lt)
          replace A80 : Hid (p8 < w11.heap.size) := hI A8.out.lt
          replace A90 : Hid (p9 < w11.heap.size) := hI A9.out.lt
          refine anyC_one 10 H11.out (by kernel_rfl) rfl ?_
          have k8 := A8.out.cell (k := 0) rfl
          have j8 := A8.out.frozen 0
          go_wp2_with fail
          have a8 := hI (A8.out.set 0 (.slice D3 (pls (isSource l s) l.length).length d3))
          have a9 := hI (A9.out.other ⟨p8, 0, none⟩ (.slice D3 (pls (isSource l s) l.length).length d3) (show p9 ≠ p8 from NE.out))
          have O3a := hI (own_chs O3.out (Chs.of_grown (grown_set (grown_refl w11 (some p8)) 0 (.slice D3 (pls (isSource l s) l.length).length d3))) (fun q e h => by subst h; exact own_ne O3.out (fun cs f h2 => by have := A8.out.symm.trans h2; injection this with this; injection this with _ e; revert e; decide) e.symm))
          have O7a := hI (own_chs O7.out (Chs.of_grown (grown_set (grown_refl w11 (some p8)) 0 (.slice D3 (pls (isSource l s) l.length).length d3))) (fun q e h => by subst h; exact own_ne O7.out (fun cs f h2 => by have := A8.out.symm.trans h2; injection this with this; injection this with _ e; revert e; decide) e.symm))
          have Hz := hI (H11.out.setCell (p := ⟨p8, 0, none⟩) L8.out (.slice D3 (pls (isSource l s) l.length).length d3))
          generalize hwz : w11.setCell ⟨p8, 0, none⟩ (.slice D3 (pls (isSource l s) l.length).length d3) = wz at *
          refine anyC_one 11 Hz.out (by kernel_rfl) rfl ?_
          have k9 := a9.out.cell (k := 0) rfl
          have j9 := a9.out.frozen 0
          go_wp2_with fail
          have Hy := hI (Hz.out.setCell (p := ⟨p9, 0, none⟩) L9.out (.slice D7 (pls (isTarget l s) l.length).length d7))
          have b9 := hI (a9.out.set 0 (.slice D7 (pls (isTarget l s) l.length).length d7))
          have b8 := hI (a8.out.other ⟨p9, 0, none⟩ (.slice D7 (pls (isTarget l s) l.length).length d7) (show p8 ≠ p9 from fun q => NE.out q.symm))
          have O3b := hI (own_chs O3a.out (Chs.of_grown (grown_set (grown_refl wz (some p9)) 0 (.slice D7 (pls (isTarget l s) l.length).length d7))) (fun q e h => by subst h; exact own_ne O3a.out (fun cs f h2 => by have := a9.out.symm.trans h2; injection this with this; injection this with _ e; revert e; decide) e.symm))
          have O7b := hI (own_chs O7a.out (Chs.of_grown (grown_set (grown_refl wz (some p9)) 0 (.slice D7 (pls (isTarget l s) l.length).length d7))) (fun q e h => by subst h; exact own_ne O7a.out (fun cs f h2 => by have := a9.out.symm.trans h2; injection this with this; injection this with _ e; revert e; decide) e.symm))
          refine anyC_done Hy.out (by kernel_rfl) ?_ _
          exact hexit.out _ _ _ _ _ _ _ _ _ _ _ _ _ _ _ b8 b9 O3b O7b Hy
    · have h12 := hI ((Below.refl w1.heap.size w1).alloc (Nat.le_refl _) (.cells #[.slice none 0 0] 48))
      have H12 := hI (H1.out.trans (h12.out.mono H1.out.size))
      have A9 := hI (Ar.new w1 [.slice none 0 0] 48)
      have L9 := hI H1.out.size
      replace O3 := hI (own_below O3.out h12.out)
      have A90 : Hid (w1.heap.size < (w1.alloc (.cells #[.slice none 0 0] 48)).heap.size) := hI A9.out.lt
      have hal12 := run_al48 w1
      generalize hw12 : w1.alloc (.cells #[.slice none 0 0] 48) = w12 at *
      generalize hp9 : w1.heap.size = p9 at *
      go_wp2_with fail
      clear hw12 hp9 hal12
      refine anyC_two 7 8 H12.out (by kernel_rfl) rfl rfl ?_ ?_
      · have f13 : Fnd w12 B b F S K T A c l s := HF.out.keep fun q hq => H12.out.block q hq
        have HL13 := hI (left_tgt f13)
        clear f13
        go_wp2_with (go_at_call 45; refine HL13.out.mono ?_; rintro e w13 ⟨v, rfl, ho, hb⟩; obtain ⟨D7, d7, hvv, _⟩ := own_all ho; subst hvv; have O7 := hI (own_less ho H12.out.size); have h13 := hI hb; clear ho hb)
        have H13 := hI (H12.out.trans (h13.out.mono H12.out.size))
        replace O3 := hI (own_below O3.out h13.out)
        replace A9 := hI (A9.out.below h13.out A9.out.lt)
        replace A90 : Hid (p9 < w13.heap.size) := hI A9.out.lt
        refine anyC_one 8 H13.out (by kernel_rfl) rfl ?_
        · have h14 := hI ((Below.refl w13.heap.size w13).alloc (Nat.le_refl _) (.cells #[.slice none 0 0] 48))
          have H14 := hI (H13.out.trans (h14.out.mono H13.out.size))
          have A8 := hI (Ar.new w13 [.slice none 0 0] 48)
          have L8 := hI H13.out.size
          replace O3 := hI (own_below O3.out h14.out)
          replace A9 := hI (A9.out.below h14.out A9.out.lt)
          replace O7 := hI (own_below O7.out h14.out)
          have hlt14 := (show p9 < w13.heap.size from A90.out)
          have A80 : Hid (w13.heap.size < (w13.alloc (.cells #[.slice none 0 0] 48)).heap.size) := hI A8.out.lt
          have hal14 := run_al48 w13
          generalize hw14 : w13.alloc (.cells #[.slice none 0 0] 48) = w14 at *
          generalize hp8 : w13.heap.size = p8 at *
          have NE : Hid (p9 ≠ p8) := hI (by omega)
          clear hlt14
          go_wp2_with fail
          clear hw14 hp8 hal14
          replace A90 : Hid (p9 < w14.heap.size) := hI A9.out.lt
          refine anyC_one 10 H14.out (by kernel_rfl) rfl ?_
          have k8 := A8.out.cell (k := 0) rfl
          have j8 := A8.out.frozen 0
          go_wp2_with fail
          have a8 := hI (A8.out.set 0 (.slice D3 (pls (isSource l s) l.length).length d3))
          have a9 := hI (A9.out.other ⟨p8, 0, none⟩ (.slice D3 (pls (isSource l s) l.length).length d3) (show p9 ≠ p8 from NE.out))
          have O3a := hI (own_chs O3.out (Chs.of_grown (grown_set (grown_refl w14 (some p8)) 0 (.slice D3 (pls (isSource l s) l.length).length d3))) (fun q e h => by subst h; exact own_ne O3.out (fun cs f h2 => by have := A8.out.symm.trans h2; injection this with this; injection this with _ e; revert e; decide) e.symm))
          have O7a := hI (own_chs O7.out (Chs.of_grown (grown_set (grown_refl w14 (some p8)) 0 (.slice D3 (pls (isSource l s) l.length).length d3))) (fun q e h => by subst h; exact own_ne O7.out (fun cs f h2 => by have := A8.out.symm.trans h2; injection this with this; injection this with _ e; revert e; decide) e.symm))
          have Hz := hI (H14.out.setCell (p := ⟨p8, 0, none⟩) L8.out (.slice D3 (pls (isSource l s) l.length).length d3))
          generalize hwz : w14.setCell ⟨p8, 0, none⟩ (.slice D3 (pls (isSource l s) l.length).length d3) = wz at *
          refine anyC_one 11 Hz.out (by kernel_rfl) rfl ?_
          have k9 := a9.out.cell (k := 0) rfl
          have j9 := a9.out.frozen 0
          go_wp2_with fail
          have Hy := hI (Hz.out.setCell (p := ⟨p9, 0, none⟩) L9.out (.slice D7 (pls (isTarget l s) l.length).length d7))
          have b9 := hI (a9.out.set 0 (.slice D7 (pls (isTarget l s) l.length).length d7))
          have b8 := hI (a8.out.other ⟨p9, 0, none⟩ (.slice D7 (pls (isTarget l s) l.length).length d7) (show p8 ≠ p9 from fun q => NE.out q.symm))
          have O3b := hI (own_chs O3a.out (Chs.of_grown (grown_set (grown_refl wz (some p9)) 0 (.slice D7 (pls (isTarget l s) l.length).length d7))) (fun q e h => by subst h; exact own_ne O3a.out (fun cs f h2 => by have := a9.out.symm.trans h2; injection this with this; injection this with _ e; revert e; decide) e.symm))
          have O7b := hI (own_chs O7a.out (Chs.of_grown (grown_set (grown_refl wz (some p9)) 0 (.slice D7 (pls (isTarget l s) l.length).length d7))) (fun q e h => by subst h; exact own_ne O7a.out (fun cs f h2 => by have := a9.out.symm.trans h2; injection this with this; injection this with _ e; revert e; decide) e.symm))
          refine anyC_done Hy.out (by kernel_rfl) ?_ _
          exact hexit.out _ _ _ _ _ _ _ _ _ _ _ _ _ _ _ b8 b9 O3b O7b Hy
      · have h15 := hI ((Below.refl w12.heap.size w12).alloc (Nat.le_refl _) (.cells #[.slice none 0 0] 48))
        have H15 := hI (H12.out.trans (h15.out.mono H12.out.size))
        have A8 := hI (Ar.new w12 [.slice none 0 0] 48)
        have L8 := hI H12.out.size
        replace O3 := hI (own_below O3.out h15.out)
        replace A9 := hI (A9.out.below h15.out A9.out.lt)
        have hlt15 := (show p9 < w12.heap.size from A90.out)
        have A80 : Hid (w12.heap.size < (w12.alloc (.cells #[.slice none 0 0] 48)).heap.size) := hI A8.out.lt
        have hal15 := run_al48 w12
        generalize hw15 : w12.alloc (.cells #[.slice none 0 0] 48) = w15 at *
        generalize hp8 : w12.heap.size = p8 at *
        have NE : Hid (p9 ≠ p8) := hI (by omega)
        clear hlt15
        go_wp2_with fail
        clear hw15 hp8 hal15
        replace A90 : Hid (p9 < w15.heap.size) := hI A9.out.lt
        refine anyC_one 7 H15.out (by kernel_rfl) rfl ?_
        · have f16 : Fnd w15 B b F S K T A c l s := HF.out.keep fun q hq => H15.out.block q hq
          have HL16 := hI (left_tgt f16)
          clear f16
          go_wp2_with (go_at_call 45; refine HL16.out.mono ?_; rintro e w16 ⟨v, rfl, ho, hb⟩; obtain ⟨D7, d7, hvv, _⟩ := own_all ho; subst hvv; have O7 := hI (own_less ho H15.out.size); have h16 := hI hb; clear ho hb)
          have H16 := hI (H15.out.trans (h16.out.mono H15.out.size))
          replace O3 := hI (own_below O3.out h16.out)
          replace A9 := hI (A9.out.below h16.out A9.out.lt)
          replace A8 := hI (A8.out.below h16.out A8.out.lt)
          replace A80 : Hid (p8 < w16.heap.size) := hI A8.out.lt
          replace A90 : Hid (p9 < w16.heap.size) := hI A9.out.lt
          refine anyC_one 10 H16.out (by kernel_rfl) rfl ?_
          have k8 := A8.out.cell (k := 0) rfl
          have j8 := A8.out.frozen 0
          go_wp2_with fail
          have a8 := hI (A8.out.set 0 (.slice D3 (pls (isSource l s) l.length).length d3))
          have a9 := hI (A9.out.other ⟨p8, 0, none⟩ (.slice D3 (pls (isSource l s) l.length).length d3) (show p9 ≠ p8 from NE.out))
          have O3a := hI (own_chs O3.out (Chs.of_grown (grown_set (grown_refl w16 (some p8)) 0 (.slice D3 (pls (isSource l s) l.length).length d3))) (fun q e h => by subst h; exact own_ne O3.out (fun cs f h2 => by have := A8.out.symm.trans h2; injection this with this; injection this with _ e; revert e; decide) e.symm))
          have O7a := hI (own_chs O7.out (Chs.of_grown (grown_set (grown_refl w16 (some p8)) 0 (.slice D3 (pls (isSource l s) l.length).length d3))) (fun q e h => by subst h; exact own_ne O7.out (fun cs f h2 => by have := A8.out.symm.trans h2; injection this with this; injection this with _ e; revert e; decide) e.symm))
          have Hz := hI (H16.out.setCell (p := ⟨p8, 0, none⟩) L8.out (.slice D3 (pls (isSource l s) l.length).length d3))
          generalize hwz : w16.setCell ⟨p8, 0, none⟩ (.slice D3 (pls (isSource l s) l.length).length d3) = wz at *
          refine anyC_one 11 Hz.out (by kernel_rfl) rfl ?_
          have k9 := a9.out.cell (k := 0) rfl
          have j9 := a9.out.frozen 0
          go_wp2_with fail
          have Hy := hI (Hz.out.setCell (p := ⟨p9, 0, none⟩) L9.out (.slice D7 (pls (isTarget l s) l.length).length d7))
          have b9 := hI (a9.out.set 0 (.slice D7 (pls (isTarget l s) l.length).length d7))
          have b8 := hI (a8.out.other ⟨p9, 0, none⟩ (.slice D7 (pls (isTarget l s) l.length).length d7) (show p8 ≠ p9 from fun q => NE.out q.symm))
          have O3b := hI (own_chs O3a.out (Chs.of_grown (grown_set (grown_refl wz (some p9)) 0 (.slice D7 (pls (isTarget l s) l.length).length d7))) (fun q e h => by subst h; exact own_ne O3a.out (fun cs f h2 => by have := a9.out.symm.trans h2; injection this with this; injection this with _ e; revert e; decide) e.symm))
          have O7b := hI (own_chs O7a.out (Chs.of_grown (grown_set (grown_refl wz (some p9)) 0 (.slice D7 (pls (isTarget l s) l.length).length d7))) (fun q e h => by subst h; exact own_ne O7a.out (fun cs f h2 => by have := a9.out.symm.trans h2; injection this with this; injection this with _ e; revert e; decide) e.symm))
          refine anyC_done Hy.out (by kernel_rfl) ?_ _
          exact hexit.out _ _ _ _ _ _ _ _ _ _ _ _ _ _ _ b8 b9 O3b O7b Hy
  · have h17 := hI ((Below.refl w0.heap.size w0).alloc (Nat.le_refl _) (.cells #[.slice none 0 0] 48))
    have H17 := hI (H0.out.trans (h17.out.mono H0.out.size))
    have A8 := hI (Ar.new w0 [.slice none 0 0] 48)
    have L8 := hI H0.out.size
    have A80 : Hid (w0.heap.size < (w0.alloc (.cells #[.slice none 0 0] 48)).heap.size) := hI A8.out.lt
    have hal17 := run_al48 w0
    generalize hw17 : w0.alloc (.cells #[.slice none 0 0] 48) = w17 at *
    generalize hp8 : w0.heap.size = p8 at *
    go_wp2_with fail
    clear hw17 hp8 hal17
    refine anyC_two 3 9 H17.out (by kernel_rfl) rfl rfl ?_ ?_
    · have f18 : Fnd w17 B b F S K T A c l s := HF.out.keep fun q hq => H17.out.block q hq
      have HL18 := hI (left_src f18)
      clear f18
      go_wp2_with (go_at_call 45; refine HL18.out.mono ?_; rintro e w18 ⟨v, rfl, ho, hb⟩; obtain ⟨D3, d3, hvv, _⟩ := own_all ho; subst hvv; have O3 := hI (own_less ho H17.out.size); have h18 := hI hb; clear ho hb)
      have H18 := hI (H17.out.trans (h18.out.mono H17.out.size))
      replace A8 := hI (A8.out.below h18.out A8.out.lt)
      replace A80 : Hid (p8 < w18.heap.size) := hI A8.out.lt
      refine anyC_two 7 9 H18.out (by kernel_rfl) rfl rfl ?_ ?_
      · have f19 : Fnd w18 B b F S K T A c l s := HF.out.keep fun q hq => H18.out.block q hq
        have HL19 := hI (left_tgt f19)
        clear f19
        go_wp2_with (go_at_call 45; refine HL19.out.mono ?_; rintro e w19 ⟨v, rfl, ho, hb⟩; obtain ⟨D7, d7, hvv, _⟩ := own_all ho; subst hvv; have O7 := hI (own_less ho H18.out.size); have h19 := hI hb; clear ho hb)
        have H19 := hI (H18.out.trans (h19.out.mono H18.out.size))
        replace A8 := hI (A8.out.below h19.out A8.out.lt)
        replace O3 := hI (own_below O3.out h19.out)
        replace A80 : Hid (p8 < w19.heap.size) := hI A8.out.lt
        refine anyC_one 9 H19.out (by kernel_rfl) rfl ?_
        · have h20 := hI ((Below.refl w19.heap.size w19).alloc (Nat.le_refl _) (.cells #[.slice none 0 0] 48))
          have H20 := hI (H19.out.trans (h20.out.mono H19.out.size))
          have A9 := hI (Ar.new w19 [.slice none 0 0] 48)
          have L9 := hI H19.out.size
          replace A8 := hI (A8.out.below h20.out A8.out.lt)
          replace O3 := hI (own_below O3.out h20.out)
          replace O7 := hI (own_below O7.out h20.out)
          have hlt20 := (show p8 < w19.heap.size from A80.out)
          have A90 : Hid (w19.heap.size < (w19.alloc (.cells #[.slice none 0 0] 48)).heap.size) := hI A9.out.lt
          have hal20 := run_al48 w19
          generalize hw20 : w19.alloc (.cells #[.slice none 0 0] 48) = w20 at *
          generalize hp9 : w19.heap.size = p9 at *
          have NE : Hid (p9 ≠ p8) := hI (by omega)
          clear hlt20
          go_wp2_with fail
          clear hw20 hp9 hal20
          replace A80 : Hid (p8 < w20.heap.size) := hI A8.out.lt
          refine anyC_one 10 H20.out (by kernel_rfl) rfl ?_
          have k8 := A8.out.cell (k := 0) rfl
          have j8 := A8.out.frozen 0
          go_wp2_with fail
          have a8 := hI (A8.out.set 0 (.slice D3 (pls (isSource l s) l.length).length d3))
          have a9 := hI (A9.out.other ⟨p8, 0, none⟩ (.slice D3 (pls (isSource l s) l.length).length d3) (show p9 ≠ p8 from NE.out))
          have O3a := hI (own_chs O3.out (Chs.of_grown (grown_set (grown_refl w20 (some p8)) 0 (.slice D3 (pls (isSource l s) l.length).length d3))) (fun q e h => by subst h; exact own_ne O3.out (fun cs f h2 => by have := A8.out.symm.trans h2; injection this with this; injection this with _ e; revert e; decide) e.symm))
          have O7a := hI (own_chs O7.out (Chs.of_grown (grown_set (grown_refl w20 (some p8)) 0 (.slice D3 (pls (isSource l s) l.length).length d3))) (fun q e h => by subst h; exact own_ne O7.out (fun cs f h2 => by have := A8.out.symm.trans h2; injection this with this; injection this with _ e; revert e; decide) e.symm))
          have Hz := hI (H20.out.setCell (p := ⟨p8, 0, none⟩) L8.out (.slice D3 (pls (isSource l s) l.length).length d3))
          generalize hwz : w20.setCell ⟨p8, 0, none⟩ (.slice D3 (pls (isSource l s) l.length).length d3) = wz at *
          refine anyC_one 11 Hz.out (by kernel_rfl) rfl ?_
          have k9 := a9.out.cell (k := 0) rfl
          have j9 := a9.out.frozen 0
          go_wp2_with fail
          have Hy := hI (Hz.out.setCell (p := ⟨p9, 0, none⟩) L9.out (.slice D7 (pls (isTarget l s) l.length).length d7))
          have b9 := hI (a9.out.set 0 (.slice D7 (pls (isTarget l s) l.length).length d7))
          have b8 := hI (a8.out.other ⟨p9, 0, none⟩ (.slice D7 (pls (isTarget l s) l.length).length d7) (show p8 ≠ p9 from fun q => NE.out q.symm))
          have O3b := hI (own_chs O3a.out (Chs.of_grown (grown_set (grown_refl wz (some p9)) 0 (.slice D7 (pls (isTarget l s) l.length).length d7))) (fun q e h => by subst h; exact own_ne O3a.out (fun cs f h2 => by have := a9.out.symm.trans h2; injection this with this; injection this with _ e; revert e; decide) e.symm))
          have O7b := hI (own_chs O7a.out (Chs.of_grown (grown_set (grown_refl wz (some p9)) 0 (.slice D7 (pls (isTarget l s) l.length).length d7))) (fun q e h => by subst h; exact own_ne O7a.out (fun cs f h2 => by have := a9.out.symm.trans h2; injection this with this; injection this with _ e; revert e; decide) e.symm))
          refine anyC_done Hy.out (by kernel_rfl) ?_ _
          exact hexit.out _ _ _ _ _ _ _ _ _ _ _ _ _ _ _ b8 b9 O3b O7b Hy
      · have h21 := hI ((Below.refl w18.heap.size w18).alloc (Nat.le_refl _) (.cells #[.slice none 0 0] 48))
        have H21 := hI (H18.out.trans (h21.out.mono H18.out.size))
        have A9 := hI (Ar.new w18 [.slice none 0 0] 48)
        have L9 := hI H18.out.size
        replace A8 := hI (A8.out.below h21.out A8.out.lt)
        replace O3 := hI (own_below O3.out h21.out)
        have hlt21 := (show p8 < w18.heap.size from A80.out)
        have A90 : Hid (w18.heap.size < (w18.alloc (.cells #[.slice none 0 0] 48)).heap.size) := hI A9.out.lt
        have hal21 := run_al48 w18
        generalize hw21 : w18.alloc (.cells #[.slice none 0 0] 48) = w21 at *
        generalize hp9 : w18.heap.size = p9 at *
        have NE : Hid (p9 ≠ p8) := hI (by omega)
        clear hlt21
        go_wp2_with fail
        clear hw21 hp9 hal21
        replace A80 : Hid (p8 < w21.heap.size) := hI A8.out.lt
        refine anyC_one 7 H21.out (by kernel_rfl) rfl ?_
        · have f22 : Fnd w21 B b F S K T A c l s := HF.out.keep fun q hq => H21.out.block q hq
          have HL22 := hI (left_tgt f22)
          clear f22
          go_wp2_with (go_at_call 45; refine HL22.out.mono ?_; rintro e w22 ⟨v, rfl, ho, hb⟩; obtain ⟨D7, d7, hvv, _⟩ := own_all ho; subst hvv; have O7 := hI (own_less ho H21.out.size); have h22 := hI hb; clear ho hb)
          have H22 := hI (H21.out.trans (h22.out.mono H21.out.size))
          replace A8 := hI (A8.out.below h22.out A8.out.lt)
          replace O3 := hI (own_below O3.out h22.out)
          replace A9 := hI (A9.out.below h22.out A9.out.lt)
          replace A80 : Hid (p8 < w22.heap.size) := hI A8.out.lt
          replace A90 : Hid (p9 < w22.heap.size) := hI A9.out.lt
          refine anyC_one 10 H22.out (by kernel_rfl) rfl ?_
          have k8 := A8.out.cell (k := 0) rfl
          have j8 := A8.out.frozen 0
          go_wp2_with fail
          have a8 := hI (A8.out.set 0 (.slice D3 (pls (isSource l s) l.length).length d3))
          have a9 := hI (A9.out.other ⟨p8, 0, none⟩ (.slice D3 (pls (isSource l s) l.length).length d3) (show p9 ≠ p8 from NE.out))
          have O3a := hI (own_chs O3.out (Chs.of_grown (grown_set (grown_refl w22 (some p8)) 0 (.slice D3 (pls (isSource l s) l.length).length d3))) (fun q e h => by subst h; exact own_ne O3.out (fun cs f h2 => by have := A8.out.symm.trans h2; injection this with this; injection this with _ e; revert e; decide) e.symm))
          have O7a := hI (own_chs O7.out (Chs.of_grown (grown_set (grown_refl w22 (some p8)) 0 (.slice D3 (pls (isSource l s) l.length).length d3))) (fun q e h => by subst h; exact own_ne O7.out (fun cs f h2 => by have := A8.out.symm.trans h2; injection this with this; injection this with _ e; revert e; decide) e.symm))
          have Hz := hI (H22.out.setCell (p := ⟨p8, 0, none⟩) L8.out (.slice D3 (pls (isSource l s) l.length).length d3))
          generalize hwz : w22.setCell ⟨p8, 0, none⟩ (.slice D3 (pls (isSource l s) l.length).length d3) = wz at *
          refine anyC_one 11 Hz.out (by kernel_rfl) rfl ?_
          have k9 := a9.out.cell (k := 0) rfl
          have j9 := a9.out.frozen 0
          go_wp2_with fail
          have Hy := hI (Hz.out.setCell (p := ⟨p9, 0, none⟩) L9.out (.slice D7 (pls (isTarget l s) l.length).length d7))
          have b9 := hI (a9.out.set 0 (.slice D7 (pls (isTarget l s) l.length).length d7))
          have b8 := hI (a8.out.other ⟨p9, 0, none⟩ (.slice D7 (pls (isTarget l s) l.length).length d7) (show p8 ≠ p9 from fun q => NE.out q.symm))
          have O3b := hI (own_chs O3a.out (Chs.of_grown (grown_set (grown_refl wz (some p9)) 0 (.slice D7 (pls (isTarget l s) l.length).length d7))) (fun q e h => by subst h; exact own_ne O3a.out (fun cs f h2 => by have := a9.out.symm.trans h2; injection this with this; injection this with _ e; revert e; decide) e.symm))
          have O7b := hI (own_chs O7a.out (Chs.of_grown (grown_set (grown_refl wz (some p9)) 0 (.slice D7 (pls (isTarget l s) l.length).length d7))) (fun q e h => by subst h; exact own_ne O7a.out (fun cs f h2 => by have := a9.out.symm.trans h2; injection this with this; injection this with _ e; revert e; decide) e.symm))
          refine anyC_done Hy.out (by kernel_rfl) ?_ _
          exact hexit.out _ _ _ _ _ _ _ _ _ _ _ _ _ _ _ b8 b9 O3b O7b Hy
    · have h23 := hI ((Below.refl w17.heap.size w17).alloc (Nat.le_refl _) (.cells #[.slice none 0 0] 48))
      have H23 := hI (H17.out.trans (h23.out.mono H17.out.size))
      have A9 := hI (Ar.new w17 [.slice none 0 0] 48)
      have L9 := hI H17.out.size
      replace A8 := hI (A8.out.below h23.out A8.out.lt)
      have hlt23 := (show p8 < w17.heap.size from A80.out)
      have A90 : Hid (w17.heap.size < (w17.alloc (.cells #[.slice none 0 0] 48)).heap.size) := hI A9.out.lt
      have hal23 := run_al48 w17
      generalize hw23 : w17.alloc (.cells #[.slice none 0 0] 48) = w23 at *
      generalize hp9 : w17.heap.size = p9 at *
      have NE : Hid (p9 ≠ p8) := hI (by omega)
      clear hlt23
      go_wp2_with fail
      clear hw23 hp9 hal23
      replace A80 : Hid (p8 < w23.heap.size) := hI A8.out.lt
      refine anyC_one 3 H23.out (by kernel_rfl) rfl ?_
      · have f24 : Fnd w23 B b F S K T A c l s := HF.out.keep fun q hq => H23.out.block q hq
        have HL24 := hI (left_src f24)
        clear f24
        go_wp2_with (go_at_call 45; refine HL24.out.mono ?_; rintro e w24 ⟨v, rfl, ho, hb⟩; obtain ⟨D3, d3, hvv, _⟩ := own_all ho; subst hvv; have O3 := hI (own_less ho H23.out.size); have h24 := hI hb; clear ho hb)
        have H24 := hI (H23.out.trans (h24.out.mono H23.out.size))
        replace A8 := hI (A8.out.below h24.out A8.out.lt)
        replace A9 := hI (A9.out.below h24.out A9.out.lt)
        replace A80 : Hid (p8 < w24.heap.size) := hI A8.out.lt
        replace A90 : Hid (p9 < w24.heap.size) := hI A9.out.lt
        refine anyC_one 7 H24.out (by kernel_rfl) rfl ?_
        · have f25 : Fnd w24 B b F S K T A c l s := HF.out.keep fun q hq => H24.out.block q hq
          have HL25 := hI (left_tgt f25)
          clear f25
          go_wp2_with (go_at_call 45; refine HL25.out.mono ?_; rintro e w25 ⟨v, rfl, ho, hb⟩; obtain ⟨D7, d7, hvv, _⟩ := own_all ho; subst hvv; have O7 := hI (own_less ho H24.out.size); have h25 := hI hb; clear ho hb)
          have H25 := hI (H24.out.trans (h25.out.mono H24.out.size))
          replace A8 := hI (A8.out.below h25.out A8.out.lt)
          replace A9 := hI (A9.out.below h25.out A9.out.lt)
          replace O3 := hI (own_below O3.out h25.out)
          replace A80 : Hid (p8 < w25.heap.size) := hI A8.out.lt
          replace A90 : Hid (p9 < w25.heap.size) := hI A9.out.lt
          refine anyC_one 10 H25.out (by kernel_rfl) rfl ?_
          have k8 := A8.out.cell (k := 0) rfl
          have j8 := A8.out.frozen 0
          go_wp2_with fail
          have a8 := hI (A8.out.set 0 (.slice D3 (pls (isSource l s) l.length).length d3))
          have a9 := hI (A9.out.other ⟨p8, 0, none⟩ (.slice D3 (pls (isSource l s) l.length).length d3) (show p9 ≠ p8 from NE.out))
          have O3a := hI (own_chs O3.out (Chs.of_grown (grown_set (grown_refl w25 (some p8)) 0 (.slice D3 (pls (isSource l s) l.length).length d3))) (fun q e h => by subst h; exact own_ne O3.out (fun cs f h2 => by have := A8.out.symm.trans h2; injection this with this; injection this with _ e; revert e; decide) e.symm))
          have O7a := hI (own_chs O7.out (Chs.of_grown (grown_set (grown_refl w25 (some p8)) 0 (.slice D3 (pls (isSource l s) l.length).length d3))) (fun q e h => by subst h; exact own_ne O7.out (fun cs f h2 => by have := A8.out.symm.trans h2; injection this with this; injection this with _ e; revert e; decide) e.symm))
          have Hz := hI (H25.out.setCell (p := ⟨p8, 0, none⟩) L8.out (.slice D3 (pls (isSource l s) l.length).length d3))
          generalize hwz : w25.setCell ⟨p8, 0, none⟩ (.slice D3 (pls (isSource l s) l.length).length d3) = wz at *
          refine anyC_one 11 Hz.out (by kernel_rfl) rfl ?_
          have k9 := a9.out.cell (k := 0) rfl
          have j9 := a9.out.frozen 0
          go_wp2_with fail
          have Hy := hI (Hz.out.setCell (p := ⟨p9, 0, none⟩) L9.out (.slice D7 (pls (isTarget l s) l.length).length d7))
          have b9 := hI (a9.out.set 0 (.slice D7 (pls (isTarget l s) l.length).length d7))
          have b8 := hI (a8.out.other ⟨p9, 0, none⟩ (.slice D7 (pls (isTarget l s) l.length).length d7) (show p8 ≠ p9 from fun q => NE.out q.symm))
          have O3b := hI (own_chs O3a.out (Chs.of_grown (grown_set (grown_refl wz (some p9)) 0 (.slice D7 (pls (isTarget l s) l.length).length d7))) (fun q e h => by subst h; exact own_ne O3a.out (fun cs f h2 => by have := a9.out.symm.trans h2; injection this with this; injection this with _ e; revert e; decide) e.symm))
          have O7b := hI (own_chs O7a.out (Chs.of_grown (grown_set (grown_refl wz (some p9)) 0 (.slice D7 (pls (isTarget l s) l.length).length d7))) (fun q e h => by subst h; exact own_ne O7a.out (fun cs f h2 => by have := a9.out.symm.trans h2; injection this with this; injection this with _ e; revert e; decide) e.symm))
          refine anyC_done Hy.out (by kernel_rfl) ?_ _
          exact hexit.out _ _ _ _ _ _ _ _ _ _ _ _ _ _ _ b8 b9 O3b O7b Hy
  · have h26 := hI ((Below.refl w0.heap.size w0).alloc (Nat.le_refl _) (.cells #[.slice none 0 0] 48))
    have H26 := hI (H0.out.trans (h26.out.mono H0.out.size))
    have A9 := hI (Ar.new w0 [.slice none 0 0] 48)
    have L9 := hI H0.out.size
    have A90 : Hid (w0.heap.size < (w0.alloc (.cells #[.slice none 0 0] 48)).heap.size) := hI A9.out.lt
    have hal26 := run_al48 w0
    generalize hw26 : w0.alloc (.cells #[.slice none 0 0] 48) = w26 at *
    generalize hp9 : w0.heap.size = p9 at *
    go_wp2_with fail
    clear hw26 hp9 hal26
    refine anyC_two 3 8 H26.out (by kernel_rfl) rfl rfl ?_ ?_
    · have f27 : Fnd w26 B b F S K T A c l s := HF.out.keep fun q hq => H26.out.block q hq
      have HL27 := hI (left_src f27)
      clear f27
      go_wp2_with (go_at_call 45; refine HL27.out.mono ?_; rintro e w27 ⟨v, rfl, ho, hb⟩; obtain ⟨D3, d3, hvv, _⟩ := own_all ho; subst hvv; have O3 := hI (own_less ho H26.out.size); have h27 := hI hb; clear ho hb)
      have H27 := hI (H26.out.trans (h27.out.mono H26.out.size))
      replace A9 := hI (A9.out.below h27.out A9.out.lt)
      replace A90 : Hid (p9 < w27.heap.size) := hI A9.out.lt
      refine anyC_two 7 8 H27.out (by kernel_rfl) rfl rfl ?_ ?_
      · have f28 : Fnd w27 B b F S K T A c l s := HF.out.keep fun q hq => H27.out.block q hq
        have HL28 := hI (left_tgt f28)
        clear f28
        go_wp2_with (go_at_call 45; refine HL28.out.mono ?_; rintro e w28 ⟨v, rfl, ho, hb⟩; obtain ⟨D7, d7, hvv, _⟩ := own_all ho; subst hvv; have O7 := hI (own_less ho H27.out.size); have h28 := hI hb; clear ho hb)
        have H28 := hI (H27.out.trans (h28.out.mono H27.out.size))
        replace A9 := hI (A9.out.below h28.out A9.out.lt)
        replace O3 := hI (own_below O3.out h28.out)
        replace A90 : Hid (p9 < w28.heap.size) := hI A9.out.lt
        refine anyC_one 8 H28.out (by kernel_rfl) rfl ?_
        · have h29 := hI ((Below.refl w28.heap.size w28).alloc (Nat.le_refl _) (.cells #[.slice none 0 0] 48))
          have H29 := hI (H28.out.trans (h29.out.mono H28.out.size))
          have A8 := hI (Ar.new w28 [.slice none 0 0] 48)
          have L8 := hI H28.out.size
          replace A9 := hI (A9.out.below h29.out A9.out.lt)
          replace O3 := hI (own_below O3.out h29.out)
          replace O7 := hI (own_below O7.out h29.out)
          have hlt29 := (show p9 < w28.heap.size from A90.out)
          have A80 : Hid (w28.heap.size < (w28.alloc (.cells #[.slice none 0 0] 48)).heap.size) := hI A8.out.lt
          have hal29 := run_al48 w28
          generalize hw29 : w28.alloc (.cells #[.slice none 0 0] 48) = w29 at *
          generalize hp8 : w28.heap.size = p8 at *
          have NE : Hid (p9 ≠ p8) := hI (by omega)
          clear hlt29
          go_wp2_with fail
          clear hw29 hp8 hal29
          replace A90 : Hid (p9 < w29.heap.size) := hI A9.out.lt
          refine anyC_one 10 H29.out (by kernel_rfl) rfl ?_
          have k8 := A8.out.cell (k := 0) rfl
          have j8 := A8.out.frozen 0
          go_wp2_with fail
          have a8 := hI (A8.out.set 0 (.slice D3 (pls (isSource l s) l.length).length d3))
          have a9 := hI (A9.out.other ⟨p8, 0, none⟩ (.slice D3 (pls (isSource l s) l.length).length d3) (show p9 ≠ p8 from NE.out))
          have O3a := hI (own_chs O3.out (Chs.of_grown (grown_set (grown_refl w29 (some p8)) 0 (.slice D3 (pls (isSource l s) l.length).length d3))) (fun q e h => by subst h; exact own_ne O3.out (fun cs f h2 => by have := A8.out.symm.trans h2; injection this with this; injection this with _ e; revert e; decide) e.symm))
          have O7a := hI (own_chs O7.out (Chs.of_grown (grown_set (grown_refl w29 (some p8)) 0 (.slice D3 (pls (isSource l s) l.length).length d3))) (fun q e h => by subst h; exact own_ne O7.out (fun cs f h2 => by have := A8.out.symm.trans h2; injection this with this; injection this with _ e; revert e; decide) e.symm))
          have Hz := hI (H29.out.setCell (p := ⟨p8, 0, none⟩) L8.out (.slice D3 (pls (isSource l s) l.length).length d3))
          generalize hwz : w29.setCell ⟨p8, 0, none⟩ (.slice D3 (pls (isSource l s) l.length).length d3) = wz at *
          refine anyC_one 11 Hz.out (by kernel_rfl) rfl ?_
          have k9 := a9.out.cell (k := 0) rfl
          have j9 := a9.out.frozen 0
          go_wp2_with fail
          have Hy := hI (Hz.out.setCell (p := ⟨p9, 0, none⟩) L9.out (.slice D7 (pls (isTarget l s) l.length).length d7))
          have b9 := hI (a9.out.set 0 (.slice D7 (pls (isTarget l s) l.length).length d7))
          have b8 := hI (a8.out.other ⟨p9, 0, none⟩ (.slice D7 (pls (isTarget l s) l.length).length d7) (show p8 ≠ p9 from fun q => NE.out q.symm))
          have O3b := hI (own_chs O3a.out (Chs.of_grown (grown_set (grown_refl wz (some p9)) 0 (.slice D7 (pls (isTarget l s) l.length).length d7))) (fun q e h => by subst h; exact own_ne O3a.out (fun cs f h2 => by have := a9.out.symm.trans h2; injection this with this; injection this with _ e; revert e; decide) e.symm))
          have O7b := hI (own_chs O7a.out (Chs.of_grown (grown_set (grown_refl wz (some p9)) 0 (.slice D7 (pls (isTarget l s) l.length).length d7))) (fun q e h => by subst h; exact own_ne O7a.out (fun cs f h2 => by have := a9.out.symm.trans h2; injection this with this; injection this with _ e; revert e; decide) e.symm))
          refine anyC_done Hy.out (by kernel_rfl) ?_ _
          exact hexit.out _ _ _ _ _ _ _ _ _ _ _ _ _ _ _ b8 b9 O3b O7b Hy
      · have h30 := hI ((Below.refl w27.heap.size w27).alloc (Nat.le_refl _) (.cells #[.slice none 0 0] 48))
        have H30 := hI (H27.out.trans (h30.out.mono H27.out.size))
        have A8 := hI (Ar.new w27 [.slice none 0 0] 48)
        have L8 := hI H27.out.size
        replace A9 := hI (A9.out.below h30.out A9.out.lt)
        replace O3 := hI (own_below O3.out h30.out)
        have hlt30 := (show p9 < w27.heap.size from A90.out)
        have A80 : Hid (w27.heap.size < (w27.alloc (.cells #[.slice none 0 0] 48)).heap.size) := hI A8.out.lt
        have hal30 := run_al48 w27
        generalize hw30 : w27.alloc (.cells #[.slice none 0 0] 48) = w30 at *
        generalize hp8 : w27.heap.size = p8 at *
        have NE : Hid (p9 ≠ p8) := hI (by omega)
        clear hlt30
        go_wp2_with fail
        clear hw30 hp8 hal30
        replace A90 : Hid (p9 < w30.heap.size) := hI A9.out.lt
        refine anyC_one 7 H30.out (by kernel_rfl) rfl ?_
        · have f31 : Fnd w30 B b F S K T A c l s := HF.out.keep fun q hq => H30.out.block q hq
          have HL31 := hI (left_tgt f31)
          clear f31
          go_wp2_with (go_at_call 45; refine HL31.out.mono ?_; rintro e w31 ⟨v, rfl, ho, hb⟩; obtain ⟨D7, d7, hvv, _⟩ := own_all ho; subst hvv; have O7 := hI (own_less ho H30.out.size); have h31 := hI hb; clear ho hb)
          have H31 := hI (H30.out.trans (h31.out.mono H30.out.size))
          replace A9 := hI (A9.out.below h31.out A9.out.lt)
          replace O3 := hI (own_below O3.out h31.out)
          replace A8 := hI (A8.out.below h31.out A8.out.lt)
          replace A80 : Hid (p8 < w31.heap.size) := hI A8.out.lt
          replace A90 : Hid (p9 < w31.heap.size) := hI A9.out.lt
          refine anyC_one 10 H31.out (by kernel_rfl) rfl ?_
          have k8 := A8.out.cell (k := 0) rfl
          have j8 := A8.out.frozen 0
          go_wp2_with fail
          have a8 := hI (A8.out.set 0 (.slice D3 (pls (isSource l s) l.length).length d3))
          have a9 := hI (A9.out.other ⟨p8, 0, none⟩ (.slice D3 (pls (isSource l s) l.length).length d3) (show p9 ≠ p8 from NE.out))
          have O3a := hI (own_chs O3.out (Chs.of_grown (grown_set (grown_refl w31 (some p8)) 0 (.slice D3 (pls (isSource l s) l.length).length d3))) (fun q e h => by subst h; exact own_ne O3.out (fun cs f h2 => by have := A8.out.symm.trans h2; injection this with this; injection this with _ e; revert e; decide) e.symm))
          have O7a := hI (own_chs O7.out (Chs.of_grown (grown_set (grown_refl w31 (some p8)) 0 (.slice D3 (pls (isSource l s) l.length).length d3))) (fun q e h => by subst h; exact own_ne O7.out (fun cs f h2 => by have := A8.out.symm.trans h2; injection this with this; injection this with _ e; revert e; decide) e.symm))
          have Hz := hI (H31.out.setCell (p := ⟨p8, 0, none⟩) L8.out (.slice D3 (pls (isSource l s) l.length).length d3))
          generalize hwz : w31.setCell ⟨p8, 0, none⟩ (.slice D3 (pls (isSource l s) l.length).length d3) = wz at *
          refine anyC_one 11 Hz.out (by kernel_rfl) rfl ?_
          have k9 := a9.out.cell (k := 0) rfl
          have j9 := a9.out.frozen 0
          go_wp2_with fail
          have Hy := hI (Hz.out.setCell (p := ⟨p9, 0, none⟩) L9.out (.slice D7 (pls (isTarget l s) l.length).length d7))
          have b9 := hI (a9.out.set 0 (.slice D7 (pls (isTarget l s) l.length).length d7))
          have b8 := hI (a8.out.other ⟨p9, 0, none⟩ (.slice D7 (pls (isTarget l s) l.length).length d7) (show p8 ≠ p9 from fun q => NE.out q.symm))
          have O3b := hI (own_chs O3a.out (Chs.of_grown (grown_set (grown_refl wz (some p9)) 0 (.slice D7 (pls (isTarget l s) l.length).length d7))) (fun q e h => by subst h; exact own_ne O3a.out (fun cs f h2 => by have := a9.out.symm.trans h2; injection this with this; injection this with _ e; revert e; decide) e.symm))
          have O7b := hI (own_chs O7a.out (Chs.of_grown (grown_set (grown_refl wz (some p9)) 0 (.slice D7 (pls (isTarget l s) l.length).length d7))) (fun q e h => by subst h; exact own_ne O7a.out (fun cs f h2 => by have := a9.out.symm.trans h2; injection this with this; injection this with _ e; revert e; decide) e.symm))
          refine anyC_done Hy.out (by kernel_rfl) ?_ _
          exact hexit.out _ _ _ _ _ _ _ _ _ _ _ _ _ _ _ b8 b9 O3b O7b Hy
    · have h32 := hI ((Below.refl w26.heap.size w26).alloc (Nat.le_refl _) (.cells #[.slice none 0 0] 48))
      have H32 := hI (H26.out.trans (h32.out.mono H26.out.size))
      have A8 := hI (Ar.new w26 [.slice none 0 0] 48)
      have L8 := hI H26.out.size
      replace A9 := hI (A9.out.below h32.out A9.out.lt)
      have hlt32 := (show p9 < w26.heap.size from A90.out)
      have A80 : Hid (w26.heap.size < (w26.alloc (.cells #[.slice none 0 0] 48)).heap.size) := hI A8.out.lt
      have hal32 := run_al48 w26
      generalize hw32 : w26.alloc (.cells #[.slice none 0 0] 48) = w32 at *
      generalize hp8 : w26.heap.size = p8 at *
      have NE : Hid (p9 ≠ p8) := hI (by omega)
      clear hlt32
      go_wp2_with fail
      clear hw32 hp8 hal32
      replace A90 : Hid (p9 < w32.heap.size) := hI A9.out.lt
      refine anyC_one 3 H32.out (by kernel_rfl) rfl ?_
      · have f33 : Fnd w32 B b F S K T A c l s := HF.out.keep fun q hq => H32.out.block q hq
        have HL33 := hI (left_src f33)
        clear f33
        go_wp2_with (go_at_call 45; refine HL33.out.mono ?_; rintro e w33 ⟨v, rfl, ho, hb⟩; obtain ⟨D3, d3, hvv, _⟩ := own_all ho; subst hvv; have O3 := hI (own_less ho H32.out.size); have h33 := hI hb; clear ho hb)
        have H33 := hI (H32.out.trans (h33.out.mono H32.out.size))
        replace A9 := hI (A9.out.below h33.out A9.out.lt)
        replace A8 := hI (A8.out.below h33.out A8.out.lt)
        replace A80 : Hid (p8 < w33.heap.size) := hI A8.out.lt
        replace A90 : Hid (p9 < w33.heap.size) := hI A9.out.lt
        refine anyC_one 7 H33.out (by kernel_rfl) rfl ?_
        · have f34 : Fnd w33 B b F S K T A c l s := HF.out.keep fun q hq => H33.out.block q hq
          have HL34 := hI (left_tgt f34)
          clear f34
          go_wp2_with (go_at_call 45; refine HL34.out.mono ?_; rintro e w34 ⟨v, rfl, ho, hb⟩; obtain ⟨D7, d7, hvv, _⟩ := own_all ho; subst hvv; have O7 := hI (own_less ho H33.out.size); have h34 := hI hb; clear ho hb)
          have H34 := hI (H33.out.trans (h34.out.mono H33.out.size))
          replace A9 := hI (A9.out.below h34.out A9.out.lt)
          replace A8 := hI (A8.out.below h34.out A8.out.lt)
          replace O3 := hI (own_below O3.out h34.out)
          replace A80 : Hid (p8 < w34.heap.size) := hI A8.out.lt
          replace A90 : Hid (p9 < w34.heap.size) := hI A9.out.lt
          refine anyC_one 10 H34.out (by kernel_rfl) rfl ?_
          have k8 := A8.out.cell (k := 0) rfl
          have j8 := A8.out.frozen 0
          go_wp2_with fail
          have a8 := hI (A8.out.set 0 (.slice D3 (pls (isSource l s) l.length).length d3))
          have a9 := hI (A9.out.other ⟨p8, 0, none⟩ (.slice D3 (pls (isSource l s) l.length).length d3) (show p9 ≠ p8 from NE.out))
          have O3a := hI (own_chs O3.out (Chs.of_grown (grown_set (grown_refl w34 (some p8)) 0 (.slice D3 (pls (isSource l s) l.length).length d3))) (fun q e h => by subst h; exact own_ne O3.out (fun cs f h2 => by have := A8.out.symm.trans h2; injection this with this; injection this with _ e; revert e; decide) e.symm))
          have O7a := hI (own_chs O7.out (Chs.of_grown (grown_set (grown_refl w34 (some p8)) 0 (.slice D3 (pls (isSource l s) l.length).length d3))) (fun q e h => by subst h; exact own_ne O7.out (fun cs f h2 => by have := A8.out.symm.trans h2; injection this with this; injection this with _ e; revert e; decide) e.symm))
          have Hz := hI (H34.out.setCell (p := ⟨p8, 0, none⟩) L8.out (.slice D3 (pls (isSource l s) l.length).length d3))
          generalize hwz : w34.setCell ⟨p8, 0, none⟩ (.slice D3 (pls (isSource l s) l.length).length d3) = wz at *
          refine anyC_one 11 Hz.out (by kernel_rfl) rfl ?_
          have k9 := a9.out.cell (k := 0) rfl
          have j9 := a9.out.frozen 0
          go_wp2_with fail
          have Hy := hI (Hz.out.setCell (p := ⟨p9, 0, none⟩) L9.out (.slice D7 (pls (isTarget l s) l.length).length d7))
          have b9 := hI (a9.out.set 0 (.slice D7 (pls (isTarget l s) l.length).length d7))
          have b8 := hI (a8.out.other ⟨p9, 0, none⟩ (.slice D7 (pls (isTarget l s) l.length).length d7) (show p8 ≠ p9 from fun q => NE.out q.symm))
          have O3b := hI (own_chs O3a.out (Chs.of_grown (grown_set (grown_refl wz (some p9)) 0 (.slice D7 (pls (isTarget l s) l.length).length d7))) (fun q e h => by subst h; exact own_ne O3a.out (fun cs f h2 => by have := a9.out.symm.trans h2; injection this with this; injection this with _ e; revert e; decide) e.symm))
          have O7b := hI (own_chs O7a.out (Chs.of_grown (grown_set (grown_refl wz (some p9)) 0 (.slice D7 (pls (isTarget l s) l.length).length d7))) (fun q e h => by subst h; exact own_ne O7a.out (fun cs f h2 => by have := a9.out.symm.trans h2; injection this with this; injection this with _ e; revert e; decide) e.symm))
          refine anyC_done Hy.out (by kernel_rfl) ?_ _
          exact hexit.out _ _ _ _ _ _ _ _ _ _ _ _ _ _ _ b8 b9 O3b O7b Hy
end Go.Proofs.YtbmpidacoohdmaaGreat

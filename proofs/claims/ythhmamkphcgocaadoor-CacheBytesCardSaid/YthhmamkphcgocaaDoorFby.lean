/- sleuthref33.Bytes by a contract. -/
import Derived.Test.YthhmamkphcgocaaDoorClo
import Derived.Test.YthhmamkphcgocaaDoorRaw
import Derived.Test.YthhmamkphcgocaaDoorFck
import Derived.Test.YthhmamkphcgocaaDoorBtc
import Derived.Test.YthhmamkphcgocaaDoorByt
import Derived.Test.YthhmamkphcgocaaDoorLop
import Derived.Deep.CutRange
namespace Go.Proofs.YthhmamkphcgocaaDoor
open Go.RowKit

/-- The value is a slice that holds the bytes p. -/
def Pt (W : World) (v : Value) (p : List UInt8) : Prop := ∃ D d, v = .slice D p.length d ∧ (D = none → d = 0) ∧ Rv W.heap.size W D (bys p)
theorem Pt.below {W W2 : World} {v : Value} {p : List UInt8} (h : Pt W v p) (hb : Below W.heap.size W W2) : Pt W2 v p := by
  obtain ⟨D, d, e, hn, hr⟩ := h
  exact ⟨D, d, e, hn, hr.low hb hb.size⟩
theorem Pt.of_own {W : World} {B : Nat} {t : TypeId} {v : Value} {n : Nat} {p : List UInt8} (h : W.ownsRow B t 1 v n (bys p)) (hn : n = p.length) : Pt W v p := by
  obtain ⟨D, d, e, hD, _, hr, _⟩ := own_all h
  exact ⟨D, d, by rw [e, hn], hD, hr⟩
def Pts (W : World) (vs : List Value) (ps : List (List UInt8)) : Prop := vs.length = ps.length ∧ ∀ (k : Nat) (p : List UInt8), ps[k]? = some p → ∃ v, vs[k]? = some v ∧ Pt W v p
theorem Pts.nil {W : World} : Pts W [] [] := ⟨rfl, fun k p h => by simp at h⟩
theorem Pts.cons {W : World} {v : Value} {p : List UInt8} {vs : List Value} {ps : List (List UInt8)} (h : Pt W v p) (t : Pts W vs ps) : Pts W (v :: vs) (p :: ps) :=
  ⟨by simp [t.1], fun k q hq => by
    rcases k with _ | k
    · simp only [List.getElem?_cons_zero, Option.some.injEq] at hq
      subst hq
      exact ⟨v, rfl, h⟩
    · exact t.2 k q (by simpa using hq)⟩
theorem Pt.two (W : World) (a b : UInt8) (t : TypeId) : Pt (W.alloc (.cells #[.int .u8 (a.toNat : Int), .int .u8 (b.toNat : Int)] t)) (.slice (some ⟨W.heap.size, 0, none⟩) 2 2) [a, b] :=
  ⟨some ⟨W.heap.size, 0, none⟩, 2, rfl, (fun e => by cases e), by
    rw [World.size_alloc]
    exact new_rvf W (bys [a, b]) t (0, 0)⟩
theorem Parts.new (W : World) (t : TypeId) {vs : List Value} {ps : List (List UInt8)} (h : Pts W vs ps) : Parts (W.alloc (.cells vs.toArray t)).heap.size (W.alloc (.cells vs.toArray t)) (some ⟨W.heap.size, 0, none⟩) ps := by
  have hb := (Below.refl W.heap.size W).alloc (Nat.le_refl _) (.cells vs.toArray t)
  refine ⟨vs, h.1, ?_, fun k p hp => ?_⟩
  · rw [World.size_alloc]
    exact new_rvf W vs t (0, 0)
  · obtain ⟨v, h1, D, d, rfl, h3, h4⟩ := h.2 k p hp
    exact ⟨D, d, h1, h3, h4.low hb hb.size⟩
noncomputable def fby1 : Code := (Tryd.f14.body.bind firstLoop).getD .skip
noncomputable def fby2 : Code := (firstLoop fby1).getD .skip
attribute [local go_sem ↓] load42_eq store42_eq new42_eq run_new42 ldT47 ldT73 ldT52 ldT44 ldT71 ldT94 stT47 stT73 stT52 stT94 nwT47 nwT73 nwT52 nwT94 bxT47 bxT73 bxT52 bxT42 bxT44 bdT47 bdT73 bdT52 bdT94 run_nw47 run_nw73 run_nw52 run_nw94 bsT24 bsT28 bsT45
attribute [local go_sem] run_bxT bs_toList
set_option maxRecDepth 100000 in
set_option maxHeartbeats 2000000 in
theorem fby_in (w W : World) (X : Nat) (id path : List UInt8) (algo : Int) (de mo co : Bool) (os : List Org) (A : Option Addr) (c : Nat) (hid : id.length = 32) (hfo : ∀ o ∈ os, fitO o) (hol : os.length ≤ 400)
    (HA : Hid (Ar W X 73 (⟨⟨id, path, algo, de, mo, co, os⟩, A, c⟩ : Mot).cells)) (HO : Hid (Ov W A c os)) (v0 : Value) (pre : List UInt8) (hp : pre.length ≤ 10000000) (HV : Hid (Pt W v0 pre)) (HB : Hid (Below w.heap.size w W)) (Q0 : Exit → Act → World → Prop)
    (z0 z1 z2 z3 z4 z6 z8 z10 z11 z12 z13 z14 z15 z16 z17 z18 z19 z20 z21 z22 z23 z24 z25 z26 z27 z28 z29 z30 z31 z32 z33 z34 z35 z36 z37 z38 z39 z40 z41 z42 z43 z44 z45 z46 z47 z48 z49 z50 z51 z52 z53 z54 z55 z56 z57 z58 z59 z60 z61 z62 z63 z64 z65 z66 z67 z68 z69 z70 z71 z72 z73 z74 z75 z76 z77 z78 z79 z80 z81 z82 z83 z84 z85 z86 z87 z88 z89 z90 z91 z92 z93 z94 z95 z96 : Value)
    (hpan : ∀ c a o v w, Q0 (.panic c) (Act.put a o v) w → Q0 (.panic c) a w)
    (hexit : Hid (∀ (v : Value) (W' : World), Pt W' v (pre ++ os.flatMap orgB) → Below w.heap.size w W' → ∀ y9 y10 y70 y71 y72 y73 y74 y75 y76 y77 y78 y79 y80 y81 y82 y83 y84 y85 y86 y87 y88 y89 y90 y91 y92 y93 y94 : Value, Q0 (.exit 2) ⟨List.toArray (z0 :: z1 :: z2 :: z3 :: z4 :: v :: z6 :: (.pointer (some ⟨X, 0, none⟩)) :: z8 :: y9 :: y10 :: z11 :: z12 :: z13 :: z14 :: z15 :: z16 :: z17 :: z18 :: z19 :: z20 :: z21 :: z22 :: z23 :: z24 :: z25 :: z26 :: z27 :: z28 :: z29 :: z30 :: z31 :: z32 :: z33 :: z34 :: z35 :: z36 :: z37 :: z38 :: z39 :: z40 :: z41 :: z42 :: z43 :: z44 :: z45 :: z46 :: z47 :: z48 :: z49 :: z50 :: z51 :: z52 :: z53 :: z54 :: z55 :: z56 :: z57 :: z58 :: z59 :: z60 :: z61 :: z62 :: z63 :: z64 :: z65 :: z66 :: z67 :: z68 :: z69 :: y70 :: y71 :: y72 :: y73 :: y74 :: y75 :: y76 :: y77 :: y78 :: y79 :: y80 :: y81 :: y82 :: y83 :: y84 :: y85 :: y86 :: y87 :: y88 :: y89 :: y90 :: y91 :: y92 :: y93 :: y94 :: z95 :: z96 :: []), []⟩ W')) :
    Code.wp Tryd.prog (Code.loop fby2) Q0 ⟨List.toArray (z0 :: z1 :: z2 :: z3 :: z4 :: v0 :: z6 :: (.pointer (some ⟨X, 0, none⟩)) :: z8 :: (.int .i64 (0 : Int)) :: z10 :: z11 :: z12 :: z13 :: z14 :: z15 :: z16 :: z17 :: z18 :: z19 :: z20 :: z21 :: z22 :: z23 :: z24 :: z25 :: z26 :: z27 :: z28 :: z29 :: z30 :: z31 :: z32 :: z33 :: z34 :: z35 :: z36 :: z37 :: z38 :: z39 :: z40 :: z41 :: z42 :: z43 :: z44 :: z45 :: z46 :: z47 :: z48 :: z49 :: z50 :: z51 :: z52 :: z53 :: z54 :: z55 :: z56 :: z57 :: z58 :: z59 :: z60 :: z61 :: z62 :: z63 :: z64 :: z65 :: z66 :: z67 :: z68 :: z69 :: z70 :: z71 :: z72 :: z73 :: z74 :: z75 :: z76 :: z77 :: z78 :: z79 :: z80 :: z81 :: z82 :: z83 :: z84 :: z85 :: z86 :: z87 :: z88 :: z89 :: z90 :: z91 :: z92 :: z93 :: z94 :: z95 :: z96 :: []), []⟩ W := by
  conv => arg 2; arg 1; whnf
  have HPL := Lib.hid (fun (j : Nat) => flat_le orgB 172 (os.take j) (fun o ho => orgB_len (hfo o (List.mem_of_mem_take ho))))
  have HFO := Lib.hid hfo
  clear hfo
  go_loopw [5, 9] (fun sv jv wr => ∃ j : Nat, j ≤ os.length ∧ jv = .int .i64 j ∧ Hid (Pt wr sv (pre ++ (os.take j).flatMap orgB)) ∧ Hid (Below W.heap.size W wr)) (fun _ jv _ => os.length - (intOf jv).toNat)
  case atStart => exact ⟨0, Nat.zero_le _, rfl, by simpa using HV, Lib.hid (Below.refl _ _)⟩
  case round =>
    obtain ⟨j, hj, rfl, hv, hbb⟩ := hrel
    have A1 := Lib.hid (HA.out.below hbb.out HA.out.lt)
    have p37 := bOs A1.out hid
    by_cases hlj : j < os.length
    · obtain ⟨bd, rfl, hbl, hc, hok⟩ := (HO.out.below hbb.out).at_ hlj
      have hfx : fitO (os.getD j default) := HFO.out _ (by simp [hlj])
      have HNJ := Lib.hid (flat_next orgB os j hlj)
      have hql := HPL.out j
      have htl : (os.take j).length ≤ 400 := by rw [List.length_take]; omega
      generalize os.getD j default = x at *
      generalize (os.take j).flatMap orgB = qre at *
      have hqq : qre.length ≤ 100000 := by omega
      clear hql htl
      have hxi := hok.id
      obtain ⟨x1, x2, x3, x4⟩ := hfx
      have hld := ldO52 hc hxi
      have wu : IntKind.u64.wrap x.line = x.line := wraps_u64 _ (by omega) (by omega)
      have n0 : Ar (wr.alloc (.cells zO.cells.toArray 52)) wr.heap.size 52 zO.cells := Ar.new wr _ _
      have hst := stO52 (p := x) n0 rfl hxi
      have Y1 := Lib.hid (n0.setRow x.cells)
      have G1 := Lib.hid (below_row ((Below.refl wr.heap.size wr).alloc (Nat.le_refl _) (.cells zO.cells.toArray 52)) wr.heap.size x.cells.toArray (Nat.le_refl _))
      clear hc n0 hok
      go_upto_region 21 with fail
      clear hst hld
      have B1 := Lib.hid (hbb.out.trans (G1.out.mono hbb.out.size))
      have Qax1 := Lib.hid (hv.out.below G1.out)
      have hY1 := Y1.out.lt
      generalize hgY : wr.heap.size = Y at *
      generalize (wr.alloc (.cells zO.cells.toArray 52)).setRow Y x.cells.toArray = w1 at *
      clear hgY p37
      have B2 := Lib.hid B1.out.drew
      have G2 := Lib.hid (Below.refl w1.heap.size w1).drew
      have Qax2 := Lib.hid (Qax1.out.below G2.out)
      have hY : Y < w1.heap.size := hY1
      have r1 : ∀ W, Below w1.heap.size w1 W → (load42 ⟨Y, 0, none⟩).run Tryd.prog W = .ok (.agg (bys x.id).toArray) W := fun W hW => boId (Y1.out.below hW hY) hxi
      have r2 : ∀ W, Below w1.heap.size w1 W → W.cell? ⟨Y, 32, none⟩ = some (.string (bs x.path)) := fun W hW => boPath (Y1.out.below hW hY) hxi
      have r3 : ∀ W, Below w1.heap.size w1 W → W.cell? ⟨Y, 33, none⟩ = some (.int .i64 x.line) := fun W hW => boLine (Y1.out.below hW hY) hxi
      have HRAW := Lib.hid (fun W => fidraw_any W x.id hxi)
      have HTXT := Lib.hid (fun W => ftext_any W x.path (by omega))
      have hv64 : ((x.line.toNat : Nat) : Int) = x.line := by omega
      have HVAR := Lib.hid (fun W => (by have := fvar_any W x.line.toNat (by omega); rwa [hv64] at this : Calls Tryd.prog 44 #[.int .u64 x.line] W fun e w2 => ∃ u, e = .returned u ∧ w2.ownsRow W.heap.size 5 1 u (varB x.line.toNat).length (bys (varB x.line.toNat)) ∧ Below W.heap.size W w2))
      have hvp := varB_ten (n := x.path.length) (by omega)
      have hvl := varB_ten (n := x.line.toNat) (by omega)
      have hpq : (pre ++ qre).length ≤ 10200000 := by rw [List.length_append]; omega
      have HXB := Lib.hid (show [pre ++ qre, x.id, varB x.path.length ++ x.path, varB x.line.toNat].flatten = pre ++ (qre ++ orgB x) by simp [orgB])
      have htx : (varB x.path.length ++ x.path).length ≤ 200 := by rw [List.length_append]; omega
      generalize pre ++ qre = pq at *
      generalize varB x.path.length ++ x.path = tx at *
      clear hv64
      obtain ⟨D0, d0, hv0, _⟩ := hv.out
      subst hv0
      clear hv
      refine region_of (fun W => Below w1.heap.size w1 W) (by kernel_rfl) ?_
      refine anyC_take 0 (v := ?_) G2.out rfl (by kernel_rfl) (by kernel_rfl) (by kernel_rfl) (fun c a w h => hpan c a _ _ w h) rfl (fun W hW => ?_) ?_
      rotate_left
      · go_simp
        try rfl
      simp only [Act.put]
      refine anyC_take 1 (v := ?_) G2.out rfl (by kernel_rfl) (by kernel_rfl) (by kernel_rfl) (fun c a w h => hpan c a _ _ w h) rfl (fun W hW => ?_) ?_
      rotate_left
      · go_simp
        try rfl
      simp only [Act.put]
      refine anyC_take 2 (v := ?_) G2.out rfl (by kernel_rfl) (by kernel_rfl) (by kernel_rfl) (fun c a w h => hpan c a _ _ w h) rfl (fun W hW => ?_) ?_
      rotate_left
      · go_simp
        try rfl
      simp only [Act.put]
      refine anyC_take 4 (v := ?_) G2.out rfl (by kernel_rfl) (by kernel_rfl) (by kernel_rfl) (fun c a w h => hpan c a _ _ w h) rfl (fun W hW => ?_) ?_
      rotate_left
      · go_simp
        try rfl
      simp only [Act.put]
      refine anyC_take 5 (v := ?_) G2.out rfl (by kernel_rfl) (by kernel_rfl) (by kernel_rfl) (fun c a w h => hpan c a _ _ w h) rfl (fun W hW => ?_) ?_
      rotate_left
      · go_simp
        try rfl
      simp only [Act.put]
      refine anyC_take 7 (v := ?_) G2.out rfl (by kernel_rfl) (by kernel_rfl) (by kernel_rfl) (fun c a w h => hpan c a _ _ w h) rfl (fun W hW => ?_) ?_
      rotate_left
      · go_simp
        try rfl
      simp only [Act.put]
      refine anyC_take 8 (v := ?_) G2.out rfl (by kernel_rfl) (by kernel_rfl) (by kernel_rfl) (fun c a w h => hpan c a _ _ w h) rfl (fun W hW => ?_) ?_
      rotate_left
      · go_simp
        try rfl
      simp only [Act.put]
      refine anyC_take 9 (v := ?_) G2.out rfl (by kernel_rfl) (by kernel_rfl) (by kernel_rfl) (fun c a w h => hpan c a _ _ w h) rfl (fun W hW => ?_) ?_
      rotate_left
      · go_simp
        try rfl
      simp only [Act.put]
      refine anyC_one 3 G2.out (by kernel_rfl) rfl ?_
      go_wp2_with (go_at_call 42; refine (HRAW.out _).mono ?_; rintro en w3 ⟨v3, rfl, ho, hb⟩; obtain ⟨D3, d3, hvv, _⟩ := own_all ho; subst hvv; have B3 := Lib.hid (B2.out.trans (hb.mono B2.out.size)); have G3 := Lib.hid (G2.out.trans (hb.mono G2.out.size)); have Q3x3 := Lib.hid (Pt.of_own ho hxi.symm); have Qax3 := Lib.hid (Qax2.out.below hb); clear ho hb)
      refine anyC_one 6 G3.out (by kernel_rfl) rfl ?_
      go_wp2_with (go_at_call 43; refine (HTXT.out _).mono ?_; rintro en w4 ⟨v4, rfl, ho, hb⟩; obtain ⟨D4, d4, hvv, _⟩ := own_all ho; subst hvv; have B4 := Lib.hid (B3.out.trans (hb.mono B3.out.size)); have G4 := Lib.hid (G3.out.trans (hb.mono G3.out.size)); have Q4x4 := Lib.hid (Pt.of_own ho rfl); have Qax4 := Lib.hid (Qax3.out.below hb); have Q3x4 := Lib.hid (Q3x3.out.below hb); clear ho hb)
      refine anyC_one 10 G4.out (by kernel_rfl) rfl ?_
      go_wp2_with (go_at_call 44; refine (HVAR.out _).mono ?_; rintro en w5 ⟨v5, rfl, ho, hb⟩; obtain ⟨D5, d5, hvv, _⟩ := own_all ho; subst hvv; have B5 := Lib.hid (B4.out.trans (hb.mono B4.out.size)); have G5 := Lib.hid (G4.out.trans (hb.mono G4.out.size)); have Q5x5 := Lib.hid (Pt.of_own ho rfl); have Qax5 := Lib.hid (Qax4.out.below hb); have Q3x5 := Lib.hid (Q3x4.out.below hb); have Q4x5 := Lib.hid (Q4x4.out.below hb); clear ho hb)
      have HPA := Lib.hid (Parts.new w5 22 (Pts.cons Qax5.out (Pts.cons Q3x5.out (Pts.cons Q4x5.out (Pts.cons Q5x5.out Pts.nil)))))
      have B6 := Lib.hid (B5.out.alloc B5.out.size (.cells #[.slice D0 pq.length d0, .slice D3 32 d3, .slice D4 tx.length d4, .slice D5 (varB x.line.toNat).length d5] 22))
      have G6 := Lib.hid (G5.out.alloc G5.out.size (.cells #[.slice D0 pq.length d0, .slice D3 32 d3, .slice D4 tx.length d4, .slice D5 (varB x.line.toNat).length d5] 22))
      have HJ := Lib.hid (fjoin_any _ _ 4 _ HPA.out (by simp) (by simp only [List.flatten_cons, List.flatten_nil, List.append_nil, List.length_append]; omega))
      refine anyC_one 11 G5.out (by kernel_rfl) rfl ?_
      go_wp2_with fail
      refine anyC_one 12 G6.out (by kernel_rfl) rfl ?_
      go_wp2_with (go_at_call 41; refine HJ.out.mono ?_; rintro en w7 ⟨v7, rfl, ho, hb⟩; have B7 := Lib.hid (B6.out.trans (hb.mono B6.out.size)); have G7 := Lib.hid (G6.out.trans (hb.mono G6.out.size)); have V7 := Lib.hid (Pt.of_own ho rfl); clear ho hb)
      refine anyC_take 13 (v := ?_) G7.out rfl (by kernel_rfl) (by kernel_rfl) (by kernel_rfl) (fun c a w h => hpan c a _ _ w h) rfl (fun W hW => ?_) ?_
      rotate_left
      · go_simp
        try rfl
      simp only [Act.put]
      refine anyC_done G7.out (by kernel_rfl) ?_ _
      have HV9 := Lib.hid (by have := V7.out; rwa [HXB.out, ← HNJ.out] at this)
      clear r1 r2 r3
      go_wp2_with fail
      exact ⟨⟨j + 1, by omega, by go_num, HV9, B7⟩, by simp [intOf]; omega⟩
    · have hje : j = os.length := by omega
      subst hje
      rw [List.take_length] at hv
      have BB := Lib.hid (HB.out.trans (hbb.out.mono HB.out.size))
      go_wp2_with fail
      exact hexit.out u5 _ hv.out BB.out _ _ _ _ _ _ _ _ _ _ _ _ _ _ _ _ _ _ _ _ _ _ _ _ _ _ _
set_option maxRecDepth 100000 in
set_option maxHeartbeats 4000000 in
theorem fby_out (w W : World) (A : Option Addr) (c : Nat) (ms : List Mot) (HM : Hid (Mv W A ms)) (hft : ∀ m ∈ ms, fitL m.r) (hn : ms.length ≤ 64) (v0 : Value) (pre : List UInt8) (hp : pre.length ≤ 1000) (HV : Hid (Pt W v0 pre)) (HB : Hid (Below w.heap.size w W)) (Q0 : Exit → Act → World → Prop)
    (z1 z2 z3 z4 z7 z8 z9 z10 z11 z12 z13 z14 z15 z16 z17 z18 z19 z20 z21 z22 z23 z24 z25 z26 z27 z28 z29 z30 z31 z32 z33 z34 z35 z36 z37 z38 z39 z40 z41 z42 z43 z44 z45 z46 z47 z48 z49 z50 z51 z52 z53 z54 z55 z56 z57 z58 z59 z60 z61 z62 z63 z64 z65 z66 z67 z68 z69 z70 z71 z72 z73 z74 z75 z76 z77 z78 z79 z80 z81 z82 z83 z84 z85 z86 z87 z88 z89 z90 z91 z92 z93 z94 z95 z96 : Value)
    (hpan : ∀ c a o v w, Q0 (.panic c) (Act.put a o v) w → Q0 (.panic c) a w)
    (hexit : Hid (∀ (v : Value) (W' : World), Pt W' v (pre ++ (ms.map (·.r)).flatMap lotB) → Below w.heap.size w W' → ∀ y6 y7 y8 y9 y10 y25 y26 y27 y28 y29 y30 y31 y32 y33 y34 y35 y36 y37 y38 y39 y40 y41 y42 y43 y44 y45 y46 y47 y48 y49 y50 y51 y52 y53 y54 y55 y56 y57 y58 y59 y60 y61 y62 y63 y64 y65 y66 y67 y68 y69 y70 y71 y72 y73 y74 y75 y76 y77 y78 y79 y80 y81 y82 y83 y84 y85 y86 y87 y88 y89 y90 y91 y92 y93 y94 : Value, Q0 (.exit 0) ⟨List.toArray ((.slice A ms.length c) :: z1 :: z2 :: z3 :: z4 :: v :: y6 :: y7 :: y8 :: y9 :: y10 :: z11 :: z12 :: z13 :: z14 :: z15 :: z16 :: z17 :: z18 :: z19 :: z20 :: z21 :: z22 :: z23 :: z24 :: y25 :: y26 :: y27 :: y28 :: y29 :: y30 :: y31 :: y32 :: y33 :: y34 :: y35 :: y36 :: y37 :: y38 :: y39 :: y40 :: y41 :: y42 :: y43 :: y44 :: y45 :: y46 :: y47 :: y48 :: y49 :: y50 :: y51 :: y52 :: y53 :: y54 :: y55 :: y56 :: y57 :: y58 :: y59 :: y60 :: y61 :: y62 :: y63 :: y64 :: y65 :: y66 :: y67 :: y68 :: y69 :: y70 :: y71 :: y72 :: y73 :: y74 :: y75 :: y76 :: y77 :: y78 :: y79 :: y80 :: y81 :: y82 :: y83 :: y84 :: y85 :: y86 :: y87 :: y88 :: y89 :: y90 :: y91 :: y92 :: y93 :: y94 :: z95 :: z96 :: []), []⟩ W')) :
    Code.wp Tryd.prog (Code.loop fby1) Q0 ⟨List.toArray ((.slice A ms.length c) :: z1 :: z2 :: z3 :: z4 :: v0 :: (.int .i64 (0 : Int)) :: z7 :: z8 :: z9 :: z10 :: z11 :: z12 :: z13 :: z14 :: z15 :: z16 :: z17 :: z18 :: z19 :: z20 :: z21 :: z22 :: z23 :: z24 :: z25 :: z26 :: z27 :: z28 :: z29 :: z30 :: z31 :: z32 :: z33 :: z34 :: z35 :: z36 :: z37 :: z38 :: z39 :: z40 :: z41 :: z42 :: z43 :: z44 :: z45 :: z46 :: z47 :: z48 :: z49 :: z50 :: z51 :: z52 :: z53 :: z54 :: z55 :: z56 :: z57 :: z58 :: z59 :: z60 :: z61 :: z62 :: z63 :: z64 :: z65 :: z66 :: z67 :: z68 :: z69 :: z70 :: z71 :: z72 :: z73 :: z74 :: z75 :: z76 :: z77 :: z78 :: z79 :: z80 :: z81 :: z82 :: z83 :: z84 :: z85 :: z86 :: z87 :: z88 :: z89 :: z90 :: z91 :: z92 :: z93 :: z94 :: z95 :: z96 :: []), []⟩ W := by
  conv => arg 2; arg 1; whnf
  have HFT := Lib.hid hft
  have HLE := Lib.hid (lots_le (l := ms.map (·.r)) (fun x hx => by obtain ⟨m, hm, rfl⟩ := List.mem_map.1 hx; exact hft m hm) (by rw [List.length_map]; omega))
  clear hft
  go_loopw [5, 6] (fun sv kv wr => ∃ k : Nat, k ≤ ms.length ∧ kv = .int .i64 k ∧ Hid (Pt wr sv (pre ++ ((ms.map (·.r)).take k).flatMap lotB)) ∧ Hid (Below W.heap.size W wr)) (fun _ kv _ => ms.length - (intOf kv).toNat)
  case atStart => exact ⟨0, Nat.zero_le _, rfl, by simpa using HV, Lib.hid (Below.refl _ _)⟩
  case round =>
    obtain ⟨k, hk, rfl, hv, hbb⟩ := hrel
    by_cases hlt : k < ms.length
    · obtain ⟨ad, rfl, had, hc, hok, hov⟩ := (HM.out.below hbb.out).at_ hlt
      have hfo : fitL (ms.getD k default).r := HFT.out _ (by simp [hlt])
      have HNX : Hid (((ms.map (·.r)).take (k + 1)).flatMap lotB = ((ms.map (·.r)).take k).flatMap lotB ++ lotB (ms.getD k default).r) := Lib.hid (by rw [flat_next lotB _ k (by rw [List.length_map]; exact hlt), getD_map hlt])
      have hpl := HLE.out k
      generalize ms.getD k default = o at *
      generalize ((ms.map (·.r)).take k).flatMap lotB = qre at *
      obtain ⟨⟨id, path, algo, de, mo, co, os⟩, A', c'⟩ := o
      have HLR := Lib.hid (lotB_row (⟨id, path, algo, de, mo, co, os⟩ : Lot))
      have hrh := rowH_len hfo
      obtain ⟨f1, f2, f3, f4, f5, f6⟩ := hfo
      dsimp only at f1 f2 f3 f4 f5 f6 hov HNX hok hrh
      have hid := f1
      obtain ⟨a8, ha8, ha9⟩ : ∃ a8 : UInt8, (a8.toNat : Int) = algo ∧ by8 algo.toNat = a8 := ⟨by8 algo.toNat, by rw [by8_nat]; omega, rfl⟩
      obtain ⟨m8, hm8⟩ : ∃ m8 : UInt8, by8 (flN de mo co 3) = m8 := ⟨_, rfl⟩
      have HRW : Hid (rowH ⟨id, path, algo, de, mo, co, os⟩ = id ++ ((varB path.length ++ path) ++ (a8 :: m8 :: varB os.length))) := Lib.hid (by rw [← ha9, ← hm8]; rfl)
      generalize rowH ⟨id, path, algo, de, mo, co, os⟩ = rh at *
      generalize lotB ⟨id, path, algo, de, mo, co, os⟩ = lb at *
      subst ha8
      have HM8 := Lib.hid hm8
      clear ha9 hm8
      have HF6 := Lib.hid f6
      have hld := ldM73 hc hid
      have n0 : Ar (wr.alloc (.cells zM.cells.toArray 73)) wr.heap.size 73 zM.cells := Ar.new wr _ _
      have hst := stM73 (n := (⟨⟨id, path, (a8.toNat : Int), de, mo, co, os⟩, A', c'⟩ : Mot)) n0 rfl hid
      have Y1 := Lib.hid (n0.setRow (⟨⟨id, path, (a8.toNat : Int), de, mo, co, os⟩, A', c'⟩ : Mot).cells)
      have G1 := Lib.hid (below_row ((Below.refl wr.heap.size wr).alloc (Nat.le_refl _) (.cells zM.cells.toArray 73)) wr.heap.size (⟨⟨id, path, (a8.toNat : Int), de, mo, co, os⟩, A', c'⟩ : Mot).cells.toArray (Nat.le_refl _))
      have OV1 := Lib.hid hov
      clear hc n0 hok hov f6
      go_upto_region 10 with fail
      clear hst hld
      have B1 := Lib.hid (hbb.out.trans (G1.out.mono hbb.out.size))
      have Qp1 := Lib.hid (hv.out.below G1.out)
      have OV2 := Lib.hid (OV1.out.below G1.out)
      have hX := Y1.out.lt
      generalize wr.heap.size = X at *
      generalize (wr.alloc (.cells zM.cells.toArray 73)).setRow X (⟨⟨id, path, (a8.toNat : Int), de, mo, co, os⟩, A', c'⟩ : Mot).cells.toArray = w1 at *
      have p34 : w1.cell? ⟨X, 34, none⟩ = some (.bool de) := Y1.out.cell (Mot.c_tail (m := (⟨⟨id, path, (a8.toNat : Int), de, mo, co, os⟩, A', c'⟩ : Mot)) hid 2)
      have p35 : w1.cell? ⟨X, 35, none⟩ = some (.bool mo) := Y1.out.cell (Mot.c_tail (m := (⟨⟨id, path, (a8.toNat : Int), de, mo, co, os⟩, A', c'⟩ : Mot)) hid 3)
      have p36 : w1.cell? ⟨X, 36, none⟩ = some (.bool co) := Y1.out.cell (Mot.c_tail (m := (⟨⟨id, path, (a8.toNat : Int), de, mo, co, os⟩, A', c'⟩ : Mot)) hid 4)
      go_upto_if 37 with fail
      go_cut [8] from 25 to 94 (fun m w' => m = .int .u8 (cond de 1 0 : Int) ∧ w1 = w')
      case first =>
        cases de <;> (go_wp2_with fail; go_meet; exact ⟨by first | rfl | decide, rfl⟩)
      obtain ⟨hm8, hw8⟩ := hcut
      subst hw8
      subst hm8
      go_upto_if 42 with fail
      go_cut [8] from 25 to 94 (fun m w' => m = .int .u8 (cond de 1 0 + cond mo 2 0 : Int) ∧ w1 = w')
      case first =>
        cases de <;> cases mo <;> (go_wp2_with fail; go_meet; exact ⟨by first | rfl | decide, rfl⟩)
      obtain ⟨hm8, hw8⟩ := hcut
      subst hw8
      subst hm8
      go_upto_if 47 with fail
      go_cut [8] from 25 to 94 (fun m w' => m = .int .u8 (m8.toNat : Int) ∧ w1 = w')
      case first =>
        have HM9 := HM8.out
        subst HM9
        cases de <;> cases mo <;> cases co <;> (go_wp2_with fail; go_meet; exact ⟨by first | rfl | decide, rfl⟩)
      obtain ⟨hm8, hw8⟩ := hcut
      subst hw8
      subst hm8
      clear p34 p35 p36 HM8
      have hv1 : ∀ W, Below w1.heap.size w1 W → (load42 ⟨X, 0, none⟩).run Tryd.prog W = .ok (.agg (bys id).toArray) W := fun W hW => ldMid (m := (⟨⟨id, path, (a8.toNat : Int), de, mo, co, os⟩, A', c'⟩ : Mot)) (Y1.out.below hW hX).at0 hid
      have hv2 : ∀ W, Below w1.heap.size w1 W → W.cell? ⟨X, 32, none⟩ = some (.string (bs path)) := fun W hW => bPath (m := (⟨⟨id, path, (a8.toNat : Int), de, mo, co, os⟩, A', c'⟩ : Mot)) (Y1.out.below hW hX) hid
      have hv3 : ∀ W, Below w1.heap.size w1 W → W.cell? ⟨X, 33, none⟩ = some (.int .i64 (a8.toNat : Int)) := fun W hW => bAlgo (m := (⟨⟨id, path, (a8.toNat : Int), de, mo, co, os⟩, A', c'⟩ : Mot)) (Y1.out.below hW hX) hid
      have hv4 : ∀ W, Below w1.heap.size w1 W → W.cell? ⟨X, 37, none⟩ = some (.slice A' os.length c') := fun W hW => bOs (m := (⟨⟨id, path, (a8.toNat : Int), de, mo, co, os⟩, A', c'⟩ : Mot)) (Y1.out.below hW hX) hid
      have wu : IntKind.u8.wrap (a8.toNat : Int) = (a8.toNat : Int) := by rw [IntKind.wrap_u8]; omega
      have wv : IntKind.u64.wrap (os.length : Int) = (os.length : Int) := wraps_u64 _ (by omega) (by omega)
      have HRAW := Lib.hid (fun W => fidraw_any W id hid)
      have HTXT := Lib.hid (fun W => ftext_any W path (by omega))
      have HVAR := Lib.hid (fun W => fvar_any W os.length (by omega))
      have hvp := varB_ten (n := path.length) (by omega)
      have hvl := varB_ten (n := os.length) (by omega)
      have hpq : (pre ++ qre).length ≤ 5000000 := by rw [List.length_append]; omega
      have HPQ := Lib.hid (show pre ++ qre ++ rh ++ os.flatMap orgB = pre ++ (qre ++ (rh ++ os.flatMap orgB)) by simp)
      have HXB := Lib.hid (show [pre ++ qre, id, varB path.length ++ path, [a8, m8], varB os.length].flatten = pre ++ qre ++ rh by rw [HRW.out]; simp)
      have htx : (varB path.length ++ path).length ≤ 200 := by rw [List.length_append]; omega
      clear HRW
      generalize pre ++ qre = pq at *
      generalize varB path.length ++ path = tx at *
      obtain ⟨D0, d0, hv0, _⟩ := hv.out
      subst hv0
      clear hv
      go_upto_region 16 with fail
      go_cut [5] from 25 to 94 (fun v w' => Hid (Pt w' v (pq ++ rh)) ∧ Hid (Below w1.heap.size w1 w'))
      case first =>
        have G2 := Lib.hid (Below.refl w1.heap.size w1).drew
        have Qp2 := Lib.hid (Qp1.out.below G2.out)
        refine region_of (fun W => Below w1.heap.size w1 W) (by kernel_rfl) ?_
        generalize w1.drew = w2 at *
        refine anyC_take 0 (v := ?_) G2.out rfl (by kernel_rfl) (by kernel_rfl) (by kernel_rfl) (fun c a w h => hpan c a _ _ w h) rfl (fun W hW => ?_) ?_
        rotate_left
        · go_simp
          try rfl
        simp only [Act.put]
        refine anyC_take 1 (v := ?_) G2.out rfl (by kernel_rfl) (by kernel_rfl) (by kernel_rfl) (fun c a w h => hpan c a _ _ w h) rfl (fun W hW => ?_) ?_
        rotate_left
        · go_simp
          try rfl
        simp only [Act.put]
        refine anyC_take 2 (v := ?_) G2.out rfl (by kernel_rfl) (by kernel_rfl) (by kernel_rfl) (fun c a w h => hpan c a _ _ w h) rfl (fun W hW => ?_) ?_
        rotate_left
        · go_simp
          try rfl
        simp only [Act.put]
        refine anyC_take 4 (v := ?_) G2.out rfl (by kernel_rfl) (by kernel_rfl) (by kernel_rfl) (fun c a w h => hpan c a _ _ w h) rfl (fun W hW => ?_) ?_
        rotate_left
        · go_simp
          try rfl
        simp only [Act.put]
        refine anyC_take 5 (v := ?_) G2.out rfl (by kernel_rfl) (by kernel_rfl) (by kernel_rfl) (fun c a w h => hpan c a _ _ w h) rfl (fun W hW => ?_) ?_
        rotate_left
        · go_simp
          try rfl
        simp only [Act.put]
        refine anyC_take 7 (v := ?_) G2.out rfl (by kernel_rfl) (by kernel_rfl) (by kernel_rfl) (fun c a w h => hpan c a _ _ w h) rfl (fun W hW => ?_) ?_
        rotate_left
        · go_simp
          try rfl
        simp only [Act.put]
        refine anyC_take 8 (v := ?_) G2.out rfl (by kernel_rfl) (by kernel_rfl) (by kernel_rfl) (fun c a w h => hpan c a _ _ w h) rfl (fun W hW => ?_) ?_
        rotate_left
        · go_simp
          try rfl
        simp only [Act.put]
        refine anyC_take 9 (v := ?_) G2.out rfl (by kernel_rfl) (by kernel_rfl) (by kernel_rfl) (fun c a w h => hpan c a _ _ w h) rfl (fun W hW => ?_) ?_
        rotate_left
        · go_simp
          try rfl
        simp only [Act.put]
        refine anyC_take 10 (v := ?_) G2.out rfl (by kernel_rfl) (by kernel_rfl) (by kernel_rfl) (fun c a w h => hpan c a _ _ w h) rfl (fun W hW => ?_) ?_
        rotate_left
        · go_simp
          try rfl
        simp only [Act.put]
        refine anyC_take 11 (v := ?_) G2.out rfl (by kernel_rfl) (by kernel_rfl) (by kernel_rfl) (fun c a w h => hpan c a _ _ w h) rfl (fun W hW => ?_) ?_
        rotate_left
        · go_simp
          try rfl
        simp only [Act.put]
        refine anyC_take 13 (v := ?_) G2.out rfl (by kernel_rfl) (by kernel_rfl) (by kernel_rfl) (fun c a w h => hpan c a _ _ w h) rfl (fun W hW => ?_) ?_
        rotate_left
        · go_simp
          try rfl
        simp only [Act.put]
        refine anyC_take 14 (v := ?_) G2.out rfl (by kernel_rfl) (by kernel_rfl) (by kernel_rfl) (fun c a w h => hpan c a _ _ w h) rfl (fun W hW => ?_) ?_
        rotate_left
        · go_simp
          try rfl
        simp only [Act.put]
        refine anyC_take 15 (v := ?_) G2.out rfl (by kernel_rfl) (by kernel_rfl) (by kernel_rfl) (fun c a w h => hpan c a _ _ w h) rfl (fun W hW => ?_) ?_
        rotate_left
        · go_simp
          try rfl
        simp only [Act.put]
        refine anyC_take 16 (v := ?_) G2.out rfl (by kernel_rfl) (by kernel_rfl) (by kernel_rfl) (fun c a w h => hpan c a _ _ w h) rfl (fun W hW => ?_) ?_
        rotate_left
        · go_simp
          try rfl
        simp only [Act.put]
        refine anyC_two 3 12 G2.out (by kernel_rfl) rfl rfl ?_ ?_
        · go_wp2_with (go_at_call 42; refine (HRAW.out _).mono ?_; rintro en w3 ⟨v3, rfl, ho, hb⟩; obtain ⟨Da, da, hvv, _⟩ := own_all ho; subst hvv; have G3 := Lib.hid (G2.out.trans (hb.mono G2.out.size)); have Qa3 := Lib.hid (Pt.of_own ho hid.symm); have Qp3 := Lib.hid (Qp2.out.below hb); clear ho hb)
          refine anyC_two 6 12 G3.out (by kernel_rfl) rfl rfl ?_ ?_
          · go_wp2_with (go_at_call 43; refine (HTXT.out _).mono ?_; rintro en w4 ⟨v4, rfl, ho, hb⟩; obtain ⟨Db, db, hvv, _⟩ := own_all ho; subst hvv; have G4 := Lib.hid (G3.out.trans (hb.mono G3.out.size)); have Qb4 := Lib.hid (Pt.of_own ho rfl); have Qp4 := Lib.hid (Qp3.out.below hb); have Qa4 := Lib.hid (Qa3.out.below hb); clear ho hb)
            refine anyC_two 12 17 G4.out (by kernel_rfl) rfl rfl ?_ ?_
            · go_wp2_with fail
              have hb := (Below.refl w4.heap.size w4).alloc (Nat.le_refl _) (.cells #[.int .u8 (a8.toNat : Int), .int .u8 (m8.toNat : Int)] 5)
              have G9 := Lib.hid (G4.out.trans (hb.mono G4.out.size))
              have Qm9 := Lib.hid (Pt.two w4 a8 m8 5)
              have Qp9 := Lib.hid (Qp4.out.below hb)
              have Qa9 := Lib.hid (Qa4.out.below hb)
              have Qb9 := Lib.hid (Qb4.out.below hb)
              clear hb
              generalize w4.alloc (.cells #[.int .u8 (a8.toNat : Int), .int .u8 (m8.toNat : Int)] 5) = w9 at *
              obtain ⟨bm, hbm⟩ : ∃ bm, w4.heap.size = bm := ⟨_, rfl⟩
              rw [hbm] at Qm9 ⊢
              clear hbm
              refine anyC_one 17 G9.out (by kernel_rfl) rfl ?_
              go_wp2_with (go_at_call 44; refine (HVAR.out _).mono ?_; rintro en w10 ⟨v10, rfl, ho, hb⟩; obtain ⟨Dc, dc, hvv, _⟩ := own_all ho; subst hvv; have G10 := Lib.hid (G9.out.trans (hb.mono G9.out.size)); have Qc10 := Lib.hid (Pt.of_own ho rfl); have Qp10 := Lib.hid (Qp9.out.below hb); have Qa10 := Lib.hid (Qa9.out.below hb); have Qb10 := Lib.hid (Qb9.out.below hb); have Qm10 := Lib.hid (Qm9.out.below hb); clear ho hb)
              have HPA := Lib.hid (Parts.new w10 22 (Pts.cons Qp10.out (Pts.cons Qa10.out (Pts.cons Qb10.out (Pts.cons Qm10.out (Pts.cons Qc10.out Pts.nil))))))
              have G11 := Lib.hid (G10.out.alloc G10.out.size (.cells #[.slice D0 pq.length d0, .slice Da 32 da, .slice Db tx.length db, .slice (some ⟨bm, 0, none⟩) 2 2, .slice Dc (varB os.length).length dc] 22))
              have HJ := Lib.hid (fjoin_any _ _ 5 _ HPA.out (by simp) (by rw [HXB.out]; simp only [List.length_append]; omega))
              refine anyC_one 18 G10.out (by kernel_rfl) rfl ?_
              go_wp2_with fail
              refine anyC_one 19 G11.out (by kernel_rfl) rfl ?_
              go_wp2_with (go_at_call 41; refine HJ.out.mono ?_; rintro en w12 ⟨v12, rfl, ho, hb⟩; have G12 := Lib.hid (G11.out.trans (hb.mono G11.out.size)); have V12 := Lib.hid (Pt.of_own ho rfl); clear ho hb)
              refine anyC_one 20 G12.out (by kernel_rfl) rfl ?_
              go_wp2_with fail
              refine anyC_done G12.out (by kernel_rfl) ?_ _
              go_wp2_with fail
              go_meet
              case rel =>
                rw [HXB.out] at V12
                exact ⟨V12, G12⟩
            · go_wp2_with (go_at_call 44; refine (HVAR.out _).mono ?_; rintro en w5 ⟨v5, rfl, ho, hb⟩; obtain ⟨Dc, dc, hvv, _⟩ := own_all ho; subst hvv; have G5 := Lib.hid (G4.out.trans (hb.mono G4.out.size)); have Qc5 := Lib.hid (Pt.of_own ho rfl); have Qp5 := Lib.hid (Qp4.out.below hb); have Qa5 := Lib.hid (Qa4.out.below hb); have Qb5 := Lib.hid (Qb4.out.below hb); clear ho hb)
              refine anyC_one 12 G5.out (by kernel_rfl) rfl ?_
              go_wp2_with fail
              have hb := (Below.refl w5.heap.size w5).alloc (Nat.le_refl _) (.cells #[.int .u8 (a8.toNat : Int), .int .u8 (m8.toNat : Int)] 5)
              have G6 := Lib.hid (G5.out.trans (hb.mono G5.out.size))
              have Qm6 := Lib.hid (Pt.two w5 a8 m8 5)
              have Qp6 := Lib.hid (Qp5.out.below hb)
              have Qa6 := Lib.hid (Qa5.out.below hb)
              have Qb6 := Lib.hid (Qb5.out.below hb)
              have Qc6 := Lib.hid (Qc5.out.below hb)
              clear hb
              generalize w5.alloc (.cells #[.int .u8 (a8.toNat : Int), .int .u8 (m8.toNat : Int)] 5) = w6 at *
              obtain ⟨bm, hbm⟩ : ∃ bm, w5.heap.size = bm := ⟨_, rfl⟩
              rw [hbm] at Qm6 ⊢
              clear hbm
              have HPA := Lib.hid (Parts.new w6 22 (Pts.cons Qp6.out (Pts.cons Qa6.out (Pts.cons Qb6.out (Pts.cons Qm6.out (Pts.cons Qc6.out Pts.nil))))))
              have G7 := Lib.hid (G6.out.alloc G6.out.size (.cells #[.slice D0 pq.length d0, .slice Da 32 da, .slice Db tx.length db, .slice (some ⟨bm, 0, none⟩) 2 2, .slice Dc (varB os.length).length dc] 22))
              have HJ := Lib.hid (fjoin_any _ _ 5 _ HPA.out (by simp) (by rw [HXB.out]; simp only [List.length_append]; omega))
              refine anyC_one 18 G6.out (by kernel_rfl) rfl ?_
              go_wp2_with fail
              refine anyC_one 19 G7.out (by kernel_rfl) rfl ?_
              go_wp2_with (go_at_call 41; refine HJ.out.mono ?_; rintro en w8 ⟨v8, rfl, ho, hb⟩; have G8 := Lib.hid (G7.out.trans (hb.mono G7.out.size)); have V8 := Lib.hid (Pt.of_own ho rfl); clear ho hb)
              refine anyC_one 20 G8.out (by kernel_rfl) rfl ?_
              go_wp2_with fail
              refine anyC_done G8.out (by kernel_rfl) ?_ _
              go_wp2_with fail
              go_meet
              case rel =>
                rw [HXB.out] at V8
                exact ⟨V8, G8⟩
          · go_wp2_with fail
            have hb := (Below.refl w3.heap.size w3).alloc (Nat.le_refl _) (.cells #[.int .u8 (a8.toNat : Int), .int .u8 (m8.toNat : Int)] 5)
            have G13 := Lib.hid (G3.out.trans (hb.mono G3.out.size))
            have Qm13 := Lib.hid (Pt.two w3 a8 m8 5)
            have Qp13 := Lib.hid (Qp3.out.below hb)
            have Qa13 := Lib.hid (Qa3.out.below hb)
            clear hb
            generalize w3.alloc (.cells #[.int .u8 (a8.toNat : Int), .int .u8 (m8.toNat : Int)] 5) = w13 at *
            obtain ⟨bm, hbm⟩ : ∃ bm, w3.heap.size = bm := ⟨_, rfl⟩
            rw [hbm] at Qm13 ⊢
            clear hbm
            refine anyC_one 6 G13.out (by kernel_rfl) rfl ?_
            go_wp2_with (go_at_call 43; refine (HTXT.out _).mono ?_; rintro en w14 ⟨v14, rfl, ho, hb⟩; obtain ⟨Db, db, hvv, _⟩ := own_all ho; subst hvv; have G14 := Lib.hid (G13.out.trans (hb.mono G13.out.size)); have Qb14 := Lib.hid (Pt.of_own ho rfl); have Qp14 := Lib.hid (Qp13.out.below hb); have Qa14 := Lib.hid (Qa13.out.below hb); have Qm14 := Lib.hid (Qm13.out.below hb); clear ho hb)
            refine anyC_one 17 G14.out (by kernel_rfl) rfl ?_
            go_wp2_with (go_at_call 44; refine (HVAR.out _).mono ?_; rintro en w15 ⟨v15, rfl, ho, hb⟩; obtain ⟨Dc, dc, hvv, _⟩ := own_all ho; subst hvv; have G15 := Lib.hid (G14.out.trans (hb.mono G14.out.size)); have Qc15 := Lib.hid (Pt.of_own ho rfl); have Qp15 := Lib.hid (Qp14.out.below hb); have Qa15 := Lib.hid (Qa14.out.below hb); have Qm15 := Lib.hid (Qm14.out.below hb); have Qb15 := Lib.hid (Qb14.out.below hb); clear ho hb)
            have HPA := Lib.hid (Parts.new w15 22 (Pts.cons Qp15.out (Pts.cons Qa15.out (Pts.cons Qb15.out (Pts.cons Qm15.out (Pts.cons Qc15.out Pts.nil))))))
            have G16 := Lib.hid (G15.out.alloc G15.out.size (.cells #[.slice D0 pq.length d0, .slice Da 32 da, .slice Db tx.length db, .slice (some ⟨bm, 0, none⟩) 2 2, .slice Dc (varB os.length).length dc] 22))
            have HJ := Lib.hid (fjoin_any _ _ 5 _ HPA.out (by simp) (by rw [HXB.out]; simp only [List.length_append]; omega))
            refine anyC_one 18 G15.out (by kernel_rfl) rfl ?_
            go_wp2_with fail
            refine anyC_one 19 G16.out (by kernel_rfl) rfl ?_
            go_wp2_with (go_at_call 41; refine HJ.out.mono ?_; rintro en w17 ⟨v17, rfl, ho, hb⟩; have G17 := Lib.hid (G16.out.trans (hb.mono G16.out.size)); have V17 := Lib.hid (Pt.of_own ho rfl); clear ho hb)
            refine anyC_one 20 G17.out (by kernel_rfl) rfl ?_
            go_wp2_with fail
            refine anyC_done G17.out (by kernel_rfl) ?_ _
            go_wp2_with fail
            go_meet
            case rel =>
              rw [HXB.out] at V17
              exact ⟨V17, G17⟩
        · go_wp2_with fail
          have hb := (Below.refl w2.heap.size w2).alloc (Nat.le_refl _) (.cells #[.int .u8 (a8.toNat : Int), .int .u8 (m8.toNat : Int)] 5)
          have G18 := Lib.hid (G2.out.trans (hb.mono G2.out.size))
          have Qm18 := Lib.hid (Pt.two w2 a8 m8 5)
          have Qp18 := Lib.hid (Qp2.out.below hb)
          clear hb
          generalize w2.alloc (.cells #[.int .u8 (a8.toNat : Int), .int .u8 (m8.toNat : Int)] 5) = w18 at *
          obtain ⟨bm, hbm⟩ : ∃ bm, w2.heap.size = bm := ⟨_, rfl⟩
          rw [hbm] at Qm18 ⊢
          clear hbm
          refine anyC_one 3 G18.out (by kernel_rfl) rfl ?_
          go_wp2_with (go_at_call 42; refine (HRAW.out _).mono ?_; rintro en w19 ⟨v19, rfl, ho, hb⟩; obtain ⟨Da, da, hvv, _⟩ := own_all ho; subst hvv; have G19 := Lib.hid (G18.out.trans (hb.mono G18.out.size)); have Qa19 := Lib.hid (Pt.of_own ho hid.symm); have Qp19 := Lib.hid (Qp18.out.below hb); have Qm19 := Lib.hid (Qm18.out.below hb); clear ho hb)
          refine anyC_one 6 G19.out (by kernel_rfl) rfl ?_
          go_wp2_with (go_at_call 43; refine (HTXT.out _).mono ?_; rintro en w20 ⟨v20, rfl, ho, hb⟩; obtain ⟨Db, db, hvv, _⟩ := own_all ho; subst hvv; have G20 := Lib.hid (G19.out.trans (hb.mono G19.out.size)); have Qb20 := Lib.hid (Pt.of_own ho rfl); have Qp20 := Lib.hid (Qp19.out.below hb); have Qm20 := Lib.hid (Qm19.out.below hb); have Qa20 := Lib.hid (Qa19.out.below hb); clear ho hb)
          refine anyC_one 17 G20.out (by kernel_rfl) rfl ?_
          go_wp2_with (go_at_call 44; refine (HVAR.out _).mono ?_; rintro en w21 ⟨v21, rfl, ho, hb⟩; obtain ⟨Dc, dc, hvv, _⟩ := own_all ho; subst hvv; have G21 := Lib.hid (G20.out.trans (hb.mono G20.out.size)); have Qc21 := Lib.hid (Pt.of_own ho rfl); have Qp21 := Lib.hid (Qp20.out.below hb); have Qm21 := Lib.hid (Qm20.out.below hb); have Qa21 := Lib.hid (Qa20.out.below hb); have Qb21 := Lib.hid (Qb20.out.below hb); clear ho hb)
          have HPA := Lib.hid (Parts.new w21 22 (Pts.cons Qp21.out (Pts.cons Qa21.out (Pts.cons Qb21.out (Pts.cons Qm21.out (Pts.cons Qc21.out Pts.nil))))))
          have G22 := Lib.hid (G21.out.alloc G21.out.size (.cells #[.slice D0 pq.length d0, .slice Da 32 da, .slice Db tx.length db, .slice (some ⟨bm, 0, none⟩) 2 2, .slice Dc (varB os.length).length dc] 22))
          have HJ := Lib.hid (fjoin_any _ _ 5 _ HPA.out (by simp) (by rw [HXB.out]; simp only [List.length_append]; omega))
          refine anyC_one 18 G21.out (by kernel_rfl) rfl ?_
          go_wp2_with fail
          refine anyC_one 19 G22.out (by kernel_rfl) rfl ?_
          go_wp2_with (go_at_call 41; refine HJ.out.mono ?_; rintro en w23 ⟨v23, rfl, ho, hb⟩; have G23 := Lib.hid (G22.out.trans (hb.mono G22.out.size)); have V23 := Lib.hid (Pt.of_own ho rfl); clear ho hb)
          refine anyC_one 20 G23.out (by kernel_rfl) rfl ?_
          go_wp2_with fail
          refine anyC_done G23.out (by kernel_rfl) ?_ _
          go_wp2_with fail
          go_meet
          case rel =>
            rw [HXB.out] at V23
            exact ⟨V23, G23⟩
      obtain ⟨hpt, hbe⟩ := hcut
      have B3 := Lib.hid (B1.out.trans (hbe.out.mono B1.out.size))
      have A3 := Lib.hid (Y1.out.below hbe.out hX)
      have O3 := Lib.hid (OV2.out.below hbe.out)
      clear hv1 hv2 hv3 hv4
      go_wp2_with fail
      refine fby_in W wc X id path (a8.toNat : Int) de mo co os A' c' hid HF6.out f5 A3 O3 u5 (pq ++ rh) (by rw [List.length_append]; omega) hpt B3 _ _ _ _ _ _ _ _ _ _ _ _ _ _ _ _ _ _ _ _ _ _ _ _ _ _ _ _ _ _ _ _ _ _ _ _ _ _ _ _ _ _ _ _ _ _ _ _ _ _ _ _ _ _ _ _ _ _ _ _ _ _ _ _ _ _ _ _ _ _ _ _ _ _ _ _ _ _ _ _ _ _ _ _ _ _ _ _ _ _ _ _ _ _ _ (fun c a o v w h => hpan c a o v w h) ?_
      refine Lib.hid ?_
      intro v W' hv hb y9 y10 y70 y71 y72 y73 y74 y75 y76 y77 y78 y79 y80 y81 y82 y83 y84 y85 y86 y87 y88 y89 y90 y91 y92 y93 y94
      have hv9 : Pt W' v (pre ++ ((ms.map (·.r)).take (k + 1)).flatMap lotB) := by rwa [HPQ.out, ← HLR.out, ← HNX.out] at hv
      have HV9 := Lib.hid hv9
      have HB9 := Lib.hid hb
      clear hv hb hv9
      go_wp2_with fail
      exact ⟨⟨k + 1, by omega, by go_num, HV9, HB9⟩, by simp [intOf]; omega⟩
    · have hke : k = ms.length := by omega
      subst hke
      rw [List.take_of_length_le (by rw [List.length_map]; exact Nat.le_refl _)] at hv
      have BB := Lib.hid (HB.out.trans (hbb.out.mono HB.out.size))
      go_wp2_with fail
      exact hexit.out u5 _ hv.out BB.out _ _ _ _ _ _ _ _ _ _ _ _ _ _ _ _ _ _ _ _ _ _ _ _ _ _ _ _ _ _ _ _ _ _ _ _ _ _ _ _ _ _ _ _ _ _ _ _ _ _ _ _ _ _ _ _ _ _ _ _ _ _ _ _ _ _ _ _ _ _ _ _ _ _ _
set_option maxRecDepth 100000 in
set_option maxHeartbeats 4000000 in
theorem fbytes_any (w : World) (A : Option Addr) (c : Nat) (ms : List Mot) (ho : Mv w A ms) (hs : ∀ m ∈ ms, m.r.small) (hn : ms.length ≤ 1000000) :
    Calls Tryd.prog 14 #[.slice A ms.length c] w (BtOut w (bytesP (ms.map (·.r)))) := by
  have HCK := Lib.hid (fcheck_any w A c ms ho hs (by omega))
  have HR : Hid (bytesP (ms.map (·.r)) = if checkP (ms.map (·.r)) ≠ 0 then ([], checkP (ms.map (·.r))) else (fileB (ms.map (·.r)), 0)) := Lib.hid rfl
  have hfit := fun h => check_fit (l := ms.map (·.r)) h (fun x hx => by
    obtain ⟨m, hm2, rfl⟩ := List.mem_map.1 hx
    exact ⟨(ho.ok m hm2).id, fun o ho2 => ((ho.ok m hm2).os o ho2).id⟩)
  rw [List.length_map] at hfit
  have HFIT := Lib.hid hfit
  have H := Lib.hid ho
  generalize hck : checkP (ms.map (·.r)) = ck at *
  clear hfit ho hck hs
  by_cases hz : ck = 0
  rotate_left
  · have HRR : Hid (bytesP (ms.map (·.r)) = ([], ck)) := Lib.hid (by rw [HR.out, if_pos hz])
    generalize bytesP (ms.map (·.r)) = R at *
    have hq : ((ck : Int) == 0) = false := beq_eq_false_iff_ne.2 (by omega)
    clear HFIT
    go_enter Tryd.func14, Tryd.ntmps14
    go_wp2_with (go_at_call 30; refine HCK.out.mono ?_; rintro e w1 ⟨rfl, hb1⟩; have B1 := Lib.hid hb1; clear hb1)
    go_ret2
    rw [HRR.out]
    exact ⟨none, 0, rfl, Rv.nil, fun _ => rfl, Nat.le_refl _, B1.out⟩
  subst hz
  obtain ⟨hl64, hft⟩ := HFIT.out rfl
  have HFT : Hid (∀ m ∈ ms, fitL m.r) := Lib.hid (fun m hm => hft _ (List.mem_map.2 ⟨m, hm, rfl⟩))
  have hrr : bytesP (ms.map (·.r)) = (bodyB (ms.map (·.r)) ++ shaOf (bodyB (ms.map (·.r))), 0) := by rw [HR.out, if_neg (fun h => h rfl)]; rfl
  have hbl : (bodyB (ms.map (·.r))).length ≤ 4480012 := by
    have := lots_le hft (by rw [List.length_map]; exact hl64) (ms.map (·.r)).length
    rw [List.take_length] at this
    rw [bodyB, List.length_append]
    have h2 : (headB (ms.map (·.r)).length).length = 12 := rfl
    omega
  have HBD : Hid (headB ms.length ++ (ms.map (·.r)).flatMap lotB = bodyB (ms.map (·.r))) := Lib.hid (by rw [bodyB, List.length_map])
  have HRR := Lib.hid hrr
  clear HR HFIT hft hrr
  generalize bytesP (ms.map (·.r)) = R at *
  generalize bodyB (ms.map (·.r)) = bd at *
  have hwv : IntKind.u64.wrap (ms.length : Int) = (ms.length : Int) := wraps_u64 _ (by omega) (by omega)
  have HB1 := Lib.hid (fun W => fbig_any W 1 4 (by omega) (by omega))
  have HB2 := Lib.hid (fun W => fbig_any W ms.length 4 (by omega) (by omega))
  go_enter Tryd.func14, Tryd.ntmps14
  go_upto_region 4 with (go_at_call 30; refine HCK.out.mono ?_; rintro e w1 ⟨rfl, hb1⟩; have B1 := Lib.hid hb1; clear hb1 HCK)
  have hcv := Lib.run_convert_bytes_const (P := Tryd.prog) w1 22 5 #[.int .u8 66, .int .u8 76, .int .u8 77, .int .u8 67] 4 4 Tryd.underlying22 Tryd.underlying5
  have hb2 := (Below.refl w1.heap.size w1).alloc (Nat.le_refl _) (.cells #[.int .u8 66, .int .u8 76, .int .u8 77, .int .u8 67] 5 (4, 5))
  have B2 := Lib.hid (B1.out.trans (hb2.mono B1.out.size))
  have QM2 : Hid (Pt (w1.alloc (.cells #[.int .u8 66, .int .u8 76, .int .u8 77, .int .u8 67] 5 (4, 5))) (.slice (some ⟨w1.heap.size, 0, none⟩) 4 4) magic) := Lib.hid ⟨some ⟨w1.heap.size, 0, none⟩, 4, rfl, (fun e => by cases e), by
    rw [World.size_alloc]
    exact new_rvf w1 (bys magic) 5 (4, 5)⟩
  clear hb2
  go_wp2_with fail
  clear hcv
  obtain ⟨bm, hbm⟩ : ∃ bm, w1.heap.size = bm := ⟨_, rfl⟩
  rw [hbm] at QM2 ⊢
  clear hbm
  generalize w1.alloc (.cells #[.int .u8 66, .int .u8 76, .int .u8 77, .int .u8 67] 5 (4, 5)) = w2 at *
  refine (HB1.out _).mono ?_
  rintro en w3 ⟨v3, rfl, ho, hb⟩
  obtain ⟨D3, d3, hvv, _⟩ := own_all ho
  subst hvv
  have B3 := Lib.hid (B2.out.trans (hb.mono B2.out.size))
  have Q33 := Lib.hid (Pt.of_own ho (by rw [beN_len]))
  have QM3 := Lib.hid (QM2.out.below hb)
  clear ho hb
  go_wp2_with fail
  refine (HB2.out _).mono ?_
  rintro en w4 ⟨v4, rfl, ho, hb⟩
  obtain ⟨D4, d4, hvv, _⟩ := own_all ho
  subst hvv
  have B4 := Lib.hid (B3.out.trans (hb.mono B3.out.size))
  have Q44 := Lib.hid (Pt.of_own ho (by rw [beN_len]))
  have Q34 := Lib.hid (Q33.out.below hb)
  have QM4 := Lib.hid (QM3.out.below hb)
  clear ho hb
  have hhd : [magic, beN 4 1, beN 4 ms.length].flatten = headB ms.length := by
    rw [← be4_eq, ← be4_eq]
    simp [headB, magic]
  have HHD := Lib.hid hhd
  have HPA := Lib.hid (Parts.new w4 22 (Pts.cons QM4.out (Pts.cons Q34.out (Pts.cons Q44.out Pts.nil))))
  have B5 := Lib.hid (B4.out.alloc B4.out.size (.cells #[.slice (some ⟨bm, 0, none⟩) 4 4, .slice D3 4 d3, .slice D4 4 d4] 22))
  have HJ := Lib.hid (fjoin_any _ _ 3 _ HPA.out (by simp) (by rw [hhd]; show (headB ms.length).length ≤ _; have : (headB ms.length).length = 12 := rfl; omega))
  clear hhd
  go_wp2_with (go_at_call 41; refine HJ.out.mono ?_; rintro en w6 ⟨v6, rfl, ho, hb⟩; have B6 := Lib.hid (B5.out.trans (hb.mono B5.out.size)); have V6 := Lib.hid (Pt.of_own ho rfl); clear ho hb)
  rw [HHD.out] at V6
  have hhl : (headB ms.length).length ≤ 1000 := by have : (headB ms.length).length = 12 := rfl; omega
  have HM6 := Lib.hid (H.out.below B6.out)
  refine fby_out w w6 A c ms HM6 HFT.out hl64 v6 (headB ms.length) hhl V6 B6 _ _ _ _ _ _ _ _ _ _ _ _ _ _ _ _ _ _ _ _ _ _ _ _ _ _ _ _ _ _ _ _ _ _ _ _ _ _ _ _ _ _ _ _ _ _ _ _ _ _ _ _ _ _ _ _ _ _ _ _ _ _ _ _ _ _ _ _ _ _ _ _ _ _ _ _ _ _ _ _ _ _ _ _ _ _ _ _ _ _ _ _ _ _ _ (fun _ _ o _ _ h => by cases o <;> exact h) ?_
  refine Lib.hid ?_
  intro v W' hv hb y6 y7 y8 y9 y10 y25 y26 y27 y28 y29 y30 y31 y32 y33 y34 y35 y36 y37 y38 y39 y40 y41 y42 y43 y44 y45 y46 y47 y48 y49 y50 y51 y52 y53 y54 y55 y56 y57 y58 y59 y60 y61 y62 y63 y64 y65 y66 y67 y68 y69 y70 y71 y72 y73 y74 y75 y76 y77 y78 y79 y80 y81 y82 y83 y84 y85 y86 y87 y88 y89 y90 y91 y92 y93 y94
  rw [HBD.out] at hv
  obtain ⟨D, d, rfl, hDn, hr⟩ := hv
  have BW := Lib.hid hb
  have HCL := Lib.hid (closed_any W' D d bd hr hDn (by omega))
  have hsl := shaOf_len bd
  clear hb hr hwv
  go_wp2_with (go_at_call 45; refine HCL.out.mono ?_; rintro en w8 ⟨v8, rfl, ho, hb⟩; obtain ⟨D8, d8, hvv, h8, h9, hrv, _⟩ := own_all ho; subst hvv; have B8 := Lib.hid (BW.out.trans (hb.mono BW.out.size)); have RV8 := Lib.hid hrv; clear ho hb hrv)
  go_ret2
  have hrl : (bd ++ shaOf bd).length = bd.length + 32 := by rw [List.length_append, hsl]
  rw [HRR.out]
  exact ⟨D8, d8, by show _ = Ending.returned (.tuple #[.slice D8 (bd ++ shaOf bd).length d8, .int .i64 ((0 : Nat) : Int)]); rw [hrl]; rfl, RV8.out, h8, by show (bd ++ shaOf bd).length ≤ d8; omega, B8.out⟩
end Go.Proofs.YthhmamkphcgocaaDoor

/- sleuthlaw33.CacheBytes, walked. -/
import Derived.Test.YthhmamkphcgocaaDoorFby
import Derived.Test.YthhmamkphcgocaaDoorFin
import Derived.Test.YthhmamkphcgocaaDoorWor
import Derived.Test.YthhmamkphcgocaaDoorPla
import Derived.Deep.Cut
namespace Go.Proofs.YthhmamkphcgocaaDoor
open Go.RowKit

theorem few_of2 {l : List Lot} (h : few l = true) : l.length ≤ 80 ∧ ∀ r ∈ l, r.small ∧ r.os.length ≤ 500 := by
  unfold few at h
  simp only [Bool.and_eq_true, decide_eq_true_eq, List.all_eq_true] at h
  refine ⟨h.1, fun r hr => ?_⟩
  have h2 := h.2 r hr
  unfold fewL at h2
  simp only [Bool.and_eq_true, decide_eq_true_eq, List.all_eq_true] at h2
  refine ⟨⟨by omega, fun o ho => ?_, by omega⟩, h2.1⟩
  have h3 := h2.2.2 o ho
  unfold fewO at h3
  simp only [decide_eq_true_eq] at h3
  omega
theorem keyE_self (r : Lot) : keyE r r = true := by simp [keyE]
theorem first_like (ms : List Mot) (n : Lot) (k : Nat) (h : keyE (ms.getD k default).r n = true) : ∃ a, a ≤ k ∧ keyE (ms.getD a default).r n = true ∧ ∀ j, j < a → keyE (ms.getD j default).r n = false := by
  induction k using Nat.strongRecOn with
  | _ k ih =>
    by_cases hx : ∃ j, j < k ∧ keyE (ms.getD j default).r n = true
    · obtain ⟨j, hj, hy⟩ := hx
      obtain ⟨a, h1, h2, h3⟩ := ih j hj hy
      exact ⟨a, by omega, h2, h3⟩
    · refine ⟨k, Nat.le_refl _, h, fun j hj => ?_⟩
      cases hq : keyE (ms.getD j default).r n with
      | false => rfl
      | true => exact absurd ⟨j, hj, hq⟩ hx
theorem keyE_cut (a b : Lot) : keyE a b = (decide (a.id = b.id) && (decide (a.path = b.path) && optE a.algo b.algo a.de b.de a.mo b.mo a.co b.co)) := rfl
theorem Mv.copy3 {W W2 : World} {A : Option Addr} {ms : List Mot} {B : Nat} {e : TypeId} {u : Value} {n : Nat} (h : Mv W A ms) (hb : Below W.heap.size W W2) (ho : W2.ownsRow B e 38 u n (mots ms)) : ∃ D d, u = .slice D n d ∧ Mv W2 D ms := by
  obtain ⟨D, d, rfl, _, _, hr, _⟩ := own_all ho
  exact ⟨D, d, rfl, hr, h.ok, fun m hm => (h.os m hm).below hb⟩
noncomputable def cby1 : Code := (Tryd.f5.body.bind firstLoop).getD .skip
noncomputable def cby2 : Code := (firstLoop cby1).getD .skip
attribute [local go_sem ↓] load42_eq ldT47 ldT73 ldT52 ldT44 ldT71 ldT94
attribute [local go_sem] bs_toList
set_option maxRecDepth 100000 in
set_option maxHeartbeats 2000000 in
theorem cby_in (W : World) (ad : Addr) (c : Nat) (ms : List Mot) (k at_ : Nat) (n : Mot) (H4 : Hid (Mv W (some ad) ms)) (hn1 : ms.length ≤ 1000) (hlt : k < ms.length) (hal : at_ < ms.length) (had : ad.block < W.heap.size)
    (HCK : Hid (CellsAt W (ad.add (k * 38)) n.cells)) (hid : n.r.id.length = 32) (HYES : Hid (keyE (ms.getD at_ default).r n.r = true)) (HNO : Hid (∀ j, j < at_ → keyE (ms.getD j default).r n.r = false)) (Q0 : Exit → Act → World → Prop)
    (z1 z2 z3 z4 z5 z6 z9 z10 z11 z12 z13 z14 z15 z16 z17 z18 z19 z20 z21 z22 z23 z24 z25 z26 z27 z28 z29 z30 z31 z32 z33 z34 z35 z36 z37 z38 z39 z40 z41 z42 z43 z44 z45 z46 z47 z48 z49 z50 z51 z52 z53 z54 z55 z56 z57 z58 z59 z60 z61 z62 z63 z64 z65 z66 z67 z68 z69 z70 z71 z72 z73 z74 z75 z76 z77 z78 z79 z80 z81 z82 z83 z84 z85 z86 z87 z88 z89 z90 z91 z92 z93 z94 z95 z96 z97 z98 z99 z100 z101 z102 z103 z104 z105 z106 z107 z108 z109 z110 z111 z112 : Value)
    (hexit : Hid (∀ (W' : World), Below W.heap.size W W' → ∀ y31 y32 y33 y34 y35 y36 y37 y38 y39 y40 y41 y42 y43 y44 y45 y46 y47 y48 y49 y50 y51 y52 y53 y54 y55 y56 y57 y58 y59 y60 y61 y62 y63 y64 y65 y66 y67 y68 y69 : Value, Q0 (.exit 2) ⟨List.toArray ((.slice (some ad) ms.length c) :: z1 :: z2 :: z3 :: z4 :: z5 :: z6 :: (.int .i64 (k : Int)) :: (.int .i64 (at_ : Int)) :: z9 :: z10 :: z11 :: z12 :: z13 :: z14 :: z15 :: z16 :: z17 :: z18 :: z19 :: z20 :: z21 :: z22 :: z23 :: z24 :: z25 :: z26 :: z27 :: z28 :: z29 :: z30 :: y31 :: y32 :: y33 :: y34 :: y35 :: y36 :: y37 :: y38 :: y39 :: y40 :: y41 :: y42 :: y43 :: y44 :: y45 :: y46 :: y47 :: y48 :: y49 :: y50 :: y51 :: y52 :: y53 :: y54 :: y55 :: y56 :: y57 :: y58 :: y59 :: y60 :: y61 :: y62 :: y63 :: y64 :: y65 :: y66 :: y67 :: y68 :: y69 :: z70 :: z71 :: z72 :: z73 :: z74 :: z75 :: z76 :: z77 :: z78 :: z79 :: z80 :: z81 :: z82 :: z83 :: z84 :: z85 :: z86 :: z87 :: z88 :: z89 :: z90 :: z91 :: z92 :: z93 :: z94 :: z95 :: z96 :: z97 :: z98 :: z99 :: z100 :: z101 :: z102 :: z103 :: z104 :: z105 :: z106 :: z107 :: z108 :: z109 :: z110 :: z111 :: z112 :: []), []⟩ W')) :
    ∀ (wr : World), Hid (Below W.heap.size W wr) → Code.wp Tryd.prog (Code.loop cby2) Q0 ⟨List.toArray ((.slice (some ad) ms.length c) :: z1 :: z2 :: z3 :: z4 :: z5 :: z6 :: (.int .i64 (k : Int)) :: (.int .i64 (0 : Int)) :: z9 :: z10 :: z11 :: z12 :: z13 :: z14 :: z15 :: z16 :: z17 :: z18 :: z19 :: z20 :: z21 :: z22 :: z23 :: z24 :: z25 :: z26 :: z27 :: z28 :: z29 :: z30 :: z31 :: z32 :: z33 :: z34 :: z35 :: z36 :: z37 :: z38 :: z39 :: z40 :: z41 :: z42 :: z43 :: z44 :: z45 :: z46 :: z47 :: z48 :: z49 :: z50 :: z51 :: z52 :: z53 :: z54 :: z55 :: z56 :: z57 :: z58 :: z59 :: z60 :: z61 :: z62 :: z63 :: z64 :: z65 :: z66 :: z67 :: z68 :: z69 :: z70 :: z71 :: z72 :: z73 :: z74 :: z75 :: z76 :: z77 :: z78 :: z79 :: z80 :: z81 :: z82 :: z83 :: z84 :: z85 :: z86 :: z87 :: z88 :: z89 :: z90 :: z91 :: z92 :: z93 :: z94 :: z95 :: z96 :: z97 :: z98 :: z99 :: z100 :: z101 :: z102 :: z103 :: z104 :: z105 :: z106 :: z107 :: z108 :: z109 :: z110 :: z111 :: z112 :: []), []⟩ wr := by
  intro wr HBO
  conv => arg 2; arg 1; whnf
  have had2 : (ad.add (k * 38)).block < W.heap.size := by rw [block_add]; exact had
  go_loopw [8] (fun jv wr => ∃ j : Nat, j ≤ at_ ∧ jv = .int .i64 j ∧ Hid (Below W.heap.size W wr)) (fun jv _ => at_ + 1 - (intOf jv).toNat)
  case atStart => exact ⟨0, Nat.zero_le _, rfl, HBO⟩
  case round =>
    clear HBO
    obtain ⟨j, hj, rfl, hb⟩ := hrel
    have hjl : j < ms.length := by omega
    obtain ⟨ad2, had3, _, hcj, hokj, _⟩ := H4.out.at_ hjl
    obtain rfl := Option.some.inj had3
    have hidj := hokj.id
    have had4 : (ad.add (j * 38)).block < W.heap.size := by rw [block_add]; exact had
    have HKE : Hid (j = at_ → keyE (ms.getD j default).r n.r = true) := Lib.hid (fun e => by rw [e]; exact HYES.out)
    have HKN : Hid (j < at_ → keyE (ms.getD j default).r n.r = false) := Lib.hid (HNO.out j)
    generalize ms.getD j default = o at *
    have B5 : Hid (Below W.heap.size W wr) := hb
    have q1 : ∀ W : Aft wr, (load42 (ad.add (j * 38))).run Tryd.prog W.W = .ok (.agg (bys o.r.id).toArray) W.W := fun W => ldMid (hcj.later (B5.out.trans (W.h.mono B5.out.size)) had4) hidj
    have q2 : ∀ W : Aft wr, (load42 (ad.add (k * 38))).run Tryd.prog W.W = .ok (.agg (bys n.r.id).toArray) W.W := fun W => ldMid (HCK.out.later (B5.out.trans (W.h.mono B5.out.size)) had2) hid
    have q3 : ∀ W : Aft wr, W.W.cell? ⟨(ad.add (j * 38)).block, (ad.add (j * 38)).off + 32, none⟩ = some (.string (bs o.r.path)) := fun W => mPath (hcj.later (B5.out.trans (W.h.mono B5.out.size)) had4) hidj
    have q4 : ∀ W : Aft wr, W.W.cell? ⟨(ad.add (k * 38)).block, (ad.add (k * 38)).off + 32, none⟩ = some (.string (bs n.r.path)) := fun W => mPath (HCK.out.later (B5.out.trans (W.h.mono B5.out.size)) had2) hid
    have q5 : ∀ W : Aft wr, (ldT 44 ⟨(ad.add (j * 38)).block, (ad.add (j * 38)).off + 33, none⟩).run Tryd.prog W.W = .ok (.agg #[.int .i64 o.r.algo, .bool o.r.de, .bool o.r.mo, .bool o.r.co]) W.W := fun W => ldM44 (hcj.later (B5.out.trans (W.h.mono B5.out.size)) had4) hidj
    have q6 : ∀ W : Aft wr, (ldT 44 ⟨(ad.add (k * 38)).block, (ad.add (k * 38)).off + 33, none⟩).run Tryd.prog W.W = .ok (.agg #[.int .i64 n.r.algo, .bool n.r.de, .bool n.r.mo, .bool n.r.co]) W.W := fun W => ldM44 (HCK.out.later (B5.out.trans (W.h.mono B5.out.size)) had2) hid
    have e1 := fun W => run_neq_id o.r.id n.r.id hidj hid W
    have e3 := fun W => run_neq_opt (.inl rfl) o.r.algo n.r.algo o.r.de n.r.de o.r.mo n.r.mo o.r.co n.r.co W
    have HKC := Lib.hid (keyE_cut o.r n.r)
    generalize decide (o.r.id = n.r.id) = d1 at *
    generalize optE o.r.algo n.r.algo o.r.de n.r.de o.r.mo n.r.mo o.r.co n.r.co = d3 at *
    clear hcj hokj hb
    by_cases hja : j = at_
    · have hky := HKE.out hja
      subst hja
      rw [HKC.out] at hky
      simp only [Bool.and_eq_true, decide_eq_true_eq] at hky
      obtain ⟨rfl, hp, rfl⟩ := hky
      have hp1 : (o.r.path == n.r.path) = true := beq_iff_eq.2 hp
      have hp2 : (o.r.path != n.r.path) = false := by rw [bne, hp1]; rfl
      clear hp HKC HKE HKN
      go_wp2_with fail
      refine wp_region_aft (by kernel_rfl) (by kernel_rfl) ?_
      repeat (first | go_big_quiet_step (fail))
      refine wpQuiet_nil ?_
      rintro _ ⟨W1, rfl⟩
      have B6 := Lib.hid (B5.out.trans (W1.h.mono B5.out.size))
      clear q1 q2 q3 q4 q5 q6 e1 e3 B5
      go_wp2_with fail
      exact hexit.out _ B6.out _ _ _ _ _ _ _ _ _ _ _ _ _ _ _ _ _ _ _ _ _ _ _ _ _ _ _ _ _ _ _ _ _ _ _ _ _ _ _
    · have hky := HKN.out (by omega)
      rw [HKC.out] at hky
      have hjn : j < at_ := by omega
      clear HKC HKE HKN
      by_cases hd1 : d1 = true
      · subst hd1
        by_cases hp : o.r.path = n.r.path
        · obtain rfl : d3 = false := by simpa [hp] using hky
          have hp1 : (o.r.path == n.r.path) = true := beq_iff_eq.2 hp
          have hp2 : (o.r.path != n.r.path) = false := by rw [bne, hp1]; rfl
          clear hp hky
          go_wp2_with fail
          refine wp_region_aft (by kernel_rfl) (by kernel_rfl) ?_
          repeat (first | go_big_quiet_step (fail))
          refine wpQuiet_nil ?_
          rintro _ ⟨W1, rfl⟩
          have B6 := Lib.hid (B5.out.trans (W1.h.mono B5.out.size))
          clear q1 q2 q3 q4 q5 q6 e1 e3 B5
          go_wp2_with fail
          exact ⟨⟨j + 1, by omega, by go_num, B6⟩, by simp [intOf]; omega⟩
        · have hp1 : (o.r.path == n.r.path) = false := beq_eq_false_iff_ne.2 hp
          have hp2 : (o.r.path != n.r.path) = true := by rw [bne, hp1]; rfl
          clear hp hky
          go_wp2_with fail
          refine wp_region_aft (by kernel_rfl) (by kernel_rfl) ?_
          repeat (first | go_big_quiet_step (fail))
          refine wpQuiet_nil ?_
          rintro _ ⟨W1, rfl⟩
          have B6 := Lib.hid (B5.out.trans (W1.h.mono B5.out.size))
          clear q1 q2 q3 q4 q5 q6 e1 e3 B5
          go_wp2_with fail
          exact ⟨⟨j + 1, by omega, by go_num, B6⟩, by simp [intOf]; omega⟩
      · obtain rfl : d1 = false := by simpa using hd1
        clear hd1 hky
        go_wp2_with fail
        refine wp_region_aft (by kernel_rfl) (by kernel_rfl) ?_
        repeat (first | go_big_quiet_step (fail))
        refine wpQuiet_nil ?_
        rintro _ ⟨W1, rfl⟩
        have B6 := Lib.hid (B5.out.trans (W1.h.mono B5.out.size))
        clear q1 q2 q3 q4 q5 q6 e1 e3 B5
        go_wp2_with fail
        exact ⟨⟨j + 1, by omega, by go_num, B6⟩, by simp [intOf]; omega⟩
set_option maxRecDepth 100000 in
set_option maxHeartbeats 2000000 in
theorem cby_out (w4 : World) (A : Option Addr) (c : Nat) (ms : List Mot) (H4 : Hid (Mv w4 A ms)) (hn1 : ms.length ≤ 80) (HSM : Hid (∀ m ∈ ms, m.r.os.length ≤ 500)) (Q0 : Exit → Act → World → Prop)
    (z1 z2 z3 z4 z5 z6 z8 z9 z10 z11 z12 z13 z14 z15 z16 z17 z18 z19 z20 z21 z22 z23 z24 z25 z26 z27 z28 z29 z30 z31 z32 z33 z34 z35 z36 z37 z38 z39 z40 z41 z42 z43 z44 z45 z46 z47 z48 z49 z50 z51 z52 z53 z54 z55 z56 z57 z58 z59 z60 z61 z62 z63 z64 z65 z66 z67 z68 z69 z70 z71 z72 z73 z74 z75 z76 z77 z78 z79 z80 z81 z82 z83 z84 z85 z86 z87 z88 z89 z90 z91 z92 z93 z94 z95 z96 z97 z98 z99 z100 z101 z102 z103 z104 z105 z106 z107 z108 z109 z110 z111 z112 : Value)
    (hpan : ∀ c a o v w, Q0 (.panic c) (Act.put a o v) w → Q0 (.panic c) a w)
    (hexit : Hid (∀ (W' : World), Below w4.heap.size w4 W' → ∀ y2 y7 y8 y9 y10 y25 y26 y27 y28 y29 y30 y31 y32 y33 y34 y35 y36 y37 y38 y39 y40 y41 y42 y43 y44 y45 y46 y47 y48 y49 y50 y51 y52 y53 y54 y55 y56 y57 y58 y59 y60 y61 y62 y63 y64 y65 y66 y67 y68 y69 y70 y71 y72 y73 y74 y75 y76 y77 y78 y79 y80 y81 y82 y83 y84 y85 y86 y87 y88 y89 y90 y91 y92 y93 y94 y95 y96 y97 y98 y99 y100 y101 : Value, Q0 (.exit 0) ⟨List.toArray ((.slice A ms.length c) :: z1 :: y2 :: z3 :: z4 :: z5 :: z6 :: y7 :: y8 :: y9 :: y10 :: z11 :: z12 :: z13 :: z14 :: z15 :: z16 :: z17 :: z18 :: z19 :: z20 :: z21 :: z22 :: z23 :: z24 :: y25 :: y26 :: y27 :: y28 :: y29 :: y30 :: y31 :: y32 :: y33 :: y34 :: y35 :: y36 :: y37 :: y38 :: y39 :: y40 :: y41 :: y42 :: y43 :: y44 :: y45 :: y46 :: y47 :: y48 :: y49 :: y50 :: y51 :: y52 :: y53 :: y54 :: y55 :: y56 :: y57 :: y58 :: y59 :: y60 :: y61 :: y62 :: y63 :: y64 :: y65 :: y66 :: y67 :: y68 :: y69 :: y70 :: y71 :: y72 :: y73 :: y74 :: y75 :: y76 :: y77 :: y78 :: y79 :: y80 :: y81 :: y82 :: y83 :: y84 :: y85 :: y86 :: y87 :: y88 :: y89 :: y90 :: y91 :: y92 :: y93 :: y94 :: y95 :: y96 :: y97 :: y98 :: y99 :: y100 :: y101 :: z102 :: z103 :: z104 :: z105 :: z106 :: z107 :: z108 :: z109 :: z110 :: z111 :: z112 :: []), []⟩ W')) :
    Code.wp Tryd.prog (Code.loop cby1) Q0 ⟨List.toArray ((.slice A ms.length c) :: z1 :: z2 :: z3 :: z4 :: z5 :: z6 :: (.int .i64 (0 : Int)) :: z8 :: z9 :: z10 :: z11 :: z12 :: z13 :: z14 :: z15 :: z16 :: z17 :: z18 :: z19 :: z20 :: z21 :: z22 :: z23 :: z24 :: z25 :: z26 :: z27 :: z28 :: z29 :: z30 :: z31 :: z32 :: z33 :: z34 :: z35 :: z36 :: z37 :: z38 :: z39 :: z40 :: z41 :: z42 :: z43 :: z44 :: z45 :: z46 :: z47 :: z48 :: z49 :: z50 :: z51 :: z52 :: z53 :: z54 :: z55 :: z56 :: z57 :: z58 :: z59 :: z60 :: z61 :: z62 :: z63 :: z64 :: z65 :: z66 :: z67 :: z68 :: z69 :: z70 :: z71 :: z72 :: z73 :: z74 :: z75 :: z76 :: z77 :: z78 :: z79 :: z80 :: z81 :: z82 :: z83 :: z84 :: z85 :: z86 :: z87 :: z88 :: z89 :: z90 :: z91 :: z92 :: z93 :: z94 :: z95 :: z96 :: z97 :: z98 :: z99 :: z100 :: z101 :: z102 :: z103 :: z104 :: z105 :: z106 :: z107 :: z108 :: z109 :: z110 :: z111 :: z112 :: []), []⟩ w4 := by
  conv => arg 2; arg 1; whnf
  go_loopw [7] (fun kv wr => ∃ k : Nat, k ≤ ms.length ∧ kv = .int .i64 k ∧ Hid (Below w4.heap.size w4 wr)) (fun kv _ => ms.length - (intOf kv).toNat)
  case atStart => exact ⟨0, Nat.zero_le _, rfl, Lib.hid (Below.refl _ _)⟩
  case round =>
    obtain ⟨k, hk, rfl, hb⟩ := hrel
    by_cases hlt : k < ms.length
    · obtain ⟨ad, rfl, had, hck, hok, _⟩ := H4.out.at_ hlt
      obtain ⟨at_, hak, hyes, hno⟩ := first_like ms (ms.getD k default).r k (keyE_self _)
      have HYES := Lib.hid hyes
      have HNO := Lib.hid hno
      have hid := hok.id
      have hal : at_ < ms.length := by omega
      have HCK := Lib.hid hck
      obtain ⟨n, hn2⟩ : ∃ n, ms.getD k default = n := ⟨_, rfl⟩
      rw [hn2] at hid HCK HYES HNO
      clear hyes hno hck hok hn2
      go_wp2_with fail
      refine cby_in w4 ad c ms k at_ n H4 (by omega) hlt hal had HCK hid HYES HNO _ _ _ _ _ _ _ _ _ _ _ _ _ _ _ _ _ _ _ _ _ _ _ _ _ _ _ _ _ _ _ _ _ _ _ _ _ _ _ _ _ _ _ _ _ _ _ _ _ _ _ _ _ _ _ _ _ _ _ _ _ _ _ _ _ _ _ _ _ _ _ _ _ _ _ _ _ _ _ _ _ _ _ _ _ _ _ _ _ _ _ _ _ _ _ _ _ _ _ _ _ _ _ _ _ _ _ _ _ _ _ ?_ _ hb
      refine Lib.hid ?_
      intro w6 hb6 y31 y32 y33 y34 y35 y36 y37 y38 y39 y40 y41 y42 y43 y44 y45 y46 y47 y48 y49 y50 y51 y52 y53 y54 y55 y56 y57 y58 y59 y60 y61 y62 y63 y64 y65 y66 y67 y68 y69
      have B6 := Lib.hid hb6
      clear hb6 hb
      have HOS := Lib.hid (fun m hm2 => Nat.le_trans (HSM.out m hm2) (show 500 ≤ 1000000000 by omega))
      have M6 := Lib.hid (H4.out.below B6.out)
      have hs6 := B6.out.size
      have hd6 : (ad.add (k * 38)).block < w6.heap.size := by rw [block_add]; omega
      have hct := HCK.out.later B6.out (by rw [block_add]; exact had)
      have r1 : ∀ W, Below w6.heap.size w6 W → (load42 (ad.add (k * 38))).run Tryd.prog W = .ok (.agg (bys n.r.id).toArray) W := fun W hW => ldMid (hct.later hW hd6) hid
      have r2 : ∀ W, Below w6.heap.size w6 W → W.cell? ⟨(ad.add (k * 38)).block, (ad.add (k * 38)).off + 32, none⟩ = some (.string (bs n.r.path)) := fun W hW => mPath (hct.later hW hd6) hid
      have r3 : ∀ W, Below w6.heap.size w6 W → (ldT 44 ⟨(ad.add (k * 38)).block, (ad.add (k * 38)).off + 33, none⟩).run Tryd.prog W = .ok (.agg #[.int .i64 n.r.algo, .bool n.r.de, .bool n.r.mo, .bool n.r.co]) W := fun W hW => ldM44 (hct.later hW hd6) hid
      have HC0 := Lib.hid (Below.refl w6.heap.size w6).drew
      have HFI := Lib.hid (find_any w6.drew (some ad) c at_ ms n.r (M6.out.below HC0.out) (by omega) HOS.out hid hal HYES.out HNO.out)
      obtain ⟨ad2, had3, had4, hcj, hokj, hovj⟩ := M6.out.at_ hal
      obtain rfl := Option.some.inj had3
      have had5 : (ad.add (at_ * 38)).block < w6.heap.size := by rw [block_add]; exact had4
      have HCJ := Lib.hid hcj
      have HOV := Lib.hid hovj
      have hidj := hokj.id
      have HOKJ := Lib.hid hokj.os
      have hosl := HSM.out (ms.getD at_ default) (by simp [hal])
      clear hct hcj hovj hokj had3
      generalize ms.getD at_ default = oo at *
      go_wp2_with fail
      refine region_of (fun W => Below w6.heap.size w6 W) (by kernel_rfl) ?_
      refine anyC_take 0 (v := ?_) HC0.out rfl (by kernel_rfl) (by kernel_rfl) (by kernel_rfl) (fun c a w h => hpan c a _ _ w h) rfl (fun W hW => ?_) ?_
      rotate_left
      · go_simp
        try rfl
      simp only [Act.put]
      refine anyC_take 1 (v := ?_) HC0.out rfl (by kernel_rfl) (by kernel_rfl) (by kernel_rfl) (fun c a w h => hpan c a _ _ w h) rfl (fun W hW => ?_) ?_
      rotate_left
      · go_simp
        try rfl
      simp only [Act.put]
      refine anyC_take 2 (v := ?_) HC0.out rfl (by kernel_rfl) (by kernel_rfl) (by kernel_rfl) (fun c a w h => hpan c a _ _ w h) rfl (fun W hW => ?_) ?_
      rotate_left
      · go_simp
        try rfl
      simp only [Act.put]
      refine anyC_take 3 (v := ?_) HC0.out rfl (by kernel_rfl) (by kernel_rfl) (by kernel_rfl) (fun c a w h => hpan c a _ _ w h) rfl (fun W hW => ?_) ?_
      rotate_left
      · go_simp
        try rfl
      simp only [Act.put]
      refine anyC_take 4 (v := ?_) HC0.out rfl (by kernel_rfl) (by kernel_rfl) (by kernel_rfl) (fun c a w h => hpan c a _ _ w h) rfl (fun W hW => ?_) ?_
      rotate_left
      · go_simp
        try rfl
      simp only [Act.put]
      refine anyC_take 5 (v := ?_) HC0.out rfl (by kernel_rfl) (by kernel_rfl) (by kernel_rfl) (fun c a w h => hpan c a _ _ w h) rfl (fun W hW => ?_) ?_
      rotate_left
      · go_simp
        try rfl
      simp only [Act.put]
      refine anyC_take 6 (v := ?_) HC0.out rfl (by kernel_rfl) (by kernel_rfl) (by kernel_rfl) (fun c a w h => hpan c a _ _ w h) rfl (fun W hW => ?_) ?_
      rotate_left
      · go_simp
        try rfl
      simp only [Act.put]
      refine anyC_take 7 (v := ?_) HC0.out rfl (by kernel_rfl) (by kernel_rfl) (by kernel_rfl) (fun c a w h => hpan c a _ _ w h) rfl (fun W hW => ?_) ?_
      rotate_left
      · go_simp
        try rfl
      simp only [Act.put]
      refine anyC_take 8 (v := ?_) HC0.out rfl (by kernel_rfl) (by kernel_rfl) (by kernel_rfl) (fun c a w h => hpan c a _ _ w h) rfl (fun W hW => ?_) ?_
      rotate_left
      · go_simp
        try rfl
      simp only [Act.put]
      refine anyC_take 9 (v := ?_) HC0.out rfl (by kernel_rfl) (by kernel_rfl) (by kernel_rfl) (fun c a w h => hpan c a _ _ w h) rfl (fun W hW => ?_) ?_
      rotate_left
      · go_simp
        try rfl
      simp only [Act.put]
      refine anyC_take 10 (v := ?_) HC0.out rfl (by kernel_rfl) (by kernel_rfl) (by kernel_rfl) (fun c a w h => hpan c a _ _ w h) rfl (fun W hW => ?_) ?_
      rotate_left
      · go_simp
        try rfl
      simp only [Act.put]
      refine anyC_take 11 (v := ?_) HC0.out rfl (by kernel_rfl) (by kernel_rfl) (by kernel_rfl) (fun c a w h => hpan c a _ _ w h) rfl (fun W hW => ?_) ?_
      rotate_left
      · go_simp
        try rfl
      simp only [Act.put]
      refine anyC_take 12 (v := ?_) HC0.out rfl (by kernel_rfl) (by kernel_rfl) (by kernel_rfl) (fun c a w h => hpan c a _ _ w h) rfl (fun W hW => ?_) ?_
      rotate_left
      · go_simp
        try rfl
      simp only [Act.put]
      refine anyC_take 13 (v := ?_) HC0.out rfl (by kernel_rfl) (by kernel_rfl) (by kernel_rfl) (fun c a w h => hpan c a _ _ w h) rfl (fun W hW => ?_) ?_
      rotate_left
      · go_simp
        try rfl
      simp only [Act.put]
      refine anyC_take 14 (v := ?_) HC0.out rfl (by kernel_rfl) (by kernel_rfl) (by kernel_rfl) (fun c a w h => hpan c a _ _ w h) rfl (fun W hW => ?_) ?_
      rotate_left
      · go_simp
        try rfl
      simp only [Act.put]
      refine anyC_take 15 (v := ?_) HC0.out rfl (by kernel_rfl) (by kernel_rfl) (by kernel_rfl) (fun c a w h => hpan c a _ _ w h) rfl (fun W hW => ?_) ?_
      rotate_left
      · go_simp
        try rfl
      simp only [Act.put]
      refine anyC_one 16 HC0.out (by kernel_rfl) rfl ?_
      go_wp2_with (go_at_call 15; refine HFI.out.mono ?_; rintro en w7 ⟨u7, rfl, ho7, hb7⟩; have B7 := Lib.hid (HC0.out.trans (hb7.mono HC0.out.size)); have O7 := Lib.hid ho7; clear ho7 hb7 HFI)
      refine anyC_take 17 (v := ?_) B7.out rfl (by kernel_rfl) (by kernel_rfl) (by kernel_rfl) (fun c a w h => hpan c a _ _ w h) rfl (fun W hW => ?_) ?_
      rotate_left
      · go_simp
        try rfl
      simp only [Act.put]
      refine anyC_take 18 (v := ?_) B7.out rfl (by kernel_rfl) (by kernel_rfl) (by kernel_rfl) (fun c a w h => hpan c a _ _ w h) rfl (fun W hW => ?_) ?_
      rotate_left
      · go_simp
        try rfl
      simp only [Act.put]
      refine anyC_take 19 (v := ?_) B7.out rfl (by kernel_rfl) (by kernel_rfl) (by kernel_rfl) (fun c a w h => hpan c a _ _ w h) rfl (fun W hW => ?_) ?_
      rotate_left
      · go_simp
        try rfl
      simp only [Act.put]
      refine anyC_take 20 (v := ?_) B7.out rfl (by kernel_rfl) (by kernel_rfl) (by kernel_rfl) (fun c a w h => hpan c a _ _ w h) rfl (fun W hW => ?_) ?_
      rotate_left
      · go_simp
        try rfl
      simp only [Act.put]
      refine anyC_take 21 (v := ?_) B7.out rfl (by kernel_rfl) (by kernel_rfl) (by kernel_rfl) (fun c a w h => hpan c a _ _ w h) rfl (fun W hW => ?_) ?_
      rotate_left
      · go_simp
        try rfl
      simp only [Act.put]
      refine anyC_done B7.out (by kernel_rfl) ?_ _
      obtain ⟨D7, d7, hv7, hD7, hd7, hr7, _⟩ := own_all O7.out
      subst hv7
      have OV7 := Lib.hid (Ov.of_own O7.out HOKJ.out)
      have B47 := Lib.hid (B6.out.trans (B7.out.mono B6.out.size))
      have hs7 := B7.out.size
      have r4 : w7.cell? ⟨(ad.add (at_ * 38)).block, (ad.add (at_ * 38)).off + 37, none⟩ = some (.slice oo.A oo.r.os.length oo.c) := mOs (HCJ.out.later B7.out had5) hidj
      have HOV7 := Lib.hid (HOV.out.below B7.out)
      have HSO := Lib.hid (osame_any w7 D7 oo.A d7 oo.c oo.r.os OV7.out HOV7.out (by omega))
      clear r1 r2 r3 O7 hr7 HC0
      go_wp2_with (go_at_call 16; refine HSO.out.mono ?_; rintro en w8 ⟨rfl, hb8⟩; have B48 := Lib.hid (B47.out.trans (hb8.mono B47.out.size)); clear hb8 HSO)
      exact ⟨⟨k + 1, by omega, by go_num, B48⟩, by simp [intOf]; omega⟩
    · have BB := Lib.hid hb.out
      go_wp2_with fail
      exact hexit.out _ BB.out _ _ _ _ _ _ _ _ _ _ _ _ _ _ _ _ _ _ _ _ _ _ _ _ _ _ _ _ _ _ _ _ _ _ _ _ _ _ _ _ _ _ _ _ _ _ _ _ _ _ _ _ _ _ _ _ _ _ _ _ _ _ _ _ _ _ _ _ _ _ _ _ _ _ _ _ _ _ _ _ _ _
set_option maxRecDepth 100000 in
set_option maxHeartbeats 2000000 in
theorem cbytes_any (w : World) (A : Option Addr) (c : Nat) (ms : List Mot) (mx : Int) (hm : w.cell? ⟨0, 0, none⟩ = some (.int .i64 mx)) (hw : 0 < w.heap.size) (ho : Mv w A ms) (hc : ms.length ≤ c) (hn : ms.length ≤ maxLen) (hx : ∀ m ∈ ms, m.r.os.length ≤ maxLen) :
    Calls Tryd.prog 5 #[.slice A ms.length c] w fun e w2 => e = .returned (.bool true) ∧ Below w.heap.size w w2 := by
  have HLG := Lib.hid (large_any w A c ms ho hn hx)
  have HMX := Lib.hid hm
  have H := Lib.hid ho
  unfold maxLen at hn
  have HFW := Lib.hid (few_of2 (l := ms.map (·.r)))
  generalize few (ms.map (·.r)) = fw at *
  cases fw with
  | false =>
    have HWK := Lib.hid (works_any w mx hm hw)
    clear ho hx hm
    go_enter Tryd.func5, Tryd.ntmps5
    go_wp2_with (first | (go_at_call 12; refine HLG.out.mono ?_; rintro en w1 ⟨rfl, hw1⟩; subst w1) | (go_at_call 6; refine HWK.out.mono ?_; rintro en w1 ⟨rfl, hb1⟩; have B1 := Lib.hid hb1; clear hb1))
    go_ret
    exact ⟨rfl, B1.out⟩
  | true =>
  obtain ⟨hf1, hf2⟩ := HFW.out rfl
  rw [List.length_map] at hf1
  have HSM : Hid (∀ m ∈ ms, m.r.small ∧ m.r.os.length ≤ 500) := Lib.hid (fun m hm2 => hf2 _ (List.mem_map.2 ⟨m, hm2, rfl⟩))
  have HSM2 := Lib.hid (fun m hm2 => (HSM.out m hm2).2)
  have HBT := Lib.hid (bytes_any w A c ms mx hm hw ho (fun m hm2 => (HSM.out m hm2).1) (by omega) hc)
  have HFB := Lib.hid (fun (W : World) (D : Option Addr) (d : Nat) (h : Mv W D ms) => fbytes_any W D d ms h (fun m hm2 => (HSM.out m hm2).1) (by omega))
  clear ho hx hm hf2
  generalize bytesP (ms.map (·.r)) = BR at *
  obtain ⟨F, ce⟩ := BR
  go_enter Tryd.func5, Tryd.ntmps5
  go_upto_region 4 with (first | (go_at_call 12; refine HLG.out.mono ?_; rintro en w1 ⟨rfl, hw1⟩; subst w1) | (go_at_call 13; refine HBT.out.mono ?_; rintro en w2 ⟨E, f, rfl, hrv, hE, hf, hb2⟩; dsimp only at hrv hf; dsimp only; have B2 := Lib.hid hb2; have E2 := Lib.hid hrv; have HPL := Lib.hid (plain33_any w2 A c ms (H.out.below hb2) (by omega)); clear hrv hE hb2 HBT))
  go_wp2_with fail
  refine HPL.out.mono ?_
  rintro en w3 ⟨u3, rfl, ho3, hb3⟩
  obtain ⟨D3, d3, rfl, hm3⟩ := (H.out.below B2.out).copy3 hb3 ho3
  have B3 := Lib.hid (B2.out.trans (hb3.mono B2.out.size))
  have E3 := Lib.hid (E2.out.low hb3 hb3.size)
  have HFC := Lib.hid (HFB.out w3 D3 d3 hm3)
  clear ho3 hb3 hm3 HPL
  go_wp2_with fail
  refine HFC.out.mono ?_
  rintro en w4 ⟨G, gc, rfl, hrv4, hG, hg4, hb4⟩
  dsimp only at hrv4 hg4
  dsimp only
  have B4 := Lib.hid (B3.out.trans (hb4.mono B3.out.size))
  have E4 := Lib.hid (E3.out.low hb4 hb4.size)
  have G4 := Lib.hid hrv4
  clear hrv4 hG hb4 HFC
  have H4 := Lib.hid (H.out.below B4.out)
  have hs4 := B4.out.size
  clear HFB H HLG HFW B2 B3 E2 E3
  go_wp2_with fail
  refine cby_out w4 A c ms H4 hf1 HSM2 _ _ _ _ _ _ _ _ _ _ _ _ _ _ _ _ _ _ _ _ _ _ _ _ _ _ _ _ _ _ _ _ _ _ _ _ _ _ _ _ _ _ _ _ _ _ _ _ _ _ _ _ _ _ _ _ _ _ _ _ _ _ _ _ _ _ _ _ _ _ _ _ _ _ _ _ _ _ _ _ _ _ _ _ _ _ _ _ _ _ _ _ _ _ _ _ _ _ _ _ _ _ _ _ _ _ _ _ _ _ _ _ (fun _ _ o _ _ h => by cases o <;> exact h) ?_
  refine Lib.hid ?_
  intro wr hb y2 y7 y8 y9 y10 y25 y26 y27 y28 y29 y30 y31 y32 y33 y34 y35 y36 y37 y38 y39 y40 y41 y42 y43 y44 y45 y46 y47 y48 y49 y50 y51 y52 y53 y54 y55 y56 y57 y58 y59 y60 y61 y62 y63 y64 y65 y66 y67 y68 y69 y70 y71 y72 y73 y74 y75 y76 y77 y78 y79 y80 y81 y82 y83 y84 y85 y86 y87 y88 y89 y90 y91 y92 y93 y94 y95 y96 y97 y98 y99 y100 y101
  have B5 := Lib.hid (B4.out.trans (hb.mono hs4))
  have HSM3 := Lib.hid (fsame_any wr E G f gc F F (E4.out.low hb hb.size) (G4.out.low hb hb.size))
  have HWK := Lib.hid (works_any wr mx ((B5.out.cell (p := ⟨0, 0, none⟩) hw).trans HMX.out) (by have := B5.out.size; omega))
  clear hb
  go_wp2_with (first | (go_at_call 11; refine HSM3.out.mono ?_; rintro en w9 ⟨rfl, hw9⟩; subst w9; rw [decide_eq_true trivial]) | (go_at_call 6; refine HWK.out.mono ?_; rintro en w10 ⟨rfl, hb10⟩; have B10 := Lib.hid (B5.out.trans (hb10.mono B5.out.size)); clear hb10))
  go_ret
  exact ⟨rfl, B10.out⟩
end Go.Proofs.YthhmamkphcgocaaDoor

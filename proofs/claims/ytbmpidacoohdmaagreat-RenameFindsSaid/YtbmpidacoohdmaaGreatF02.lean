/- sha.mix, by a contract. sleuthref02.Block, by a contract. -/
import Derived.Test.YtbmpidacoohdmaaGreatF01
import Derived.BigRegion
namespace Go.Proofs.YtbmpidacoohdmaaGreat
open Lib renaming hid → hI
open Go.RowKit
attribute [local go_sem ↓] run_addU run_andU run_xorU run_orU run_notU
attribute [local go_sem] U_cells U_one
attribute [local go_sem ↓] new8_eq new64_eq load8_eq load64_eq store8_eq store64_eq run_new8 run_new64

/-- The first i sums, then what was. -/
def part8 (v st : List UInt32) (i : Nat) : List UInt32 := (List.zipWith (· + ·) v st).take i ++ v.drop i
theorem part8_len (v st : List UInt32) (i : Nat) (hv : v.length = 8) (hs : st.length = 8) (hi : i ≤ 8) : (part8 v st i).length = 8 := by simp [part8, hv, hs]; omega
theorem part8_get (v st : List UInt32) (i : Nat) (hv : v.length = 8) (hs : st.length = 8) (hi : i < 8) : (part8 v st i).getD i 0 = v.getD i 0 := by
  simp [part8, List.getElem?_append, hv, hs, show min i 8 = i by omega]
theorem part8_set (v st : List UInt32) (i : Nat) (hv : v.length = 8) (hs : st.length = 8) (hi : i < 8) : (part8 v st i).set i (v.getD i 0 + st.getD i 0) = part8 v st (i + 1) := by
  have hz : (List.zipWith (· + ·) v st).length = 8 := by simp [hv, hs]
  unfold part8
  rw [List.set_append_right _ _ (by simp [hv, hs]; omega), List.drop_eq_getElem_cons (by omega : i < v.length)]
  rw [show i - ((List.zipWith (· + ·) v st).take i).length = 0 by simp [hv, hs]; omega, List.set_cons_zero]
  rw [List.take_succ_eq_append_getElem (by omega : i < (List.zipWith (· + ·) v st).length)]
  have h1 : v.getD i 0 = v[i] := by simp [hv, hi]
  have h2 : st.getD i 0 = st[i] := by simp [hs, hi]
  rw [h1, h2, List.getElem_zipWith, List.append_assoc]
  rfl
theorem eight {α : Type} {l : List α} (h : l.length = 8) : ∃ a b c d e f g i, l = [a, b, c, d, e, f, g, i] := by
  match l, h with
  | [a, b, c, d, e, f, g, i], _ => exact ⟨a, b, c, d, e, f, g, i, rfl⟩
def buildA (ps : Array (Nat × Value)) : Sem Value := Instr.build 267 ps
theorem buildA_eq (ps : Array (Nat × Value)) : Instr.build 267 ps = buildA ps := rfl
theorem build8 (x0 x1 x2 x3 x4 x5 x6 x7 : UInt32) (W : World) : (buildA #[(0, U x0), (1, U x1), (2, U x2), (3, U x3), (4, U x4), (5, U x5), (6, U x6), (7, U x7)]).run Tryz.prog W = .ok (.agg #[U x0, U x1, U x2, U x3, U x4, U x5, U x6, U x7]) W := by
  kernel_rfl
attribute [local go_sem ↓] buildA_eq
attribute [local go_sem] build8
set_option maxRecDepth 100000 in
set_option maxHeartbeats 2000000 in
theorem mix_any {B : Nat} (w : World) (A : Option Addr) (c : Nat) (st : List UInt32) (m : List UInt8) (hst : st.length = 8) (hm : m.length = 64) (h : Rv B w A (bys m)) (hB : B ≤ w.heap.size) :
    Calls Tryz.prog 199 #[.agg (us st).toArray, .slice A 64 c] w fun e w2 => e = .returned (.agg (us (mixS st m)).toArray) ∧ Below w.heap.size w w2 := by
  have H := hI h
  have HM := hI hm
  have HST := hI hst
  have a0 : Ar ((w.alloc (.cells (us st).toArray 267)).alloc (.cells z8 267)) w.heap.size 267 (us st) := (Ar.new w (us st) 267).alloc _
  have a1 : Ar ((w.alloc (.cells (us st).toArray 267)).alloc (.cells z8 267)) (w.heap.size + 1) 267 (us (List.replicate 8 0)) := by have h := Ar.new (w.alloc (.cells (us st).toArray 267)) (us (List.replicate 8 0)) 267; rw [World.size_alloc] at h; exact h
  have A0 := hI a0
  have A1 := hI a1
  have b0 : Below w.heap.size w ((w.alloc (.cells (us st).toArray 267)).alloc (.cells z8 267)) := ((Below.refl _ w).alloc (Nat.le_refl _) _).alloc (by simp) _
  have BB := hI b0
  clear h hm hst a0 a1 b0
  go_enter Tryz.func199, Tryz.ntmps199
  go_wp2_with fail
  have hs0 : ((w.alloc (.cells (us st).toArray 267)).alloc (.cells z8 267)).heap.size = w.heap.size + 2 := by simp
  have HS0 := hI hs0
  clear hs0
  generalize (w.alloc (.cells (us st).toArray 267)).alloc (.cells z8 267) = w0 at *
  refine (konst_any _).mono ?_
  rintro e w1 ⟨rfl, hb1⟩
  have hz := Ar.new w1 (us (List.replicate 64 0)) 390
  have hz : Ar (w1.alloc (.cells z64 390)) w1.heap.size 390 (us (List.replicate 64 0)) := hz
  have hs1 := hb1.size
  have hst1 := st64 (m := K256) hz rfl rfl
  have A0 := hI (((A0.out.below hb1 A0.out.lt).alloc (.cells z64 390)).past w1.heap.size (us K256).toArray (by have := HS0.out; omega))
  have A1 := hI (((A1.out.below hb1 A1.out.lt).alloc (.cells z64 390)).past w1.heap.size (us K256).toArray (by have := HS0.out; omega))
  have AK := hI (hz.setRow (us K256))
  have BB := hI (below_row ((BB.out.trans (hb1.mono BB.out.size)).alloc (by have := HS0.out; omega) (.cells z64 390)) w1.heap.size (us K256).toArray (by have := HS0.out; omega))
  have hs2 : w0.heap.size ≤ ((w1.alloc (.cells z64 390)).setRow w1.heap.size (us K256).toArray).heap.size := by simp; omega
  have hs2 := hI hs2
  clear hz hb1
  go_wp2_with fail
  obtain ⟨k5, hk5⟩ : ∃ k, k = w1.heap.size := ⟨_, rfl⟩
  have hkk : w.heap.size + 2 ≤ k5 := by have := HS0.out; omega
  rw [← hk5]
  rw [← hk5] at AK A0 A1 BB hs2
  clear hk5 hst1 hs1
  generalize (w1.alloc (.cells z64 390)).setRow k5 (us K256).toArray = w2 at *
  have hlt2 := AK.out.lt
  refine (spread_any (B := B) w2 A c m HM.out (H.out.below (BB.out.mono hB)) (by have := BB.out.size; omega)).mono ?_
  rintro e w3 ⟨rfl, hb3⟩
  have hs3 := hb3.size
  have hz : Ar (w3.alloc (.cells z64 390)) w3.heap.size 390 (us (List.replicate 64 0)) := Ar.new w3 (us (List.replicate 64 0)) 390
  have hst1 := st64 (m := sched m) hz rfl (sched_len m)
  have A0 := hI (((A0.out.below hb3 A0.out.lt).alloc (.cells z64 390)).past w3.heap.size (us (sched m)).toArray (by omega))
  have A1 := hI (((A1.out.below hb3 A1.out.lt).alloc (.cells z64 390)).past w3.heap.size (us (sched m)).toArray (by omega))
  have AK := hI (((AK.out.below hb3 AK.out.lt).alloc (.cells z64 390)).past w3.heap.size (us (sched m)).toArray (by omega))
  have AW := hI (hz.setRow (us (sched m)))
  have BB := hI (below_row ((BB.out.trans (hb3.mono BB.out.size)).alloc (by omega) (.cells z64 390)) w3.heap.size (us (sched m)).toArray (by omega))
  clear hz hb3
  have hk66 : k5 + 1 ≤ w3.heap.size := by omega
  obtain ⟨w4, hw4⟩ : ∃ W, W = (w3.alloc (.cells z64 390)).setRow w3.heap.size (us (sched m)).toArray := ⟨_, rfl⟩
  rw [← hw4] at hst1 AK A0 A1 BB AW
  have hl0 := ld8 A0.out HST.out
  have hk77 : w3.heap.size + 1 ≤ w4.heap.size := by have := AW.out.lt; omega
  have hz : Ar (w4.alloc (.cells z8 267)) w4.heap.size 267 (us (List.replicate 8 0)) := Ar.new w4 (us (List.replicate 8 0)) 267
  have hst2 := st8 (m := st) hz rfl HST.out
  have A0 := hI ((A0.out.alloc (.cells z8 267)).past w4.heap.size (us st).toArray (by omega))
  have A1 := hI ((A1.out.alloc (.cells z8 267)).past w4.heap.size (us st).toArray (by omega))
  have AK := hI ((AK.out.alloc (.cells z8 267)).past w4.heap.size (us st).toArray (by omega))
  have AW := hI ((AW.out.alloc (.cells z8 267)).past w4.heap.size (us st).toArray (by omega))
  have AV := hI (hz.setRow (us st))
  have BB := hI (below_row (BB.out.alloc (by omega) (.cells z8 267)) w4.heap.size (us st).toArray (by omega))
  have HW4 := hI hw4
  clear hw4 hz
  go_wp2_with fail
  obtain ⟨w5, hw5⟩ : ∃ W, W = (w4.alloc (.cells z8 267)).setRow w4.heap.size (us st).toArray := ⟨_, rfl⟩
  rw [← hw5]
  rw [← hw5] at AK A0 A1 BB AW AV
  clear hw5 hst2 hl0 hst1
  generalize w4.heap.size = k7 at *
  generalize w3.heap.size = k6 at *
  clear HW4
  go_loopw [18] (fun tv wr => ∃ t : Nat, t ≤ 64 ∧ tv = .int .i64 t ∧ Ar wr k7 267 (us (rnds (sched m) t st)) ∧ Ar wr k6 390 (us (sched m)) ∧ Ar wr k5 390 (us K256) ∧ Ar wr (w.heap.size + 1) 267 (us (List.replicate 8 0)) ∧ Ar wr w.heap.size 267 (us st) ∧ Hid (Below w.heap.size w wr)) (fun tv _ => 64 - (intOf tv).toNat)
  case atStart => exact ⟨0, by omega, rfl, AV.out, AW.out, AK.out, A1.out, A0.out, BB.out⟩
  case round =>
    clear AV AW AK A1 A0 BB
    obtain ⟨t, ht, rfl, av, aw, ak, a1, a0, bb⟩ := hrel
    by_cases hlt : t < 64
    · obtain ⟨a, b, c2, d, e, f, g, i, hv⟩ := eight (rnds_len (sched m) st HST.out t)
      have HN := hI (rnds_succ (sched m) t st)
      rw [hv] at av HN
      clear hv
      have v0 := av.cell (k := 0) rfl
      have v1 := av.cell (k := 1) rfl
      have v2 := av.cell (k := 2) rfl
      have v3 := av.cell (k := 3) rfl
      have v4 := av.cell (k := 4) rfl
      have v5 := av.cell (k := 5) rfl
      have v6 := av.cell (k := 6) rfl
      have v7 := av.cell (k := 7) rfl
      have kk := ak.cell (k := t) (us_at (by show t < 64; omega))
      have kw := aw.cell (k := t) (us_at (by rw [sched_len]; omega))
      generalize K256.getD t 0 = K at *
      generalize (sched m).getD t 0 = X at *
      have AV := hI av
      have AW := hI aw
      have AK := hI ak
      have A1 := hI a1
      have A0 := hI a0
      clear av aw ak a1 a0
      have b1 : (t : Int) < 64 := by omega
      have b0 : (0 : Int) ≤ (t : Int) := by omega
      go_wp2_with fail
      refine wp_region_quiet_lit (by kernel_rfl) (by kernel_rfl) ?_
      repeat (go_big_quiet_step (fail))
      refine wpQuiet_nil ?_
      rintro _ ⟨n1, rfl⟩
      clear v0 v1 v2 v3 v4 v5 v6 v7
      have kk : (wr.drewN n1).cell? ⟨k5, t, none⟩ = some (U K) := kk
      have kw : (wr.drewN n1).cell? ⟨k6, t, none⟩ = some (U X) := kw
      have AV := hI (AV.out.drewN n1)
      have AW := hI (AW.out.drewN n1)
      have AK := hI (AK.out.drewN n1)
      have A1 := hI (A1.out.drewN n1)
      have A0 := hI (A0.out.drewN n1)
      have bb := hI (below_dr bb.out n1)
      generalize wr.drewN n1 = wa at *
      have v0 := AV.out.cell (k := 0) rfl
      have v1 := AV.out.cell (k := 1) rfl
      have v2 := AV.out.cell (k := 2) rfl
      have v3 := AV.out.cell (k := 3) rfl
      have v4 := AV.out.cell (k := 4) rfl
      have v5 := AV.out.cell (k := 5) rfl
      have v6 := AV.out.cell (k := 6) rfl
      have v7 := AV.out.cell (k := 7) rfl
      go_wp2_with fail
      refine wp_region_quiet_lit (by kernel_rfl) (by kernel_rfl) ?_
      repeat (go_big_quiet_step ((go_at_call 267; first | exact quiet_same (rotl_any _ _ _ 6 (by decide) (by omega) (by omega)) | exact quiet_same (rotl_any _ _ _ 11 (by decide) (by omega) (by omega)) | exact quiet_same (rotl_any _ _ _ 25 (by decide) (by omega) (by omega)))))
      refine wpQuiet_nil ?_
      rintro _ ⟨n1, rfl⟩
      clear v0 v1 v2 v3 v4 v5 v6 v7
      have kk : (wa.drewN n1).cell? ⟨k5, t, none⟩ = some (U K) := kk
      have kw : (wa.drewN n1).cell? ⟨k6, t, none⟩ = some (U X) := kw
      have AV := hI (AV.out.drewN n1)
      have AW := hI (AW.out.drewN n1)
      have AK := hI (AK.out.drewN n1)
      have A1 := hI (A1.out.drewN n1)
      have A0 := hI (A0.out.drewN n1)
      have bb := hI (below_dr bb.out n1)
      generalize wa.drewN n1 = wb at *
      have v0 := AV.out.cell (k := 0) rfl
      have v1 := AV.out.cell (k := 1) rfl
      have v2 := AV.out.cell (k := 2) rfl
      have v3 := AV.out.cell (k := 3) rfl
      have v4 := AV.out.cell (k := 4) rfl
      have v5 := AV.out.cell (k := 5) rfl
      have v6 := AV.out.cell (k := 6) rfl
      have v7 := AV.out.cell (k := 7) rfl
      go_wp2_with fail
      refine wp_region_quiet_lit (by kernel_rfl) (by kernel_rfl) ?_
      repeat (go_big_quiet_step ((go_at_call 267; first | exact quiet_same (rotl_any _ _ _ 2 (by decide) (by omega) (by omega)) | exact quiet_same (rotl_any _ _ _ 13 (by decide) (by omega) (by omega)) | exact quiet_same (rotl_any _ _ _ 22 (by decide) (by omega) (by omega)))))
      refine wpQuiet_nil ?_
      rintro _ ⟨n1, rfl⟩
      clear v0 v1 v2 v3 v4 v5 v6 v7
      have kk : (wb.drewN n1).cell? ⟨k5, t, none⟩ = some (U K) := kk
      have kw : (wb.drewN n1).cell? ⟨k6, t, none⟩ = some (U X) := kw
      have AV := hI (AV.out.drewN n1)
      have AW := hI (AW.out.drewN n1)
      have AK := hI (AK.out.drewN n1)
      have A1 := hI (A1.out.drewN n1)
      have A0 := hI (A0.out.drewN n1)
      have bb := hI (below_dr bb.out n1)
      generalize wb.drewN n1 = wc at *
      have v0 := AV.out.cell (k := 0) rfl
      have v1 := AV.out.cell (k := 1) rfl
      have v2 := AV.out.cell (k := 2) rfl
      have v3 := AV.out.cell (k := 3) rfl
      have v4 := AV.out.cell (k := 4) rfl
      have v5 := AV.out.cell (k := 5) rfl
      have v6 := AV.out.cell (k := 6) rfl
      have v7 := AV.out.cell (k := 7) rfl
      clear kk kw
      have HN : Hid (rnds (sched m) (t + 1) st = [(i + (rotr e 6 ^^^ rotr e 11 ^^^ rotr e 25) + (e &&& f ^^^ nt e &&& g) + K + X) + ((rotr a 2 ^^^ rotr a 13 ^^^ rotr a 22) + (a &&& b ^^^ a &&& c2 ^^^ b &&& c2)), a, b, c2, d + (i + (rotr e 6 ^^^ rotr e 11 ^^^ rotr e 25) + (e &&& f ^^^ nt e &&& g) + K + X), e, f, g]) := HN
      generalize i + (rotr e 6 ^^^ rotr e 11 ^^^ rotr e 25) + (e &&& f ^^^ nt e &&& g) + K + X = t1 at *
      generalize (rotr a 2 ^^^ rotr a 13 ^^^ rotr a 22) + (a &&& b ^^^ a &&& c2 ^^^ b &&& c2) = t2 at *
      have hst : (store8 ⟨k7, 0, none⟩ (.agg #[U (t1 + t2), U a, U b, U c2, U (d + t1), U e, U f, U g])).run Tryz.prog wc = .ok () (wc.setRow k7 #[U (t1 + t2), U a, U b, U c2, U (d + t1), U e, U f, U g]) := st8 (m := [t1 + t2, a, b, c2, d + t1, e, f, g]) AV.out rfl rfl
      have AV := hI (AV.out.setRow (us [t1 + t2, a, b, c2, d + t1, e, f, g]))
      rw [← HN.out] at AV
      have AV : Hid (Ar (wc.setRow k7 #[U (t1 + t2), U a, U b, U c2, U (d + t1), U e, U f, U g]) k7 267 (us (rnds (sched m) (t + 1) st))) := by rw [HN.out] at AV ⊢; exact AV
      have AW := hI (AW.out.past k7 #[U (t1 + t2), U a, U b, U c2, U (d + t1), U e, U f, U g] (by omega))
      have AK := hI (AK.out.past k7 #[U (t1 + t2), U a, U b, U c2, U (d + t1), U e, U f, U g] (by omega))
      have A1 := hI (A1.out.past k7 #[U (t1 + t2), U a, U b, U c2, U (d + t1), U e, U f, U g] (by omega))
      have A0 := hI (A0.out.past k7 #[U (t1 + t2), U a, U b, U c2, U (d + t1), U e, U f, U g] (by omega))
      have bb := hI (below_row bb.out k7 #[U (t1 + t2), U a, U b, U c2, U (d + t1), U e, U f, U g] (by omega))
      go_wp2
      go_roundw
      case rel => exact ⟨t + 1, by omega, by go_num, AV.out, AW.out, AK.out, A1.out, A0.out, bb.out⟩
      case measure => simp [intOf]; omega
    · have ht64 : t = 64 := by omega
      rw [ht64] at av
      clear ht64 aw ak
      have hvl := rnds_len (sched m) st HST.out 64
      obtain ⟨v, hv⟩ : ∃ v, v = rnds (sched m) 64 st := ⟨_, rfl⟩
      rw [← hv] at av hvl
      have HV := hI hv
      clear hv
      have HVL := hI hvl
      clear hvl
      go_wp2_with fail
      go_loopw [98] (fun iv wq => ∃ i : Nat, i ≤ 8 ∧ iv = .int .i64 i ∧ Ar wq k7 267 (us (part8 v st i)) ∧ Ar wq (w.heap.size + 1) 267 (us (List.replicate 8 0)) ∧ Ar wq w.heap.size 267 (us st) ∧ Hid (Below w.heap.size w wq)) (fun iv _ => 8 - (intOf iv).toNat)
      case atStart => exact ⟨0, by omega, rfl, av, a1, a0, bb⟩
      case round =>
        clear av a1 a0 bb
        obtain ⟨i, hi, rfl, av, a1, a0, bb⟩ := hrel
        by_cases hlt : i < 8
        · have p1 := part8_len v st i HVL.out HST.out hi
          have k1 := av.cell (k := i) (us_at (by omega))
          rw [part8_get v st i HVL.out HST.out hlt] at k1
          have k2 := a0.cell (k := i) (us_at (by rw [HST.out]; exact hlt))
          have hf := av.frozen i
          have HP := hI (part8_set v st i HVL.out HST.out hlt)
          generalize v.getD i 0 = x at *
          generalize st.getD i 0 = y at *
          have AV := hI av
          have A1 := hI a1
          have A0 := hI a0
          clear av a1 a0
          have b1 : (i : Int) < 8 := by omega
          have b0 : (0 : Int) ≤ (i : Int) := by omega
          go_wp2_with fail
          go_still_tail 8, (by kernel_rfl)
          change wpList _ _ _ _ _ wr.drew
          go_wp2_with (refine wpList_store1 rfl 217 (.tmp 108) (.tmp 107) rfl ⟨k7, i, none⟩ rfl (U (x + y)) _ rfl (U_one _) inf56 k1 hf rfl ?_; intro W hW; subst hW)
          have e1 := (AV.out.drewN 1).set i (U (x + y))
          rw [us_set, HP.out] at e1
          have E1 := hI e1
          have E2 := hI ((A1.out.drewN 1).other ⟨k7, i, none⟩ (U (x + y)) (by simp; omega))
          have E3 := hI ((A0.out.drewN 1).other ⟨k7, i, none⟩ (U (x + y)) (by simp; omega))
          clear e1
          go_roundw
          case rel => exact ⟨i + 1, by omega, by go_num, E1.out, E2.out, E3.out, bb.out.drew.setCell (p := ⟨k7, i, none⟩) (by show w.heap.size ≤ k7; omega) _⟩
          case measure => simp [intOf]; omega
        · have hi8 : i = 8 := by omega
          rw [hi8] at av
          clear hi8
          have hz : part8 v st 8 = mixS st m := by unfold mixS; rw [← HV.out]; unfold part8; rw [List.drop_eq_nil_of_le (by rw [HVL.out]; omega), List.take_of_length_le (by simp [HVL.out, HST.out]), List.append_nil]
          rw [hz] at av
          have hml : (mixS st m).length = 8 := mixS_len st m HST.out
          have l1 := ld8 av hml
          have s1 := st8 (m := mixS st m) a1 rfl hml
          have HF := hI (a1.setRow (us (mixS st m)))
          go_wp2
          try simp only [Exit.inBlock, Exit.then]
          refine bodyPost_ret (results_cell_row rfl _ _ (w.heap.size + 1) 267 _ (0, 0) (.array 8 217) rfl HF.out Tryz.underlying267 rfl (by rw [List.size_toArray, us_len, hml]; exact inf8)) rfl ?_
          exact ⟨rfl, below_row bb.out _ _ (by omega)⟩
end Go.Proofs.YtbmpidacoohdmaaGreat
namespace Go.Proofs.YtbmpidacoohdmaaGreat
open Lib renaming hid → hI
open Go.RowKit
attribute [local go_sem ↓] run_addU run_andU run_xorU run_orU run_notU U_cells
attribute [local go_sem] U_one
attribute [local go_sem ↓] new8_eq new64_eq load8_eq load64_eq store8_eq store64_eq run_new8 run_new64 buildA_eq
attribute [local go_sem] build8

theorem sl127 : Sl Tryz.prog 341 217 1 4 := ⟨Tryz.underlying341, by kernel_rfl, by decide⟩
def lit127 (ps : Array (Nat × Value)) : Sem Value := Instr.buildSlice 341 64 ps
theorem lit127_eq (ps : Array (Nat × Value)) : Instr.buildSlice 341 64 ps = lit127 ps := rfl
def one127 (ps : Array (Nat × Value)) : Sem Value := Instr.buildSlice 341 1 ps
theorem one127_eq (ps : Array (Nat × Value)) : Instr.buildSlice 341 1 ps = one127 ps := rfl
theorem run_one127 (x : UInt32) (W : World) : (one127 #[(0, U x)]).run Tryz.prog W = .ok (.slice (some ⟨W.heap.size, 0, none⟩) 1 1) (W.alloc (.cells (us [x]).toArray 217)) := by kernel_rfl
theorem run_lit127 (W : World) : (lit127 #[(0, .int .u32 1116352408), (1, .int .u32 1899447441), (2, .int .u32 3049323471), (3, .int .u32 3921009573), (4, .int .u32 961987163), (5, .int .u32 1508970993), (6, .int .u32 2453635748), (7, .int .u32 2870763221), (8, .int .u32 3624381080), (9, .int .u32 310598401), (10, .int .u32 607225278), (11, .int .u32 1426881987), (12, .int .u32 1925078388), (13, .int .u32 2162078206), (14, .int .u32 2614888103), (15, .int .u32 3248222580), (16, .int .u32 3835390401), (17, .int .u32 4022224774), (18, .int .u32 264347078), (19, .int .u32 604807628), (20, .int .u32 770255983), (21, .int .u32 1249150122), (22, .int .u32 1555081692), (23, .int .u32 1996064986), (24, .int .u32 2554220882), (25, .int .u32 2821834349), (26, .int .u32 2952996808), (27, .int .u32 3210313671), (28, .int .u32 3336571891), (29, .int .u32 3584528711), (30, .int .u32 113926993), (31, .int .u32 338241895), (32, .int .u32 666307205), (33, .int .u32 773529912), (34, .int .u32 1294757372), (35, .int .u32 1396182291), (36, .int .u32 1695183700), (37, .int .u32 1986661051), (38, .int .u32 2177026350), (39, .int .u32 2456956037), (40, .int .u32 2730485921), (41, .int .u32 2820302411), (42, .int .u32 3259730800), (43, .int .u32 3345764771), (44, .int .u32 3516065817), (45, .int .u32 3600352804), (46, .int .u32 4094571909), (47, .int .u32 275423344), (48, .int .u32 430227734), (49, .int .u32 506948616), (50, .int .u32 659060556), (51, .int .u32 883997877), (52, .int .u32 958139571), (53, .int .u32 1322822218), (54, .int .u32 1537002063), (55, .int .u32 1747873779), (56, .int .u32 1955562222), (57, .int .u32 2024104815), (58, .int .u32 2227730452), (59, .int .u32 2361852424), (60, .int .u32 2428436474), (61, .int .u32 2756734187), (62, .int .u32 3204031479), (63, .int .u32 3329325298)]).run Tryz.prog W = .ok (.slice (some ⟨W.heap.size, 0, none⟩) 64 64) (W.alloc (.cells (us K256).toArray 217)) := by kernel_rfl
def app127 (ty : TypeId) (args : Array Value) : Sem Value := Builtin.append_ #[341, 341] ty args
theorem app127_eq (ty : TypeId) (args : Array Value) : Builtin.append_ #[341, 341] ty args = app127 ty args := rfl
attribute [local go_sem ↓] lit127_eq one127_eq app127_eq
attribute [local go_sem] run_lit127 run_one127
set_option maxRecDepth 100000 in
set_option maxHeartbeats 400000 in
theorem fkonst_any (w : World) : Calls Tryz.prog 218 #[] w fun e w2 => ∃ k, e = .returned (.slice (some ⟨k, 0, none⟩) 64 64) ∧ w.heap.size ≤ k ∧ Ar w2 k 217 (us K256) ∧ Below w.heap.size w w2 := by
  go_enter Tryz.func218, Tryz.ntmps218
  go_wp2
  go_ret
  exact ⟨_, rfl, Nat.le_refl _, Ar.new w (us K256) 217, (Below.refl _ w).alloc (Nat.le_refl _) _⟩
set_option maxRecDepth 100000 in
set_option maxHeartbeats 2000000 in
theorem block_any {B : Nat} (w : World) (A : Option Addr) (c : Nat) (st : List UInt32) (m : List UInt8) (hst : st.length = 8) (hm : m.length = 64) (h : Rv B w A (bys m)) (hB : B ≤ w.heap.size) :
    Calls Tryz.prog 164 #[.agg (us st).toArray, .slice A 64 c] w fun e w2 => e = .returned (.agg (us (mixS st m)).toArray) ∧ Below w.heap.size w w2 := by
  obtain ⟨ad, rfl, hab, hcells⟩ := h.some_ (by rw [bys_len]; omega)
  have HC := hI hcells
  have HM := hI hm
  have HST := hI hst
  have a0 : Ar ((w.alloc (.cells (us st).toArray 267)).alloc (.cells z8 267)) w.heap.size 267 (us st) := (Ar.new w (us st) 267).alloc _
  have a1 : Ar ((w.alloc (.cells (us st).toArray 267)).alloc (.cells z8 267)) (w.heap.size + 1) 267 (us (List.replicate 8 0)) := by have h := Ar.new (w.alloc (.cells (us st).toArray 267)) (us (List.replicate 8 0)) 267; rw [World.size_alloc] at h; exact h
  have A0 := hI a0
  have A1 := hI a1
  have b0 : Below w.heap.size w ((w.alloc (.cells (us st).toArray 267)).alloc (.cells z8 267)) := ((Below.refl _ w).alloc (Nat.le_refl _) _).alloc (by simp) _
  have BB := hI b0
  clear h hm hst a0 a1 b0 hcells
  go_enter Tryz.func164, Tryz.ntmps164
  go_wp2_with fail
  have hs0 : ((w.alloc (.cells (us st).toArray 267)).alloc (.cells z8 267)).heap.size = w.heap.size + 2 := by simp
  have HS0 := hI hs0
  clear hs0
  generalize (w.alloc (.cells (us st).toArray 267)).alloc (.cells z8 267) = w0 at *
  refine (fkonst_any _).mono ?_
  rintro e w1 ⟨k5, rfl, hk5, hak, hb1⟩
  have hs1 := hb1.size
  have hkk : w.heap.size + 2 ≤ k5 := by have := HS0.out; omega
  have AK := hI hak
  have A0 := hI (A0.out.below hb1 A0.out.lt)
  have A1 := hI (A1.out.below hb1 A1.out.lt)
  have BB := hI (BB.out.trans (hb1.mono BB.out.size))
  have hk5s := hak.lt
  clear hb1 hak hk5
  go_wp2_with fail
  go_loopw [6, 7] (fun v tv wr => ∃ t : Nat, t ≤ 16 ∧ tv = .int .i64 t ∧ Hid (wr.ownsRow w1.heap.size 217 1 v t (us (wfirst m t))) ∧ Ar wr k5 217 (us K256) ∧ Ar wr (w.heap.size + 1) 267 (us (List.replicate 8 0)) ∧ Ar wr w.heap.size 267 (us st) ∧ Hid (w1.heap.size ≤ wr.heap.size) ∧ Hid (Below w.heap.size w wr)) (fun _ tv _ => 16 - (intOf tv).toNat)
  case atStart => exact ⟨0, by omega, rfl, World.ownsRow_nil _ _ _ _, AK.out, A1.out, A0.out, Nat.le_refl _, BB.out⟩
  case round =>
    clear AK A1 A0 BB
    obtain ⟨t, ht, rfl, ho, ak, a1, a0, hsz, bb⟩ := hrel
    have hbs := bb.out.size
    have hss := hsz.out
    by_cases hlt : t < 16
    · have hc : ∀ j, j < 64 → wr.cell? (ad.add j) = some (.int .u8 ((m.getD j 0).toNat : Int)) := fun j hj => (bb.out.cell (by rw [block_add]; omega)).trans (HC.out j _ (bys_at (by rw [HM.out]; exact hj)))
      have k0 := hc (4 * t) (by omega)
      have k1 := hc (4 * t + 1) (by omega)
      have k2 := hc (4 * t + 2) (by omega)
      have k3 := hc (4 * t + 3) (by omega)
      have l0 := (m.getD (4 * t) 0).toNat_lt
      have l1 := (m.getD (4 * t + 1) 0).toNat_lt
      have l2 := (m.getD (4 * t + 2) 0).toNat_lt
      have l3 := (m.getD (4 * t + 3) 0).toNat_lt
      have HU := hI (be32_U (m.getD (4 * t) 0) (m.getD (4 * t + 1) 0) (m.getD (4 * t + 2) 0) (m.getD (4 * t + 3) 0))
      have HS := hI (wfirst_succ m t)
      generalize be32 (m.getD (4 * t) 0) (m.getD (4 * t + 1) 0) (m.getD (4 * t + 2) 0) (m.getD (4 * t + 3) 0) = r at *
      generalize m.getD (4 * t) 0 = x0 at *
      generalize m.getD (4 * t + 1) 0 = x1 at *
      generalize m.getD (4 * t + 2) 0 = x2 at *
      generalize m.getD (4 * t + 3) 0 = x3 at *
      have AK := hI ak
      have A1 := hI a1
      have A0 := hI a0
      have hl := wfirst_len m t
      clear hc ak a1 a0
      rw [Addr.add_succ'] at k1
      rw [Addr.add_succ'] at k2
      rw [Addr.add_succ'] at k3
      have k3 : wr.cell? ⟨ad.block, ad.off + (4 * t + 1 + 1 + 1), none⟩ = some (.int .u8 (x3.toNat : Int)) := k3
      go_wp2_with fail
      have q0 : IntKind.i64.wrap (4 * (t : Int)) = 4 * (t : Int) := IntWalk.i64_in _ (by omega)
      have q1 : IntKind.i64.wrap (4 * (t : Int) + 1) = 4 * (t : Int) + 1 := IntWalk.i64_in _ (by omega)
      have q2 : IntKind.i64.wrap (4 * (t : Int) + 2) = 4 * (t : Int) + 2 := IntWalk.i64_in _ (by omega)
      have q3 : IntKind.i64.wrap (4 * (t : Int) + 3) = 4 * (t : Int) + 3 := IntWalk.i64_in _ (by omega)
      have r0 : (4 * (t : Int)).toNat = 4 * t := by omega
      have r1 : (4 * (t : Int) + 1).toNat = 4 * t + 1 := by omega
      have r2 : (4 * (t : Int) + 2).toNat = 4 * t + 2 := by omega
      have r3 : (4 * (t : Int) + 3).toNat = 4 * t + 3 := by omega
      have s0 : (0 : Int) ≤ 4 * (t : Int) ∧ 4 * (t : Int) < 64 := by omega
      have s1 : (0 : Int) ≤ 4 * (t : Int) + 1 ∧ 4 * (t : Int) + 1 < 64 := by omega
      have s2 : (0 : Int) ≤ 4 * (t : Int) + 2 ∧ 4 * (t : Int) + 2 < 64 := by omega
      have s3 : (0 : Int) ≤ 4 * (t : Int) + 3 ∧ 4 * (t : Int) + 3 < 64 := by omega
      have z0 : ∀ y : UInt8, IntKind.u32.wrap (y.toNat : Int) = (y.toNat : Int) := fun y => Go.wraps_u32 _ (by omega) (by have := y.toNat_lt; omega)
      have z3 : ∀ y : UInt8, IntKind.u32.wrap ((y.toNat : Int) * 256) = (y.toNat : Int) * 256 := fun y => Go.wraps_u32 _ (by omega) (by have := y.toNat_lt; omega)
      have z1 : IntKind.u32.wrap ((x0.toNat : Int) * 256 + (x1.toNat : Int)) = (x0.toNat : Int) * 256 + (x1.toNat : Int) := Go.wraps_u32 _ (by omega) (by omega)
      have z2 : IntKind.u32.wrap (((x0.toNat : Int) * 256 + (x1.toNat : Int)) * 65536) = ((x0.toNat : Int) * 256 + (x1.toNat : Int)) * 65536 := Go.wraps_u32 _ (by omega) (by omega)
      have z4 : IntKind.u32.wrap (((x0.toNat : Int) * 256 + (x1.toNat : Int)) * 65536 + (x2.toNat : Int) * 256) = ((x0.toNat : Int) * 256 + (x1.toNat : Int)) * 65536 + (x2.toNat : Int) * 256 := Go.wraps_u32 _ (by omega) (by omega)
      have z5 : IntKind.u32.wrap (((x0.toNat : Int) * 256 + (x1.toNat : Int)) * 65536 + (x2.toNat : Int) * 256 + (x3.toNat : Int)) = ((x0.toNat : Int) * 256 + (x1.toNat : Int)) * 65536 + (x2.toNat : Int) * 256 + (x3.toNat : Int) := Go.wraps_u32 _ (by omega) (by omega)
      have e0 : ((x0.toNat : Int) * 256 + (x1.toNat : Int)) * 65536 + (x2.toNat : Int) * 256 + (x3.toNat : Int) = ((x0.toNat * 16777216 + x1.toNat * 65536 + x2.toNat * 256 + x3.toNat : Nat) : Int) := by omega
      have hU : (.int .u32 (((x0.toNat : Int) * 256 + (x1.toNat : Int)) * 65536 + (x2.toNat : Int) * 256 + (x3.toNat : Int)) : Value) = U r := by rw [e0, HU.out]
      have HUL := us_len (wfirst m t)
      obtain ⟨v2, w3, hrun, ho2, ha⟩ := run_app (P := Tryz.prog) (w := (wr.alloc (.cells (us [r]).toArray 217)).drew) sl127 341 w1.heap.size u6 t (us (wfirst m t)) (ho.out.alloc _) (B := wr.heap.size + 1) (some ⟨wr.heap.size, 0, none⟩) 1 1 (us [r]) (fun e => by cases e) rfl (new_rv wr (us [r]) 217 _ rfl) (us_one2 _) (by unfold maxLen; omega) (by omega) (by simp; omega)
      have hrun : (app127 341 #[u6, .slice (some ⟨wr.heap.size, 0, none⟩) 1 1]).run Tryz.prog ((wr.alloc (.cells (us [r]).toArray 217)).drew) = .ok v2 w3 := hrun
      have HO2 := hI ho2
      have HA := hI ha.grown
      clear ho2 ha HUL e0
      go_region
      clear q0 q1 q2 q3 r0 r1 r2 r3 z0 z1 z2 z3 z4 z5 hU s0 s1 s2 s3 k0 k1 k2 k3 l0 l1 l2 l3
      have e1 : us (wfirst m t) ++ us [r] = us (wfirst m (t + 1)) := by rw [us_app, HS.out]
      rw [e1] at HO2
      have hz := HA.out.size
      have hz2 : (wr.alloc (.cells (us [r]).toArray 217)).drew.heap.size = wr.heap.size + 1 := World.size_alloc _ _
      rw [hz2] at hz
      have E1 := hI (Ar.later (W := (wr.alloc (.cells (us [r]).toArray 217)).drew) (AK.out.alloc _) HA.out (own_far ho.out hk5s))
      have E2 := hI (Ar.later (W := (wr.alloc (.cells (us [r]).toArray 217)).drew) (A1.out.alloc _) HA.out (own_far ho.out (by omega)))
      have E3 := hI (Ar.later (W := (wr.alloc (.cells (us [r]).toArray 217)).drew) (A0.out.alloc _) HA.out (own_far ho.out (by omega)))
      have E4 := hI ((bb.out.alloc hbs (.cells (us [r]).toArray 217)).drew.trans (below_of_grown HA.out (B := w.heap.size) (by rw [hz2]; omega) (fun k hk => by have := (ho.out.lt k hk).1; omega)))
      have hz3 : w1.heap.size ≤ w3.heap.size := by omega
      clear hrun
      go_wp2
      exact ⟨⟨t + 1, by omega, by go_num, HO2.out, E1.out, E2.out, E3.out, hz3, E4.out⟩, by simp [intOf]; omega⟩
    · have ht16 : t = 16 := by omega
      rw [ht16] at ho
      clear ht16
      go_wp2_with fail
      go_loopw [6, 8] (fun v tv wr => ∃ t : Nat, t ≤ 48 ∧ tv = .int .i64 ((16 + t : Nat) : Int) ∧ Hid (wr.ownsRow w1.heap.size 217 1 v (16 + t) (us (wmore t (wfirst m 16)))) ∧ Ar wr k5 217 (us K256) ∧ Ar wr (w.heap.size + 1) 267 (us (List.replicate 8 0)) ∧ Ar wr w.heap.size 267 (us st) ∧ Hid (w1.heap.size ≤ wr.heap.size) ∧ Hid (Below w.heap.size w wr)) (fun _ tv _ => 64 - (intOf tv).toNat)
      case atStart => exact ⟨0, by omega, rfl, ho, ak, a1, a0, hsz, bb⟩
      case round =>
        clear ak a1 a0 ho hsz bb hss hbs ht hlt
        obtain ⟨t, ht, rfl, ho, ak, a1, a0, hsz, bb⟩ := hrel
        have hbs := bb.out.size
        have hss := hsz.out
        have hl : (wmore t (wfirst m 16)).length = 16 + t := by rw [wmore_len, wfirst_len]
        obtain ⟨b, cap, hv, hcb, hbl, hcap, hcell⟩ := own_block ho.out (by omega)
        subst hv
        have AK := hI ak
        have A1 := hI a1
        have A0 := hI a0
        clear ak a1 a0
        by_cases hlt : t < 48
        · have hg : ∀ j, j < 16 + t → wr.cell? ⟨b, j, none⟩ = some (U ((wmore t (wfirst m 16)).getD j 0)) := fun j hj => hcell j _ (us_at (by omega))
          have k1 := hg (16 + t - 15) (by omega)
          have k2 := hg (16 + t - 2) (by omega)
          have k3 := hg (16 + t - 16) (by omega)
          have k4 := hg (16 + t - 7) (by omega)
          clear hg hcell
          have HN := hI (by rw [wmore_last, wnext, hl] : wmore (t + 1) (wfirst m 16) = wmore t (wfirst m 16) ++ [(wmore t (wfirst m 16)).getD (16 + t - 16) 0 + sg0 ((wmore t (wfirst m 16)).getD (16 + t - 15) 0) + (wmore t (wfirst m 16)).getD (16 + t - 7) 0 + sg1 ((wmore t (wfirst m 16)).getD (16 + t - 2) 0)])
          generalize (wmore t (wfirst m 16)).getD (16 + t - 15) 0 = y1 at *
          generalize (wmore t (wfirst m 16)).getD (16 + t - 2) 0 = y2 at *
          generalize (wmore t (wfirst m 16)).getD (16 + t - 16) 0 = y3 at *
          generalize (wmore t (wfirst m 16)).getD (16 + t - 7) 0 = y4 at *
          have hi5 : 16 + t < 64 := by omega
          have hi6 : 16 ≤ 16 + t := by omega
          generalize hi7 : 16 + t = i5 at *
          have R5 := hI hi7
          clear hi7
          have hs3 := fun W t => shr3 W t
          have hs10 := fun W t => shr10 W t
          go_wp2_with (first
            | ((with_reducible refine (right_any _ _ _ 7 (by decide) (by omega) (by omega)).mono ?_); rintro e w' ⟨rfl, rfl⟩)
            | ((with_reducible refine (right_any _ _ _ 18 (by decide) (by omega) (by omega)).mono ?_); rintro e w' ⟨rfl, rfl⟩)
            | ((with_reducible refine (right_any _ _ _ 17 (by decide) (by omega) (by omega)).mono ?_); rintro e w' ⟨rfl, rfl⟩)
            | ((with_reducible refine (right_any _ _ _ 19 (by decide) (by omega) (by omega)).mono ?_); rintro e w' ⟨rfl, rfl⟩))
          rw [show rotr y1 7 ^^^ rotr y1 18 ^^^ y1 >>> 3 = sg0 y1 from rfl, show rotr y2 17 ^^^ rotr y2 19 ^^^ y2 >>> 10 = sg1 y2 from rfl]
          have q3 : IntKind.i64.wrap ((i5 : Int) - 16) = (i5 : Int) - 16 := IntWalk.i64_in _ (by omega)
          have q4 : IntKind.i64.wrap ((i5 : Int) - 7) = (i5 : Int) - 7 := IntWalk.i64_in _ (by omega)
          have q5 : ((i5 : Int) - 16).toNat = i5 - 16 := by omega
          have q6 : ((i5 : Int) - 7).toNat = i5 - 7 := by omega
          have q7 : (0 : Int) ≤ (i5 : Int) - 16 ∧ (i5 : Int) - 16 < (i5 : Int) := by omega
          have q8 : (0 : Int) ≤ (i5 : Int) - 7 ∧ (i5 : Int) - 7 < (i5 : Int) := by omega
          have HUL := us_len (wmore t (wfirst m 16))
          obtain ⟨v2, w3, hrun, ho2, ha⟩ := run_app (P := Tryz.prog) (w := (wr.alloc (.cells (us [y3 + sg0 y1 + y4 + sg1 y2]).toArray 217)).drew) sl127 341 w1.heap.size (.slice (some ⟨b, 0, none⟩) i5 cap) i5 (us (wmore t (wfirst m 16))) (ho.out.alloc (.cells (us [y3 + sg0 y1 + y4 + sg1 y2]).toArray 217)) (B := wr.heap.size + 1) (some ⟨wr.heap.size, 0, none⟩) 1 1 (us [y3 + sg0 y1 + y4 + sg1 y2]) (fun e => by cases e) rfl (new_rv wr (us [y3 + sg0 y1 + y4 + sg1 y2]) 217 _ rfl) (us_one2 _) (by unfold maxLen; omega) (by omega) (by simp; omega)
          have hrun : (app127 341 #[.slice (some ⟨b, 0, none⟩) i5 cap, .slice (some ⟨wr.heap.size, 0, none⟩) 1 1]).run Tryz.prog ((wr.alloc (.cells (us [y3 + sg0 y1 + y4 + sg1 y2]).toArray 217)).drew) = .ok v2 w3 := hrun
          rw [us_app, ← HN.out] at ho2
          have hz2 : (wr.alloc (.cells (us [y3 + sg0 y1 + y4 + sg1 y2]).toArray 217)).drew.heap.size = wr.heap.size + 1 := World.size_alloc _ _
          have hz := ha.grown.size
          rw [hz2] at hz
          have HO2 := hI ho2
          have E1 := hI (Ar.later (W := (wr.alloc (.cells (us [y3 + sg0 y1 + y4 + sg1 y2]).toArray 217)).drew) (AK.out.alloc (.cells (us [y3 + sg0 y1 + y4 + sg1 y2]).toArray 217)) ha.grown (own_far ho.out hk5s))
          have E2 := hI (Ar.later (W := (wr.alloc (.cells (us [y3 + sg0 y1 + y4 + sg1 y2]).toArray 217)).drew) (A1.out.alloc (.cells (us [y3 + sg0 y1 + y4 + sg1 y2]).toArray 217)) ha.grown (own_far ho.out (by omega)))
          have E3 := hI (Ar.later (W := (wr.alloc (.cells (us [y3 + sg0 y1 + y4 + sg1 y2]).toArray 217)).drew) (A0.out.alloc (.cells (us [y3 + sg0 y1 + y4 + sg1 y2]).toArray 217)) ha.grown (own_far ho.out (by omega)))
          have E4 := hI ((bb.out.alloc hbs (.cells (us [y3 + sg0 y1 + y4 + sg1 y2]).toArray 217)).drew.trans (below_of_grown ha.grown (B := w.heap.size) (by rw [hz2]; omega) (fun k hk => by have := (ho.out.lt k hk).1; omega)))
          have hz3 : w1.heap.size ≤ w3.heap.size := by omega
          clear ho2 ha HUL hz2
          change Hid (Ar w3 k5 217 (us K256)) at E1
          go_region
          clear q3 q4 q5 q6 q7 q8 hrun
          go_wp2
          exact ⟨⟨t + 1, by have := R5.out; omega, by have := R5.out; go_num, by rw [show 16 + (t + 1) = i5 + 1 by have := R5.out; omega]; exact HO2.out, E1.out, E2.out, E3.out, hz3, E4.out⟩, by have := R5.out; simp [intOf]; omega⟩
        · have ht48 : t = 48 := by omega
          rw [ht48] at ho hcell
          have hsd : wmore 48 (wfirst m 16) = sched m := rfl
          rw [hsd] at ho hcell
          clear ht48 hsd
          have HW := hI hcell
          clear hcell ho hl
          have hge : 64 ≤ 16 + t := by omega
          clear hlt ht
          generalize 16 + t = i6 at *
          obtain ⟨s0, s1, s2, s3, s4, s5, s6, s7, hst⟩ := eight HST.out
          rw [hst] at A0
          have HS := hI hst
          clear hst
          have v0 := A0.out.cell (k := 0) rfl
          have v1 := A0.out.cell (k := 1) rfl
          have v2 := A0.out.cell (k := 2) rfl
          have v3 := A0.out.cell (k := 3) rfl
          have v4 := A0.out.cell (k := 4) rfl
          have v5 := A0.out.cell (k := 5) rfl
          have v6 := A0.out.cell (k := 6) rfl
          have v7 := A0.out.cell (k := 7) rfl
          go_wp2_with fail
          refine wp_region_quiet_lit (by kernel_rfl) (by kernel_rfl) ?_
          repeat (go_big_quiet_step (fail))
          refine wpQuiet_nil ?_
          rintro _ ⟨n1, rfl⟩
          clear v0 v1 v2 v3 v4 v5 v6 v7
          have bb := hI (below_dr bb.out n1)
          have AK := hI (AK.out.drewN n1)
          have A1 := hI (A1.out.drewN n1)
          have A0 := hI (A0.out.drewN n1)
          have HW : Hid (∀ (j : Nat) (x : Value), (us (sched m))[j]? = some x → (wr.drewN n1).cell? ⟨b, j, none⟩ = some x) := HW
          have hbl : b < (wr.drewN n1).heap.size := hbl
          generalize wr.drewN n1 = w6 at *
          go_wp2_with fail
          go_loopw [13, 14, 15, 16, 17, 18, 19, 20, 21, 22, 23] (fun a b2 c2 d e f g h tv t1 t2 wq => ∃ (n : Nat) (x0 x1 x2 x3 x4 x5 x6 x7 : UInt32), n ≤ 64 ∧ tv = .int .i64 n ∧ a = U x0 ∧ b2 = U x1 ∧ c2 = U x2 ∧ d = U x3 ∧ e = U x4 ∧ f = U x5 ∧ g = U x6 ∧ h = U x7 ∧ Hid (rnds (sched m) n st = [x0, x1, x2, x3, x4, x5, x6, x7]) ∧ Hid (∃ k, wq = w6.drewN k)) (fun _ _ _ _ _ _ _ _ tv _ _ _ => 64 - (intOf tv).toNat)
          case atStart => exact ⟨0, s0, s1, s2, s3, s4, s5, s6, s7, by omega, rfl, rfl, rfl, rfl, rfl, rfl, rfl, rfl, rfl, HS.out, 0, rfl⟩
          case round =>
            obtain ⟨n, x0, x1, x2, x3, x4, x5, x6, x7, hn, rfl, rfl, rfl, rfl, rfl, rfl, rfl, rfl, rfl, hr, hk⟩ := hrel
            obtain ⟨k, hk⟩ := hk.out
            subst hk
            by_cases hlt3 : n < 64
            · have kk : (w6.drewN k).cell? ⟨k5, n, none⟩ = some (U (K256.getD n 0)) := AK.out.cell (us_at (by show n < 64; omega))
              have kw : (w6.drewN k).cell? ⟨b, n, none⟩ = some (U ((sched m).getD n 0)) := HW.out n _ (us_at (by rw [sched_len]; omega))
              have HN := hI (rnds_succ (sched m) n st)
              rw [hr.out] at HN
              generalize K256.getD n 0 = K at *
              generalize (sched m).getD n 0 = X at *
              generalize hwk : w6.drewN k = wk at *
              have HWK := hI hwk
              clear hwk
              have b1 : (n : Int) < 64 := by omega
              have b2 : (n : Int) < (i6 : Int) := by omega
              go_wp2_with fail
              refine wp_region_quiet_lit (by kernel_rfl) (by kernel_rfl) ?_
              repeat (go_big_quiet_step ((go_at_call 219; first | exact quiet_same (right_any _ _ _ 6 (by decide) (by omega) (by omega)) | exact quiet_same (right_any _ _ _ 11 (by decide) (by omega) (by omega)) | exact quiet_same (right_any _ _ _ 25 (by decide) (by omega) (by omega)))))
              refine wpQuiet_nil ?_
              rintro _ ⟨n2, rfl⟩
              go_wp2_with (first
                | ((with_reducible refine (right_any _ _ _ 2 (by decide) (by omega) (by omega)).mono ?_); rintro e w' ⟨rfl, rfl⟩)
                | ((with_reducible refine (right_any _ _ _ 13 (by decide) (by omega) (by omega)).mono ?_); rintro e w' ⟨rfl, rfl⟩)
                | ((with_reducible refine (right_any _ _ _ 22 (by decide) (by omega) (by omega)).mono ?_); rintro e w' ⟨rfl, rfl⟩))
              have HN : Hid (rnds (sched m) (n + 1) st = [(x7 + (rotr x4 6 ^^^ rotr x4 11 ^^^ rotr x4 25) + (x4 &&& x5 ^^^ nt x4 &&& x6) + K + X) + ((rotr x0 2 ^^^ rotr x0 13 ^^^ rotr x0 22) + (x0 &&& x1 ^^^ x0 &&& x2 ^^^ x1 &&& x2)), x0, x1, x2, x3 + (x7 + (rotr x4 6 ^^^ rotr x4 11 ^^^ rotr x4 25) + (x4 &&& x5 ^^^ nt x4 &&& x6) + K + X), x4, x5, x6]) := HN
              have HK : Hid (∃ q, wk.drewN n2 = w6.drewN q) := by rw [← HWK.out, World.drewN_drewN]; exact ⟨_, rfl⟩
              go_roundw
              case rel => exact ⟨n + 1, _, _, _, _, _, _, _, _, by omega, by go_num, rfl, rfl, rfl, rfl, rfl, rfl, rfl, rfl, HN, HK⟩
              case measure => simp [intOf]; omega
            · have hn64 : n = 64 := by omega
              rw [hn64] at hr
              clear hn64
              have hmx : mixS st m = [s0 + x0, s1 + x1, s2 + x2, s3 + x3, s4 + x4, s5 + x5, s6 + x6, s7 + x7] := by
                unfold mixS
                rw [hr.out, HS.out]
                simp [UInt32.add_comm]
              have hs1 : (store8 ⟨w.heap.size + 1, 0, none⟩ (.agg #[U (s0 + x0), U (s1 + x1), U (s2 + x2), U (s3 + x3), U (s4 + x4), U (s5 + x5), U (s6 + x6), U (s7 + x7)])).run Tryz.prog (w6.drewN k) = .ok () ((w6.drewN k).setRow (w.heap.size + 1) #[U (s0 + x0), U (s1 + x1), U (s2 + x2), U (s3 + x3), U (s4 + x4), U (s5 + x5), U (s6 + x6), U (s7 + x7)]) := st8 (m := [s0 + x0, s1 + x1, s2 + x2, s3 + x3, s4 + x4, s5 + x5, s6 + x6, s7 + x7]) (A1.out.drewN k) rfl rfl
              have HF := hI ((A1.out.drewN k).setRow (us [s0 + x0, s1 + x1, s2 + x2, s3 + x3, s4 + x4, s5 + x5, s6 + x6, s7 + x7]))
              have A0 := hI (A0.out.drewN k)
              have BB := hI (below_dr bb.out k)
              have HMX := hI hmx
              clear hmx
              generalize w6.drewN k = w7 at *
              have v0 := A0.out.cell (k := 0) rfl
              have v1 := A0.out.cell (k := 1) rfl
              have v2 := A0.out.cell (k := 2) rfl
              have v3 := A0.out.cell (k := 3) rfl
              have v4 := A0.out.cell (k := 4) rfl
              have v5 := A0.out.cell (k := 5) rfl
              have v6 := A0.out.cell (k := 6) rfl
              have v7 := A0.out.cell (k := 7) rfl
              go_wp2
              try simp only [Exit.inBlock, Exit.then]
              refine bodyPost_ret (results_cell_row rfl _ _ (w.heap.size + 1) 267 _ (0, 0) (.array 8 217) rfl HF.out Tryz.underlying267 rfl inf8) rfl ?_
              exact ⟨by rw [HMX.out], below_row BB.out _ _ (by omega)⟩
end Go.Proofs.YtbmpidacoohdmaaGreat

/- sha.mix, by a contract. -/
import Derived.Test.YtbmpidacoohdmaaGreatShb
namespace Go.Proofs.YtbmpidacoohdmaaGreat
open Go.RowKit
attribute [local go_sem ↓] run_addU run_andU run_xorU run_orU run_notU
attribute [local go_sem] U_cells U_one
attribute [local go_sem ↓] new8_eq new64_eq load8_eq load64_eq store8_eq store64_eq run_new8 run_new64

/-- The first i sums, then what was. -/
def part8 (v st : List UInt32) (i : Nat) : List UInt32 := (List.zipWith (· + ·) v st).take i ++ v.drop i
theorem part8_len (v st : List UInt32) (i : Nat) (hv : v.length = 8) (hs : st.length = 8) (hi : i ≤ 8) : (part8 v st i).length = 8 := by simp [part8, hv, hs]; omega
theorem part8_get (v st : List UInt32) (i : Nat) (hv : v.length = 8) (hs : st.length = 8) (hi : i < 8) : (part8 v st i).getD i 0 = v.getD i 0 := by
  simp [part8, List.getElem?_append, hv, hs, show min i 8 = i by omega]
theorem part8_set (v st : List UInt32) (i : Nat) (hv : v.length = 8) (hs : st.length = 8) (hi : i < 8) : (part8 v st i).set i (v.getD i 0 + st.getD i 0) = part8 v st (i + 1) := by
  have hz : (List.zipWith (· + ·) v st).length = 8 := by simp [hv, hs]
  unfold part8
  rw [List.set_append_right _ _ (by simp [hv, hs]; omega), List.drop_eq_getElem_cons (by omega : i < v.length)]
  rw [show i - ((List.zipWith (· + ·) v st).take i).length = 0 by simp [hv, hs]; omega, List.set_cons_zero]
  rw [List.take_succ_eq_append_getElem (by omega : i < (List.zipWith (· + ·) v st).length)]
  have h1 : v.getD i 0 = v[i] := by simp [hv, hi]
  have h2 : st.getD i 0 = st[i] := by simp [hs, hi]
  rw [h1, h2, List.getElem_zipWith, List.append_assoc]
  rfl
theorem eight {α : Type} {l : List α} (h : l.length = 8) : ∃ a b c d e f g i, l = [a, b, c, d, e, f, g, i] := by
  match l, h with
  | [a, b, c, d, e, f, g, i], _ => exact ⟨a, b, c, d, e, f, g, i, rfl⟩
def buildA (ps : Array (Nat × Value)) : Sem Value := Instr.build 267 ps
theorem buildA_eq (ps : Array (Nat × Value)) : Instr.build 267 ps = buildA ps := rfl
theorem build8 (x0 x1 x2 x3 x4 x5 x6 x7 : UInt32) (W : World) : (buildA #[(0, U x0), (1, U x1), (2, U x2), (3, U x3), (4, U x4), (5, U x5), (6, U x6), (7, U x7)]).run Tryz.prog W = .ok (.agg #[U x0, U x1, U x2, U x3, U x4, U x5, U x6, U x7]) W := by
  kernel_rfl
attribute [local go_sem ↓] buildA_eq
attribute [local go_sem] build8
set_option maxRecDepth 100000 in
set_option maxHeartbeats 2000000 in
theorem mix_any {B : Nat} (w : World) (A : Option Addr) (c : Nat) (st : List UInt32) (m : List UInt8) (hst : st.length = 8) (hm : m.length = 64) (h : Rv B w A (bys m)) (hB : B ≤ w.heap.size) :
    Calls Tryz.prog 199 #[.agg (us st).toArray, .slice A 64 c] w fun e w2 => e = .returned (.agg (us (mixS st m)).toArray) ∧ Below w.heap.size w w2 := by
  have H := Lib.hid h
  have HM := Lib.hid hm
  have HST := Lib.hid hst
  have a0 : Ar ((w.alloc (.cells (us st).toArray 267)).alloc (.cells z8 267)) w.heap.size 267 (us st) := (Ar.new w (us st) 267).alloc _
  have a1 : Ar ((w.alloc (.cells (us st).toArray 267)).alloc (.cells z8 267)) (w.heap.size + 1) 267 (us (List.replicate 8 0)) := by have h := Ar.new (w.alloc (.cells (us st).toArray 267)) (us (List.replicate 8 0)) 267; rw [World.size_alloc] at h; exact h
  have A0 := Lib.hid a0
  have A1 := Lib.hid a1
  have b0 : Below w.heap.size w ((w.alloc (.cells (us st).toArray 267)).alloc (.cells z8 267)) := ((Below.refl _ w).alloc (Nat.le_refl _) _).alloc (by simp) _
  have BB := Lib.hid b0
  clear h hm hst a0 a1 b0
  go_enter Tryz.func199, Tryz.ntmps199
  go_wp2_with fail
  have hs0 : ((w.alloc (.cells (us st).toArray 267)).alloc (.cells z8 267)).heap.size = w.heap.size + 2 := by simp
  have HS0 := Lib.hid hs0
  clear hs0
  generalize (w.alloc (.cells (us st).toArray 267)).alloc (.cells z8 267) = w0 at *
  refine (konst_any _).mono ?_
  rintro e w1 ⟨rfl, hb1⟩
  have hz := Ar.new w1 (us (List.replicate 64 0)) 390
  have hz : Ar (w1.alloc (.cells z64 390)) w1.heap.size 390 (us (List.replicate 64 0)) := hz
  have hs1 := hb1.size
  have hst1 := st64 (m := K256) hz rfl rfl
  have A0 := Lib.hid (((A0.out.below hb1 A0.out.lt).alloc (.cells z64 390)).past w1.heap.size (us K256).toArray (by have := HS0.out; omega))
  have A1 := Lib.hid (((A1.out.below hb1 A1.out.lt).alloc (.cells z64 390)).past w1.heap.size (us K256).toArray (by have := HS0.out; omega))
  have AK := Lib.hid (hz.setRow (us K256))
  have BB := Lib.hid (below_row ((BB.out.trans (hb1.mono BB.out.size)).alloc (by have := HS0.out; omega) (.cells z64 390)) w1.heap.size (us K256).toArray (by have := HS0.out; omega))
  have hs2 : w0.heap.size ≤ ((w1.alloc (.cells z64 390)).setRow w1.heap.size (us K256).toArray).heap.size := by simp; omega
  have hs2 := Lib.hid hs2
  clear hz hb1
  go_wp2_with fail
  obtain ⟨k5, hk5⟩ : ∃ k, k = w1.heap.size := ⟨_, rfl⟩
  have hkk : w.heap.size + 2 ≤ k5 := by have := HS0.out; omega
  rw [← hk5]
  rw [← hk5] at AK A0 A1 BB hs2
  clear hk5 hst1 hs1
  generalize (w1.alloc (.cells z64 390)).setRow k5 (us K256).toArray = w2 at *
  have hlt2 := AK.out.lt
  refine (spread_any (B := B) w2 A c m HM.out (H.out.below (BB.out.mono hB)) (by have := BB.out.size; omega)).mono ?_
  rintro e w3 ⟨rfl, hb3⟩
  have hs3 := hb3.size
  have hz : Ar (w3.alloc (.cells z64 390)) w3.heap.size 390 (us (List.replicate 64 0)) := Ar.new w3 (us (List.replicate 64 0)) 390
  have hst1 := st64 (m := sched m) hz rfl (sched_len m)
  have A0 := Lib.hid (((A0.out.below hb3 A0.out.lt).alloc (.cells z64 390)).past w3.heap.size (us (sched m)).toArray (by omega))
  have A1 := Lib.hid (((A1.out.below hb3 A1.out.lt).alloc (.cells z64 390)).past w3.heap.size (us (sched m)).toArray (by omega))
  have AK := Lib.hid (((AK.out.below hb3 AK.out.lt).alloc (.cells z64 390)).past w3.heap.size (us (sched m)).toArray (by omega))
  have AW := Lib.hid (hz.setRow (us (sched m)))
  have BB := Lib.hid (below_row ((BB.out.trans (hb3.mono BB.out.size)).alloc (by omega) (.cells z64 390)) w3.heap.size (us (sched m)).toArray (by omega))
  clear hz hb3
  have hk66 : k5 + 1 ≤ w3.heap.size := by omega
  obtain ⟨w4, hw4⟩ : ∃ W, W = (w3.alloc (.cells z64 390)).setRow w3.heap.size (us (sched m)).toArray := ⟨_, rfl⟩
  rw [← hw4] at hst1 AK A0 A1 BB AW
  have hl0 := ld8 A0.out HST.out
  have hk77 : w3.heap.size + 1 ≤ w4.heap.size := by have := AW.out.lt; omega
  have hz : Ar (w4.alloc (.cells z8 267)) w4.heap.size 267 (us (List.replicate 8 0)) := Ar.new w4 (us (List.replicate 8 0)) 267
  have hst2 := st8 (m := st) hz rfl HST.out
  have A0 := Lib.hid ((A0.out.alloc (.cells z8 267)).past w4.heap.size (us st).toArray (by omega))
  have A1 := Lib.hid ((A1.out.alloc (.cells z8 267)).past w4.heap.size (us st).toArray (by omega))
  have AK := Lib.hid ((AK.out.alloc (.cells z8 267)).past w4.heap.size (us st).toArray (by omega))
  have AW := Lib.hid ((AW.out.alloc (.cells z8 267)).past w4.heap.size (us st).toArray (by omega))
  have AV := Lib.hid (hz.setRow (us st))
  have BB := Lib.hid (below_row (BB.out.alloc (by omega) (.cells z8 267)) w4.heap.size (us st).toArray (by omega))
  have HW4 := Lib.hid hw4
  clear hw4 hz
  go_wp2_with fail
  obtain ⟨w5, hw5⟩ : ∃ W, W = (w4.alloc (.cells z8 267)).setRow w4.heap.size (us st).toArray := ⟨_, rfl⟩
  rw [← hw5]
  rw [← hw5] at AK A0 A1 BB AW AV
  clear hw5 hst2 hl0 hst1
  generalize w4.heap.size = k7 at *
  generalize w3.heap.size = k6 at *
  clear HW4
  go_loopw [18] (fun tv wr => ∃ t : Nat, t ≤ 64 ∧ tv = .int .i64 t ∧ Ar wr k7 267 (us (rnds (sched m) t st)) ∧ Ar wr k6 390 (us (sched m)) ∧ Ar wr k5 390 (us K256) ∧ Ar wr (w.heap.size + 1) 267 (us (List.replicate 8 0)) ∧ Ar wr w.heap.size 267 (us st) ∧ Hid (Below w.heap.size w wr)) (fun tv _ => 64 - (intOf tv).toNat)
  case atStart => exact ⟨0, by omega, rfl, AV.out, AW.out, AK.out, A1.out, A0.out, BB.out⟩
  case round =>
    clear AV AW AK A1 A0 BB
    obtain ⟨t, ht, rfl, av, aw, ak, a1, a0, bb⟩ := hrel
    by_cases hlt : t < 64
    · obtain ⟨a, b, c2, d, e, f, g, i, hv⟩ := eight (rnds_len (sched m) st HST.out t)
      have HN := Lib.hid (rnds_succ (sched m) t st)
      rw [hv] at av HN
      clear hv
      have v0 := av.cell (k := 0) rfl
      have v1 := av.cell (k := 1) rfl
      have v2 := av.cell (k := 2) rfl
      have v3 := av.cell (k := 3) rfl
      have v4 := av.cell (k := 4) rfl
      have v5 := av.cell (k := 5) rfl
      have v6 := av.cell (k := 6) rfl
      have v7 := av.cell (k := 7) rfl
      have kk := ak.cell (k := t) (us_at (by show t < 64; omega))
      have kw := aw.cell (k := t) (us_at (by rw [sched_len]; omega))
      generalize K256.getD t 0 = K at *
      generalize (sched m).getD t 0 = X at *
      have AV := Lib.hid av
      have AW := Lib.hid aw
      have AK := Lib.hid ak
      have A1 := Lib.hid a1
      have A0 := Lib.hid a0
      clear av aw ak a1 a0
      have b1 : (t : Int) < 64 := by omega
      have b0 : (0 : Int) ≤ (t : Int) := by omega
      go_wp2_with fail
      refine wp_region_quiet_lit (by kernel_rfl) (by kernel_rfl) ?_
      repeat (go_big_quiet_step (fail))
      refine wpQuiet_nil ?_
      rintro _ ⟨n1, rfl⟩
      clear v0 v1 v2 v3 v4 v5 v6 v7
      have kk : (wr.drewN n1).cell? ⟨k5, t, none⟩ = some (U K) := kk
      have kw : (wr.drewN n1).cell? ⟨k6, t, none⟩ = some (U X) := kw
      have AV := Lib.hid (AV.out.drewN n1)
      have AW := Lib.hid (AW.out.drewN n1)
      have AK := Lib.hid (AK.out.drewN n1)
      have A1 := Lib.hid (A1.out.drewN n1)
      have A0 := Lib.hid (A0.out.drewN n1)
      have bb := Lib.hid (below_dr bb.out n1)
      generalize wr.drewN n1 = wa at *
      have v0 := AV.out.cell (k := 0) rfl
      have v1 := AV.out.cell (k := 1) rfl
      have v2 := AV.out.cell (k := 2) rfl
      have v3 := AV.out.cell (k := 3) rfl
      have v4 := AV.out.cell (k := 4) rfl
      have v5 := AV.out.cell (k := 5) rfl
      have v6 := AV.out.cell (k := 6) rfl
      have v7 := AV.out.cell (k := 7) rfl
      go_wp2_with fail
      refine wp_region_quiet_lit (by kernel_rfl) (by kernel_rfl) ?_
      repeat (go_big_quiet_step ((go_at_call 267; first | exact quiet_same (rotl_any _ _ _ 6 (by decide) (by omega) (by omega)) | exact quiet_same (rotl_any _ _ _ 11 (by decide) (by omega) (by omega)) | exact quiet_same (rotl_any _ _ _ 25 (by decide) (by omega) (by omega)))))
      refine wpQuiet_nil ?_
      rintro _ ⟨n1, rfl⟩
      clear v0 v1 v2 v3 v4 v5 v6 v7
      have kk : (wa.drewN n1).cell? ⟨k5, t, none⟩ = some (U K) := kk
      have kw : (wa.drewN n1).cell? ⟨k6, t, none⟩ = some (U X) := kw
      have AV := Lib.hid (AV.out.drewN n1)
      have AW := Lib.hid (AW.out.drewN n1)
      have AK := Lib.hid (AK.out.drewN n1)
      have A1 := Lib.hid (A1.out.drewN n1)
      have A0 := Lib.hid (A0.out.drewN n1)
      have bb := Lib.hid (below_dr bb.out n1)
      generalize wa.drewN n1 = wb at *
      have v0 := AV.out.cell (k := 0) rfl
      have v1 := AV.out.cell (k := 1) rfl
      have v2 := AV.out.cell (k := 2) rfl
      have v3 := AV.out.cell (k := 3) rfl
      have v4 := AV.out.cell (k := 4) rfl
      have v5 := AV.out.cell (k := 5) rfl
      have v6 := AV.out.cell (k := 6) rfl
      have v7 := AV.out.cell (k := 7) rfl
      go_wp2_with fail
      refine wp_region_quiet_lit (by kernel_rfl) (by kernel_rfl) ?_
      repeat (go_big_quiet_step ((go_at_call 267; first | exact quiet_same (rotl_any _ _ _ 2 (by decide) (by omega) (by omega)) | exact quiet_same (rotl_any _ _ _ 13 (by decide) (by omega) (by omega)) | exact quiet_same (rotl_any _ _ _ 22 (by decide) (by omega) (by omega)))))
      refine wpQuiet_nil ?_
      rintro _ ⟨n1, rfl⟩
      clear v0 v1 v2 v3 v4 v5 v6 v7
      have kk : (wb.drewN n1).cell? ⟨k5, t, none⟩ = some (U K) := kk
      have kw : (wb.drewN n1).cell? ⟨k6, t, none⟩ = some (U X) := kw
      have AV := Lib.hid (AV.out.drewN n1)
      have AW := Lib.hid (AW.out.drewN n1)
      have AK := Lib.hid (AK.out.drewN n1)
      have A1 := Lib.hid (A1.out.drewN n1)
      have A0 := Lib.hid (A0.out.drewN n1)
      have bb := Lib.hid (below_dr bb.out n1)
      generalize wb.drewN n1 = wc at *
      have v0 := AV.out.cell (k := 0) rfl
      have v1 := AV.out.cell (k := 1) rfl
      have v2 := AV.out.cell (k := 2) rfl
      have v3 := AV.out.cell (k := 3) rfl
      have v4 := AV.out.cell (k := 4) rfl
      have v5 := AV.out.cell (k := 5) rfl
      have v6 := AV.out.cell (k := 6) rfl
      have v7 := AV.out.cell (k := 7) rfl
      clear kk kw
      have HN : Hid (rnds (sched m) (t + 1) st = [(i + (rotr e 6 ^^^ rotr e 11 ^^^ rotr e 25) + (e &&& f ^^^ nt e &&& g) + K + X) + ((rotr a 2 ^^^ rotr a 13 ^^^ rotr a 22) + (a &&& b ^^^ a &&& c2 ^^^ b &&& c2)), a, b, c2, d + (i + (rotr e 6 ^^^ rotr e 11 ^^^ rotr e 25) + (e &&& f ^^^ nt e &&& g) + K + X), e, f, g]) := HN
      generalize i + (rotr e 6 ^^^ rotr e 11 ^^^ rotr e 25) + (e &&& f ^^^ nt e &&& g) + K + X = t1 at *
      generalize (rotr a 2 ^^^ rotr a 13 ^^^ rotr a 22) + (a &&& b ^^^ a &&& c2 ^^^ b &&& c2) = t2 at *
      have hst : (store8 ⟨k7, 0, none⟩ (.agg #[U (t1 + t2), U a, U b, U c2, U (d + t1), U e, U f, U g])).run Tryz.prog wc = .ok () (wc.setRow k7 #[U (t1 + t2), U a, U b, U c2, U (d + t1), U e, U f, U g]) := st8 (m := [t1 + t2, a, b, c2, d + t1, e, f, g]) AV.out rfl rfl
      have AV := Lib.hid (AV.out.setRow (us [t1 + t2, a, b, c2, d + t1, e, f, g]))
      rw [← HN.out] at AV
      have AV : Hid (Ar (wc.setRow k7 #[U (t1 + t2), U a, U b, U c2, U (d + t1), U e, U f, U g]) k7 267 (us (rnds (sched m) (t + 1) st))) := by rw [HN.out] at AV ⊢; exact AV
      have AW := Lib.hid (AW.out.past k7 #[U (t1 + t2), U a, U b, U c2, U (d + t1), U e, U f, U g] (by omega))
      have AK := Lib.hid (AK.out.past k7 #[U (t1 + t2), U a, U b, U c2, U (d + t1), U e, U f, U g] (by omega))
      have A1 := Lib.hid (A1.out.past k7 #[U (t1 + t2), U a, U b, U c2, U (d + t1), U e, U f, U g] (by omega))
      have A0 := Lib.hid (A0.out.past k7 #[U (t1 + t2), U a, U b, U c2, U (d + t1), U e, U f, U g] (by omega))
      have bb := Lib.hid (below_row bb.out k7 #[U (t1 + t2), U a, U b, U c2, U (d + t1), U e, U f, U g] (by omega))
      go_wp2
      go_roundw
      case rel => exact ⟨t + 1, by omega, by go_num, AV.out, AW.out, AK.out, A1.out, A0.out, bb.out⟩
      case measure => simp [intOf]; omega
    · have ht64 : t = 64 := by omega
      rw [ht64] at av
      clear ht64 aw ak
      have hvl := rnds_len (sched m) st HST.out 64
      obtain ⟨v, hv⟩ : ∃ v, v = rnds (sched m) 64 st := ⟨_, rfl⟩
      rw [← hv] at av hvl
      have HV := Lib.hid hv
      clear hv
      have HVL := Lib.hid hvl
      clear hvl
      go_wp2_with fail
      go_loopw [98] (fun iv wq => ∃ i : Nat, i ≤ 8 ∧ iv = .int .i64 i ∧ Ar wq k7 267 (us (part8 v st i)) ∧ Ar wq (w.heap.size + 1) 267 (us (List.replicate 8 0)) ∧ Ar wq w.heap.size 267 (us st) ∧ Hid (Below w.heap.size w wq)) (fun iv _ => 8 - (intOf iv).toNat)
      case atStart => exact ⟨0, by omega, rfl, av, a1, a0, bb⟩
      case round =>
        clear av a1 a0 bb
        obtain ⟨i, hi, rfl, av, a1, a0, bb⟩ := hrel
        by_cases hlt : i < 8
        · have p1 := part8_len v st i HVL.out HST.out hi
          have k1 := av.cell (k := i) (us_at (by omega))
          rw [part8_get v st i HVL.out HST.out hlt] at k1
          have k2 := a0.cell (k := i) (us_at (by rw [HST.out]; exact hlt))
          have hf := av.frozen i
          have HP := Lib.hid (part8_set v st i HVL.out HST.out hlt)
          generalize v.getD i 0 = x at *
          generalize st.getD i 0 = y at *
          have AV := Lib.hid av
          have A1 := Lib.hid a1
          have A0 := Lib.hid a0
          clear av a1 a0
          have b1 : (i : Int) < 8 := by omega
          have b0 : (0 : Int) ≤ (i : Int) := by omega
          go_wp2_with fail
          go_still_tail 8, (by kernel_rfl)
          change wpList _ _ _ _ _ wr.drew
          go_wp2_with (refine wpList_store1 rfl 217 (.tmp 108) (.tmp 107) rfl ⟨k7, i, none⟩ rfl (U (x + y)) _ rfl (U_one _) inf56 k1 hf rfl ?_; intro W hW; subst hW)
          have e1 := (AV.out.drewN 1).set i (U (x + y))
          rw [us_set, HP.out] at e1
          have E1 := Lib.hid e1
          have E2 := Lib.hid ((A1.out.drewN 1).other ⟨k7, i, none⟩ (U (x + y)) (by simp; omega))
          have E3 := Lib.hid ((A0.out.drewN 1).other ⟨k7, i, none⟩ (U (x + y)) (by simp; omega))
          clear e1
          go_roundw
          case rel => exact ⟨i + 1, by omega, by go_num, E1.out, E2.out, E3.out, bb.out.drew.setCell (p := ⟨k7, i, none⟩) (by show w.heap.size ≤ k7; omega) _⟩
          case measure => simp [intOf]; omega
        · have hi8 : i = 8 := by omega
          rw [hi8] at av
          clear hi8
          have hz : part8 v st 8 = mixS st m := by unfold mixS; rw [← HV.out]; unfold part8; rw [List.drop_eq_nil_of_le (by rw [HVL.out]; omega), List.take_of_length_le (by simp [HVL.out, HST.out]), List.append_nil]
          rw [hz] at av
          have hml : (mixS st m).length = 8 := mixS_len st m HST.out
          have l1 := ld8 av hml
          have s1 := st8 (m := mixS st m) a1 rfl hml
          have HF := Lib.hid (a1.setRow (us (mixS st m)))
          go_wp2
          try simp only [Exit.inBlock, Exit.then]
          refine bodyPost_ret (results_cell_row rfl _ _ (w.heap.size + 1) 267 _ (0, 0) (.array 8 217) rfl HF.out Tryz.underlying267 rfl (by rw [List.size_toArray, us_len, hml]; exact inf8)) rfl ?_
          exact ⟨rfl, below_row bb.out _ _ (by omega)⟩
end Go.Proofs.YtbmpidacoohdmaaGreat

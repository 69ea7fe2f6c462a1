/- sleuthref31.Lines, by a contract. -/
import Derived.Test.YthhmamkphcgocaaLin
namespace Go.Proofs.Ythhmamkphcgocaa
open Go.RowKit

theorem sbs_len (l : List (List UInt8)) : (sbs l).length = l.length := by simp [sbs]
section
variable (w : World) (A D : Option Addr) (cA cD : Nat)
theorem rsplit_c (l : List UInt8) (h : Rv w.heap.size w A (bys l)) (hl : l.length ≤ 390) (hcap : l.length ≤ cA) :
    Calls Try.prog 29 #[.slice A l.length cA] w fun e w' => ∃ v, e = .returned v ∧ w'.ownsRow w.heap.size 9 1 v (splitB [] l).length (strs (sbs (splitB [] l))) ∧ Below w.heap.size w w' := by
  have := rsplit_any w A cA l h hl hcap
  rwa [splitA_eq, sbs_len] at this
theorem rnums_c (a b : List (List UInt8)) (ha : Rv w.heap.size w A (strs (sbs a))) (hb : Rv w.heap.size w D (strs (sbs b))) (la : a.length ≤ 400) (lb : b.length ≤ 400) :
    Calls Try.prog 30 #[.slice A a.length cA, .slice D b.length cD] w fun e w' => ∃ xv yv, e = .returned (.tuple #[xv, yv]) ∧ w'.ownsRow w.heap.size 3 1 xv a.length (ints (numX a)) ∧ w'.ownsRow w.heap.size 3 1 yv b.length (ints (numY a b)) ∧ Below w.heap.size w w' := by
  have := rnums_any w A D cA cD (sbs a) (sbs b) ha hb (by rw [sbs_len]; exact la) (by rw [sbs_len]; exact lb)
  rwa [sbs_len, sbs_len] at this
theorem rdiff_c (a b : List (List UInt8)) (ra : Rv w.heap.size w A (ints (numX a))) (rb : Rv w.heap.size w D (ints (numY a b))) (la : a.length ≤ 400) (lb : b.length ≤ 400) :
    Calls Try.prog 32 #[.slice A a.length cA, .slice D b.length cD] w fun e w' => ∃ v, e = .returned v ∧ w'.ownsRow w.heap.size 91 2 v (keeps (numX a) (numY a b) 0 0).length (prCells (keeps (numX a) (numY a b) 0 0)) ∧ Below w.heap.size w w' := by
  have := rdiff_any w (numX a) (numY a b) A D cA cD ra rb (by rw [numX_len]; exact la) (by rw [numY_len]; exact lb)
  rwa [numX_len, numY_len] at this
theorem hunks_c (a b : List (List UInt8)) (v0 : Value) {B : Nat} (ho : w.ownsRow B 91 2 v0 (keeps (numX a) (numY a b) 0 0).length (prCells (keeps (numX a) (numY a b) 0 0))) (la : a.length ≤ 400) (lb : b.length ≤ 400) :
    Calls Try.prog 31 #[.int .i64 a.length, .int .i64 b.length, v0] w fun e w' => ∃ v, e = .returned v ∧ w'.ownsRow w.heap.size 65 4 v (blocks (numX a) (numY a b)).length (hkCells (blocks (numX a) (numY a b))) ∧ Below w.heap.size w w' := by
  have hin := keeps_in (numX a) (numY a b) _ 0 0 (Nat.le_refl _) (Nat.zero_le _) (Nat.zero_le _)
  rw [numX_len, numY_len] at hin
  have := hunks_any w v0 a.length b.length (keeps (numX a) (numY a b) 0 0) (own_more ho (Nat.zero_le _)) (by omega) la lb (fun p hp => by have := hin.2 p hp; omega)
  have e : blocks (numX a) (numY a b) = hunks 0 0 (keeps (numX a) (numY a b) 0 0 ++ [(a.length, b.length)]) := by rw [blocks, numX_len, numY_len]
  rw [e]
  exact this
end

set_option maxRecDepth 100000 in
set_option maxHeartbeats 4000000 in
theorem rlines_any (w : World) (A D : Option Addr) (cA cD : Nat) (old now nd : List UInt8) (ra : Rv w.heap.size w A (bys old)) (rb : Rv w.heap.size w D (bys now)) (la : old.length ≤ 390) (lb : now.length ≤ 390) (ln : nd.length ≤ 390) (ca : old.length ≤ cA) (cb : now.length ≤ cD) :
    Calls Try.prog 12 #[.slice A old.length cA, .slice D now.length cD, .string (bs nd)] w fun e w' => e = .returned (.tuple #[.bool (linesB old now nd), .int .i64 0]) ∧ Below w.heap.size w w' := by
  have H1 := Lib.hid (rsplit_c w A cA old ra la ca)
  have h2 : ∀ W, Below w.heap.size w W → _ := fun W hb => rsplit_c W D cD now ((rb.below hb).more hb.size) lb cb
  have H2 := Lib.hid h2
  have l1 := splitB_len old []
  have l2 := splitB_len now []
  have e1 := splitB_each old []
  have e2 := splitB_each now []
  have E1 := Lib.hid e1
  have E2 := Lib.hid e2
  obtain ⟨res, hres⟩ : ∃ r, r = linesB old now nd := ⟨_, rfl⟩
  rw [← hres]
  unfold linesB at hres
  have HRES := Lib.hid hres
  clear h2 e1 e2 ra rb hres
  generalize splitB [] old = a at *
  generalize splitB [] now = b at *
  go_enter Try.func12, Try.ntmps12
  go_wp2_with (first
    | (go_at_call_of 29 (Value.slice A old.length cA); refine H1.out.mono ?_; rintro e w1 ⟨v, rfl, ho, hb⟩; obtain ⟨A1, c1, rfl, _, hr⟩ := own_rv ho; have R1 := Lib.hid hr; have B1 := Lib.hid hb; clear ho hr hb)
    | (go_at_call 29; refine (H2.out w1 B1.out).mono ?_; rintro e w2 ⟨v, rfl, ho, hb⟩; obtain ⟨A2, c2, rfl, _, hr⟩ := own_rv ho; have R2 := Lib.hid hr; have B2 := Lib.hid (B1.out.trans (hb.mono B1.out.size)); have R1b := Lib.hid ((R1.out.below hb).more hb.size); clear ho hr hb)
    | (go_at_call 30; refine (rnums_c w2 A1 A2 c1 c2 a b R1b.out R2.out (by omega) (by omega)).mono ?_; rintro e w3 ⟨xv, yv, rfl, hox, hoy, hb⟩; obtain ⟨XA, cx, rfl, _, hrx⟩ := own_rv hox; obtain ⟨YA, cy, rfl, _, hry⟩ := own_rv hoy; have RX := Lib.hid hrx; have RY := Lib.hid hry; have B3 := Lib.hid (B2.out.trans (hb.mono B2.out.size)); have R1c := Lib.hid ((R1b.out.below hb).more hb.size); have R2c := Lib.hid ((R2.out.below hb).more hb.size); clear hox hoy hrx hry hb)
    | (go_at_call 32; refine (rdiff_c w3 XA YA cx cy a b RX.out RY.out (by omega) (by omega)).mono ?_; rintro e w4 ⟨v4, rfl, ho4, hb⟩; have O4 := Lib.hid ho4; have B4 := Lib.hid (B3.out.trans (hb.mono B3.out.size)); have R1d := Lib.hid ((R1c.out.below hb).more hb.size); have R2d := Lib.hid ((R2c.out.below hb).more hb.size); clear ho4 hb)
    | (go_at_call 31; refine (hunks_c w4 a b v4 O4.out (by omega) (by omega)).mono ?_; rintro e w5 ⟨v5, rfl, ho5, hb⟩; obtain ⟨HA, hc, rfl, _, hrh⟩ := own_rv ho5; have RH := Lib.hid ho5; have B5 := Lib.hid (B4.out.trans (hb.mono B4.out.size)); have R1e := Lib.hid ((R1d.out.below hb).more hb.size); have R2e := Lib.hid ((R2d.out.below hb).more hb.size); clear ho5 hrh hb))
  have hbl := blocks_len (numX a) (numY a b)
  rw [numX_len] at hbl
  have hbi := blocks_in (numX a) (numY a b)
  rw [numX_len, numY_len] at hbi
  have HBI := Lib.hid hbi
  clear hbi
  generalize blocks (numX a) (numY a b) = H at *
  go_loopw [13] (fun jv wr => ∃ j : Nat, j ≤ H.length ∧ jv = .int .i64 j ∧ Hid (H.any (hitH nd a b) = (H.drop j).any (hitH nd a b)) ∧ Hid (Below w5.heap.size w5 wr)) (fun jv _ => H.length - (intOf jv).toNat)
  case atStart => exact ⟨0, Nat.zero_le _, rfl, rfl, Below.refl _ _⟩
  case round =>
    obtain ⟨j, hj, rfl, hs, hb⟩ := hrel
    by_cases hlt : j < H.length
    · obtain ⟨c0, c1', c2', c3'⟩ := hkCells_at H j hlt
      have hmem : H.getD j (0, 0, 0, 0) ∈ H := by rw [List.getD_eq_getElem?_getD, List.getElem?_eq_getElem hlt]; exact List.getElem_mem _
      obtain ⟨p, n, q, m, he, hp, hq⟩ := HBI.out _ hmem
      have hst : (H.drop j).any (hitH nd a b) = (hitH nd a b (H.getD j (0, 0, 0, 0)) || (H.drop (j + 1)).any (hitH nd a b)) := by
        rw [List.drop_eq_getElem_cons hlt, List.any_cons]
        simp [hlt]
      rw [he] at c0 c1' c2' c3' hst
      have hhit : hitH nd a b ((p : Int), (n : Int), (q : Int), (m : Int)) = (hasL nd ((a.drop p).take n) || hasL nd ((b.drop q).take m)) := rfl
      rw [hhit] at hst
      have HST := Lib.hid hst
      obtain ⟨g, cap, hv, _, bH, hcell⟩ := own_at RH.out (by omega)
      injection hv with hv1 hv2 hv3
      subst hv1
      subst hv3
      clear hv2
      have hsz := hb.out.size
      have cell : ∀ (t : Nat) (x : Value), (hkCells H)[t]? = some x → ∀ W : Aft wr, W.W.cell? ⟨g, t, none⟩ = some x := fun t x hx W =>
        (W.cell (p := ⟨g, t, none⟩) (by simp; omega)).trans ((hb.out.cell (p := ⟨g, t, none⟩) (by exact bH)).trans (hcell t x hx))
      have k0 := cell _ _ c0
      have k1 := cell _ _ c1'
      have k2 := cell _ _ c2'
      have k3 := cell _ _ c3'
      have hn1 : ∀ W : Aft wr, Calls Try.prog 33 #[.slice A1 a.length c1, .int .i64 p, .int .i64 n, .string (bs nd)] W.W fun e w' => e = .returned (.bool (hasL nd ((a.drop p).take n))) ∧ Below W.W.heap.size W.W w' := fun W =>
        rhas_any W.W A1 c1 a nd ((R1e.out.below (hb.out.trans (W.h.mono hsz))).more (Nat.le_trans hsz W.h.size)) (Nat.le_refl _) (fun s hs => by have := E1.out s hs; simp at this; omega) (by omega) (by omega) p n hp
      have hn2 : ∀ W : Aft wr, Calls Try.prog 33 #[.slice A2 b.length c2, .int .i64 q, .int .i64 m, .string (bs nd)] W.W fun e w' => e = .returned (.bool (hasL nd ((b.drop q).take m))) ∧ Below W.W.heap.size W.W w' := fun W =>
        rhas_any W.W A2 c2 b nd ((R2e.out.below (hb.out.trans (W.h.mono hsz))).more (Nat.le_trans hsz W.h.size)) (Nat.le_refl _) (fun s hs => by have := E2.out s hs; simp at this; omega) (by omega) (by omega) q m hq
      generalize hasL nd ((a.drop p).take n) = t1 at *
      generalize hasL nd ((b.drop q).take m) = t2 at *
      have HN1 := Lib.hid hn1
      have HN2 := Lib.hid hn2
      clear hn1 hn2 cell hcell c0 c1' c2' c3' hst hhit he hmem
      cases t1 with
      | true =>
        go_wp2_with fail
        refine wp_region_aft (by kernel_rfl) (by kernel_rfl) ?_
        repeat (first | go_big_quiet_step (with_reducible exact aft_call (HN1.out _)) | go_big_quiet_step (with_reducible exact aft_call (HN2.out _)))
        refine wpQuiet_nil ?_
        rintro _ ⟨W1, rfl⟩
        go_wp2
        go_ret2
        have hr : res = true := by rw [HRES.out, hs.out, HST.out]; rfl
        exact ⟨by rw [hr]; rfl, B5.out.trans ((hb.out.trans (W1.h.mono hsz)).mono B5.out.size)⟩
      | false =>
        cases t2 with
        | true =>
          go_wp2_with fail
          refine wp_region_aft (by kernel_rfl) (by kernel_rfl) ?_
          repeat (first | go_big_quiet_step (with_reducible exact aft_call (HN1.out _)) | go_big_quiet_step (with_reducible exact aft_call (HN2.out _)))
          refine wpQuiet_nil ?_
          rintro _ ⟨W1, rfl⟩
          go_wp2
          go_ret2
          have hr : res = true := by rw [HRES.out, hs.out, HST.out]; rfl
          exact ⟨by rw [hr]; rfl, B5.out.trans ((hb.out.trans (W1.h.mono hsz)).mono B5.out.size)⟩
        | false =>
          go_wp2_with fail
          refine wp_region_aft (by kernel_rfl) (by kernel_rfl) ?_
          repeat (first | go_big_quiet_step (with_reducible exact aft_call (HN1.out _)) | go_big_quiet_step (with_reducible exact aft_call (HN2.out _)))
          refine wpQuiet_nil ?_
          rintro _ ⟨W1, rfl⟩
          go_wp2
          exact ⟨⟨j + 1, by omega, by go_num, (hs.out.trans HST.out : _), (hb.out.trans (W1.h.mono hsz) : _)⟩, by simp [intOf]; omega⟩
    · go_wp2
      go_ret2
      have hr : res = false := by rw [HRES.out, hs.out, List.drop_eq_nil_of_le (by omega)]; rfl
      exact ⟨by rw [hr]; rfl, B5.out.trans (hb.out.mono B5.out.size)⟩
end Go.Proofs.Ythhmamkphcgocaa

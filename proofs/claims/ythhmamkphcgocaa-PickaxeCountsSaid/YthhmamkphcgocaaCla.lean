/- sleuthlaw31.PickaxeCounts: the walk of the law out of the contracts. -/
import Derived.Test.YthhmamkphcgocaaPla
import Derived.Test.YthhmamkphcgocaaSlo
import Derived.Test.YthhmamkphcgocaaChk
import Derived.Test.YthhmamkphcgocaaAft
namespace Go.Proofs.Ythhmamkphcgocaa
open Go.RowKit
attribute [local go_sem ↓] lit27z_eq
attribute [local go_sem] run_lit27z

set_option maxRecDepth 100000 in
set_option maxHeartbeats 2000000 in
theorem claw_big (w : World) (A D : Option Addr) (cA cD n1 n2 : Nat) (nd : List UInt8) (mode : Int) (P : Option Addr) (np cp : Nat) (m0 : Int) (hm : w.cell? ⟨0, 0, none⟩ = some (.int .i64 m0)) (h : 1000 < n1 ∨ 1000 < n2 ∨ 1000 < nd.length) :
    Calls Try.prog 5 #[.slice A n1 cA, .slice D n2 cD, qry nd mode P np cp] w fun e w' => e = .returned (.bool true) ∧ Below w.heap.size w w' := by
  have hsz := bs_size nd
  have b0 : Below w.heap.size w (w.alloc (.cells #[.string (bs nd), .int .i64 mode, .slice P np cp] 36)) := (Below.refl _ w).alloc (Nat.le_refl _) _
  have HW := Lib.hid (pworks_any (w.alloc (.cells #[.string (bs nd), .int .i64 mode, .slice P np cp] 36)) m0 ((b0.cell (p := ⟨0, 0, none⟩) (mem_pos hm)).trans hm))
  have B0 := Lib.hid b0
  clear b0
  unfold qry
  by_cases h1 : 1000 < n1
  · go_enter Try.func5, Try.ntmps5
    go_wp2_with (go_at_call 10; refine HW.out.mono ?_; rintro e w1 ⟨rfl, hb⟩; have HB := Lib.hid hb; clear hb)
    all_goals
      go_ret
      exact ⟨rfl, B0.out.trans (HB.out.mono B0.out.size)⟩
  · by_cases h2 : 1000 < n2
    · go_enter Try.func5, Try.ntmps5
      go_wp2_with (go_at_call 10; refine HW.out.mono ?_; rintro e w1 ⟨rfl, hb⟩; have HB := Lib.hid hb; clear hb)
      all_goals
        go_ret
        exact ⟨rfl, B0.out.trans (HB.out.mono B0.out.size)⟩
    · have h3 : 1000 < nd.length := by omega
      go_enter Try.func5, Try.ntmps5
      go_wp2_with (go_at_call 10; refine HW.out.mono ?_; rintro e w1 ⟨rfl, hb⟩; have HB := Lib.hid hb; clear hb)
      all_goals
        go_ret
        exact ⟨rfl, B0.out.trans (HB.out.mono B0.out.size)⟩

set_option maxRecDepth 100000 in
set_option maxHeartbeats 4000000 in
theorem claw_any (w : World) (A D : Option Addr) (cA cD : Nat) (old now nd : List UInt8) (mode : Int) (P : Option Addr) (np cp : Nat) (m0 : Int) (hm : w.cell? ⟨0, 0, none⟩ = some (.int .i64 m0)) (ra : Rv w.heap.size w A (bys old)) (rb : Rv w.heap.size w D (bys now))
    (ca : old.length ≤ cA) (cb : now.length ≤ cD) (na : A = none → cA = 0) (nb : D = none → cD = 0) (h1 : old.length ≤ 1000) (h2 : now.length ≤ 1000) (h3 : nd.length ≤ 1000) :
    Calls Try.prog 5 #[.slice A old.length cA, .slice D now.length cD, qry nd mode P np cp] w fun e w' => e = .returned (.bool true) ∧ Below w.heap.size w w' := by
  have hsz := bs_size nd
  have hp := mem_pos hm
  have MEM := Lib.hid (fun (W : World) (h : Below w.heap.size w W) => (h.cell (p := ⟨0, 0, none⟩) hp).trans hm)
  have RA := Lib.hid (fun (W : World) (h : Below w.heap.size w W) => (ra.below h).more h.size)
  have RB := Lib.hid (fun (W : World) (h : Below w.heap.size w W) => (rb.below h).more h.size)
  have NA := Lib.hid na
  have NB := Lib.hid nb
  have CA := Lib.hid ca
  have CB := Lib.hid cb
  have HJ := Lib.hid (cnt_join nd old now)
  have hb0 : Below w.heap.size w (w.alloc (.cells #[.string (bs nd), .int .i64 mode, .slice P np cp] 36)) := (Below.refl _ w).alloc (Nat.le_refl _) _
  have hcell : ∀ k v, ([.string (bs nd), .int .i64 mode, .slice P np cp] : List Value)[k]? = some v → (w.alloc (.cells #[.string (bs nd), .int .i64 mode, .slice P np cp] 36)).cell? ⟨w.heap.size, k, none⟩ = some v := fun k v hk => by
    have := new_cells w [.string (bs nd), .int .i64 mode, .slice P np cp] 36 _ rfl k v hk
    rwa [Addr.add_lit, Nat.zero_add] at this
  have hs0 : w.heap.size < (w.alloc (.cells #[.string (bs nd), .int .i64 mode, .slice P np cp] 36)).heap.size := by simp
  unfold qry
  clear ra rb na nb ca cb hm
  go_enter Try.func5, Try.ntmps5
  go_wp2_with fail
  generalize w.alloc (.cells #[.string (bs nd), .int .i64 mode, .slice P np cp] 36) = w0 at *
  have H0 := Lib.hid hb0
  have S0 := Lib.hid hs0
  have hw0 : ∀ W : Aft w0, Below w.heap.size w W.W := fun W => H0.out.trans (W.h.mono H0.out.size)
  have k0 : ∀ W : Aft w0, W.W.cell? ⟨w.heap.size, 0, none⟩ = some (.string (bs nd)) := fun W => (W.cell (p := ⟨w.heap.size, 0, none⟩) S0.out).trans (hcell 0 _ rfl)
  have HCELL := Lib.hid hcell
  have hn1 : ∀ W : Aft w0, Calls Try.prog 13 #[.slice A old.length cA, .string (bs nd)] W.W fun e w' => e = .returned (.int .i64 (cnt nd old)) ∧ Below W.W.heap.size W.W w' := fun W => count_all W.W A cA old nd (RA.out _ (hw0 W)) (Nat.le_refl _) (by omega) (by omega) CA.out
  have hn2 : ∀ W : Aft w0, Calls Try.prog 13 #[.slice D now.length cD, .string (bs nd)] W.W fun e w' => e = .returned (.int .i64 (cnt nd now)) ∧ Below W.W.heap.size W.W w' := fun W => count_all W.W D cD now nd (RB.out _ (hw0 W)) (Nat.le_refl _) (by omega) (by omega) CB.out
  have HRA := Lib.hid (fun (W : World) (h : Below w.heap.size w W) => rcount_any W A cA old nd (RA.out W h) (by omega) (by omega) CA.out)
  have HRB := Lib.hid (fun (W : World) (h : Below w.heap.size w W) => rcount_any W D cD now nd (RB.out W h) (by omega) (by omega) CB.out)
  have lx := cnt_le nd old
  have ly := cnt_le nd now
  generalize cnt nd old = x at *
  generalize cnt nd now = y at *
  have HN1 := Lib.hid hn1
  have HN2 := Lib.hid hn2
  have HW0 := Lib.hid hw0
  clear hn1 hn2 hw0 hb0 hs0 hcell
  refine wp_region_aft (by kernel_rfl) (by kernel_rfl) ?_
  repeat (first | go_big_quiet_step (with_reducible exact aft_call (HN1.out _)) | go_big_quiet_step (with_reducible exact aft_call (HN2.out _)))
  refine wpQuiet_nil ?_
  rintro _ ⟨W1, rfl⟩
  have B1 := Lib.hid (HW0.out W1)
  have CE := Lib.hid (fun (k : Nat) (v : Value) (hk : ([.string (bs nd), .int .i64 mode, .slice P np cp] : List Value)[k]? = some v) => (W1.cell (p := ⟨w.heap.size, k, none⟩) S0.out).trans (HCELL.out k v hk))
  have S1 := Lib.hid (Nat.lt_of_lt_of_le S0.out W1.h.size)
  clear k0 HN1 HN2 HW0
  generalize W1.W = w1 at *
  obtain ⟨both, hboth⟩ : ∃ l, l = old ++ now := ⟨_, rfl⟩
  have hbb : bys old ++ bys now = bys both := by rw [hboth]; simp [bys]
  have kb : both.length ≤ 2000 := by rw [hboth]; simp; omega
  rw [← hboth] at HJ
  have HBB := Lib.hid hbb
  have H1' := Lib.hid h1
  have H2' := Lib.hid h2
  clear hboth hbb
  go_wp2_with (first
    | (at_builtin; refine wpList_append_rv rfl (.tmp 33) (.tmp 34) rfl w1.heap.size _ 0 [] rfl (empty5_own w1) A cA old rfl NA.out (RA.out _ (B1.out.alloc B1.out.size _)) (by omega) (by simp) ?_; intro v2 w2 ho hg; have B2 := Lib.hid (made_below hg); have O2 := Lib.hid ho; clear ho hg)
    | (at_builtin; refine wpList_append_rv rfl (.tmp 35) (.tmp 36) rfl w1.heap.size v2 _ _ rfl O2.out D cD now rfl NB.out (RB.out _ (B1.out.trans (B2.out.mono B1.out.size))) (by omega) B2.out.size ?_; intro v3 w3 ho hg; have B3 := Lib.hid (next_below B2.out (Nat.le_refl _) O2.out hg); obtain ⟨X, cX, rfl, nX, kX, rX⟩ := own_bys ho both (by rw [List.nil_append]; exact HBB.out); have C3 := Lib.hid (B1.out.trans (B3.out.mono B1.out.size)); have RX := Lib.hid rX; have KX := Lib.hid kX; clear ho hg nX rX kX))
  have S3 := Lib.hid (Nat.lt_of_lt_of_le S1.out B3.out.size)
  have CE3 := Lib.hid (fun (k : Nat) (v : Value) (hk : ([.string (bs nd), .int .i64 mode, .slice P np cp] : List Value)[k]? = some v) => (B3.out.cell (p := ⟨w.heap.size, k, none⟩) S1.out).trans (CE.out k v hk))
  have hw3 : ∀ W : Aft w3, Below w.heap.size w W.W := fun W => C3.out.trans (W.h.mono C3.out.size)
  have c0 : ∀ W : Aft w3, W.W.cell? ⟨w.heap.size, 0, none⟩ = some (.string (bs nd)) := fun W => (W.cell (p := ⟨w.heap.size, 0, none⟩) S3.out).trans (CE3.out 0 _ rfl)
  have c1 : ∀ W : Aft w3, W.W.cell? ⟨w.heap.size, 1, none⟩ = some (.int .i64 mode) := fun W => (W.cell (p := ⟨w.heap.size, 1, none⟩) S3.out).trans (CE3.out 1 _ rfl)
  have c2 : ∀ W : Aft w3, W.W.cell? ⟨w.heap.size, 2, none⟩ = some (.slice P np cp) := fun W => (W.cell (p := ⟨w.heap.size, 2, none⟩) S3.out).trans (CE3.out 2 _ rfl)
  have G1 := Lib.hid (fun (W : Aft w3) => (HRA.out W.W (hw3 W)).mono (R' := fun e w' => e = .returned (.int .i64 x) ∧ Below W.W.heap.size W.W w') fun e w' h => ⟨h.1, by rw [h.2]; exact Below.refl _ _⟩)
  have G2 := Lib.hid (fun (W : Aft w3) => (HRB.out W.W (hw3 W)).mono (R' := fun e w' => e = .returned (.int .i64 y) ∧ Below W.W.heap.size W.W w') fun e w' h => ⟨h.1, by rw [h.2]; exact Below.refl _ _⟩)
  have g3 := fun (W : Aft w3) => check_any W.W nd mode P np cp
  have g4 := fun (W : Aft w3) => plain_any W.W nd mode P np cp
  have g5 := fun (W : Aft w3) => rcheck_any W.W nd mode P np cp
  unfold qry at g3 g4 g5
  have G3 := Lib.hid g3
  have G4 := Lib.hid g4
  have G5 := Lib.hid g5
  clear g3 g4 g5
  have HW3 := Lib.hid hw3
  clear hw3
  generalize chk nd mode np = ck at *
  refine wp_region_aft (by kernel_rfl) (by kernel_rfl) ?_
  repeat (first | go_big_quiet_step (with_reducible exact aft_call (G1.out _)) | go_big_quiet_step (with_reducible exact aft_call (G2.out _)) | go_big_quiet_step (with_reducible exact aft_call (G3.out _)) | go_big_quiet_step (with_reducible exact aft_call (G4.out _)) | go_big_quiet_step (with_reducible exact aft_call (G5.out _)))
  refine wpQuiet_nil ?_
  rintro _ ⟨W4, rfl⟩
  have B4 := Lib.hid (HW3.out W4)
  have hc4 : W4.W.cell? ⟨w.heap.size, 0, none⟩ = some (.string (bs nd)) := c0 W4
  have HB := Lib.hid (count_all W4.W X cX both nd ((RX.out.below W4.h).more W4.h.size) (Nat.le_refl _) kb (by omega) KX.out)
  clear c0 c1 c2 G1 G2 G3 G4 G5 HW3
  generalize W4.W = w4 at *
  have hj := HJ.out
  generalize cnt nd both = z at *
  go_wp2_with (first
    | (go_at_call 13; refine HB.out.mono ?_; rintro e w5 ⟨rfl, hb⟩; have B5 := Lib.hid (B4.out.trans (hb.mono B4.out.size)); clear hb)
    | (go_at_call 10; refine (pworks_any w5 m0 (MEM.out w5 B5.out)).mono ?_; rintro e w6 ⟨rfl, hb⟩; have B6 := Lib.hid (B5.out.trans (hb.mono B5.out.size)); clear hb))
  all_goals
    go_ret
    exact ⟨rfl, B6.out⟩
end Go.Proofs.Ythhmamkphcgocaa

/- sleuthlaw31.PickaxeLines: the walk of the law out of the contracts. -/
import Derived.Test.YthhmamkphcgocaaPwk
import Derived.Test.YthhmamkphcgocaaApp
namespace Go.Proofs.Ythhmamkphcgocaa
open Go.RowKit
attribute [local go_sem ↓] lit27z_eq
attribute [local go_sem] run_lit27z

set_option maxRecDepth 100000 in
set_option maxHeartbeats 2000000 in
theorem plaw_big (w : World) (A D : Option Addr) (cA cD n1 n2 : Nat) (s : ByteArray) (m0 : Int) (hm : w.cell? ⟨0, 0, none⟩ = some (.int .i64 m0)) (h : 150 < n1 ∨ 150 < n2 ∨ 150 < s.size) :
    Calls Try.prog 4 #[.slice A n1 cA, .slice D n2 cD, .string s] w fun e w' => e = .returned (.bool true) ∧ Below w.heap.size w w' := by
  have HW := Lib.hid (pworks_any w m0 hm)
  by_cases h1 : 150 < n1
  · go_enter Try.func4, Try.ntmps4
    go_wp2_with (go_at_call 10; refine HW.out.mono ?_; rintro e w1 ⟨rfl, hb⟩)
    all_goals
      go_ret
      exact ⟨rfl, hb⟩
  · by_cases h2 : 150 < n2
    · go_enter Try.func4, Try.ntmps4
      go_wp2_with (go_at_call 10; refine HW.out.mono ?_; rintro e w1 ⟨rfl, hb⟩)
      all_goals
        go_ret
        exact ⟨rfl, hb⟩
    · have h3 : 150 < s.size := by omega
      go_enter Try.func4, Try.ntmps4
      go_wp2_with (go_at_call 10; refine HW.out.mono ?_; rintro e w1 ⟨rfl, hb⟩)
      all_goals
        go_ret
        exact ⟨rfl, hb⟩

/-- Behind an own row's making at the world W's end. -/
theorem made_below {W w1 : World} {o : Obj} (hg : (W.alloc o).grownBy w1 (Value.ownBlock (.slice (some ⟨W.heap.size, 0, none⟩) 0 0))) : Below W.heap.size W w1 :=
  ((Below.refl _ W).alloc (Nat.le_refl _) o).grown hg (by simp) (fun k e => by simp [Value.ownBlock] at e; omega)
theorem next_below {base : Nat} {W w1 w2 : World} {v : Value} {n : Nat} {xs : List Value} (hb : Below base W w1) (hbase : base ≤ W.heap.size) (ho : w1.ownsRow base 5 1 v n xs) (hg : w1.grownBy w2 v.ownBlock) : Below base W w2 :=
  hb.grown hg (Nat.le_trans hbase hb.size) (fun k e => (ho.lt k e).1)
theorem ten_rv (w : World) : Rv (w.heap.size + 1) (w.alloc (.cells #[.int .u8 10] 5)) (some ⟨w.heap.size, 0, none⟩) (bys [10]) := fun k x hx => ⟨_, rfl, Nat.lt_succ_self _, new_cells w (bys [10]) 5 _ rfl k x hx⟩
theorem own_bys {w : World} {base n : Nat} {v : Value} {xs : List Value} (h : w.ownsRow base 5 1 v n xs) (l : List UInt8) (hl : xs = bys l) : ∃ L c, v = .slice L l.length c ∧ (L = none → c = 0) ∧ l.length ≤ c ∧ Rv w.heap.size w L (bys l) := by
  subst hl
  have hn : l.length = n := by have := h.1; rw [bys_len] at this; omega
  subst hn
  obtain ⟨L, c, rfl, h1, h2⟩ := own_rv h
  exact ⟨L, c, rfl, h1, own_cap h, h2⟩

set_option maxRecDepth 100000 in
set_option maxHeartbeats 4000000 in
theorem plaw_any (w : World) (A D : Option Addr) (cA cD : Nat) (old now nd : List UInt8) (m0 : Int) (hm : w.cell? ⟨0, 0, none⟩ = some (.int .i64 m0)) (ra : Rv w.heap.size w A (bys old)) (rb : Rv w.heap.size w D (bys now))
    (ca : old.length ≤ cA) (cb : now.length ≤ cD) (na : A = none → cA = 0) (nb : D = none → cD = 0) (h1 : old.length ≤ 150) (h2 : now.length ≤ 150) (h3 : nd.length ≤ 150) :
    Calls Try.prog 4 #[.slice A old.length cA, .slice D now.length cD, .string (bs nd)] w fun e w' => e = .returned (.bool true) ∧ Below w.heap.size w w' := by
  have hsz := bs_size nd
  have hp := mem_pos hm
  have MEM := Lib.hid (fun (W : World) (h : Below w.heap.size w W) => (h.cell (p := ⟨0, 0, none⟩) hp).trans hm)
  have RA := Lib.hid (fun (W : World) (h : Below w.heap.size w W) => (ra.below h).more h.size)
  have RB := Lib.hid (fun (W : World) (h : Below w.heap.size w W) => (rb.below h).more h.size)
  have NA := Lib.hid na
  have NB := Lib.hid nb
  have HP := Lib.hid (plines_any w A D cA cD old now nd m0 hm ra rb (by omega) (by omega) ca cb)
  have HR := Lib.hid (fun (W : World) (h : Below w.heap.size w W) => rlines_any W A D cA cD old now nd (RA.out W h) (RB.out W h) (by omega) (by omega) (by omega) ca cb)
  have HZ := Lib.hid (fun (W : World) (h : Below w.heap.size w W) => rlines_any W none D 0 cD [] now nd Rv.nil (RB.out W h) (by simp) (by omega) (by omega) (Nat.le_refl _) cb)
  have L1 := linesB_first old now nd
  have L2 := linesB_last old now nd
  rw [linesB_nil] at HZ
  obtain ⟨r, hr⟩ : ∃ r, r = linesB old now nd := ⟨_, rfl⟩
  obtain ⟨z, hz⟩ : ∃ z, z = hasL nd (splitB [] now) := ⟨_, rfl⟩
  rw [← hr] at HP HR
  rw [← hz] at HZ L1 L2
  obtain ⟨lin, hlin⟩ : ∃ l, l = old ++ [10] := ⟨_, rfl⟩
  obtain ⟨all, hall⟩ : ∃ l, l = lin ++ now := ⟨_, rfl⟩
  have b1 : bys old ++ bys [10] = bys lin := by rw [hlin]; simp [bys]
  have b2 : bys lin ++ bys now = bys all := by rw [hall]; simp [bys]
  have k1 : lin.length ≤ 151 := by rw [hlin]; simp; omega
  have k2 : all.length ≤ 301 := by rw [hall]; simp; omega
  rw [← hlin, ← hall] at L1 L2
  have BB1 := Lib.hid b1
  have BB2 := Lib.hid b2
  have ML : ∀ (W : World) (L X : Option Addr) (c d : Nat), Below w.heap.size w W → Rv W.heap.size W L (bys lin) → Rv W.heap.size W X (bys all) → lin.length ≤ c → all.length ≤ d →
      Calls Try.prog 11 #[.slice L lin.length c, .slice X all.length d, .string (bs nd)] W fun e w' => e = .returned (.tuple #[.bool z, .int .i64 0]) ∧ Below W.heap.size W w' := fun W L X c d hb hl hx hc hd => by
    rw [← L1]; exact plines_any W L X c d lin all nd m0 (MEM.out W hb) hl hx (by omega) (by omega) hc hd
  have MX : ∀ (W : World) (L X : Option Addr) (c d : Nat), Below w.heap.size w W → Rv W.heap.size W L (bys lin) → Rv W.heap.size W X (bys all) → lin.length ≤ c → all.length ≤ d →
      Calls Try.prog 11 #[.slice X all.length d, .slice L lin.length c, .string (bs nd)] W fun e w' => e = .returned (.tuple #[.bool z, .int .i64 0]) ∧ Below W.heap.size W w' := fun W L X c d hb hl hx hc hd => by
    rw [← L2]; exact plines_any W X L d c all lin nd m0 (MEM.out W hb) hx hl (by omega) (by omega) hd hc
  have LL1 := Lib.hid ML
  have LL2 := Lib.hid MX
  clear hr hz ra rb na nb hm hall hlin b1 b2 L1 L2 ML MX
  go_enter Try.func4, Try.ntmps4
  go_wp2_with (first
    | (go_at_call_of 11 (Value.slice A old.length cA); with_reducible refine HP.out.mono ?_; rintro e w1 ⟨rfl, hb⟩; have B1 := Lib.hid hb; clear hb)
    | (go_at_call_of 12 (Value.slice A old.length cA); with_reducible refine (HR.out w1 B1.out).mono ?_; rintro e w2 ⟨rfl, hb⟩; have B2 := Lib.hid (B1.out.trans (hb.mono B1.out.size)); clear hb)
    | (at_builtin; refine wpList_append_rv rfl (.tmp 54) (.tmp 55) rfl w2.heap.size _ 0 [] rfl (empty5_own w2) A cA old rfl NA.out (RA.out _ (B2.out.alloc B2.out.size _)) (by omega) (by simp) ?_; intro v3 w3 ho hg; have B3 := Lib.hid (made_below hg); have O3 := Lib.hid ho; clear ho hg)
    | (at_builtin; refine wpList_append_rv rfl (.tmp 56) (.tmp 57) rfl w2.heap.size v3 _ _ rfl (O3.out.alloc _) (some ⟨w3.heap.size, 0, none⟩) 1 [10] rfl (fun h => by cases h) (ten_rv w3) (by simp; omega) (by have := B3.out.size; simp; omega) ?_; intro v4 w4 ho hg; have B4 := Lib.hid (B2.out.trans ((next_below (B3.out.alloc B3.out.size _) (Nat.le_refl _) (O3.out.alloc _) hg).mono B2.out.size)); obtain ⟨L, cL, rfl, nL, kL, rL⟩ := own_bys ho lin (by rw [List.nil_append]; exact BB1.out); have NL := Lib.hid nL; have RL := Lib.hid (fun (W : World) (h : Below w4.heap.size w4 W) => (rL.below h).more h.size); clear ho hg nL rL)
    | (at_builtin; refine wpList_append_rv rfl (.tmp 61) (.tmp 62) rfl w4.heap.size _ 0 [] rfl (empty5_own w4) L cL lin rfl NL.out (RL.out _ ((Below.refl _ w4).alloc (Nat.le_refl _) _)) (by simp; omega) (by simp) ?_; intro v5 w5 ho hg; have B5 := Lib.hid (made_below hg); have O5 := Lib.hid ho; clear ho hg)
    | (at_builtin; refine wpList_append_rv rfl (.tmp 63) (.tmp 64) rfl w4.heap.size v5 _ _ rfl O5.out D cD now rfl NB.out (RB.out _ (B4.out.trans (B5.out.mono B4.out.size))) (by simp; omega) B5.out.size ?_; intro v6 w6 ho hg; have B6 := Lib.hid (next_below B5.out (Nat.le_refl _) O5.out hg); obtain ⟨X, cX, rfl, nX, kX, rX⟩ := own_bys ho all (by rw [List.nil_append]; exact BB2.out); have C6 := Lib.hid (B4.out.trans (B6.out.mono B4.out.size)); have RX := Lib.hid rX; clear ho hg nX rX)
    | (go_at_call_of 11 (Value.slice L lin.length cL); with_reducible refine (LL1.out w6 L X cL cX C6.out (RL.out w6 B6.out) RX.out kL kX).mono ?_; rintro e w7 ⟨rfl, hb⟩; have B7 := Lib.hid (B6.out.trans (hb.mono B6.out.size)); have C7 := Lib.hid (C6.out.trans (hb.mono C6.out.size)); clear hb)
    | (at_builtin; refine wpList_append_rv rfl (.tmp 71) (.tmp 72) rfl w7.heap.size _ 0 [] rfl (empty5_own w7) L cL lin rfl NL.out (RL.out _ (B7.out.alloc B7.out.size _)) (by simp; omega) (by simp) ?_; intro v8 w8 ho hg; have B8 := Lib.hid (made_below hg); have O8 := Lib.hid ho; clear ho hg)
    | (at_builtin; refine wpList_append_rv rfl (.tmp 73) (.tmp 74) rfl w7.heap.size v8 _ _ rfl O8.out D cD now rfl NB.out (RB.out _ (C7.out.trans (B8.out.mono C7.out.size))) (by simp; omega) B8.out.size ?_; intro v9 w9 ho hg; have B9 := Lib.hid (next_below B8.out (Nat.le_refl _) O8.out hg); obtain ⟨Y, cY, rfl, nY, kY, rY⟩ := own_bys ho all (by rw [List.nil_append]; exact BB2.out); have C9 := Lib.hid (C7.out.trans (B9.out.mono C7.out.size)); have D9 := Lib.hid (B7.out.trans (B9.out.mono B7.out.size)); have RY := Lib.hid rY; clear ho hg nY rY)
    | (go_at_call_of 11 (Value.slice Y all.length cY); with_reducible refine (LL2.out w9 L Y cL cY C9.out (RL.out w9 D9.out) RY.out kL kY).mono ?_; rintro e w10 ⟨rfl, hb⟩; have C10 := Lib.hid (C9.out.trans (hb.mono C9.out.size)); clear hb)
    | (go_at_call 12; refine (HZ.out w10 C10.out).mono ?_; rintro e w11 ⟨rfl, hb⟩; have C11 := Lib.hid (C10.out.trans (hb.mono C10.out.size)); clear hb)
    | (go_at_call 10; refine (pworks_any w11 m0 (MEM.out w11 C11.out)).mono ?_; rintro e w12 ⟨rfl, hb⟩; have C12 := Lib.hid (C11.out.trans (hb.mono C11.out.size)); clear hb))
  all_goals
    go_ret
    exact ⟨rfl, C12.out⟩
end Go.Proofs.Ythhmamkphcgocaa

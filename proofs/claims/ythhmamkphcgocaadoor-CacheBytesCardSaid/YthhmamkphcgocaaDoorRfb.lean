/- sleuthref01.Reader by contracts. -/
import Derived.Test.YthhmamkphcgocaaDoorRfa
import Derived.IntWalk
namespace Go.Proofs.YthhmamkphcgocaaDoor
open Go.RowKit

def Rf (w : World) (g : Nat) (A : Option Addr) (c : Nat) (l : List UInt8) (k e : Nat) : Prop := Rd w g 67 A c l k e
set_option maxRecDepth 100000 in
set_option maxHeartbeats 1000000 in
theorem fraw_any (w : World) (g : Nat) (A : Option Addr) (c : Nat) (l : List UInt8) (k e : Nat) (n : Nat) (h : Rf w g A c l k e) (hn : n ≤ 1000000000) :
    Calls Tryd.prog 63 #[.pointer (some ⟨g, 0, none⟩), .int .i64 n] w fun en w2 => ∃ u, en = .returned u ∧ w2.ownsRow w.heap.size 5 1 u (rTake l n k e).1.length (bys (rTake l n k e).1) ∧ Rf w2 g A c l (rTake l n k e).2.1 (rTake l n k e).2.2 ∧ w.grownBy w2 (some g) := by
  have c0 := h.c0
  have c1 := h.c1
  have c2 := h.c2
  have f1 := h.fz 1
  have f2 := h.fz 2
  have hle := h.le
  have hsm := h.small
  have hcap := h.cap
  have H := Lib.hid h
  clear h
  by_cases he : e = 0
  · subst he
    by_cases hlt : n ≤ l.length - k
    · have e1 : rTake l n k 0 = ((l.drop k).take n, k + n, 0) := by simp [rTake, hlt]
      rw [e1]
      have hml : ((l.drop k).take n).length = n := by simp; omega
      have HML := Lib.hid hml
      have HBL := Lib.hid (bys_len ((l.drop k).take n))
      clear e1 hml
      have hcut := H.out.cut (Nat.le_refl w.heap.size) k n (by omega)
      rw [Nat.mul_one] at hcut
      obtain ⟨D, hD⟩ : ∃ D, (if c = k then A else A.map (·.add k)) = D := ⟨_, rfl⟩
      rw [hD] at hcut
      have HC := Lib.hid hcut
      have HDN := Lib.hid (by rw [← hD]; intro hn; split at hn; (have := H.out.nil hn; omega); (have := H.out.nil (by simpa using hn); omega) : D = none → c - k = 0)
      clear hcut
      have hkn : k + n - k = n := by omega
      go_enter Tryd.func63, Tryd.ntmps63
      go_wp2_with fail
      refine wp_region_quiet_lit (by kernel_rfl) (by kernel_rfl) ?_
      repeat (go_big_quiet_step (fail))
      refine wpQuiet_nil ?_
      rintro _ ⟨n1, rfl⟩
      go_wp2_with fail
      have q1 : IntKind.i64.wrap ((k : Int) + n) = (k : Int) + n := IntWalk.i64_in _ (by omega)
      have q2 : (0 : Int) ≤ (k : Int) + n := by omega
      have q3 : (k : Int) + n ≤ (c : Int) := by omega
      have q4 : ((k : Int) + n).toNat = k + n := by omega
      go_region_law (refine step_app sl22 rfl (.tmp 31) (.tmp 46) rfl w.heap.size (.slice none 0 0) 0 [] (by simp [Act.eval, Act.put]) (World.ownsRow_nil _ _ _ _) D n (c - k) (bys ((l.drop k).take n)) (by simp [Act.eval, Act.put]) HDN.out (by rw [HBL.out, HML.out, Nat.mul_one]) HC.out (bys_one _) (by unfold maxLen; omega) (by omega) (by simp) ?_; intro v2 w2 ho ha; have HO2 := Lib.hid ho; have HA := Lib.hid ha; clear ho ha)
      all_goals clear q1 q2 q3 q4
      all_goals
        have hp2 : Rf w2 g A c l k 0 := Rd.later (H.out.drewN (n1 + 1)) HA.out.grown
        have hg2 := grown_any HA.out.grown (some g)
        have c1 := hp2.c1
        have f1 := hp2.fz 1
        have HP := Lib.hid (hp2.set1 (k + n) (k + n) (by omega) (by omega))
        have HG := Lib.hid (grown_set (i := 1) (v := .int .i64 ((k : Int) + n)) ⟨hg2.os, hg2.tape, hg2.output, hg2.size, hg2.block⟩)
        clear hp2 hg2
        go_wp2
        go_ret
        have h2 := HO2.out
        rw [Nat.zero_add, List.nil_append] at h2
        rw [HML.out]
        exact ⟨v2, rfl, own_low h2 (grown_set (grown_refl _ _) 1 _) H.out.lt, HP.out, grown_trans (grown_drewN (grown_refl w (some g)) (n1 + 1)) HG.out⟩
    · have e1 : rTake l n k 0 = ([], k, 10) := by simp [rTake, hlt]
      rw [e1]
      clear e1
      go_enter Tryd.func63, Tryd.ntmps63
      go_wp2_with fail
      refine wp_region_quiet_lit (by kernel_rfl) (by kernel_rfl) ?_
      repeat (go_big_quiet_step (fail))
      refine wpQuiet_nil ?_
      rintro _ ⟨n1, rfl⟩
      go_wp2
      go_ret
      exact ⟨_, rfl, World.ownsRow_nil _ _ _ _, (H.out.drewN n1).set2 10 10 rfl, grown_set (grown_drewN (grown_refl _ _) _) _ _⟩
  · have e1 : rTake l n k e = ([], k, e) := by simp [rTake, he]
    rw [e1]
    have hz : ((e : Int) != 0) = true := by rw [bne_iff_ne]; omega
    clear e1
    go_enter Tryd.func63, Tryd.ntmps63
    go_wp2
    go_ret
    exact ⟨_, rfl, World.ownsRow_nil _ _ _ _, H.out, grown_refl _ _⟩

set_option maxRecDepth 100000 in
set_option maxHeartbeats 1000000 in
theorem frbig_any (w : World) (g : Nat) (A : Option Addr) (c : Nat) (l : List UInt8) (k e : Nat) (x : Int) (n : Nat) (hx : x = n) (h : Rf w g A c l k e) (hn : n ≤ 7) :
    Calls Tryd.prog 27 #[.pointer (some ⟨g, 0, none⟩), .int .i64 x] w fun en w2 => en = .returned (.int .u64 (rBig l n k e).1) ∧ Rf w2 g A c l (rBig l n k e).2.1 (rBig l n k e).2.2 ∧ w.grownBy w2 (some g) := by
  subst hx
  have HR := Lib.hid (fraw_any w g A c l k e n h (by omega))
  have hm7 : (rTake l n k e).1.length ≤ 7 := by unfold rTake; split <;> (try split) <;> simp <;> omega
  unfold rBig
  clear h
  generalize (rTake l n k e).1 = m at *
  generalize (rTake l n k e).2.1 = k2 at *
  generalize (rTake l n k e).2.2 = e2 at *
  go_enter Tryd.func27, Tryd.ntmps27
  go_wp2_with fail
  refine HR.out.mono ?_
  rintro en w2 ⟨u, rfl, ho, hp, hg⟩
  obtain ⟨D, d, rfl, hD, hd, hrv, hfar⟩ := own_all ho
  have H2 := Lib.hid hp
  have HG := Lib.hid hg
  have HRV := Lib.hid hrv
  clear hp hg HR hrv ho hD hfar
  go_wp2_with fail
  go_loop [6, 7] (fun nv jv => ∃ j : Nat, j ≤ m.length ∧ jv = .int .i64 j ∧ nv = .int .u64 (bigN (m.take j))) (fun _ jv => m.length - (intOf jv).toNat)
  case atStart => exact ⟨0, Nat.zero_le _, rfl, rfl⟩
  case round =>
    obtain ⟨j, hj, rfl, rfl⟩ := hrel
    have hb := bigN_lt (m.take j)
    rw [List.length_take, Nat.min_eq_left hj] at hb
    by_cases hlt : j < m.length
    · obtain ⟨ad, rfl, hadb, hcell⟩ := HRV.out j _ (bys_at hlt)
      have hsn := take_snoc hlt
      have HS := Lib.hid (bigN_snoc (m.take j) (m.getD j 0))
      rw [← hsn] at HS
      clear hsn
      have hx := (m.getD j 0).toNat_lt
      have hp : 256 ^ j ≤ 281474976710656 := by
        have : 256 ^ j ≤ 256 ^ 6 := Nat.pow_le_pow_right (by omega) (by omega)
        exact Nat.le_trans this (by decide)
      generalize bigN (m.take j) = acc at *
      generalize m.getD j 0 = y at *
      go_wp2
      exact ⟨⟨j + 1, by omega, by go_num, by rw [HS.out]; go_num⟩, by simp [intOf]; omega⟩
    · obtain rfl : j = m.length := by omega
      go_wp2
      go_ret
      exact ⟨rfl, H2.out, HG.out⟩
end Go.Proofs.YthhmamkphcgocaaDoor

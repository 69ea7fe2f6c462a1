/- octet.Reader by contracts, second part: numbers of any size, texts. -/
import Derived.Test.YthhmamkphcgocaaDoorRea
import Derived.Defers
namespace Go.Proofs.YthhmamkphcgocaaDoor
open Go.RowKit

set_option maxRecDepth 100000 in
set_option maxHeartbeats 1000000 in
theorem rnum_any (w : World) (g : Nat) (A : Option Addr) (c : Nat) (l : List UInt8) (k : Nat) (h : Rp w g A c l k 0) :
    Calls Tryd.prog 73 #[.pointer (some ⟨g, 0, none⟩)] w fun en w2 => en = .returned (.int .u64 (numF 0 0 (l.drop k)).1) ∧ (∃ k2, ((numF 0 0 (l.drop k)).2.2 = 0 → k2 = k + (numF 0 0 (l.drop k)).2.1) ∧ Rp w2 g A c l k2 (numF 0 0 (l.drop k)).2.2) ∧ w.grownBy w2 (some g) := by
  have H := Lib.hid h
  have hle := h.le
  clear h
  obtain ⟨R, hR⟩ : ∃ R, R = numF 0 0 (l.drop k) := ⟨_, rfl⟩
  rw [← hR]
  have HR := Lib.hid hR
  clear hR
  go_enter Tryd.func73, Tryd.ntmps73
  go_wp2_with fail
  go_loopw [3, 4] (fun nv jv wr => ∃ (j acc : Nat), j ≤ 9 ∧ k + j ≤ l.length ∧ acc < 128 ^ j ∧ jv = .int .i64 j ∧ nv = .int .u64 acc ∧ Hid (numF j acc (l.drop (k + j)) = R) ∧ Rp wr g A c l (k + j) 0 ∧ Hid (w.grownBy wr (some g))) (fun _ jv _ => 10 - (intOf jv).toNat)
  case atStart => exact ⟨0, 0, by omega, by omega, by decide, rfl, rfl, HR.out.symm, H.out, grown_refl _ _⟩
  case round =>
    obtain ⟨j, acc, hj, hkj, hacc, rfl, rfl, hnum, hrp, hg⟩ := hrel
    have HT := Lib.hid (take_any wr g A c l (k + j) hrp 1 1 rfl (by omega))
    clear hrp
    by_cases hlt : k + j < l.length
    · have e2 : rTake l 1 (k + j) 0 = ([l.getD (k + j) 0], k + j + 1, 0) := by
        have h1 : 1 ≤ l.length - (k + j) := by omega
        simp [rTake, h1, bytes_drop hlt]
      rw [e2] at HT
      have HN := Lib.hid (bytes_drop hlt)
      clear e2
      have hx := (l.getD (k + j) 0).toNat_lt
      generalize l.getD (k + j) 0 = x at *
      have HV := Lib.hid (fun h9 => orv acc x.toNat j hj hacc hx h9)
      have HB := Lib.hid (fun h => (hnum.out.symm.trans ((congrArg _ HN.out).trans (numF_bad h)) : R = (0, 0, 12)))
      have HL := Lib.hid (fun h h2 => (hnum.out.symm.trans ((congrArg _ HN.out).trans (numF_last h h2)) : R = (acc + x.toNat % 128 * 128 ^ j, j + 1, 0)))
      have HX := Lib.hid (fun h h2 => ((numF_next h h2).symm.trans ((congrArg _ HN.out.symm).trans hnum.out) : numF (j + 1) (acc + x.toNat % 128 * 128 ^ j) (l.drop (k + j + 1)) = R))
      have HA := Lib.hid (numF_acc (y := x.toNat) hacc)
      generalize acc + x.toNat % 128 * 128 ^ j = acc2 at *
      clear hnum hacc HN
      go_wp2_with fail
      refine HT.out.mono ?_
      rintro en w2 ⟨D, d, rfl, hD, hd, hrv, hrp, hgr, hs⟩
      obtain ⟨ad, rfl, hlt2, hcell⟩ := hrv 0 _ rfl
      rw [Addr.add_zero'] at hcell
      have H2 := Lib.hid hrp
      have HG := Lib.hid (grown_trans hg.out hgr)
      have c2 := hrp.c2
      have f2 := hrp.fz 2
      clear hrv hrp hgr hs HT H hD
      by_cases hbad : (j = 9 ∧ 1 < x.toNat) ∨ (0 < j ∧ x.toNat = 0)
      · have HRB := Lib.hid (HB.out hbad)
        have HE := Lib.hid (H2.out.set2 12 12 rfl)
        have HG2 := Lib.hid (grown_set HG.out 2 (.int .i64 12))
        clear HB HL HX HV
        by_cases h9 : j = 9
        · have b1 : ((j : Int) == 9) = true := beq_iff_eq.2 (by omega)
          by_cases h1 : 1 < x.toNat
          · have b2 : decide ((1 : Int) < (x.toNat : Int)) = true := by simp; omega
            clear hbad h9
            go_wp2
            go_ret
            rw [HRB.out]
            exact ⟨rfl, ⟨k + j + 1, fun h => by simp at h, HE.out⟩, HG2.out⟩
          · have b2 : decide ((1 : Int) < (x.toNat : Int)) = false := by simp; omega
            have b3 : 0 < j := by omega
            have b4 : ((x.toNat : Int) == 0) = true := beq_iff_eq.2 (by omega)
            clear hbad h9
            go_wp2
            go_ret
            rw [HRB.out]
            exact ⟨rfl, ⟨k + j + 1, fun h => by simp at h, HE.out⟩, HG2.out⟩
        · have b1 : ((j : Int) == 9) = false := beq_eq_false_iff_ne.2 (by omega)
          have b3 : 0 < j := by omega
          have b4 : ((x.toNat : Int) == 0) = true := beq_iff_eq.2 (by omega)
          clear hbad h9
          go_wp2
          go_ret
          rw [HRB.out]
          exact ⟨rfl, ⟨k + j + 1, fun h => by simp at h, HE.out⟩, HG2.out⟩
      · have HV2 := Lib.hid (HV.out (fun h => by omega))
        clear HV HB
        by_cases h128 : x.toNat < 128
        · have HRB := Lib.hid (HL.out hbad h128)
          have b5 : decide ((x.toNat : Int) < 128) = true := by simp; omega
          clear HL HX
          by_cases h9 : j = 9
          · have b1 : ((j : Int) == 9) = true := beq_iff_eq.2 (by omega)
            have b2 : decide ((1 : Int) < (x.toNat : Int)) = false := by simp; omega
            have b3 : 0 < j := by omega
            have b4 : ((x.toNat : Int) == 0) = false := beq_eq_false_iff_ne.2 (by omega)
            clear hbad h9
            go_wp2
            go_ret
            rw [HRB.out]
            exact ⟨ret_int HV2.out, ⟨k + j + 1, fun _ => Nat.add_assoc k j 1, H2.out⟩, HG.out⟩
          · have b1 : ((j : Int) == 9) = false := beq_eq_false_iff_ne.2 (by omega)
            by_cases h0 : 0 < j
            · have b3 : 0 < j := by omega
              have b4 : ((x.toNat : Int) == 0) = false := beq_eq_false_iff_ne.2 (by omega)
              clear hbad h9
              go_wp2
              go_ret
              rw [HRB.out]
              exact ⟨ret_int HV2.out, ⟨k + j + 1, fun _ => Nat.add_assoc k j 1, H2.out⟩, HG.out⟩
            · have b3 : ¬ 0 < j := by omega
              clear hbad h9
              go_wp2
              go_ret
              rw [HRB.out]
              exact ⟨ret_int HV2.out, ⟨k + j + 1, fun _ => Nat.add_assoc k j 1, H2.out⟩, HG.out⟩
        · have HX2 := Lib.hid (HX.out hbad h128)
          have b5 : decide ((x.toNat : Int) < 128) = false := by simp; omega
          have h9 : j < 9 := by omega
          have b1 : ((j : Int) == 9) = false := beq_eq_false_iff_ne.2 (by omega)
          clear HL HX
          by_cases h0 : 0 < j
          · have b3 : 0 < j := by omega
            have b4 : ((x.toNat : Int) == 0) = false := beq_eq_false_iff_ne.2 (by omega)
            clear hbad
            go_wp2
            exact ⟨⟨j + 1, acc2, by omega, by omega, HA.out, by go_num, by rw [← HV2.out], HX2.out, H2.out, HG.out⟩, by simp [intOf]; omega⟩
          · have b3 : ¬ 0 < j := by omega
            clear hbad
            go_wp2
            exact ⟨⟨j + 1, acc2, by omega, by omega, HA.out, by go_num, by rw [← HV2.out], HX2.out, H2.out, HG.out⟩, by simp [intOf]; omega⟩
    · have e2 : rTake l 1 (k + j) 0 = ([], k + j, 10) := by
        have h1 : ¬ 1 ≤ l.length - (k + j) := by omega
        simp [rTake, h1]
      have e3 : R = (0, 0, 10) := by
        rw [← hnum.out, List.drop_eq_nil_of_le (by omega)]
        rfl
      rw [e2] at HT
      have HRB := Lib.hid e3
      clear e2 e3 hnum
      go_wp2_with fail
      refine HT.out.mono ?_
      rintro en w2 ⟨D, d, rfl, hD, hd, hrv, hrp, hgr, hs⟩
      have H2 := Lib.hid hrp
      have HG := Lib.hid (grown_trans hg.out hgr)
      have c2 := hrp.c2
      clear hrv hrp hgr hs HT H hD
      go_wp2
      go_ret
      rw [HRB.out]
      exact ⟨rfl, ⟨k + j, fun h => by simp at h, H2.out⟩, HG.out⟩

theorem back_def (u : FrameMode) (w : World) (g : Nat) (A : Option Addr) (c : Nat) (l : List UInt8) (k e : Nat) (h : Rp w g A c l k e) (x : Int) (k2 : Nat) (hx : x = k2) (hk : k2 ≤ l.length) :
    CallsD Tryd.prog 72 #[.pointer (some ⟨g, 0, none⟩), .int .i64 x] u w fun en u2 w2 => u2 = u ∧ (en = .returned (.tuple #[]) ∧ Rp w2 g A c l (if e = 0 then k else k2) e ∧ w.grownBy w2 (some g)) := by
  have c1 := h.c1
  have c2 := h.c2
  have f1 := h.fz 1
  have H := Lib.hid h
  have H2 := Lib.hid (h.set1 x k2 hx hk)
  clear h hx
  by_cases he : e = 0
  · subst he
    go_enter_d Tryd.func72, Tryd.ntmps72
    go_wp2
    go_end0
    exact ⟨rfl, H.out, grown_refl _ _⟩
  · have hz : ((e : Int) != 0) = true := by rw [bne_iff_ne]; omega
    rw [if_neg he]
    go_enter_d Tryd.func72, Tryd.ntmps72
    go_wp2
    go_end0
    exact ⟨rfl, H2.out, grown_set (grown_refl _ _) _ _⟩
set_option maxRecDepth 100000 in
set_option maxHeartbeats 1000000 in
theorem rvar_any (w : World) (g : Nat) (A : Option Addr) (c : Nat) (l : List UInt8) (k e : Nat) (most : Nat) (h : Rp w g A c l k e) :
    Calls Tryd.prog 58 #[.pointer (some ⟨g, 0, none⟩), .int .u64 most] w fun en w2 => en = .returned (.int .u64 (rVar l most k e).1) ∧ Rp w2 g A c l (rVar l most k e).2.1 (rVar l most k e).2.2 ∧ w.grownBy w2 (some g) := by
  have HD := Lib.hid (dead_any w g A c l k e h)
  have H := Lib.hid h
  have c1 := h.c1
  have hle := h.le
  clear h
  by_cases he : e = 0
  · subst he
    simp only [ne_eq, not_true_eq_false, decide_false] at HD
    have HN := Lib.hid (rnum_any w g A c l k H.out)
    obtain ⟨n, s, f, hR⟩ : ∃ n s f, numF 0 0 (l.drop k) = (n, s, f) := ⟨_, _, _, rfl⟩
    have hv : rVar l most k 0 = if f ≠ 0 then (0, k, f) else if most < n then (0, k, 3) else (n, k + s, 0) := by simp [rVar, hR]
    rw [hR] at HN
    rw [hv]
    clear hv hR
    by_cases hf : f = 0
    · subst hf
      by_cases hm : most < n
      · rw [if_neg (by simp), if_pos hm]
        go_enter_defers Tryd.func58, Tryd.ntmps58
        go_wp2_with fail
        refine HD.out.mono ?_
        rintro en w2 ⟨rfl, rfl⟩
        go_wp2_with fail
        refine HN.out.mono ?_
        rintro en w2 ⟨rfl, ⟨k2, hk2, hp⟩, hg⟩
        have c2 := hp.c2
        have f2 := hp.fz 2
        have HP := Lib.hid (hp.set2 3 3 rfl)
        have HG := Lib.hid (grown_set hg 2 (.int .i64 3))
        clear hp hg HN HD hk2
        go_wp2
        refine leaves_cons (f := 72) (args := #[.pointer (some ⟨g, 0, none⟩), .int .i64 k]) (by simp) (by simp [go_sem]) ?_
        refine (back_def .returning _ g A c l k2 3 HP.out k k rfl hle).mono ?_
        rintro en u w3 ⟨rfl, rfl, hp, hg⟩
        exact ⟨_, results_tmp rfl _ _ _, rfl, hp, grown_trans HG.out hg⟩
      · rw [if_neg (by simp), if_neg hm]
        go_enter_defers Tryd.func58, Tryd.ntmps58
        go_wp2_with fail
        refine HD.out.mono ?_
        rintro en w2 ⟨rfl, rfl⟩
        go_wp2_with fail
        refine HN.out.mono ?_
        rintro en w2 ⟨rfl, ⟨k2, hk2, hp⟩, hg⟩
        have c2 := hp.c2
        have HK := Lib.hid (hk2 (by first | rfl | trivial))
        have HP := Lib.hid hp
        have HG := Lib.hid hg
        clear hp hg HN HD hk2
        go_wp2
        refine leaves_cons (f := 72) (args := #[.pointer (some ⟨g, 0, none⟩), .int .i64 k]) (by simp) (by simp [go_sem]) ?_
        refine (back_def .returning _ g A c l k2 0 HP.out k k rfl hle).mono ?_
        rintro en u w3 ⟨rfl, rfl, hp, hg⟩
        exact ⟨_, results_tmp rfl _ _ _, rfl, by have e1 := HK.out; subst e1; exact hp, grown_trans HG.out hg⟩
    · rw [if_pos hf]
      have hz : ((f : Int) != 0) = true := by rw [bne_iff_ne]; omega
      have hz2 : ((f : Int) == 0) = false := beq_eq_false_iff_ne.2 (by omega)
      go_enter_defers Tryd.func58, Tryd.ntmps58
      go_wp2_with fail
      refine HD.out.mono ?_
      rintro en w2 ⟨rfl, rfl⟩
      go_wp2_with fail
      refine HN.out.mono ?_
      rintro en w2 ⟨rfl, ⟨k2, hk2, hp⟩, hg⟩
      have c2 := hp.c2
      have HP := Lib.hid hp
      have HG := Lib.hid hg
      clear hp hg HN HD hk2
      go_wp2
      refine leaves_cons (f := 72) (args := #[.pointer (some ⟨g, 0, none⟩), .int .i64 k]) (by simp) (by simp [go_sem]) ?_
      refine (back_def .returning _ g A c l k2 f HP.out k k rfl hle).mono ?_
      rintro en u w3 ⟨rfl, rfl, hp, hg⟩
      exact ⟨_, results_tmp rfl _ _ _, rfl, by rw [if_neg hf] at hp; exact hp, grown_trans HG.out hg⟩
  · have e1 : rVar l most k e = (0, k, e) := by simp [rVar, he]
    have hd : decide (e ≠ 0) = true := by simpa using he
    rw [hd] at HD
    rw [e1]
    clear e1 hd
    go_enter_defers Tryd.func58, Tryd.ntmps58
    go_wp2_with (refine HD.out.mono ?_; rintro en w2 ⟨rfl, rfl⟩)
    exact ⟨_, results_tmp rfl _ _ _, rfl, H.out, grown_refl _ _⟩

theorem conv22 {B : Nat} {w : World} {D : Option Addr} {l : List UInt8} (d : Nat) (h : Rv B w D (bys l)) : (convert 22 9 (.slice D l.length d)).run Tryd.prog w = .ok (.string (bs l)) w :=
  conv_rv Tryd.underlying22 Tryd.underlying5 Tryd.underlying9 d h
set_option maxRecDepth 100000 in
set_option maxHeartbeats 1000000 in
theorem rtext_any (w : World) (g : Nat) (A : Option Addr) (c : Nat) (l : List UInt8) (k e : Nat) (most : Nat) (h : Rp w g A c l k e) (hmost : most ≤ 1000000000) :
    Calls Tryd.prog 55 #[.pointer (some ⟨g, 0, none⟩), .int .i64 most] w fun en w2 => en = .returned (.string (bs (rText l most k e).1)) ∧ Rp w2 g A c l (rText l most k e).2.1 (rText l most k e).2.2 ∧ w.grownBy w2 (some g) := by
  have HD := Lib.hid (dead_any w g A c l k e h)
  have H := Lib.hid h
  have c1 := h.c1
  have hle := h.le
  clear h
  by_cases he : e = 0
  · subst he
    simp only [ne_eq, not_true_eq_false, decide_false] at HD
    have HN := Lib.hid (rnum_any w g A c l k H.out)
    obtain ⟨n, s, f, hR⟩ : ∃ n s f, numF 0 0 (l.drop k) = (n, s, f) := ⟨_, _, _, rfl⟩
    have hv : rText l most k 0 = if f ≠ 0 then ([], k, f) else if most < n then ([], k, 3) else if l.length - (k + s) < n then ([], k, 10) else ((l.drop (k + s)).take n, k + s + n, 0) := by
      have hneg : ¬ ((most : Int) < 0) := by omega
      simp [rText, hR, hneg]
    rw [hR] at HN
    rw [hv]
    clear hv hR
    by_cases hf : f = 0
    · subst hf
      by_cases hm : most < n
      · rw [if_neg (by simp), if_pos hm]
        go_enter_defers Tryd.func55, Tryd.ntmps55
        go_wp2_with fail
        refine HD.out.mono ?_
        rintro en w2 ⟨rfl, rfl⟩
        go_wp2_with fail
        refine HN.out.mono ?_
        rintro en w2 ⟨rfl, ⟨k2, hk2, hp⟩, hg⟩
        have c2 := hp.c2
        have f2 := hp.fz 2
        have HP := Lib.hid (hp.set2 3 3 rfl)
        have HG := Lib.hid (grown_set hg 2 (.int .i64 3))
        clear hp hg HN HD hk2
        go_wp2
        refine leaves_cons (f := 72) (args := #[.pointer (some ⟨g, 0, none⟩), .int .i64 k]) (by simp) (by simp [go_sem]) ?_
        refine (back_def .returning _ g A c l k2 3 HP.out k k rfl hle).mono ?_
        rintro en u w3 ⟨rfl, rfl, hp, hg⟩
        exact ⟨_, results_tmp rfl _ _ _, rfl, hp, grown_trans HG.out hg⟩
      · rw [if_neg (by simp), if_neg hm]
        go_enter_defers Tryd.func55, Tryd.ntmps55
        go_wp2_with fail
        refine HD.out.mono ?_
        rintro en w2 ⟨rfl, rfl⟩
        go_wp2_with fail
        refine HN.out.mono ?_
        rintro en w2 ⟨rfl, ⟨k2, hk2, hp⟩, hg⟩
        have c2 := hp.c2
        obtain rfl := hk2 (by first | rfl | trivial)
        have HT := Lib.hid (take_any w2 g A c l (k + s) hp n n rfl (by omega))
        have HG := Lib.hid hg
        have HL := Lib.hid (by unfold rTake; simp : (rTake l n (k + s) 0) = if n ≤ l.length - (k + s) then ((l.drop (k + s)).take n, k + s + n, 0) else ([], k + s, 10))
        clear hp hg HN HD hk2
        generalize rTake l n (k + s) 0 = T at *
        obtain ⟨m, k3, e3⟩ := T
        go_wp2_with fail
        refine HT.out.mono ?_
        rintro en w3 ⟨D, d, rfl, hD, hd, hrv, hrp, hgr, hs⟩
        have HP := Lib.hid hrp
        have HG2 := Lib.hid (grown_trans HG.out hgr)
        have HC := Lib.hid (conv22 d hrv)
        clear hrv hrp hgr hs HT hD
        go_wp2_with (refine wpList_conv rfl 22 9 (.tmp 34) rfl _ rfl HC.out ?_)
        all_goals
          refine leaves_cons (f := 72) (args := #[.pointer (some ⟨g, 0, none⟩), .int .i64 k]) (by simp) (by simp [go_sem]) ?_
          refine (back_def .returning _ g A c l k3 e3 HP.out k k rfl hle).mono ?_
          rintro en u w4 ⟨rfl, rfl, hp, hg⟩
          have hl := HL.out
          by_cases hfit : n ≤ l.length - (k + s)
          · rw [if_pos hfit] at hl
            injection hl with h1 h2
            injection h2 with h2 h3
            subst h1 h2 h3
            first | exact ⟨_, results_tmp rfl _ _ _, rfl, hp, grown_trans HG2.out hg⟩ | (exfalso; omega)
          · rw [if_neg hfit] at hl
            injection hl with h1 h2
            injection h2 with h2 h3
            subst h1 h2 h3
            first | exact ⟨_, results_tmp rfl _ _ _, rfl, hp, grown_trans HG2.out hg⟩ | (exfalso; omega)
    · rw [if_pos hf]
      have hz : ((f : Int) != 0) = true := by rw [bne_iff_ne]; omega
      go_enter_defers Tryd.func55, Tryd.ntmps55
      go_wp2_with fail
      refine HD.out.mono ?_
      rintro en w2 ⟨rfl, rfl⟩
      go_wp2_with fail
      refine HN.out.mono ?_
      rintro en w2 ⟨rfl, ⟨k2, hk2, hp⟩, hg⟩
      have c2 := hp.c2
      have HP := Lib.hid hp
      have HG := Lib.hid hg
      clear hp hg HN HD hk2
      go_wp2
      refine leaves_cons (f := 72) (args := #[.pointer (some ⟨g, 0, none⟩), .int .i64 k]) (by simp) (by simp [go_sem]) ?_
      refine (back_def .returning _ g A c l k2 f HP.out k k rfl hle).mono ?_
      rintro en u w3 ⟨rfl, rfl, hp, hg⟩
      exact ⟨_, results_tmp rfl _ _ _, rfl, by rw [if_neg hf] at hp; exact hp, grown_trans HG.out hg⟩
  · have e1 : rText l most k e = ([], k, e) := by simp [rText, he]
    have hd : decide (e ≠ 0) = true := by simpa using he
    rw [hd] at HD
    rw [e1]
    clear e1 hd
    go_enter_defers Tryd.func55, Tryd.ntmps55
    go_wp2_with (refine HD.out.mono ?_; rintro en w2 ⟨rfl, rfl⟩)
    exact ⟨_, results_tmp rfl _ _ _, rfl, H.out, grown_refl _ _⟩
end Go.Proofs.YthhmamkphcgocaaDoor

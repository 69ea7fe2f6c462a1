/- octet.Reader by contracts, first part: taking bytes. -/
import Derived.Test.YthhmamkphcgocaaDoorRdr
import Derived.Test.YthhmamkphcgocaaDoorWri
namespace Go.Proofs.YthhmamkphcgocaaDoor
open Go.RowKit

def Rp (w : World) (g : Nat) (A : Option Addr) (c : Nat) (l : List UInt8) (k e : Nat) : Prop := Rd w g 98 A c l k e

theorem dead_any (w : World) (g : Nat) (A : Option Addr) (c : Nat) (l : List UInt8) (k e : Nat) (h : Rp w g A c l k e) :
    Calls Tryd.prog 48 #[.pointer (some ⟨g, 0, none⟩)] w fun en w2 => en = .returned (.bool (decide (e ≠ 0))) ∧ w = w2 := by
  have c2 := h.c2
  by_cases he : e = 0
  · subst he
    go_enter Tryd.func48, Tryd.ntmps48
    go_wp2
    go_ret
    exact ⟨rfl, rfl⟩
  · have hz : ((e : Int) != 0) = true := by rw [bne_iff_ne]; omega
    have hd : decide (e ≠ 0) = true := by simpa using he
    rw [hd]
    clear hd
    go_enter Tryd.func48, Tryd.ntmps48
    go_wp2
    go_ret
    exact ⟨rfl, rfl⟩

theorem fail_any (w : World) (g : Nat) (A : Option Addr) (c : Nat) (l : List UInt8) (k e : Nat) (h : Rp w g A c l k e) (x y : Int) (k2 e2 : Nat) (hx : x = k2) (hy : y = e2) (hk : k2 ≤ l.length) :
    Calls Tryd.prog 49 #[.pointer (some ⟨g, 0, none⟩), .int .i64 x, .int .i64 y] w fun en w2 => en = .returned (.tuple #[]) ∧ Rp w2 g A c l k2 e2 ∧ w.grownBy w2 (some g) := by
  have c1 := h.c1
  have c2 := h.c2
  have f1 := h.fz 1
  have f2 := h.fz 2
  have H := Lib.hid ((h.set1 x k2 hx hk).set2 y e2 hy)
  clear h hx hy
  go_enter Tryd.func49, Tryd.ntmps49
  go_wp2
  go_end0
  exact ⟨rfl, H.out, grown_set (grown_set (grown_refl _ _) _ _) _ _⟩

theorem back_any (w : World) (g : Nat) (A : Option Addr) (c : Nat) (l : List UInt8) (k e : Nat) (h : Rp w g A c l k e) (x : Int) (k2 : Nat) (hx : x = k2) (hk : k2 ≤ l.length) :
    Calls Tryd.prog 72 #[.pointer (some ⟨g, 0, none⟩), .int .i64 x] w fun en w2 => en = .returned (.tuple #[]) ∧ Rp w2 g A c l (if e = 0 then k else k2) e ∧ w.grownBy w2 (some g) := by
  have c1 := h.c1
  have c2 := h.c2
  have f1 := h.fz 1
  have H := Lib.hid h
  have H2 := Lib.hid (h.set1 x k2 hx hk)
  clear h hx
  by_cases he : e = 0
  · subst he
    go_enter Tryd.func72, Tryd.ntmps72
    go_wp2
    go_end0
    exact ⟨rfl, H.out, grown_refl _ _⟩
  · have hz : ((e : Int) != 0) = true := by rw [bne_iff_ne]; omega
    rw [if_neg he]
    go_enter Tryd.func72, Tryd.ntmps72
    go_wp2
    go_end0
    exact ⟨rfl, H2.out, grown_set (grown_refl _ _) _ _⟩

/-- What take hands over, and what it makes of the Reader. -/
def Took (w : World) (g : Nat) (A : Option Addr) (c : Nat) (l m : List UInt8) (k e : Nat) (en : Ending) (w2 : World) : Prop :=
  ∃ D d, en = .returned (.slice D m.length d) ∧ (D = none → d = 0) ∧ m.length ≤ d ∧ Rv w.heap.size w2 D (bys m) ∧ Rp w2 g A c l k e ∧ w.grownBy w2 (some g) ∧ w2.heap.size = w.heap.size
set_option maxRecDepth 100000 in
set_option maxHeartbeats 400000 in
theorem take_any (w : World) (g : Nat) (A : Option Addr) (c : Nat) (l : List UInt8) (k : Nat) (h : Rp w g A c l k 0) (x : Int) (n : Nat) (hx : x = n) (hn : n ≤ 1000000000) :
    Calls Tryd.prog 50 #[.pointer (some ⟨g, 0, none⟩), .int .i64 x] w (Took w g A c l (rTake l n k 0).1 (rTake l n k 0).2.1 (rTake l n k 0).2.2) := by
  subst hx
  have c0 := h.c0
  have c1 := h.c1
  have c2 := h.c2
  have f1 := h.fz 1
  have f2 := h.fz 2
  have hle := h.le
  have hsm := h.small
  have hcap := h.cap
  have H := Lib.hid h
  clear h
  by_cases hlt : n ≤ l.length - k
  · have e1 : rTake l n k 0 = ((l.drop k).take n, k + n, 0) := by simp [rTake, hlt]
    rw [e1]
    have hml : ((l.drop k).take n).length = n := by simp; omega
    have HML := Lib.hid hml
    clear e1 hml
    have hcut := H.out.cut (Nat.le_refl w.heap.size) k n (by omega)
    rw [Nat.mul_one] at hcut
    obtain ⟨D, hD⟩ : ∃ D, (if c = k then A else A.map (·.add k)) = D := ⟨_, rfl⟩
    rw [hD] at hcut
    have HC := Lib.hid hcut
    have HD := Lib.hid hD
    clear hcut
    go_enter Tryd.func50, Tryd.ntmps50
    go_wp2_with fail
    refine wp_region_quiet_lit (by kernel_rfl) (by kernel_rfl) ?_
    repeat (go_big_quiet_step (fail))
    refine wpQuiet_nil ?_
    rintro _ ⟨n1, rfl⟩
    go_wp2_with fail
    refine wp_region_quiet_lit (by kernel_rfl) (by kernel_rfl) ?_
    repeat (go_big_quiet_step (fail))
    refine wpQuiet_nil ?_
    rintro _ ⟨n2, rfl⟩
    have H3 := Lib.hid ((H.out.drewN (n1 + n2)).set1 (k + n) (k + n) (by omega) (by omega))
    go_wp2
    go_ret
    have hset : ∀ p : Addr, p.block ≠ g → ((w.drewN (n1 + n2)).setCell ⟨g, 1, none⟩ (.int .i64 ((k : Int) + n))).cell? p = w.cell? p := fun p hp => World.cell?_of_block (Below.heap_setCell (w.drewN (n1 + n2)) ⟨g, 1, none⟩ _ p.block hp)
    refine ⟨D, c - k, by rw [HML.out]; show Ending.returned (Value.slice D (k + n - k) (c - k)) = _; rw [Nat.add_sub_cancel_left], fun hn => ?_, by rw [HML.out]; omega, fun j u hu => ?_, H3.out, grown_set (grown_drewN (grown_refl _ _) _) _ _, by simp⟩
    · rw [← HD.out] at hn
      split at hn
      · have := H.out.nil hn; omega
      · have := H.out.nil (by simpa using hn); omega
    · obtain ⟨ad, e1, hb, hc⟩ := HC.out j u hu
      refine ⟨ad, e1, hb, (hset _ ?_).trans hc⟩
      rw [block_add]
      rw [← HD.out] at e1
      split at e1
      · exact H.out.far ad e1
      · obtain ⟨ad0, e2, rfl⟩ := Option.map_eq_some_iff.1 e1
        rw [block_add]
        exact H.out.far ad0 e2
  · have e1 : rTake l n k 0 = ([], k, 10) := by simp [rTake, hlt]
    rw [e1]
    clear e1
    go_enter Tryd.func50, Tryd.ntmps50
    go_wp2_with fail
    refine wp_region_quiet_lit (by kernel_rfl) (by kernel_rfl) ?_
    repeat (go_big_quiet_step (fail))
    refine wpQuiet_nil ?_
    rintro _ ⟨n1, rfl⟩
    go_wp2
    go_ret
    exact ⟨none, 0, rfl, fun _ => rfl, Nat.le_refl _, Rv.nil, (H.out.drewN n1).set2 10 10 rfl, grown_set (grown_drewN (grown_refl _ _) _) _ _, by simp⟩

set_option maxRecDepth 100000 in
set_option maxHeartbeats 400000 in
theorem rnew_any (w : World) (A : Option Addr) (c : Nat) (l : List UInt8) {C : Nat} (hr : Rv C w A (bys l)) (hn : A = none → c = 0) (hl : l.length ≤ 1000000000) :
    Calls Tryd.prog 17 #[.slice A l.length c] w fun en w2 => ∃ g A2 c2, en = .returned (.pointer (some ⟨g, 0, none⟩)) ∧ w.heap.size ≤ g ∧ Rp w2 g A2 c2 l 0 0 ∧ Below w.heap.size w w2 := by
  have HR := Lib.hid hr
  have HN := Lib.hid hn
  have HL := Lib.hid (bys_len l)
  clear hr hn
  go_enter Tryd.func17, Tryd.ntmps17
  go_wp2_with (at_builtin; refine wpList_app sl22 rfl (.const (.slice none 0 0)) (.tmp 3) rfl w.heap.size (.slice none 0 0) 0 [] rfl (World.ownsRow_nil _ _ _ _) A l.length c (bys l) rfl HN.out (by rw [HL.out, Nat.mul_one]) HR.out (bys_one _) (by unfold maxLen; omega) (by omega) (Nat.le_refl _) ?_; intro v2 w2 ho ha; rw [Nat.zero_add, List.nil_append] at ho; obtain ⟨D, d, rfl, hD, hd, hR2, hfar⟩ := own_all ho; have HD := Lib.hid hD; have HR2 := Lib.hid hR2; have HF := Lib.hid hfar; have HA := Lib.hid ha; clear ho ha hD hR2 hfar)
  go_ret
  refine ⟨w2.heap.size, D, d, rfl, HA.out.grown.size, ⟨heap_alloc_new w2 _, ?_, fun ad e1 => ?_, hd, HD.out, Nat.zero_le _, hl⟩, ?_⟩
  · exact (HR2.out.below ((Below.refl w2.heap.size w2).alloc (Nat.le_refl _) _)).more (by simp)
  · have := (HF.out ad e1).2; omega
  · exact (below_of_grown HA.out.grown (Nat.le_refl _) (fun k hk => by cases hk)).trans (((Below.refl w2.heap.size w2).alloc (Nat.le_refl _) _).mono HA.out.grown.size)

set_option maxRecDepth 100000 in
set_option maxHeartbeats 400000 in
theorem rbyte_any (w : World) (g : Nat) (A : Option Addr) (c : Nat) (l : List UInt8) (k e : Nat) (h : Rp w g A c l k e) :
    Calls Tryd.prog 56 #[.pointer (some ⟨g, 0, none⟩)] w fun en w2 => en = .returned (.int .u8 (rBig l 1 k e).1) ∧ Rp w2 g A c l (rBig l 1 k e).2.1 (rBig l 1 k e).2.2 ∧ w.grownBy w2 (some g) := by
  have HD := Lib.hid (dead_any w g A c l k e h)
  have H := Lib.hid h
  clear h
  by_cases he : e = 0
  · subst he
    simp only [ne_eq, not_true_eq_false, decide_false] at HD
    have HT := Lib.hid (take_any w g A c l k H.out 1 1 rfl (by omega))
    by_cases hlt : 1 ≤ l.length - k
    · have e1 : rBig l 1 k 0 = ((l.getD k 0).toNat, k + 1, 0) := by
        have hk : k < l.length := by omega
        simp [rBig, rTake, hlt, bytes_drop hk, bigN]
      have e2 : rTake l 1 k 0 = ([l.getD k 0], k + 1, 0) := by
        have hk : k < l.length := by omega
        simp [rTake, hlt, bytes_drop hk]
      rw [e1]
      rw [e2] at HT
      clear e1 e2
      generalize l.getD k 0 = b at *
      go_enter Tryd.func56, Tryd.ntmps56
      go_wp2_with fail
      refine HD.out.mono ?_
      rintro en w2 ⟨rfl, rfl⟩
      go_wp2_with fail
      refine HT.out.mono ?_
      rintro en w2 ⟨D, d, rfl, hD, hd, hrv, hrp, hg, hs⟩
      obtain ⟨ad, rfl, hlt, hc⟩ := hrv 0 _ rfl
      rw [Addr.add_zero'] at hc
      have H2 := Lib.hid hrp
      have HG := Lib.hid hg
      have c2 := hrp.c2
      clear hrv hrp hg hs HT HD H
      go_wp2
      go_ret
      exact ⟨rfl, H2.out, HG.out⟩
    · have e1 : rBig l 1 k 0 = (0, k, 10) := by simp [rBig, rTake, hlt, bigN]
      have e2 : rTake l 1 k 0 = ([], k, 10) := by simp [rTake, hlt]
      rw [e1]
      rw [e2] at HT
      clear e1 e2
      go_enter Tryd.func56, Tryd.ntmps56
      go_wp2_with fail
      refine HD.out.mono ?_
      rintro en w2 ⟨rfl, rfl⟩
      go_wp2_with fail
      refine HT.out.mono ?_
      rintro en w2 ⟨D, d, rfl, hD, hd, hrv, hrp, hg, hs⟩
      have H2 := Lib.hid hrp
      have HG := Lib.hid hg
      have c2 := hrp.c2
      clear hrv hrp hg hs HT HD H
      go_wp2
      go_ret
      exact ⟨rfl, H2.out, HG.out⟩
  · have e1 : rBig l 1 k e = (0, k, e) := by simp [rBig, rTake, he, bigN]
    have hd : decide (e ≠ 0) = true := by simpa using he
    rw [hd] at HD
    rw [e1]
    clear e1 hd
    go_enter Tryd.func56, Tryd.ntmps56
    go_wp2_with (refine HD.out.mono ?_; rintro en w2 ⟨rfl, rfl⟩)
    go_ret
    exact ⟨rfl, H.out, grown_refl _ _⟩

theorem bigN_snoc (l : List UInt8) (x : UInt8) : bigN (l ++ [x]) = bigN l * 256 + x.toNat := by simp [bigN]
theorem bigN_lt (l : List UInt8) : bigN l < 256 ^ l.length := by
  have h : ∀ (m : List UInt8), bigN m.reverse < 256 ^ m.length := by
    intro m
    induction m with
    | nil => simp [bigN]
    | cons x m ih =>
      rw [List.reverse_cons, bigN_snoc, List.length_cons, Nat.pow_succ]
      have := x.toNat_lt
      omega
  have := h l.reverse
  simpa using this
theorem take_snoc {l : List UInt8} {j : Nat} (h : j < l.length) : l.take (j + 1) = l.take j ++ [l.getD j 0] := by
  rw [List.take_succ_eq_append_getElem h]; simp [h]
set_option maxRecDepth 100000 in
set_option maxHeartbeats 1000000 in
theorem ru32_any (w : World) (g : Nat) (A : Option Addr) (c : Nat) (l : List UInt8) (k e : Nat) (h : Rp w g A c l k e) :
    Calls Tryd.prog 19 #[.pointer (some ⟨g, 0, none⟩)] w fun en w2 => en = .returned (.int .u32 (rBig l 4 k e).1) ∧ Rp w2 g A c l (rBig l 4 k e).2.1 (rBig l 4 k e).2.2 ∧ w.grownBy w2 (some g) := by
  have HD := Lib.hid (dead_any w g A c l k e h)
  have H := Lib.hid h
  clear h
  by_cases he : e = 0
  · subst he
    simp only [ne_eq, not_true_eq_false, decide_false] at HD
    have HT := Lib.hid (take_any w g A c l k H.out 4 4 rfl (by omega))
    have hm4 : (rTake l 4 k 0).1.length ≤ 4 := by unfold rTake; simp only [ne_eq, not_true_eq_false, if_false]; split <;> simp; omega
    unfold rBig
    generalize (rTake l 4 k 0).1 = m at *
    generalize (rTake l 4 k 0).2.1 = k2 at *
    generalize (rTake l 4 k 0).2.2 = e2 at *
    go_enter Tryd.func19, Tryd.ntmps19
    go_wp2_with fail
    refine HD.out.mono ?_
    rintro en w2 ⟨rfl, rfl⟩
    go_wp2_with fail
    refine HT.out.mono ?_
    rintro en w2 ⟨D, d, rfl, hD, hd, hrv, hrp, hg, hs⟩
    have H2 := Lib.hid hrp
    have HG := Lib.hid hg
    have HRV := Lib.hid hrv
    clear hrp hg hs hD HT HD H hrv
    go_wp2_with fail
    go_loop [3, 11] (fun nv jv => ∃ j : Nat, j ≤ m.length ∧ jv = .int .i64 j ∧ nv = .int .u32 (bigN (m.take j))) (fun _ jv => m.length - (intOf jv).toNat)
    case atStart => exact ⟨0, Nat.zero_le _, rfl, rfl⟩
    case round =>
      obtain ⟨j, hj, rfl, rfl⟩ := hrel
      have hb := bigN_lt (m.take j)
      rw [List.length_take, Nat.min_eq_left hj] at hb
      by_cases hlt : j < m.length
      · obtain ⟨ad, rfl, hadb, hcell⟩ := HRV.out j _ (bys_at hlt)
        have hsn := take_snoc hlt
        have HS := Lib.hid (bigN_snoc (m.take j) (m.getD j 0))
        rw [← hsn] at HS
        clear hsn hcell
        have hcell : w2.cell? (ad.add j) = some (.int .u8 ((m.getD j 0).toNat : Int)) := by
          obtain ⟨ad2, e3, _, hc⟩ := HRV.out j _ (bys_at hlt)
          injection e3 with e3
          rw [e3]
          exact hc
        have hx := (m.getD j 0).toNat_lt
        generalize m.getD j 0 = x at *
        have hp : 256 ^ j ≤ 16777216 := by
          have : 256 ^ j ≤ 256 ^ 3 := Nat.pow_le_pow_right (by omega) (by omega)
          exact Nat.le_trans this (by decide)
        have HO := Lib.hid (or8_32 (bigN (m.take j)) x.toNat (by omega) hx)
        go_wp2
        refine ⟨⟨j + 1, by omega, by go_num, ?_⟩, by simp [intOf]; omega⟩
        rw [HO.out, HS.out]
      · obtain rfl : j = m.length := by omega
        go_wp2
        go_ret
        exact ⟨rfl, H2.out, HG.out⟩
  · have e1 : rBig l 4 k e = (0, k, e) := by simp [rBig, rTake, he, bigN]
    have hd : decide (e ≠ 0) = true := by simpa using he
    rw [hd] at HD
    rw [e1]
    clear e1 hd
    go_enter Tryd.func19, Tryd.ntmps19
    go_wp2_with (refine HD.out.mono ?_; rintro en w2 ⟨rfl, rfl⟩)
    go_ret
    exact ⟨rfl, H.out, grown_refl _ _⟩

set_option maxRecDepth 100000 in
set_option maxHeartbeats 1000000 in
theorem rraw_any (w : World) (g : Nat) (A : Option Addr) (c : Nat) (l : List UInt8) (k e : Nat) (n : Int) (h : Rp w g A c l k e) (hn : n ≤ 1000000000) :
    Calls Tryd.prog 18 #[.pointer (some ⟨g, 0, none⟩), .int .i64 n] w fun en w2 => ∃ u, en = .returned u ∧ w2.ownsRow w.heap.size 5 1 u (rRaw l n k e).1.length (bys (rRaw l n k e).1) ∧ Rp w2 g A c l (rRaw l n k e).2.1 (rRaw l n k e).2.2 ∧ w.grownBy w2 (some g) := by
  have HD := Lib.hid (dead_any w g A c l k e h)
  have H := Lib.hid h
  have c1 := h.c1
  have hle := h.le
  clear h
  by_cases he : e = 0
  · subst he
    simp only [ne_eq, not_true_eq_false, decide_false] at HD
    by_cases hneg : n < 0
    · have e1 : rRaw l n k 0 = ([], k, 3) := by simp [rRaw, hneg]
      rw [e1]
      clear e1
      have HF := Lib.hid (fail_any w g A c l k 0 H.out k 3 k 3 rfl rfl hle)
      go_enter Tryd.func18, Tryd.ntmps18
      go_wp2_with fail
      refine HD.out.mono ?_
      rintro en w2 ⟨rfl, rfl⟩
      go_wp2_with fail
      refine HF.out.mono ?_
      rintro en w2 ⟨rfl, hp, hg⟩
      go_wp2
      go_ret
      exact ⟨_, rfl, World.ownsRow_nil _ _ _ _, hp, hg⟩
    · obtain ⟨m, rfl⟩ := Int.eq_ofNat_of_zero_le (by omega : 0 ≤ n)
      have e1 : rRaw l m k 0 = rTake l m k 0 := by unfold rRaw; rw [if_neg (fun h => hneg h.2)]; rfl
      rw [e1]
      clear e1
      have HT := Lib.hid (take_any w g A c l k H.out m m rfl (by omega))
      have hml : (rTake l m k 0).1.length ≤ l.length := by unfold rTake; simp only [ne_eq, not_true_eq_false, if_false]; split <;> simp <;> omega
      have hsm := H.out.small
      generalize (rTake l m k 0).1 = t at *
      generalize (rTake l m k 0).2.1 = k2 at *
      generalize (rTake l m k 0).2.2 = e2 at *
      go_enter Tryd.func18, Tryd.ntmps18
      go_wp2_with fail
      refine HD.out.mono ?_
      rintro en w2 ⟨rfl, rfl⟩
      go_wp2_with fail
      refine HT.out.mono ?_
      rintro en w2 ⟨D, d, rfl, hD, hd, hrv, hrp, hg, hs⟩
      have H2 := Lib.hid hrp
      have HG := Lib.hid hg
      have HRV := Lib.hid hrv
      have HDN := Lib.hid hD
      have HL := Lib.hid (bys_len t)
      clear hrp hg HT HD H hrv hD
      go_wp2_with (at_builtin; refine wpList_app sl22 rfl (.const (.slice none 0 0)) (.tmp 17) rfl w.heap.size (.slice none 0 0) 0 [] rfl (World.ownsRow_nil _ _ _ _) D t.length d (bys t) rfl HDN.out (by rw [HL.out, Nat.mul_one]) HRV.out (bys_one _) (by unfold maxLen; omega) (by omega) (by omega) ?_; intro v3 w3 ho ha; rw [Nat.zero_add, List.nil_append] at ho; have HO := Lib.hid ho; have HA := Lib.hid ha.grown; clear ho ha)
      go_ret
      exact ⟨v3, rfl, HO.out, H2.out.later HA.out, grown_trans HG.out (grown_any HA.out _)⟩
  · have e1 : rRaw l n k e = ([], k, e) := by simp [rRaw, rTake, he]
    have hd : decide (e ≠ 0) = true := by simpa using he
    rw [hd] at HD
    rw [e1]
    clear e1 hd
    go_enter Tryd.func18, Tryd.ntmps18
    go_wp2_with (refine HD.out.mono ?_; rintro en w2 ⟨rfl, rfl⟩)
    go_ret
    exact ⟨_, rfl, World.ownsRow_nil _ _ _ _, H.out, grown_refl _ _⟩

theorem rerr_any (w : World) (g : Nat) (A : Option Addr) (c : Nat) (l : List UInt8) (k e : Nat) (h : Rp w g A c l k e) :
    Calls Tryd.prog 57 #[.pointer (some ⟨g, 0, none⟩)] w fun en w2 => en = .returned (.int .i64 e) ∧ w = w2 := by
  have c2 := h.c2
  clear h
  go_enter Tryd.func57, Tryd.ntmps57
  go_wp2
  go_ret
  exact ⟨rfl, rfl⟩
theorem rleft_any (w : World) (g : Nat) (A : Option Addr) (c : Nat) (l : List UInt8) (k e : Nat) (h : Rp w g A c l k e) :
    Calls Tryd.prog 59 #[.pointer (some ⟨g, 0, none⟩)] w fun en w2 => en = .returned (.int .i64 ((l.length - k : Nat) : Int)) ∧ ∃ n, w2 = w.drewN n := by
  have c0 := h.c0
  have c1 := h.c1
  have hle := h.le
  have hsm := h.small
  clear h
  go_enter Tryd.func59, Tryd.ntmps59
  go_wp2_with fail
  refine wp_region_quiet_lit (by kernel_rfl) (by kernel_rfl) ?_
  repeat (go_big_quiet_step (fail))
  refine wpQuiet_nil ?_
  rintro _ ⟨n1, rfl⟩
  go_wp2
  go_ret
  exact ⟨ret_int (by omega), n1, rfl⟩
theorem rend_any (w : World) (g : Nat) (A : Option Addr) (c : Nat) (l : List UInt8) (k e : Nat) (h : Rp w g A c l k e) :
    Calls Tryd.prog 22 #[.pointer (some ⟨g, 0, none⟩)] w fun en w2 => en = .returned (.int .i64 (if e ≠ 0 then (e : Int) else if k < l.length then 11 else 0)) ∧ ∃ n, w2 = w.drewN n := by
  have HE := Lib.hid (rerr_any w g A c l k e h)
  have HL := Lib.hid (rleft_any w g A c l k e h)
  clear h
  by_cases he : e = 0
  · subst he
    by_cases hk : k < l.length
    · go_enter Tryd.func22, Tryd.ntmps22
      go_wp2_with fail
      refine HE.out.mono ?_
      rintro en w2 ⟨rfl, rfl⟩
      go_wp2_with fail
      refine HL.out.mono ?_
      rintro en w2 ⟨rfl, n, rfl⟩
      go_wp2
      go_ret
      exact ⟨by simp, n, rfl⟩
    · go_enter Tryd.func22, Tryd.ntmps22
      go_wp2_with fail
      refine HE.out.mono ?_
      rintro en w2 ⟨rfl, rfl⟩
      go_wp2_with fail
      refine HL.out.mono ?_
      rintro en w2 ⟨rfl, n, rfl⟩
      go_wp2
      go_ret
      exact ⟨by simp, n, rfl⟩
  · have hz : ((e : Int) != 0) = true := by rw [bne_iff_ne]; omega
    rw [if_pos he]
    go_enter Tryd.func22, Tryd.ntmps22
    go_wp2_with (refine HE.out.mono ?_; rintro en w2 ⟨rfl, rfl⟩)
    go_ret
    exact ⟨rfl, 0, rfl⟩
end Go.Proofs.YthhmamkphcgocaaDoor

/- slices.SortStableFunc at alike.Row: the merge of two sorted parts, by a contract. slices.SortStableFunc at alike.Row: the merge of two sorted parts, all ways. -/
import Derived.Test.YtbmpidacoohdmaaGreatF29
import Derived.Deep.CutRange
namespace Go.Proofs.YtbmpidacoohdmaaGreat
open Lib renaming hid → hI
open Go.Shelf Go.RowKit Go.Lib Go.Sort

variable {α : Type} [Inhabited α] {enc : α → List Value} {w0 : World} {blk off : Nat} {d0 : Array α}
set_option maxRecDepth 100000 in
set_option maxHeartbeats 1000000 in
theorem sym_left (k : Nat) (zE : ∀ w, (Go.sizeOf 120).run Tryz.prog w = .ok k w) (R : RowK enc k w0 blk off d0) (lt : α → α → Bool) (hS : SWO lt) (cf : α → α → Int) (g : Nat) (cb : Array Value)
    (eg : ∀ args w, (callFunc g args).run Tryz.prog w = .ok (.enter g args) w) (hC : CmpLays Tryz.prog g cb enc k cf blk off d0.size w0) (dk : Array α) (W : World) (h : SWK enc k w0 blk off dk W) (hs : dk.size = d0.size) (cap a m b : Nat) (hma : m = a + 1) (hmb : m < b) (hz : dk.size < 4611686018427387904) (hM : Mrg lt (ltOf cf) a m b dk) :
    Calls Tryz.prog 172 #[.slice (some ⟨blk, off, none⟩) dk.size cap, .int .i64 a, .int .i64 m, .int .i64 b, .func (.func g) #[] cb] W fun e w2 => e = .returned (.tuple #[]) ∧ ∃ d2, SWK enc k w0 blk off d2 w2 ∧ PermIn a b dk d2 ∧ SortedIn lt a b d2 := by
  have HR := hI R
  have H := hI h
  have HC := hI hC
  have HSZ := hI hs
  have HM : Hid (Mrg lt (ltOf cf) a (a + 1) b dk) := hI (by rw [← hma]; exact hM)
  have HA := hI hma
  have aE := Tryz.isAgg120
  have mixed : Tryz.prog.follows .mixedOrders = true := by kernel_rfl
  have hbs := hM.size
  have em : (m : Int) - (a : Int) = 1 := by omega
  have ham : a < m := by omega
  clear R h hC hs hM hma
  go_enter Tryz.func172, Tryz.ntmps172
  go_wp2_with fail
  go_loopw [10, 11] (fun iv jv wr => ∃ i j : Nat, iv = .int .i64 i ∧ jv = .int .i64 j ∧ m ≤ i ∧ i ≤ j ∧ j ≤ b ∧ Hid (SWK enc k w0 blk off dk wr) ∧ Hid (i = a + 1 ∨ ltOf cf dk[i - 1]! dk[a]! = true) ∧ Hid (j = b ∨ ltOf cf dk[j]! dk[a]! = false)) (fun iv jv _ => (intOf jv).toNat - (intOf iv).toNat)
  case atStart => exact ⟨m, b, rfl, rfl, Nat.le_refl _, by omega, Nat.le_refl _, H, hI (.inl HA.out), hI (.inl rfl)⟩
  case round =>
    obtain ⟨i, j, rfl, rfl, hi, hij, hj, hk, hlo, hup⟩ := hrel
    clear em
    by_cases hlt : i < j
    · obtain ⟨c, hc⟩ : ∃ c, (i + j) / 2 = c := ⟨_, rfl⟩
      have hc1 : i ≤ c := by omega
      have hc2 : c < j := by omega
      have lh := fun n os => hk.out.ld HR.out HSZ.out Tryz.prog c (by omega) n os
      have la := fun n os => hk.out.ld HR.out HSZ.out Tryz.prog a (by omega) n os
      have hcg := fun n os => hk.out.cmp HC.out HSZ.out dk[c]! dk[a]! n os
      have GR := hI (fun n os => hk.out.grown n os)
      have HV : Hid (ltOf cf dk[c]! dk[a]! = decide (cf dk[c]! dk[a]! < 0)) := hI rfl
      have ec : ((i : Int) + (j : Int)) / 2 = (c : Int) := by omega
      clear hc
      generalize cf dk[c]! dk[a]! = v at *
      generalize enc dk[c]! = cC at *
      generalize enc dk[a]! = cA at *
      have hcz : (c : Int) < (dk.size : Int) := by omega
      have haz : (a : Int) < (dk.size : Int) := by omega
      have u22 := run_underlying Tryz.underlying116
      by_cases hv : v < 0
      · rw [decide_eq_true hv] at HV
        go_wp2_with fail
        go_quiet_grown (first | (go_at_fn g; refine Calls.grown_of (hcg _ _)))
        go_wp2_with fail
        exact ⟨⟨c + 1, j, by go_num, rfl, by omega, by omega, hj, hI (GR.out _ _), hI (.inr HV.out), hup⟩, by simp [intOf]; omega⟩
      · rw [decide_eq_false hv] at HV
        go_wp2_with fail
        go_quiet_grown (first | (go_at_fn g; refine Calls.grown_of (hcg _ _)))
        go_wp2_with fail
        exact ⟨⟨i, c, rfl, rfl, hi, by omega, by omega, hI (GR.out _ _), hlo, hI (.inr HV.out)⟩, by simp [intOf]; omega⟩
    · obtain rfl : i = j := by omega
      have ei : (i : Int) - 1 = ((i - 1 : Nat) : Int) := by omega
      obtain ⟨l, hl⟩ : ∃ l, i - 1 = l := ⟨_, rfl⟩
      rw [hl] at ei
      have hl1 : l + 1 ≤ i := by omega
      have hl2 : i ≤ l + 1 := by omega
      have HL := hI hl
      have hal : a ≤ l := by omega
      clear hl
      go_wp2_with fail
      go_loopw [13] (fun xv wr => ∃ (x : Nat) (d2 : Array α), xv = .int .i64 x ∧ a ≤ x ∧ x ≤ l ∧ Hid (SWK enc k w0 blk off d2 wr) ∧ Hid (Rot a b a (a + 1) (x + 1) dk d2)) (fun xv _ => l - (intOf xv).toNat)
      case atStart => exact ⟨a, dk, rfl, Nat.le_refl _, hal, hk, hI (Rot.none (.inr rfl) (by omega) (Nat.le_refl _))⟩
      case round =>
        obtain ⟨x, d2, rfl, hx, hxl, hk2, hr⟩ := hrel
        clear hk
        by_cases hlx : x < l
        · have HS2 : Hid (d2.size = d0.size) := hI (hr.out.perm.1.trans HSZ.out)
          have HS3 : Hid (d2.size = dk.size) := hI hr.out.perm.1
          have RN := hI (hr.out.right (Nat.le_refl _) (by omega) hx (by omega))
          have SW := hI (hk2.out.swapped HR.out x (x + 1) (by rw [HS3.out]; omega) (by rw [HS3.out]; omega))
          have e1 := HR.out.hk d2[x + 1]!
          have e2 := HR.out.hk d2[x]!
          have l1 := hk2.out.ld1 HR.out HS2.out Tryz.prog (x + 1) (by rw [HS3.out]; omega)
          have l2 := hk2.out.ld1 HR.out HS2.out Tryz.prog x (by rw [HS3.out]; omega)
          have s1 := hk2.out.st1 HR.out HS2.out Tryz.prog x (by rw [HS3.out]; omega) d2[x + 1]!
          have s2 := hk2.out.st2 HR.out HS2.out Tryz.prog x (x + 1) (by rw [HS3.out]; omega) (by rw [HS3.out]; omega) d2[x + 1]! d2[x]!
          generalize enc d2[x + 1]! = cB at *
          generalize enc d2[x]! = cA at *
          have k1 : ((x : Int) + 1).toNat = x + 1 := by omega
          have z1 : (x : Int) + 1 < (dk.size : Int) := by omega
          have z2 : (x : Int) < (dk.size : Int) := by omega
          go_wp2_with fail
          go_big_region_o
          all_goals go_wp2
          exact ⟨⟨x + 1, _, by go_num, by omega, by omega, hI SW.out, hI RN.out⟩, by simp [intOf]; omega⟩
        · obtain rfl : x = l := by omega
          go_wp2_with fail
          (try simp only [Exit.inBlock, Exit.then])
          refine bodyPost_ret (results_none rfl _ _ _) rfl ?_
          have hie : x + 1 = i := by omega
          have hr2 := hr.out
          rw [hie] at hr2
          exact ⟨rfl, d2, hk2.out, hr2.perm, HM.out.one_left hS hr2 (by omega) hj hlo.out hup.out⟩
set_option maxRecDepth 100000 in
set_option maxHeartbeats 1000000 in
theorem sym_right (k : Nat) (zE : ∀ w, (Go.sizeOf 120).run Tryz.prog w = .ok k w) (R : RowK enc k w0 blk off d0) (lt : α → α → Bool) (hS : SWO lt) (cf : α → α → Int) (g : Nat) (cb : Array Value)
    (eg : ∀ args w, (callFunc g args).run Tryz.prog w = .ok (.enter g args) w) (hC : CmpLays Tryz.prog g cb enc k cf blk off d0.size w0) (dk : Array α) (W : World) (h : SWK enc k w0 blk off dk W) (hs : dk.size = d0.size) (cap a m b : Nat) (ham : a < m) (h1m : a + 1 ≠ m) (hmb : b = m + 1) (hz : dk.size < 4611686018427387904) (hM : Mrg lt (ltOf cf) a m b dk) :
    Calls Tryz.prog 172 #[.slice (some ⟨blk, off, none⟩) dk.size cap, .int .i64 a, .int .i64 m, .int .i64 b, .func (.func g) #[] cb] W fun e w2 => e = .returned (.tuple #[]) ∧ ∃ d2, SWK enc k w0 blk off d2 w2 ∧ PermIn a b dk d2 ∧ SortedIn lt a b d2 := by
  have HR := hI R
  have H := hI h
  have HC := hI hC
  have HSZ := hI hs
  have HM : Hid (Mrg lt (ltOf cf) a m (m + 1) dk) := hI (by rw [← hmb]; exact hM)
  have HA := hI hmb
  have aE := Tryz.isAgg120
  have mixed : Tryz.prog.follows .mixedOrders = true := by kernel_rfl
  have hbs := hM.size
  have em : ((m : Int) - (a : Int) == 1) = false := beq_eq_false_iff_ne.2 (by omega)
  have eb : (b : Int) - (m : Int) = 1 := by omega
  have hbm : m < b := by omega
  clear R h hC hs hM hmb h1m
  go_enter Tryz.func172, Tryz.ntmps172
  go_wp2_with fail
  go_loopw [14, 15] (fun iv jv wr => ∃ i j : Nat, iv = .int .i64 i ∧ jv = .int .i64 j ∧ a ≤ i ∧ i ≤ j ∧ j ≤ m ∧ Hid (SWK enc k w0 blk off dk wr) ∧ Hid (i = a ∨ ltOf cf dk[m]! dk[i - 1]! = false) ∧ Hid (j = m ∨ ltOf cf dk[m]! dk[j]! = true)) (fun iv jv _ => (intOf jv).toNat - (intOf iv).toNat)
  case atStart => exact ⟨a, m, rfl, rfl, Nat.le_refl _, by omega, Nat.le_refl _, H, hI (.inl rfl), hI (.inl rfl)⟩
  case round =>
    obtain ⟨i, j, rfl, rfl, hi, hij, hj, hk, hlo, hup⟩ := hrel
    clear em eb
    by_cases hlt : i < j
    · obtain ⟨c, hc⟩ : ∃ c, (i + j) / 2 = c := ⟨_, rfl⟩
      have hc1 : i ≤ c := by omega
      have hc2 : c < j := by omega
      have lh := fun n os => hk.out.ld HR.out HSZ.out Tryz.prog c (by omega) n os
      have la := fun n os => hk.out.ld HR.out HSZ.out Tryz.prog m (by omega) n os
      have hcg := fun n os => hk.out.cmp HC.out HSZ.out dk[m]! dk[c]! n os
      have GR := hI (fun n os => hk.out.grown n os)
      have HV : Hid (ltOf cf dk[m]! dk[c]! = decide (cf dk[m]! dk[c]! < 0)) := hI rfl
      have ec : ((i : Int) + (j : Int)) / 2 = (c : Int) := by omega
      clear hc
      generalize cf dk[m]! dk[c]! = v at *
      generalize enc dk[c]! = cC at *
      generalize enc dk[m]! = cA at *
      have hcz : (c : Int) < (dk.size : Int) := by omega
      have haz : (m : Int) < (dk.size : Int) := by omega
      have u22 := run_underlying Tryz.underlying116
      by_cases hv : v < 0
      · rw [decide_eq_true hv] at HV
        go_wp2_with fail
        go_quiet_grown (first | (go_at_fn g; refine Calls.grown_of (hcg _ _)))
        all_goals go_wp2_with fail
        all_goals exact ⟨⟨i, c, rfl, rfl, hi, by omega, by omega, hI (GR.out _ _), hlo, hI (.inr HV.out)⟩, by simp [intOf]; omega⟩
      · rw [decide_eq_false hv] at HV
        go_wp2_with fail
        go_quiet_grown (first | (go_at_fn g; refine Calls.grown_of (hcg _ _)))
        all_goals go_wp2_with fail
        all_goals first | exact ⟨⟨c + 1, j, by go_num, rfl, by omega, by omega, hj, hI (GR.out _ _), hI (.inr HV.out), hup⟩, by simp [intOf]; omega⟩ | (rename_i hq; exfalso; simp at hq; omega)
    · obtain rfl : i = j := by omega
      go_wp2_with fail
      go_loopw [17] (fun xv wr => ∃ (x : Nat) (d2 : Array α), xv = .int .i64 x ∧ i ≤ x ∧ x ≤ m ∧ Hid (SWK enc k w0 blk off d2 wr) ∧ Hid (Rot a b x m (m + 1) dk d2)) (fun xv _ => (intOf xv).toNat)
      case atStart => exact ⟨m, dk, rfl, hj, Nat.le_refl _, hk, hI (Rot.none (.inl rfl) (Nat.le_refl _) (by omega))⟩
      case round =>
        obtain ⟨x0, d2, rfl, hx, hxl, hk2, hr⟩ := hrel
        clear hk
        by_cases hlx : i < x0
        · obtain ⟨x, rfl⟩ : ∃ x, x0 = x + 1 := ⟨x0 - 1, by omega⟩
          have HS2 : Hid (d2.size = d0.size) := hI (hr.out.perm.1.trans HSZ.out)
          have HS3 : Hid (d2.size = dk.size) := hI hr.out.perm.1
          have RN := hI (hr.out.left (by omega) hxl (by omega) (by omega))
          have SW := hI (hk2.out.swapped HR.out (x + 1) x (by rw [HS3.out]; omega) (by rw [HS3.out]; omega))
          have e1 := HR.out.hk d2[x]!
          have e2 := HR.out.hk d2[x + 1]!
          have l1 := hk2.out.ld1 HR.out HS2.out Tryz.prog x (by rw [HS3.out]; omega)
          have l2 := hk2.out.ld1 HR.out HS2.out Tryz.prog (x + 1) (by rw [HS3.out]; omega)
          have s1 := hk2.out.st1 HR.out HS2.out Tryz.prog (x + 1) (by rw [HS3.out]; omega) d2[x]!
          have s2 := hk2.out.st2 HR.out HS2.out Tryz.prog (x + 1) x (by rw [HS3.out]; omega) (by rw [HS3.out]; omega) d2[x]! d2[x + 1]!
          generalize enc d2[x]! = cB at *
          generalize enc d2[x + 1]! = cA at *
          have k1 : ((x : Int) + 1).toNat = x + 1 := by omega
          have z1 : (x : Int) + 1 < (dk.size : Int) := by omega
          have z2 : (x : Int) < (dk.size : Int) := by omega
          have z0 : (0 : Int) ≤ (x : Int) + 1 := by omega
          go_wp2_with fail
          go_big_region_o
          all_goals go_wp2
          exact ⟨⟨x, _, rfl, by omega, by omega, hI SW.out, hI RN.out⟩, by simp [intOf] <;> omega⟩
        · obtain rfl : x0 = i := by omega
          go_wp2_with fail
          (try simp only [Exit.inBlock, Exit.then])
          refine bodyPost_ret (results_none rfl _ _ _) rfl ?_
          have hr2 := hr.out
          rw [HA.out] at hr2 ⊢
          exact ⟨rfl, d2, hk2.out, hr2.perm, HM.out.one_right hS hr2 hi hj hlo.out hup.out⟩
end Go.Proofs.YtbmpidacoohdmaaGreat
namespace Go.Proofs.YtbmpidacoohdmaaGreat
open Lib renaming hid → hI
open Go.Shelf Go.RowKit Go.Lib Go.Sort

variable {α : Type} [Inhabited α] {enc : α → List Value} {w0 : World} {blk off : Nat} {d0 : Array α}
set_option maxRecDepth 100000 in
set_option maxHeartbeats 4000000 in
theorem sym_step (k : Nat) (zE : ∀ w, (Go.sizeOf 120).run Tryz.prog w = .ok k w) (R : RowK enc k w0 blk off d0) (lt : α → α → Bool) (hS : SWO lt) (cf : α → α → Int) (g : Nat) (cb : Array Value)
    (eg : ∀ args w, (callFunc g args).run Tryz.prog w = .ok (.enter g args) w) (hC : CmpLays Tryz.prog g cb enc k cf blk off d0.size w0) (sz : Nat) (IH0 : ∀ (dk : Array α) (W : World) (_ : SWK enc k w0 blk off dk W) (_ : dk.size = d0.size) (cap a m b : Nat) (_ : b - a ≤ sz) (_ : a < m) (_ : m < b) (_ : dk.size < 4611686018427387904) (_ : Mrg lt (ltOf cf) a m b dk),
    Calls Tryz.prog 172 #[.slice (some ⟨blk, off, none⟩) dk.size cap, .int .i64 a, .int .i64 m, .int .i64 b, .func (.func g) #[] cb] W fun e w2 => e = .returned (.tuple #[]) ∧ ∃ d2, SWK enc k w0 blk off d2 w2 ∧ PermIn a b dk d2 ∧ SortedIn lt a b d2) : ∀ (dk : Array α) (W : World) (_ : SWK enc k w0 blk off dk W) (_ : dk.size = d0.size) (cap a m b : Nat) (_ : b - a ≤ sz + 1) (_ : a < m) (_ : m < b) (_ : dk.size < 4611686018427387904) (_ : Mrg lt (ltOf cf) a m b dk),
    Calls Tryz.prog 172 #[.slice (some ⟨blk, off, none⟩) dk.size cap, .int .i64 a, .int .i64 m, .int .i64 b, .func (.func g) #[] cb] W fun e w2 => e = .returned (.tuple #[]) ∧ ∃ d2, SWK enc k w0 blk off d2 w2 ∧ PermIn a b dk d2 ∧ SortedIn lt a b d2 := by
  intro dk W h hs cap a m b hsz ham hmb hz hM
  by_cases c1 : m = a + 1
  · exact sym_left k zE R lt hS cf g cb eg hC dk W h hs cap a m b c1 hmb hz hM
  by_cases c2 : b = m + 1
  · exact sym_right k zE R lt hS cf g cb eg hC dk W h hs cap a m b ham (fun e => c1 e.symm) c2 hz hM
  have IH := hI IH0
  clear IH0
  have HR := hI R
  have H := hI h
  have HC := hI hC
  have HSZ := hI hs
  have HM := hI hM
  have HZ := hI zE
  have aE := Tryz.isAgg120
  have mixed : Tryz.prog.follows .mixedOrders = true := by kernel_rfl
  have hbs := hM.size
  have em : ((m : Int) - (a : Int) == 1) = false := beq_eq_false_iff_ne.2 (by omega)
  have eb : ((b : Int) - (m : Int) == 1) = false := beq_eq_false_iff_ne.2 (by omega)
  clear R h hC hs hM
  obtain ⟨md, hmd⟩ : ∃ md, (a + b) / 2 = md := ⟨_, rfl⟩
  have emd : ((a : Int) + (b : Int)) / 2 = (md : Int) := by omega
  have hd1 : 2 * md ≤ a + b := by omega
  have hd2 : a + b < 2 * md + 2 := by omega
  have HMD := hI hmd
  clear hmd
  obtain ⟨lo, hi, K1, K2, F1, F5, F2, F4, F3, E1, E2⟩ : ∃ lo hi : Nat, (md < m → (md : Int) + (m : Int) - (b : Int) = (lo : Int) ∧ md = hi) ∧ (¬ md < m → a = lo ∧ m = hi) ∧ a ≤ lo ∧ lo ≤ hi ∧ hi ≤ m ∧ hi ≤ md ∧ md + m ≤ lo + b ∧ Hid (lo = a ∨ md + m - lo = b) ∧ Hid (hi = m ∨ md + m - hi = m) := by
    by_cases q : md < m
    · exact ⟨md + m - b, md, fun _ => ⟨by omega, rfl⟩, fun h => absurd q h, by omega, by omega, by omega, Nat.le_refl _, by omega, hI (.inr (by omega)), hI (.inr (by omega))⟩
    · exact ⟨a, m, fun h => absurd h q, fun _ => ⟨rfl, rfl⟩, Nat.le_refl _, by omega, Nat.le_refl _, by omega, by omega, hI (.inl rfl), hI (.inl rfl)⟩
  have K1 := hI K1
  have K2 := hI K2
  go_enter Tryz.func172, Tryz.ntmps172
  go_upto_if 140 with fail
  go_cut [20, 21] from 140 to 146 (fun sv rv w' => sv = .int .i64 lo ∧ rv = .int .i64 hi ∧ W = w')
  case first =>
    by_cases q : md < m
    · obtain ⟨e1, e2⟩ := K1.out q
      have hq : decide ((md : Int) < (m : Int)) = true := decide_eq_true (by omega)
      subst e2
      go_wp2_with fail
      go_meet
      exact ⟨rfl, rfl, rfl⟩
    · obtain ⟨e1, e2⟩ := K2.out q
      have hq : decide ((md : Int) < (m : Int)) = false := decide_eq_false (by omega)
      subst e1 e2
      go_wp2_with fail
      go_meet
      exact ⟨rfl, rfl, rfl⟩
  obtain ⟨rfl, rfl, hWW⟩ := hcut
  subst hWW
  go_wp2_with fail
  go_loopw [20, 21] (fun sv rv wr => ∃ s r : Nat, sv = .int .i64 s ∧ rv = .int .i64 r ∧ lo ≤ s ∧ s ≤ r ∧ r ≤ hi ∧ Hid (SWK enc k w0 blk off dk wr) ∧ Hid (s = lo ∨ ltOf cf dk[md + m - s]! dk[s - 1]! = false) ∧ Hid (r = hi ∨ ltOf cf dk[md + m - r - 1]! dk[r]! = true)) (fun sv rv _ => (intOf rv).toNat - (intOf sv).toNat)
  case atStart => exact ⟨lo, hi, rfl, rfl, Nat.le_refl _, F5, Nat.le_refl _, H, hI (.inl rfl), hI (.inl rfl)⟩
  case round =>
    obtain ⟨s, r, rfl, rfl, hls, hij, hj, hk, hlo, hup⟩ := hrel
    clear em eb emd
    by_cases hlt : s < r
    · obtain ⟨c, hc⟩ : ∃ c, (s + r) / 2 = c := ⟨_, rfl⟩
      have ec : ((s : Int) + (r : Int)) / 2 = (c : Int) := by omega
      have hc1 : s ≤ c := by omega
      have hc2 : c < r := by omega
      clear hc
      obtain ⟨pc, hpc⟩ : ∃ pc, md + m - 1 - c = pc := ⟨_, rfl⟩
      have epe : (md : Int) + (m : Int) - 1 - (c : Int) = (pc : Int) := by omega
      have epc : IntKind.i64.wrap (pc : Int) = (pc : Int) := by rw [IntKind.wrap_i64]; omega
      have hp1 : m ≤ pc := by omega
      have hp2 : pc < b := by omega
      have HPC := hI (show md + m - (c + 1) = pc ∧ md + m - c - 1 = pc by omega)
      clear hpc
      have lh := fun n os => hk.out.ld HR.out HSZ.out Tryz.prog pc (by omega) n os
      have la := fun n os => hk.out.ld HR.out HSZ.out Tryz.prog c (by omega) n os
      have hcg := fun n os => hk.out.cmp HC.out HSZ.out dk[pc]! dk[c]! n os
      have GR := hI (fun n os => hk.out.grown n os)
      have HV : Hid (ltOf cf dk[pc]! dk[c]! = decide (cf dk[pc]! dk[c]! < 0)) := hI rfl
      generalize cf dk[pc]! dk[c]! = v at *
      generalize enc dk[pc]! = cC at *
      generalize enc dk[c]! = cA at *
      have hcz : (c : Int) < (dk.size : Int) := by omega
      have haz : (pc : Int) < (dk.size : Int) := by omega
      have hcn : (0 : Int) ≤ (c : Int) := by omega
      have u22 := run_underlying Tryz.underlying116
      by_cases hv : v < 0
      · rw [decide_eq_true hv] at HV
        go_wp2_with fail
        go_quiet_grown (first | (go_at_fn g; refine Calls.grown_of (hcg _ _)))
        all_goals go_wp2_with fail
        all_goals first | exact ⟨⟨s, c, rfl, rfl, hls, by omega, by omega, hI (GR.out _ _), hlo, hI (.inr (by rw [HPC.out.2]; exact HV.out))⟩, by simp [intOf]; omega⟩ | (rename_i hq; exfalso; simp at hq; omega)
      · rw [decide_eq_false hv] at HV
        go_wp2_with fail
        go_quiet_grown (first | (go_at_fn g; refine Calls.grown_of (hcg _ _)))
        all_goals go_wp2_with fail
        all_goals first | exact ⟨⟨c + 1, r, by go_num, rfl, by omega, by omega, hj, hI (GR.out _ _), hI (.inr (by rw [HPC.out.1]; exact HV.out)), hup⟩, by simp [intOf]; omega⟩ | (rename_i hq; exfalso; simp at hq; omega)
    · obtain rfl : s = r := by omega
      obtain ⟨e, he⟩ : ∃ e, md + m - s = e := ⟨_, rfl⟩
      have ee : (md : Int) + (m : Int) - (s : Int) = (e : Int) := by omega
      have hsm : s ≤ m := by omega
      have hme : m ≤ e := by omega
      have heb : e ≤ b := by omega
      have hmde : md ≤ e := by omega
      have has : a ≤ s := by omega
      have hsmd : s ≤ md := by omega
      have HL : Hid (s = a ∨ e = b ∨ ltOf cf dk[e]! dk[s - 1]! = false) := hI (by
        rcases hlo.out with q | q
        · rcases E1.out with q2 | q2
          · exact .inl (q.trans q2)
          · exact .inr (.inl (by omega))
        · rw [he] at q
          exact .inr (.inr q))
      have HG : Hid (s = m ∨ e = m ∨ ltOf cf dk[e - 1]! dk[s]! = true) := hI (by
        rcases hup.out with q | q
        · rcases E2.out with q2 | q2
          · exact .inl (q.trans q2)
          · exact .inr (.inl (by omega))
        · rw [he] at q
          exact .inr (.inr q))
      have HE := hI (show s + (e - m) = md by omega)
      clear he hlo hup
      have hz1 : md - a ≤ sz := by omega
      have hz2 : b - md ≤ sz := by omega
      have hamd : a < md := by omega
      clear hls hij hj hlt F1 F2 F3 F4 F5 K1 K2 E1 E2 hd1 hd2 c1 c2 hsz HMD aE mixed
      have HSR := hI (fun h1 h2 => rotate_any k HZ.out HR.out dk wr hk.out HSZ.out cap s m e (.func (.func g) #[] cb) h1 h2 (by omega) hz)
      have CT := hI (fun d1 (hr : Rot a b s m e dk d1) => HM.out.cut hS hr has hsm hme heb HL.out HG.out)
      have PM := hI (fun d1 (hr : Rot s e s m e dk d1) => show Rot a b s m e dk d1 from ⟨permIn_mono dk d1 s e a b has heb hbs hr.perm, hr.get⟩)
      go_upto_region 39 with fail
      go_cut [185] from 178 to 184 (fun cv w' => ∃ c : Bool, cv = .bool c ∧ Hid (c = true → s < m ∧ m < e) ∧ Hid (c = false → ¬ s < m ∨ ¬ m < e) ∧ wr = w')
      case first =>
        by_cases q1 : s < m
        · have b1 : decide ((s : Int) < (m : Int)) = true := decide_eq_true (by omega)
          by_cases q2 : m < e
          · have b2 : decide ((m : Int) < (e : Int)) = true := decide_eq_true (by omega)
            go_wp2_with fail
            go_meet
            exact ⟨true, rfl, hI (fun _ => ⟨q1, q2⟩), hI (fun h => by cases h), rfl⟩
          · have b2 : decide ((m : Int) < (e : Int)) = false := decide_eq_false (by omega)
            go_wp2_with fail
            go_meet
            exact ⟨false, rfl, hI (fun h => by cases h), hI (fun _ => .inr q2), rfl⟩
        · have b1 : decide ((s : Int) < (m : Int)) = false := decide_eq_false (by omega)
          go_wp2_with fail
          go_meet
          exact ⟨false, rfl, hI (fun h => by cases h), hI (fun _ => .inl q1), rfl⟩
      obtain ⟨cc, rfl, hT, hF, hww⟩ := hcut
      subst hww
      go_upto_if 185 with fail
      go_cut [24] from 185 to 191 (fun ev w' => ev = .int .i64 e ∧ ∃ d1, Hid (SWK enc k w0 blk off d1 w') ∧ Hid (PermIn a b dk d1) ∧ Hid (Cut lt (ltOf cf) a s md e b d1))
      case first =>
        cases cc with
        | true =>
          obtain ⟨q1, q2⟩ := hT.out rfl
          go_wp2_with (go_at_call 231; refine (HSR.out q1 q2).mono ?_; rintro e2 w2 ⟨rfl, d1, hk2, hr2⟩; have K2 := hI hk2; have R2 := hI (PM.out d1 hr2); clear hk2 hr2)
          go_meet
          have := CT.out _ R2.out
          rw [HE.out] at this
          exact ⟨rfl, _, K2, hI R2.out.perm, hI this⟩
        | false =>
          have RN : Hid (Rot a b s m e dk dk) := hI (Rot.none (by rcases hF.out rfl with q | q; exact .inl (by omega); exact .inr (by omega)) hsm hme)
          go_wp2_with fail
          go_meet
          have := CT.out _ RN.out
          rw [HE.out] at this
          exact ⟨rfl, _, hk, hI RN.out.perm, hI this⟩
      obtain ⟨rfl, d1, hk1, hp1, hc1⟩ := hcut
      have Z1 : Hid (d1.size = d0.size ∧ d1.size = dk.size) := hI ⟨hp1.out.1.trans HSZ.out, hp1.out.1⟩
      clear hk hT hF
      go_upto_region 41 with fail
      go_cut [199] from 192 to 198 (fun cv w' => ∃ c : Bool, cv = .bool c ∧ Hid (c = true → a < s ∧ s < md) ∧ Hid (c = false → ¬ a < s ∨ ¬ s < md) ∧ wc = w')
      case first =>
        by_cases q1 : a < s
        · have b1 : decide ((a : Int) < (s : Int)) = true := decide_eq_true (by omega)
          by_cases q2 : s < md
          · have b2 : decide ((s : Int) < (md : Int)) = true := decide_eq_true (by omega)
            go_wp2_with fail
            go_meet
            exact ⟨true, rfl, hI (fun _ => ⟨q1, q2⟩), hI (fun h => by cases h), rfl⟩
          · have b2 : decide ((s : Int) < (md : Int)) = false := decide_eq_false (by omega)
            go_wp2_with fail
            go_meet
            exact ⟨false, rfl, hI (fun h => by cases h), hI (fun _ => .inr q2), rfl⟩
        · have b1 : decide ((a : Int) < (s : Int)) = false := decide_eq_false (by omega)
          go_wp2_with fail
          go_meet
          exact ⟨false, rfl, hI (fun h => by cases h), hI (fun _ => .inl q1), rfl⟩
      obtain ⟨cc, rfl, hT, hF, hww⟩ := hcut
      subst hww
      have IH1 := hI (fun q1 q2 => IH.out d1 wc hk1.out Z1.out.1 cap a s md hz1 q1 q2 (by rw [Z1.out.2]; exact hz) hc1.out.m1)
      rw [Z1.out.2] at IH1
      have CF := hI (fun d2 (hp : PermIn a md d1 d2) (hs2 : SortedIn lt a md d2) => hc1.out.first hp hs2 hmde heb)
      have SA : Hid (¬ a < s ∨ ¬ s < md → SortedIn lt a md d1) := hI (fun q => by
        by_cases q1 : a < s
        · obtain rfl : s = md := by omega
          exact hc1.out.m1.left
        · obtain rfl : a = s := by omega
          exact hc1.out.m1.right)
      go_upto_if 199 with fail
      go_cut [24] from 199 to 205 (fun ev w' => ev = .int .i64 e ∧ ∃ d2, Hid (SWK enc k w0 blk off d2 w') ∧ Hid (Mrg lt (ltOf cf) md e b d2) ∧ Hid (SortedIn lt a md d2) ∧ Hid (∀ i j, a ≤ i → i < md → md ≤ j → j < b → lt d2[j]! d2[i]! = false) ∧ Hid (PermIn a b d1 d2))
      case first =>
        cases cc with
        | true =>
          obtain ⟨q1, q2⟩ := hT.out rfl
          go_wp2_with (go_at_call 172; refine (IH1.out q1 q2).mono ?_; rintro e2 w2 ⟨rfl, d2, hk2, hp2, hs2⟩; have K2 := hI hk2; have C2 := hI (CF.out d2 hp2 hs2); clear hk2 hp2 hs2)
          go_meet
          exact ⟨rfl, _, K2, hI C2.out.1, hI C2.out.2.1, hI C2.out.2.2.1, hI C2.out.2.2.2⟩
        | false =>
          have C2 := hI (CF.out d1 (permIn_refl _ _ _) (SA.out (hF.out rfl)))
          go_wp2_with fail
          go_meet
          exact ⟨rfl, _, hk1, hI C2.out.1, hI C2.out.2.1, hI C2.out.2.2.1, hI C2.out.2.2.2⟩
      obtain ⟨rfl, d2, hk2, hm2, hs2, ha2, hp2⟩ := hcut
      have Z2 : Hid (d2.size = d0.size ∧ d2.size = dk.size) := hI ⟨hp2.out.1.trans Z1.out.1, hp2.out.1.trans Z1.out.2⟩
      clear hk1 hT hF IH1 CF SA
      go_upto_region 43 with fail
      go_cut [213] from 206 to 212 (fun cv w' => ∃ c : Bool, cv = .bool c ∧ Hid (c = true → md < e ∧ e < b) ∧ Hid (c = false → ¬ md < e ∨ ¬ e < b) ∧ wc = w')
      case first =>
        by_cases q1 : md < e
        · have b1 : decide ((md : Int) < (e : Int)) = true := decide_eq_true (by omega)
          by_cases q2 : e < b
          · have b2 : decide ((e : Int) < (b : Int)) = true := decide_eq_true (by omega)
            go_wp2_with fail
            go_meet
            exact ⟨true, rfl, hI (fun _ => ⟨q1, q2⟩), hI (fun h => by cases h), rfl⟩
          · have b2 : decide ((e : Int) < (b : Int)) = false := decide_eq_false (by omega)
            go_wp2_with fail
            go_meet
            exact ⟨false, rfl, hI (fun h => by cases h), hI (fun _ => .inr q2), rfl⟩
        · have b1 : decide ((md : Int) < (e : Int)) = false := decide_eq_false (by omega)
          go_wp2_with fail
          go_meet
          exact ⟨false, rfl, hI (fun h => by cases h), hI (fun _ => .inl q1), rfl⟩
      obtain ⟨cc, rfl, hT, hF, hww⟩ := hcut
      subst hww
      have IH2 := hI (fun q1 q2 => IH.out d2 wc hk2.out Z2.out.1 cap md e b hz2 q1 q2 (by rw [Z2.out.2]; exact hz) hm2.out)
      rw [Z2.out.2] at IH2
      have SB : Hid (¬ md < e ∨ ¬ e < b → SortedIn lt md b d2) := hI (fun q => by
        by_cases q1 : md < e
        · obtain rfl : e = b := by omega
          exact hm2.out.left
        · obtain rfl : md = e := by omega
          exact hm2.out.right)
      have CS := hI (fun d3 (hp : PermIn md b d2 d3) (hs3 : SortedIn lt md b d3) => Cut.second hm2.out hs2.out ha2.out hp hs3 (Nat.le_of_lt hamd))
      have PP := hI (permIn_trans _ _ _ _ _ hp1.out hp2.out)
      cases cc with
      | true =>
        obtain ⟨q1, q2⟩ := hT.out rfl
        go_wp2_with (go_at_call 172; refine (IH2.out q1 q2).mono ?_; rintro e2 w2 ⟨rfl, d3, hk3, hp3, hs3⟩; have K3 := hI hk3; have C3 := hI (CS.out d3 hp3 hs3); clear hk3 hp3 hs3)
        go_end0
        exact ⟨rfl, _, K3.out, permIn_trans _ _ _ _ _ PP.out C3.out.2, C3.out.1⟩
      | false =>
        have C3 := hI (CS.out d2 (permIn_refl _ _ _) (SB.out (hF.out rfl)))
        go_wp2_with fail
        go_end0
        exact ⟨rfl, _, hk2.out, PP.out, C3.out.1⟩
theorem sym_any (k : Nat) (zE : ∀ w, (Go.sizeOf 120).run Tryz.prog w = .ok k w) (R : RowK enc k w0 blk off d0) (lt : α → α → Bool) (hS : SWO lt) (cf : α → α → Int) (g : Nat) (cb : Array Value)
    (eg : ∀ args w, (callFunc g args).run Tryz.prog w = .ok (.enter g args) w) (hC : CmpLays Tryz.prog g cb enc k cf blk off d0.size w0) : ∀ (sz : Nat) (dk : Array α) (W : World) (_ : SWK enc k w0 blk off dk W) (_ : dk.size = d0.size) (cap a m b : Nat) (_ : b - a ≤ sz) (_ : a < m) (_ : m < b) (_ : dk.size < 4611686018427387904) (_ : Mrg lt (ltOf cf) a m b dk),
    Calls Tryz.prog 172 #[.slice (some ⟨blk, off, none⟩) dk.size cap, .int .i64 a, .int .i64 m, .int .i64 b, .func (.func g) #[] cb] W fun e w2 => e = .returned (.tuple #[]) ∧ ∃ d2, SWK enc k w0 blk off d2 w2 ∧ PermIn a b dk d2 ∧ SortedIn lt a b d2
  | 0, _, _, _, _, _, _, _, _, h, _, _, _, _ => by omega
  | sz + 1, dk, W, h, hs, cap, a, m, b, hsz, ham, hmb, hz, hM => sym_step k zE R lt hS cf g cb eg hC sz (sym_any k zE R lt hS cf g cb eg hC sz) dk W h hs cap a m b hsz ham hmb hz hM
end Go.Proofs.YtbmpidacoohdmaaGreat

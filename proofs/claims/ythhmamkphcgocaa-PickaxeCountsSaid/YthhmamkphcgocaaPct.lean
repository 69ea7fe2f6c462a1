/- pickaxe.Count, by a contract. -/
import Derived.Test.YthhmamkphcgocaaBac
namespace Go.Proofs.Ythhmamkphcgocaa
open Go.RowKit
attribute [local go_sem ↓] load72_eq store72_eq new72_eq run_new72
attribute [local go_sem] bs_at

theorem text_next {t : List UInt8} {j : Nat} (h : j < t.length) : t.take (j + 1) = t.take j ++ [t.getD j 0] := take_next h
theorem bs_empty {p : List UInt8} : (bs p).toList.isEmpty = p.isEmpty := by rw [ByteArray.toList_eq]; rfl

set_option maxRecDepth 100000 in
set_option maxHeartbeats 4000000 in
theorem count_any {B : Nat} (w : World) (A : Option Addr) (c : Nat) (t p : List UInt8) (h : Rv B w A (bys t)) (hB : B ≤ w.heap.size) (ht : t.length ≤ 2000) (hp : p.length ≤ 100) :
    Calls Try.prog 13 #[.slice A t.length c, .string (bs p)] w fun e w' => e = .returned (.int .i64 (cnt p t)) ∧ Below w.heap.size w w' := by
  have H := Lib.hid h
  have hsz := bs_size p
  clear h
  rcases Decidable.em (p = []) with h0 | h0
  · subst h0
    have e0 : (bs []).toList.isEmpty = true := by rw [bs_empty]; rfl
    go_enter Try.func13, Try.ntmps13
    go_wp2
    go_ret
    exact ⟨by rw [cnt_nil]; rfl, Below.refl _ _⟩
  · have hpos : 0 < p.length := List.length_pos_iff.2 h0
    have e0 : (bs p).toList.isEmpty = false := by rw [bs_empty]; simpa using h0
    by_cases hlen : t.length < p.length
    · go_enter Try.func13, Try.ntmps13
      go_wp2
      go_ret
      exact ⟨by rw [cnt_short p t hlen]; rfl, Below.refl _ _⟩
    · have HB := Lib.hid (backs_any w p hpos hp)
      have H0 := Lib.hid h0
      clear h0
      go_enter Try.func13, Try.ntmps13
      go_wp2_with (go_at_call 35; refine HB.out.mono ?_; rintro e w0 ⟨fs, rfl, hfl, hok, hb0⟩; have HOK := Lib.hid hok; have HB0 := Lib.hid hb0; have HFL := Lib.hid hfl; clear hok hb0 hfl; have hst := (Arr.new w0).store HFL.out)
      obtain ⟨w1, hw1⟩ : ∃ w1, w1 = (w0.alloc (.cells zero72 72)).setRow w0.heap.size (nats fs).toArray := ⟨_, rfl⟩
      have hA := (Arr.new w0).setRow (gs := fs) HFL.out
      have hb1 : Below w.heap.size w w1 := by
        rw [hw1]
        exact (HB0.out.alloc HB0.out.size _).trans ⟨rfl, rfl, rfl, by simp, fun k hk => setRow_other _ _ _ _ (by have := HB0.out.size; omega)⟩
      rw [← hw1] at hA ⊢
      generalize w0.heap.size = F at *
      have HA := Lib.hid hA
      have HB1 := Lib.hid hb1
      have H1 := Lib.hid ((H.out.more hB).below hb1)
      clear hst hA hb1 hw1 HB
      go_loopw [6, 7, 29] (fun nv kv jv wr => ∃ (j k n : Nat), j ≤ t.length ∧ k ≤ p.length ∧ n ≤ j ∧ nv = .int .i64 n ∧ kv = .int .i64 k ∧ jv = .int .i64 j ∧ Hid (Mx p (t.take j) k) ∧ Hid (n = cnt p (t.take j)) ∧ Hid (wr = w1)) (fun _ _ jv _ => t.length - (intOf jv).toNat)
      case atStart => exact ⟨0, 0, 0, Nat.zero_le _, Nat.zero_le _, Nat.zero_le _, rfl, rfl, rfl, mx_nil, rfl, rfl⟩
      case round =>
        obtain ⟨j, k, n, hj, hk, hn, rfl, rfl, rfl, hmx, hcn, hw⟩ := hrel
        obtain rfl := hw.out
        clear hw
        by_cases hlt : j < t.length
        · obtain ⟨ad, rfl, _, hc⟩ := H1.out.at_ (k := j) (bys_at hlt)
          have hnext := Lib.hid (text_next hlt)
          have HEX := Lib.hid (hmx.out.ex (c := t.getD j 0))
          have HC1 := Lib.hid (fun (kq : Nat) (h : Mx p (t.take j ++ [t.getD j 0]) kq) => cnt_mx H0.out h)
          generalize t.getD j 0 = x at *
          generalize wr = wo at *
          go_wp2_with fail
          go_loopw [7] (fun kv wq => ∃ kq : Nat, kq ≤ p.length ∧ kv = .int .i64 kq ∧ Hid (Ex p (t.take j) x kq) ∧ Hid (wq = wo)) (fun kv _ => (intOf kv).toNat)
          case atStart => exact ⟨k, hk, rfl, HEX, rfl⟩
          case round =>
            obtain ⟨kq, hkq, rfl, hex, hw⟩ := hrel
            obtain rfl := hw.out
            clear hw
            have hokq : ∃ b, fs.getD kq 0 = b ∧ (0 < kq → Bk p kq b ∧ b < kq) := ⟨_, rfl, fun h => ⟨HOK.out kq h hkq, (HOK.out kq h hkq).lt h hkq⟩⟩
            obtain ⟨b, hfb, hbb⟩ := hokq
            have hcb : wr.cell? ⟨F, kq, none⟩ = some (.int .i64 (b : Nat)) := by
              rw [← hfb]
              exact HA.out.cell (by omega)
            have HBB := Lib.hid hbb
            have HHIT := Lib.hid (fun (h0 : kq < p.length) (h : p.getD kq 0 = x) => hex.out.hit h0 h)
            have HBACK := Lib.hid (fun (h : kq = p.length ∨ p.getD kq 0 ≠ x) (h0 : 0 < kq) => hex.out.back h0 h (hbb h0).1)
            have HMISS := Lib.hid (fun (h : p.getD kq 0 ≠ x) (h0 : kq = 0) => (by subst h0; exact hex.out.miss (fun _ => h) : Mx p (t.take j ++ [x]) 0))
            clear hfb hbb
            by_cases hkf : kq = p.length
            · subst hkf
              go_wp2
              all_goals exact ⟨⟨b, by have := (HBB.out (by omega)).2; omega, by go_num, HBACK.out (Or.inl rfl) (by omega), trivial⟩, by have := (HBB.out (by omega)).2; simp [intOf]; omega⟩
            · have hkI : ((kq : Int) == (p.length : Int)) = false := by simp; omega
              have hxk : (bs p)[kq]'(by omega) = p.getD kq 0 := bs_at _
              generalize p.getD kq 0 = y at *
              by_cases hxy : y = x
              · subst hxy
                by_cases hk0 : 0 < kq
                · go_wp2
                  all_goals
                    rename_i hq
                    simp only [beq_iff_eq, beq_eq_false_iff_ne, ne_eq] at hq
                    have HM := HHIT.out (by omega) (by trivial)
                    have HN := HC1.out _ HM
                    rw [← hnext.out, ← hcn.out] at HN
                    rw [← hnext.out] at HM
                    first
                    | exact ⟨⟨j + 1, kq + 1, n + 1, by omega, by omega, by omega, by go_num, by go_num, by go_num, HM, by unfold Hid; rw [HN, if_pos (by omega)], trivial⟩, by simp [intOf]; omega⟩
                    | exact ⟨⟨j + 1, kq + 1, n, by omega, by omega, by omega, by go_num, by go_num, by go_num, HM, by unfold Hid; rw [HN, if_neg (by omega), Nat.add_zero], trivial⟩, by simp [intOf]; omega⟩
                · obtain rfl : kq = 0 := by omega
                  go_wp2
                  all_goals
                    rename_i hq
                    simp only [beq_iff_eq, beq_eq_false_iff_ne, ne_eq] at hq
                    have HM := HHIT.out (by omega) (by trivial)
                    have HN := HC1.out _ HM
                    rw [← hnext.out, ← hcn.out] at HN
                    rw [← hnext.out] at HM
                    first
                    | exact ⟨⟨j + 1, 0 + 1, n + 1, by omega, by omega, by omega, by go_num, by go_num, by go_num, HM, by unfold Hid; rw [HN, if_pos (by omega)], trivial⟩, by simp [intOf]; omega⟩
                    | exact ⟨⟨j + 1, 0 + 1, n, by omega, by omega, by omega, by go_num, by go_num, by go_num, HM, by unfold Hid; rw [HN, if_neg (by omega), Nat.add_zero], trivial⟩, by simp [intOf]; omega⟩
              · have hne : ¬ ((x.toNat : Int) = (y.toNat : Int)) := fun e => hxy (UInt8.toNat_inj.1 (by omega))
                by_cases hk0 : 0 < kq
                · go_wp2
                  all_goals exact ⟨⟨b, by have := (HBB.out (by omega)).2; omega, by go_num, HBACK.out (Or.inr hxy) (by omega), trivial⟩, by have := (HBB.out (by omega)).2; simp [intOf]; omega⟩
                · obtain rfl : kq = 0 := by omega
                  go_wp2
                  all_goals
                    have HM := HMISS.out hxy (by trivial)
                    have HN := HC1.out _ HM
                    rw [← hnext.out, ← hcn.out] at HN
                    rw [← hnext.out] at HM
                    first
                    | exact ⟨⟨j + 1, 0, n + 1, by omega, by omega, by omega, by go_num, by go_num, by go_num, HM, by unfold Hid; rw [HN, if_pos (by omega)], trivial⟩, by simp [intOf]; omega⟩
                    | exact ⟨⟨j + 1, 0, n, by omega, by omega, by omega, by go_num, by go_num, by go_num, HM, by unfold Hid; rw [HN, if_neg (by omega), Nat.add_zero], trivial⟩, by simp [intOf]; omega⟩
        · go_wp2
          go_ret
          obtain rfl : j = t.length := by omega
          rw [List.take_length] at hcn
          exact ⟨ret_int (congrArg Nat.cast hcn.out), HB1.out⟩
end Go.Proofs.Ythhmamkphcgocaa

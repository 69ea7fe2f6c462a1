/- pickaxe.slow and pickaxe.Count for a needle of any length, by contracts; how often a text stands in two texts joined. -/
import Derived.Test.YthhmamkphcgocaaPct
namespace Go.Proofs.Ythhmamkphcgocaa
open Go.RowKit

theorem cnt_join (nd a b : List UInt8) : cnt nd a + cnt nd b ≤ cnt nd (a ++ b) := by
  induction a with
  | nil => simp [cnt]
  | cons x a ih =>
    rw [List.cons_append, cnt, cnt]
    by_cases h : nd ≠ [] ∧ (x :: a).take nd.length = nd
    · have hl : nd.length ≤ (x :: a).length := by
        have := congrArg List.length h.2
        rw [List.length_take] at this
        omega
      have h' : nd ≠ [] ∧ (x :: (a ++ b)).take nd.length = nd := ⟨h.1, by rw [← List.cons_append, List.take_append_of_le_length hl]; exact h.2⟩
      rw [if_pos h, if_pos h']
      omega
    · rw [if_neg h]
      omega
theorem cnt_end (nd t : List UInt8) (k : Nat) (hk : k ≤ t.length) (h : t.length < k + nd.length) : cnt nd (t.drop k) = 0 := cnt_short nd _ (by simp; omega)

set_option maxRecDepth 100000 in
set_option maxHeartbeats 2000000 in
theorem slow_any {B : Nat} (w : World) (A : Option Addr) (c : Nat) (t nd : List UInt8) (h : Rv B w A (bys t)) (ht : t.length ≤ 2000) (hn : nd.length ≤ 2000) (h0 : nd ≠ []) (hcap : t.length ≤ c) :
    Calls Try.prog 34 #[.slice A t.length c, .string (bs nd)] w fun e w' => e = .returned (.int .i64 (cnt nd t)) ∧ w' = w := by
  have H := Lib.hid h
  have H0 := Lib.hid h0
  have hcs := bs_size nd
  have hnp : 0 < nd.length := List.length_pos_iff.2 h0
  clear h h0
  go_enter Try.func34, Try.ntmps34
  go_wp2_with fail
  go_loopw [5, 6] (fun nv kv wr => ∃ k m : Nat, k ≤ t.length ∧ m ≤ k ∧ kv = .int .i64 k ∧ nv = .int .i64 m ∧ Hid (m + cnt nd (t.drop k) = cnt nd t) ∧ Hid (wr = w)) (fun _ kv _ => t.length - (intOf kv).toNat)
  case atStart => exact ⟨0, 0, Nat.zero_le _, Nat.zero_le _, rfl, rfl, by unfold Hid; simp, rfl⟩
  case round =>
    obtain ⟨k, m, hk, hm, rfl, rfl, hs, hw⟩ := hrel
    obtain rfl := hw.out
    clear hw
    by_cases hfit : k + nd.length ≤ t.length
    · obtain ⟨ad, rfl, _, hc⟩ := H.out.some_ (by rw [bys_len]; omega)
      have HST := Lib.hid (cnt_step (nd := nd) (t := t) (k := k) (by omega))
      have hcv := fun c => conv_part wr ad c t k nd.length hfit hc
      have HB := Lib.hid (str_beq (bs ((t.drop k).take nd.length)) (bs nd))
      have HI := Lib.hid (fun e => bs_inj (l := (t.drop k).take nd.length) (k := nd) e)
      clear hc
      generalize (t.drop k).take nd.length = q at *
      by_cases hq : q = nd
      · have hd : ((bs q).toList == (bs nd).toList) = true := by rw [HB.out, hq]; simp
        rw [if_pos ⟨H0.out, hq⟩] at HST
        clear hq
        go_wp2
        refine ⟨⟨k + 1, m + 1, by omega, by omega, by go_num, by go_num, ?_, trivial⟩, by simp [intOf]; omega⟩
        have h := hs.out
        rw [HST.out] at h
        exact (by omega : m + 1 + cnt nd (t.drop (k + 1)) = cnt nd t)
      · have hd : ((bs q).toList == (bs nd).toList) = false := by
          rw [HB.out]
          simp only [decide_eq_false_iff_not]
          exact fun e => hq (HI.out e)
        rw [if_neg (fun h => hq h.2), Nat.zero_add] at HST
        clear hq
        go_wp2
        refine ⟨⟨k + 1, m, by omega, by omega, by go_num, by go_num, ?_, trivial⟩, by simp [intOf]; omega⟩
        have h := hs.out
        rw [HST.out] at h
        exact h
    · go_wp2
      go_ret
      have h := hs.out
      rw [cnt_end nd t k hk (by omega), Nat.add_zero] at h
      exact ⟨ret_int (congrArg Nat.cast h), rfl⟩

set_option maxRecDepth 100000 in
set_option maxHeartbeats 2000000 in
theorem count_all {B : Nat} (w : World) (A : Option Addr) (c : Nat) (t p : List UInt8) (h : Rv B w A (bys t)) (hB : B ≤ w.heap.size) (ht : t.length ≤ 2000) (hp : p.length ≤ 2000) (hcap : t.length ≤ c) :
    Calls Try.prog 13 #[.slice A t.length c, .string (bs p)] w fun e w' => e = .returned (.int .i64 (cnt p t)) ∧ Below w.heap.size w w' := by
  by_cases hs : p.length ≤ 100
  · exact count_any w A c t p h hB ht hs
  · have hsz := bs_size p
    have h0 : p ≠ [] := by rintro rfl; simp at hs
    have e0 : (bs p).toList.isEmpty = false := by rw [bs_empty]; simpa using h0
    by_cases hlen : t.length < p.length
    · clear h
      go_enter Try.func13, Try.ntmps13
      go_wp2
      go_ret
      exact ⟨by rw [cnt_short p t hlen]; rfl, Below.refl _ _⟩
    · have HS := Lib.hid (slow_any w A c t p h ht hp h0 hcap)
      clear h h0
      go_enter Try.func13, Try.ntmps13
      go_wp2_with (go_at_call 34; refine HS.out.mono ?_; rintro e w1 ⟨rfl, hw⟩; subst w1)
      go_ret
      exact ⟨rfl, Below.refl _ _⟩
end Go.Proofs.Ythhmamkphcgocaa

/- pickaxe.Lines' closure, slices.IndexFunc and ContainsFunc at it, by contracts. -/
import Derived.Test.YthhmamkphcgocaaShf
import Derived.Test.YthhmamkphcgocaaCnt
namespace Go.Proofs.Ythhmamkphcgocaa
open Go.RowKit

theorem index_has (nd : List UInt8) (t : List UInt8) : (0 ≤ Lib.index t nd) ↔ (nd = [] ∨ 0 < cnt nd t) := by
  induction t with
  | nil =>
    unfold Lib.index
    cases nd <;> simp [cnt]
  | cons x t ih =>
    have hge := Lib.index_ge t nd
    have hp : nd.isPrefixOf (x :: t) = true ↔ (x :: t).take nd.length = nd := by
      rw [List.isPrefixOf_iff_prefix, List.prefix_iff_eq_take]
      exact eq_comm
    unfold Lib.index
    rw [cnt]
    by_cases h : nd.isPrefixOf (x :: t) = true
    · rw [if_pos h]
      by_cases hn : nd = []
      · simp [hn]
      · rw [if_pos ⟨hn, hp.1 h⟩]
        exact ⟨fun _ => .inr (by omega), fun _ => Int.le_refl 0⟩
    · have hno : ¬ (nd ≠ [] ∧ (x :: t).take nd.length = nd) := fun h' => h (hp.2 h'.2)
      rw [if_neg h, show (if nd ≠ [] ∧ (x :: t).take nd.length = nd then 1 else 0) = 0 from if_neg hno, Nat.zero_add]
      by_cases h2 : Lib.index t nd = -1
      · rw [if_pos (by simp [h2])]
        rw [← ih, h2]
      · rw [if_neg (by simp [h2]), ← ih]
        omega
theorem contains_has (nd s : List UInt8) : Lib.contains s nd = (decide (nd = []) || decide (0 < cnt nd s)) := by
  unfold Lib.contains
  rw [← Bool.decide_or]
  exact decide_eq_decide.2 (index_has nd s)

set_option maxRecDepth 100000 in
theorem clo_any (w : World) (X : Nat) (s nd : List UInt8) (m : Int) (hX : w.cell? ⟨X, 0, none⟩ = some (.string (bs nd))) (hm : w.cell? ⟨0, 0, none⟩ = some (.int .i64 m)) (hs : s.length ≤ 2000) :
    Calls Try.prog 26 #[.string (bs s), .pointer (some ⟨X, 0, none⟩)] w fun e w' => e = .returned (.bool (decide (nd = []) || decide (0 < cnt nd s))) ∧ w' = w := by
  have h := Try.strings_Contains (bs s) (bs nd) m w (by rw [bs_size]; omega) hm
  have e : Lib.contains (bs s).data.toList (bs nd).data.toList = (decide (nd = []) || decide (0 < cnt nd s)) := contains_has nd s
  rw [e] at h
  have HC := Lib.hid h
  clear h e hm
  generalize (decide (nd = []) || decide (0 < cnt nd s)) = r at *
  go_enter Try.func26, Try.ntmps26
  go_wp2_with (go_at_call 27; refine HC.out.mono ?_; rintro e w1 ⟨rfl, hw1⟩; subst w1)
  go_ret
  exact ⟨rfl, rfl⟩

set_option maxRecDepth 100000 in
set_option maxHeartbeats 1000000 in
theorem idx_any {B : Nat} (w : World) (A : Option Addr) (c X : Nat) (l : List (List UInt8)) (nd : List UInt8) (m : Int) (hX : w.cell? ⟨X, 0, none⟩ = some (.string (bs nd))) (hm : w.cell? ⟨0, 0, none⟩ = some (.int .i64 m))
    (h : Rv B w A (strs (sbs l))) (hlen : ∀ s ∈ l, s.length ≤ 2000) (hl : l.length ≤ 1000) :
    Calls Try.prog 47 #[.slice A l.length c, .func (.func 26) #[] #[.pointer (some ⟨X, 0, none⟩)]] w fun e w' => (∃ i : Int, e = .returned (.int .i64 i) ∧ decide (0 ≤ i) = hasL nd l) ∧ w' = w := by
  have H := Lib.hid h
  have HLEN := Lib.hid hlen
  have HM := Lib.hid (And.intro hX hm)
  clear h hlen hX hm
  go_enter Try.func47, Try.ntmps47
  go_wp2_with fail
  go_loopw [8] (fun kv wr => ∃ k : Nat, k ≤ l.length ∧ kv = .int .i64 k ∧ Hid (hasL nd l = hasL nd (l.drop k)) ∧ Hid (wr = w)) (fun kv _ => l.length - (intOf kv).toNat)
  case atStart => exact ⟨0, Nat.zero_le _, rfl, rfl, rfl⟩
  case round =>
    obtain ⟨k, hk, rfl, hs, hw⟩ := hrel
    obtain rfl := hw.out
    by_cases hlt : k < l.length
    · obtain ⟨ad, rfl, bA, hc0⟩ := H.out.at_ (k := k) (strs_at (by simpa [sbs] using hlt))
      have hx : (sbs l).getD k ByteArray.empty = bs (l.getD k []) := by simp [sbs, hlt]
      rw [hx] at hc0
      have hxl : (l.getD k []).length ≤ 2000 := HLEN.out _ (by rw [List.getD_eq_getElem?_getD, List.getElem?_eq_getElem hlt]; exact List.getElem_mem _)
      have hst : hasL nd (l.drop k) = ((decide (nd = []) || decide (0 < cnt nd (l.getD k []))) || hasL nd (l.drop (k + 1))) := by
        rw [show l.drop k = l.getD k [] :: l.drop (k + 1) by rw [List.drop_eq_getElem_cons hlt, List.getD_eq_getElem?_getD, List.getElem?_eq_getElem hlt]; rfl]
        rfl
      have HST := Lib.hid hst
      have HC := Lib.hid (clo_any wr X (l.getD k []) nd m HM.out.1 HM.out.2 hxl)
      clear hx hst
      generalize l.getD k [] = x at *
      generalize (decide (nd = []) || decide (0 < cnt nd x)) = r at *
      cases r with
      | true =>
        go_wp2_with (go_at_call 26; refine HC.out.mono ?_; rintro e w1 ⟨rfl, hw1⟩; subst w1)
        go_ret
        exact ⟨⟨(k : Int), rfl, by rw [hs.out.trans HST.out, Bool.true_or]; exact decide_eq_true (by omega)⟩, rfl⟩
      | false =>
        go_wp2_with (go_at_call 26; refine HC.out.mono ?_; rintro e w1 ⟨rfl, hw1⟩; subst w1)
        exact ⟨⟨k + 1, by omega, by go_num, (hs.out.trans HST.out : _), trivial⟩, by simp [intOf]; omega⟩
    · go_wp2
      go_ret
      exact ⟨⟨-1, rfl, by rw [hs.out, List.drop_eq_nil_of_le (by omega)]; rfl⟩, rfl⟩

set_option maxRecDepth 100000 in
theorem confunc_any {B : Nat} (w : World) (A : Option Addr) (c X : Nat) (l : List (List UInt8)) (nd : List UInt8) (m : Int) (hX : w.cell? ⟨X, 0, none⟩ = some (.string (bs nd))) (hm : w.cell? ⟨0, 0, none⟩ = some (.int .i64 m))
    (h : Rv B w A (strs (sbs l))) (hlen : ∀ s ∈ l, s.length ≤ 2000) (hl : l.length ≤ 1000) :
    Calls Try.prog 28 #[.slice A l.length c, .func (.func 26) #[] #[.pointer (some ⟨X, 0, none⟩)]] w fun e w' => e = .returned (.bool (hasL nd l)) ∧ w' = w := by
  have HC := Lib.hid (idx_any w A c X l nd m hX hm h hlen hl)
  clear hX hm h hlen
  go_enter Try.func28, Try.ntmps28
  go_wp2_with (go_at_call 47; refine HC.out.mono ?_; rintro e w1 ⟨⟨i, rfl, hi⟩, hw1⟩; subst w1; have HI := Lib.hid hi; clear hi)
  go_ret
  exact ⟨ret_bool HI.out, rfl⟩
end Go.Proofs.Ythhmamkphcgocaa

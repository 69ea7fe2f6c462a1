/- route.Name, route.Parts, route.Right by contracts. -/
import Derived.Test.YthhmamkphcgocaaDoorRte
namespace Go.Proofs.YthhmamkphcgocaaDoor
open Go.RowKit

theorem bs_list (l : List UInt8) : (bs l).data.toList = l := by simp [bs]
theorem index_neg (c : UInt8) (l : List UInt8) : decide (0 ≤ Lib.indexByte l c) = l.contains c := by
  induction l with
  | nil => rfl
  | cons x l ih =>
    unfold Lib.indexByte
    by_cases h : x = c
    · subst h; simp
    · have hb : (c == x) = false := by simpa using fun e => h e.symm
      have hx : (x == c) = false := by simpa using h
      have hg := Lib.indexByte_ge l c
      simp only [List.contains_cons, hb, Bool.false_or, ← ih, hx, Bool.false_eq_true, if_false]
      by_cases hm : Lib.indexByte l c = -1
      · simp [hm]
      · rw [if_neg (by simpa using hm)]
        exact decide_eq_decide.2 (by omega)
theorem bs_eq_iff (l : List UInt8) (m : List UInt8) : (bs l = ⟨m.toArray⟩) ↔ l = m := ⟨fun h => bs_inj h, fun h => by rw [h]; rfl⟩
theorem beq_dec (l m : List UInt8) : (l == m) = decide (l = m) := by rw [Bool.eq_iff_iff]; simp
theorem bs_toList (l : List UInt8) : (bs l).toList = l := by
  rw [ByteArray.toList_eq]
  exact bs_list l
attribute [local go_sem] bs_toList
set_option maxRecDepth 100000 in
set_option maxHeartbeats 1000000 in
theorem name_any (w : World) (l : List UInt8) (hl : l.length ≤ 4294967200) :
    Calls Tryd.prog 86 #[.string (bs l)] w fun e w2 => e = .returned (.bool (nameS l)) ∧ w2 = w := by
  have hz : (bs l).size = l.length := bs_size l
  have hp := plain_any w l hl
  have hc := Tryd.strings_Contains_one (bs l) 47 w
  rw [bs_list, index_neg] at hc
  generalize hr : nameS l = r
  unfold nameS at hr
  have HR := Lib.hid hr
  clear hr
  generalize l.all vis = v at *
  generalize l.contains 47 = c at *
  have HP := Lib.hid hp
  have HC := Lib.hid hc
  clear hp hc
  by_cases h1 : 0 < l.length
  · by_cases h2 : l.length ≤ 32
    · cases v
      · go_enter Tryd.func86, Tryd.ntmps86
        go_wp2_with (go_at_call 90; refine HP.out.mono ?_; rintro e w1 ⟨rfl, hw1⟩; subst w1)
        go_ret
        exact ⟨by rw [← HR.out]; simp , rfl⟩
      · cases c
        · go_enter Tryd.func86, Tryd.ntmps86
          go_wp2_with (first | (go_at_call 90; refine HP.out.mono ?_; rintro e w1 ⟨rfl, hw1⟩; subst w1) | (go_at_call 91; refine HC.out.mono ?_; rintro e w1 ⟨rfl, hw1⟩; subst w1))
          · have h1' : 1 ≤ l.length := h1
            go_ret
            refine ⟨?_, rfl⟩
            rw [← HR.out]
            simp [h1', h2]
            exact fun h => absurd (by assumption) h
          · have h1' : 1 ≤ l.length := h1
            go_ret
            refine ⟨?_, rfl⟩
            rw [← HR.out]
            simp [h1', h2]
            rw [beq_dec, beq_dec]
        · go_enter Tryd.func86, Tryd.ntmps86
          go_wp2_with (first | (go_at_call 90; refine HP.out.mono ?_; rintro e w1 ⟨rfl, hw1⟩; subst w1) | (go_at_call 91; refine HC.out.mono ?_; rintro e w1 ⟨rfl, hw1⟩; subst w1))
          go_ret
          exact ⟨by rw [← HR.out]; simp , rfl⟩
    · have h3 : ¬ ((l.length : Int) ≤ 32) := by omega
      go_enter Tryd.func86, Tryd.ntmps86
      go_wp2_with fail
      go_ret
      exact ⟨by rw [← HR.out]; simp [h2], rfl⟩
  · have h3 : ¬ (0 < (l.length : Int)) := by omega
    go_enter Tryd.func86, Tryd.ntmps86
    go_wp2_with fail
    go_ret
    exact ⟨by rw [← HR.out]; simp; omega, rfl⟩
end Go.Proofs.YthhmamkphcgocaaDoor

/- Paths as plain lists of bytes: what may be seen, the parts between strokes, a name, a path; sleuthref05.seen and route.plain by contracts. -/
import Derived.Test.YthhmamkphcgocaaDoorObj
import Derived.Test.YthhmamkphcgocaaDoorShf
import Derived.Test.YthhmamkphcgocaaDoorChecked
namespace Go.Proofs.YthhmamkphcgocaaDoor
open Go.RowKit

/-- May the byte be seen? -/
def vis (b : UInt8) : Bool := decide (33 ≤ b.toNat) && decide (b.toNat ≤ 126)
/-- The parts between strokes; of no bytes: one part. -/
def cutS : List UInt8 → List (List UInt8)
  | [] => [[]]
  | b :: l => if b = 47 then [] :: cutS l else match cutS l with
    | [] => [[b]]
    | p :: ps => (b :: p) :: ps
def partsS (l : List UInt8) : List (List UInt8) := if l = [] then [] else cutS l
def nameS (l : List UInt8) : Bool := decide (1 ≤ l.length) && (decide (l.length ≤ 32) && (l.all vis && (!l.contains 47 && (decide (l ≠ [46]) && decide (l ≠ [46, 46])))))
def rightS (l : List UInt8) : Bool := decide (1 ≤ l.length) && (decide (l.length ≤ 120) && ((partsS l).all nameS && decide ((partsS l).length ≤ 6)))

theorem take_all {l : List UInt8} {i : Nat} (hi : i < l.length) (f : UInt8 → Bool) : (l.take (i + 1)).all f = ((l.take i).all f && f (l.getD i 0)) := by
  rw [List.take_add_one, List.all_append, List.getElem?_eq_getElem hi]
  simp [hi]
theorem all_no {l : List UInt8} {i : Nat} (hi : i < l.length) (f : UInt8 → Bool) (h : f (l.getD i 0) = false) : l.all f = false := by
  rw [List.all_eq_false]
  refine ⟨l.getD i 0, by simp [hi], by rw [h]; exact Bool.false_ne_true⟩
attribute [local go_sem] bs_at
set_option maxRecDepth 100000 in
set_option maxHeartbeats 1000000 in
theorem fseen_any (w : World) (l : List UInt8) (hl : l.length ≤ 4294967200) :
    Calls Tryd.prog 88 #[.string (bs l)] w fun e w2 => e = .returned (.bool (l.all vis)) ∧ w2 = w := by
  have hz : (bs l).size = l.length := bs_size l
  generalize hr : l.all vis = r
  have HR := Lib.hid hr
  clear hr
  go_enter Tryd.func88, Tryd.ntmps88
  go_wp2_with fail
  go_loopw [3] (fun iv wr => ∃ i : Nat, i ≤ l.length ∧ iv = .int .i64 i ∧ Hid ((l.take i).all vis = true) ∧ wr = w) (fun iv _ => l.length - (intOf iv).toNat)
  case atStart => exact ⟨0, by omega, rfl, Lib.hid (by simp), rfl⟩
  case round =>
    obtain ⟨i, hi, rfl, hv, rfl⟩ := hrel
    by_cases hlt : i < l.length
    · have hxi : (bs l)[i]'(by omega) = l.getD i 0 := bs_at _
      have HV := Lib.hid (take_all hlt vis)
      have HN := Lib.hid (all_no hlt vis)
      generalize l.getD i 0 = x at *
      have hb := x.toNat_lt
      by_cases h1 : x.toNat < 33
      · have hvx : vis x = false := by simp [vis]; omega
        have hrf : r = false := by rw [← HR.out]; exact HN.out hvx
        subst hrf
        go_wp2_with fail
        go_ret
        exact ⟨rfl, rfl⟩
      · by_cases h2 : 126 < x.toNat
        · have hvx : vis x = false := by simp [vis]; omega
          have hrf : r = false := by rw [← HR.out]; exact HN.out hvx
          subst hrf
          go_wp2_with fail
          go_ret
          exact ⟨rfl, rfl⟩
        · have hvx : vis x = true := by simp [vis]; omega
          have HX := Lib.hid hvx
          go_wp2_with fail
          exact ⟨⟨i + 1, by omega, by go_num, Lib.hid (by rw [HV.out, hv.out, HX.out]; rfl), trivial⟩, by simp [intOf]; omega⟩
    · have hie : i = l.length := by omega
      have hrt : r = true := by
        have := hv.out
        rw [hie, List.take_length, HR.out] at this
        exact this
      subst hrt hie
      go_wp2_with fail
      go_ret
      exact ⟨rfl, rfl⟩
set_option maxRecDepth 100000 in
set_option maxHeartbeats 1000000 in
theorem plain_any (w : World) (l : List UInt8) (hl : l.length ≤ 4294967200) :
    Calls Tryd.prog 90 #[.string (bs l)] w fun e w2 => e = .returned (.bool (l.all vis)) ∧ w2 = w := by
  have hz : (bs l).size = l.length := bs_size l
  generalize hr : l.all vis = r
  have HR := Lib.hid hr
  clear hr
  go_enter Tryd.func90, Tryd.ntmps90
  go_wp2_with fail
  go_loopw [6] (fun iv wr => ∃ i : Nat, i ≤ l.length ∧ iv = .int .i64 i ∧ Hid ((l.take i).all vis = true) ∧ wr = w) (fun iv _ => l.length - (intOf iv).toNat)
  case atStart => exact ⟨0, by omega, rfl, Lib.hid (by simp), rfl⟩
  case round =>
    obtain ⟨i, hi, rfl, hv, rfl⟩ := hrel
    by_cases hlt : i < l.length
    · have hxi : (bs l)[i]'(by omega) = l.getD i 0 := bs_at _
      have HV := Lib.hid (take_all hlt vis)
      have HN := Lib.hid (all_no hlt vis)
      generalize l.getD i 0 = x at *
      have hb := x.toNat_lt
      by_cases h1 : x.toNat < 33
      · have hvx : vis x = false := by simp [vis]; omega
        have hrf : r = false := by rw [← HR.out]; exact HN.out hvx
        subst hrf
        go_wp2_with fail
        go_ret
        exact ⟨rfl, rfl⟩
      · by_cases h2 : 126 < x.toNat
        · have hvx : vis x = false := by simp [vis]; omega
          have hrf : r = false := by rw [← HR.out]; exact HN.out hvx
          subst hrf
          go_wp2_with fail
          go_ret
          exact ⟨rfl, rfl⟩
        · have hvx : vis x = true := by simp [vis]; omega
          have HX := Lib.hid hvx
          go_wp2_with fail
          exact ⟨⟨i + 1, by omega, by go_num, Lib.hid (by rw [HV.out, hv.out, HX.out]; rfl), trivial⟩, by simp [intOf]; omega⟩
    · have hie : i = l.length := by omega
      have hrt : r = true := by
        have := hv.out
        rw [hie, List.take_length, HR.out] at this
        exact this
      subst hrt hie
      go_wp2_with fail
      go_ret
      exact ⟨rfl, rfl⟩
end Go.Proofs.YthhmamkphcgocaaDoor

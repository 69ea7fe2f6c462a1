/- (*myers.field).at, best and near, by contracts. -/
import Derived.Test.YthhmamkphcgocaaFil
import Derived.Deep.Cut
namespace Go.Proofs.Ythhmamkphcgocaa
open Go.RowKit

/-- The first D rows of the field at block F hold what tabS tells. -/
def Tbl (w : World) (F : Nat) (a b : List Int) (D : Nat) : Prop :=
  ∃ R cR, w.cell? ⟨F, 2, none⟩ = some (.slice R D cR) ∧ ∀ d, d < D → ∃ r g o, R = some r ∧ w.cell? (r.add d) = some (.slice (some ⟨g, o, none⟩) (2 * d + 1) (2 * d + 1)) ∧
    ∀ j, j ≤ 2 * d → w.cell? ⟨g, o + j, none⟩ = some (.int .i64 (tabS a b d ((j : Int) - d)))

set_option maxHeartbeats 400000 in
theorem at_any (w : World) (F : Nat) (a b : List Int) (D : Nat) (ht : Tbl w F a b D) (hD : D ≤ 2000) (d off : Int) (hd : d < D) (hd2 : -10 ≤ d) (ho : -3000 ≤ off) (ho2 : off ≤ 3000) :
    Calls Try.prog 69 #[.pointer (some ⟨F, 0, none⟩), .int .i64 d, .int .i64 off] w fun e w' => e = .returned (.int .i64 (atT a b d off)) ∧ w' = w := by
  obtain ⟨R, cR, c2, hrow⟩ := ht
  by_cases h1 : d < 0
  · have e : atT a b d off = far := by unfold atT; rw [if_pos (.inl h1)]
    rw [e]
    clear hrow c2 e
    go_enter Try.func69, Try.ntmps69
    go_wp2
    go_ret
    exact ⟨rfl, rfl⟩
  · by_cases h2 : off < -d
    · have e : atT a b d off = far := by unfold atT; rw [if_pos (.inr (.inl h2))]
      rw [e]
      clear hrow c2 e
      go_enter Try.func69, Try.ntmps69
      go_wp2
      go_ret
      exact ⟨rfl, rfl⟩
    · by_cases h3 : d < off
      · have e : atT a b d off = far := by unfold atT; rw [if_pos (.inr (.inr h3))]
        rw [e]
        clear hrow c2 e
        go_enter Try.func69, Try.ntmps69
        go_wp2
        go_ret
        exact ⟨rfl, rfl⟩
      · obtain ⟨n, rfl⟩ : ∃ n : Nat, d = n := ⟨d.toNat, by omega⟩
        obtain ⟨r, g, o, rfl, c3, c4⟩ := hrow n (by omega)
        have c5 := c4 ((n : Int) + off).toNat (by omega)
        have e : tabS a b n ((((n : Int) + off).toNat : Int) - n) = atT a b n off := by
          rw [atT_in a b (by omega) (by omega)]; congr 1; omega
        rw [e] at c5
        clear hrow c4 e
        generalize atT a b n off = x at *
        go_enter Try.func69, Try.ntmps69
        go_wp2
        go_ret
        exact ⟨rfl, rfl⟩

/-- The field's two lists, read. -/
def Two (B : Nat) (w : World) (F : Nat) (a b : List Int) : Prop :=
  ∃ A D cA cD, w.cell? ⟨F, 0, none⟩ = some (.slice A a.length cA) ∧ w.cell? ⟨F, 1, none⟩ = some (.slice D b.length cD) ∧ Rv B w A (ints a) ∧ Rv B w D (ints b)

set_option maxRecDepth 100000 in
set_option maxHeartbeats 1000000 in
theorem best_any {B : Nat} (w : World) (F : Nat) (a b : List Int) (h2 : Two B w F a b) (la : a.length ≤ 400) (lb : b.length ≤ 400) (d : Nat) (ht : Tbl w F a b d) (hD : d ≤ 2000) (off : Int) (ho : -(d : Int) ≤ off) (ho2 : off ≤ d) :
    Calls Try.prog 68 #[.pointer (some ⟨F, 0, none⟩), .int .i64 d, .int .i64 off, .int .i64 (endD a b)] w fun e w' => e = .returned (.int .i64 (tabS a b d off)) ∧ ∃ m, w' = w.drewN m := by
  have hfar : (a.length : Int) < far := by unfold far; omega
  rw [tabS_eq a b d off ho ho2]
  have k1 := at_any w F a b d ht hD ((d : Int) - 2) off (by omega) (by omega) (by omega) (by omega)
  have k2 := at_any w F a b d ht hD ((d : Int) - 1) (off + 1) (by omega) (by omega) (by omega) (by omega)
  have k3 := at_any w F a b d ht hD ((d : Int) - 1) (off - 1) (by omega) (by omega) (by omega) (by omega)
  have r1 := atT_range a b hfar ((d : Int) - 2) off
  have r2 := atT_range a b hfar ((d : Int) - 1) (off + 1)
  have r3 := atT_range a b hfar ((d : Int) - 1) (off - 1)
  have hp := best_point a b hfar (d := d) (dg := endD a b + off) (by unfold endD; omega) (by unfold endD; omega) (tab_good a b hfar d _ off (by omega)) (by rw [show endD a b + off + 1 = endD a b + (off + 1) by omega]; exact tab_good a b hfar d _ (off + 1) (by omega)) (by rw [show endD a b + off - 1 = endD a b + (off - 1) by omega]; exact tab_good a b hfar d _ (off - 1) (by omega))
  generalize atT a b ((d : Int) - 2) off = x1 at *
  generalize atT a b ((d : Int) - 1) (off + 1) = x2 at *
  generalize atT a b ((d : Int) - 1) (off - 1) = x3 at *
  have K1 := Lib.hid k1
  have K2 := Lib.hid k2
  have K3 := Lib.hid k3
  clear k1 k2 k3 ht
  have he : (endD a b : Int) = a.length - b.length := rfl
  have HP := Lib.hid hp
  clear hp
  obtain ⟨res, hres⟩ : ∃ r, r = bestV a b d (endD a b + off) x1 x2 x3 := ⟨_, rfl⟩
  rw [← hres]
  have HRES := Lib.hid hres
  clear hres
  have R1 := Lib.hid r1
  have R2 := Lib.hid r2
  have R3 := Lib.hid r3
  have b1 : -500 ≤ endD a b := by omega
  have b2 : endD a b ≤ 500 := by omega
  clear he r1 r2 r3
  generalize endD a b = en at *
  obtain ⟨A, D, cA, cD, c0, c1, ra, rb⟩ := h2
  have RR := Lib.hid (And.intro ra rb)
  clear ra rb
  clear hfar
  go_enter Try.func68, Try.ntmps68
  go_upto_if 18 with fail
  go_cut [10] from 14 (fun i wc => i = .int .i64 (best0 a.length d) ∧ wc = w)
  case first =>
    go_wp2
    · go_meet
      case rel => exact ⟨by rw [best0, if_pos (by simp_all)], rfl⟩
    · go_meet
      case rel => exact ⟨by rw [best0, if_neg (by simp_all)]; rfl, rfl⟩
  case rest =>
    obtain ⟨rfl, hwc⟩ := hcut; subst wc
    obtain ⟨i0, e0⟩ : ∃ x, x = best0 a.length d := ⟨_, rfl⟩
    rw [← e0]
    have E0 := Lib.hid e0
    clear e0
    go_upto_if 31 with (go_at_call 69; refine K1.out.mono ?_; rintro e w1 ⟨rfl, hw1⟩; subst w1)
    go_cut [10] from 14 (fun i wc => i = .int .i64 (if x1 < i0 then x1 else i0) ∧ wc = w)
    case first =>
      go_wp2
      · go_meet
        case rel => exact ⟨by rw [if_pos (by assumption)], rfl⟩
      · go_meet
        case rel => exact ⟨by rw [if_neg (by omega)], rfl⟩
    case rest =>
      obtain ⟨rfl, hwc⟩ := hcut; subst wc
      obtain ⟨i1, e1⟩ : ∃ x, x = if x1 < i0 then x1 else i0 := ⟨_, rfl⟩
      rw [← e1]
      have E1 := Lib.hid e1
      clear e1
      have x2r := R2.out.1
      have x2s : x2 ≤ 1073741824 := by have := R2.out.2; unfold far at this; omega
      go_upto_region 9 with (go_at_call 69; refine K2.out.mono ?_; rintro e w1 ⟨rfl, hw1⟩; subst w1)
      go_cut [63] from 14 (fun t wc => t = .bool (decide (x2 < far ∧ 0 ≤ x2 - 1 ∧ x2 - 1 < i1 ∧ x2 - 1 - (en + off) ≤ b.length)) ∧ wc = w)
      case first =>
        go_wp2
        all_goals go_meet
        all_goals (refine ⟨congrArg Value.bool ?_, rfl⟩; symm; first | (apply decide_eq_true; unfold far; omega) | (apply decide_eq_false; unfold far; omega) | (apply decide_eq_decide.2; unfold far; omega))
      case rest =>
        obtain ⟨rfl, hwc⟩ := hcut; subst wc
        obtain ⟨q2, h2⟩ : ∃ q, q = decide (x2 < far ∧ 0 ≤ x2 - 1 ∧ x2 - 1 < i1 ∧ x2 - 1 - (en + off) ≤ b.length) := ⟨_, rfl⟩
        rw [← h2]
        have H2 := Lib.hid h2
        clear h2
        go_upto_if 63 with fail
        go_cut [10] from 14 (fun i wc => i = .int .i64 (if q2 = true then x2 - 1 else i1) ∧ wc = w)
        case first =>
          cases q2 with
          | true =>
            go_wp2
            go_meet
            case rel => exact ⟨rfl, rfl⟩
          | false =>
            go_wp2
            go_meet
            case rel => exact ⟨rfl, rfl⟩
        case rest =>
          obtain ⟨rfl, hwc⟩ := hcut; subst wc
          obtain ⟨i2, e2⟩ : ∃ x, x = if q2 = true then x2 - 1 else i1 := ⟨_, rfl⟩
          rw [← e2]
          have E2 := Lib.hid e2
          clear e2 x2r x2s
          have x3r := R3.out.1
          have x3s : x3 ≤ 1073741824 := by have := R3.out.2; unfold far at this; omega
          go_upto_region 12 with (go_at_call 69; refine K3.out.mono ?_; rintro e w1 ⟨rfl, hw1⟩; subst w1)
          go_cut [84] from 14 (fun t wc => t = .bool (decide (x3 < far ∧ 0 ≤ x3 - (en + off) ∧ x3 < i2)) ∧ wc = w)
          case first =>
            go_wp2
            all_goals go_meet
            all_goals (refine ⟨congrArg Value.bool ?_, rfl⟩; symm; first | (apply decide_eq_true; unfold far; omega) | (apply decide_eq_false; unfold far; omega) | (apply decide_eq_decide.2; unfold far; omega))
          case rest =>
            obtain ⟨rfl, hwc⟩ := hcut; subst wc
            obtain ⟨q3, h3⟩ : ∃ q, q = decide (x3 < far ∧ 0 ≤ x3 - (en + off) ∧ x3 < i2) := ⟨_, rfl⟩
            rw [← h3]
            have H3 := Lib.hid h3
            clear h3
            go_upto_if 84 with fail
            go_cut [10] from 14 (fun i wc => i = .int .i64 (if q3 = true then x3 else i2) ∧ wc = w)
            case first =>
              cases q3 with
              | true =>
                go_wp2
                go_meet
                case rel => exact ⟨rfl, rfl⟩
              | false =>
                go_wp2
                go_meet
                case rel => exact ⟨rfl, rfl⟩
            case rest =>
              obtain ⟨rfl, hwc⟩ := hcut; subst wc
              obtain ⟨i3, e3⟩ : ∃ x, x = if q3 = true then x3 else i2 := ⟨_, rfl⟩
              rw [← e3]
              have f1 : i1 = best1 a.length d x1 := by rw [E1.out, E0.out]; rfl
              have f2 : i2 = best2 a.length b.length d (en + off) x1 x2 := by
                rw [E2.out, H2.out, f1]
                unfold best2
                simp only [decide_eq_true_eq]
              have f3 : i3 = best3 a.length b.length d (en + off) x1 x2 x3 := by
                rw [e3, H3.out, f2]
                unfold best3
                simp only [decide_eq_true_eq]
              have B3 := Lib.hid f3
              have C3 := Lib.hid e3
              clear e3 f1 f2 f3 x3r x3s
              by_cases hi3 : i3 = 1073741824
              · have e : res = 1073741824 := by
                  rw [HRES.out]
                  unfold bestV
                  rw [← B3.out, if_pos (show i3 = far from hi3)]
                  rfl
                subst e
                go_wp2
                go_ret
                exact ⟨rfl, 0, rfl⟩
              · obtain ⟨i, k, hi, hon, _⟩ := HP.out.resolve_left (by rw [← B3.out]; exact hi3)
                rw [← B3.out] at hi
                have e : res = slide a b (en + off) i := by
                  rw [HRES.out]
                  unfold bestV
                  rw [← B3.out, if_neg (show ¬ i3 = far from hi3), hi]
                  rfl
                have HS := Lib.hid (slide_any w F A D cA cD a b c0 c1 RR.out.1 RR.out.2 la lb i k (en + off) hon)
                subst e
                clear hon
                subst hi
                go_wp2_with (go_at_call 72; refine HS.out.mono ?_; rintro e w1 ⟨rfl, hw1⟩)
                go_ret
                exact ⟨rfl, hw1⟩

end Go.Proofs.Ythhmamkphcgocaa

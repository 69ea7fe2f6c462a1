/- rename.Exact and sleuthref26.Exact, each by a contract. -/
import Derived.Test.YthhmamkphcgocaaFnd5
import Derived.Test.YthhmamkphcgocaaChgs
import Derived.Test.YthhmamkphcgocaaRex
namespace Go.Proofs.Ythhmamkphcgocaa
open Go.RowKit

theorem own_rd {w : World} {B : Nat} {e : TypeId} {v : Value} {xs : List Value} (h : w.ownsRow B e 1 v xs.length xs) : ∃ A c, v = .slice A xs.length c ∧ Rd w A xs := by
  rcases h.2 with ⟨rfl, h0⟩ | ⟨b, cap, cur, rfl, hb, hh, hrest⟩
  · have hx : xs = [] := List.eq_nil_of_length_eq_zero h0
    subst hx
    exact ⟨none, 0, rfl, fun k x hx => by simp at hx⟩
  · refine ⟨some ⟨b, 0, none⟩, cap, rfl, fun k x hx => ⟨⟨b, 0, none⟩, rfl, (Array.getElem?_eq_some_iff.1 hh).1, ?_⟩⟩
    have hk : k < xs.length := (List.getElem?_eq_some_iff.1 hx).1
    rw [Addr.add_lit, Nat.zero_add, h.cellAt k (by omega)]
    exact hx

theorem exact_prog {w : World} {l : List Chg} {A : Option Addr} {c : Nat} (hl : LReads w w.heap.size A l) (ok : ∀ (k : Nat) (x : Chg), l[k]? = some x → x.ok) (hn : l.length ≤ 40)
    (hfr : ∀ k, 0 < (exactTo l (st0 l.length 0) l.length).kd.getD k 0 → ∃ i : Nat, i < l.length ∧ (exactTo l (st0 l.length 0) l.length).fr.getD k 0 = i) :
    Calls Try.prog 8 #[.slice A l.length c] w fun e w' => ∃ v B, e = .returned v ∧ w'.ownsRow B 46 70 v (outTo l (exactTo l (st0 l.length 0) l.length) l.length).length ((outTo l (exactTo l (st0 l.length 0) l.length) l.length).flatMap Chg.cells) ∧ Below w.heap.size w w' := by
  have hs := start_any w A c l hl ok hn
  have HS := Lib.hid hs
  have HFR := Lib.hid hfr
  clear hs hfr hl ok
  go_enter Try.func8, Try.ntmps8
  go_wp2_with (first
    | (go_at_call 18; refine HS.out.mono ?_; rintro e w1 ⟨b, F, S, K, T, rfl, hF1, hB1⟩; have G1 := Lib.hid hF1; have L1 := Lib.hid hB1; clear hF1 hB1)
    | (go_at_call 19; refine (exact_any G1.out).mono ?_; rintro e w2 ⟨rfl, hF2, hB2⟩; have G2 := Lib.hid hF2; have L2 := Lib.hid hB2; clear hF2 hB2)
    | (go_at_call 20; refine (changes_any G2.out _ rfl HFR.out).mono ?_; rintro e w3 ⟨v, rfl, hO, hB3⟩; have G3 := Lib.hid hO; have L3 := Lib.hid hB3; clear hO hB3))
  go_ret
  exact ⟨v, _, rfl, G3.out, (L1.out.trans L2.out).trans (L3.out.mono (Nat.le_trans L1.out.size L2.out.size))⟩

theorem exact_ref {w : World} {l : List Chg} {A : Option Addr} {c : Nat} (hl : LReads w w.heap.size A l) (ok : ∀ (k : Nat) (x : Chg), l[k]? = some x → x.ok) (hn : l.length ≤ 40)
    (hfr : ∀ k, 0 < (refTo l l.length).kd.getD k 0 → ∃ i : Nat, i < l.length ∧ (refTo l l.length).fr.getD k 0 = i) :
    Calls Try.prog 9 #[.slice A l.length c] w fun e w' => ∃ v B, e = .returned v ∧ w'.ownsRow B 46 70 v (outTo l (refTo l l.length) l.length).length ((outTo l (refTo l l.length) l.length).flatMap Chg.cells) ∧ Below w.heap.size w w' := by
  have hs := rexact_any w l A c hl ok hn
  have HS := Lib.hid hs
  have told : ∀ {w1 : World} {v0 v1 v2 v3 : Value} {B g : Nat}, Flds w1 B g 54 [v0, v1, v2, v3] (rowsS (refTo l l.length)) → Below w.heap.size w w1 → Calls Try.prog 21 #[.slice A l.length c, .agg #[v0, v1, v2, v3]] w1
      fun e w' => ∃ v, e = .returned v ∧ w'.ownsRow w1.heap.size 46 70 v (outTo l (refTo l l.length) l.length).length ((outTo l (refTo l l.length) l.length).flatMap Chg.cells) ∧ Below w1.heap.size w1 w' := by
    intro w1 v0 v1 v2 v3 B g h hb
    obtain ⟨lF, lS, lK, lT⟩ := refTo_len l l.length
    have hl1 : LReads w1 w1.heap.size A l := (hl.keep fun p hp => hb.cell hp).more hb.size
    obtain ⟨AF, cF, rfl, rF⟩ := own_rd (h.own 0 v0 _ rfl rfl)
    obtain ⟨AK, cK, rfl, rK⟩ := own_rd (h.own 1 v1 _ rfl rfl)
    obtain ⟨AS, cS, rfl, rS⟩ := own_rd (h.own 2 v2 _ rfl rfl)
    obtain ⟨AT, cT, rfl, rT⟩ := own_rd (h.own 3 v3 _ rfl rfl)
    have e0 : (ints (refTo l l.length).fr).length = l.length := by simp [ints, lF]
    have e1 : (ints (refTo l l.length).kd).length = l.length := by simp [ints, lK]
    have e2 : (ints (refTo l l.length).sc).length = l.length := by simp [ints, lS]
    have e3 : (boos (refTo l l.length).tk).length = l.length := by simp [boos, lT]
    simp only [e0, e1, e2, e3]
    exact told_any w1 l A AF AK AS AT c cF cK cS cT (refTo l l.length) hl1 ok hn rF rK rS rT lF lK lS lT hfr
  have HT := @Lib.hid _ @told
  clear hs told hfr hl ok
  go_enter Try.func9, Try.ntmps9
  go_wp2_with (first
    | (go_at_call 22; refine HS.out.mono ?_; rintro e w1 ⟨v0, v1, v2, v3, B, g, rfl, hF1, hB1⟩; have G1 := Lib.hid hF1; have L1 := Lib.hid hB1; clear hF1 hB1)
    | (go_at_call 21; refine (HT.out G1.out L1.out).mono ?_; rintro e w3 ⟨v, rfl, hO, hB3⟩; have G3 := Lib.hid hO; have L3 := Lib.hid hB3; clear hO hB3))
  go_ret
  exact ⟨v, _, rfl, G3.out, L1.out.trans (L3.out.mono L1.out.size)⟩
end Go.Proofs.Ythhmamkphcgocaa

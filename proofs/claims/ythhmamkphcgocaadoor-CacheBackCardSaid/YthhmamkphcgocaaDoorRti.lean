/- sleuthref05.Right by a contract. -/
import Derived.Test.YthhmamkphcgocaaDoorRth
namespace Go.Proofs.YthhmamkphcgocaaDoor
open Go.RowKit

theorem parts_pos (l : List UInt8) : (1 ≤ (partsS l).length) ↔ (1 ≤ l.length) := by
  unfold partsS
  split
  · rename_i h
    simp [h]
  · rename_i h
    have h1 := cut_ne l
    have h2 : 0 < (cutS l).length := List.length_pos_iff.2 h1
    have h3 : 0 < l.length := List.length_pos_iff.2 h
    omega
theorem own_keep {w V : World} {base : Nat} {e : TypeId} {size : Nat} {v : Value} {n : Nat} {xs : List Value} (h : w.ownsRow base e size v n xs) (hb : Below w.heap.size w V) : V.ownsRow base e size v n xs :=
  h.kept (row := none) ⟨hb.os, hb.tape, hb.output, hb.size, fun q hq _ => hb.block q hq⟩ (by cases v.ownBlock <;> simp)
set_option maxRecDepth 100000 in
set_option maxHeartbeats 1000000 in
theorem fright_any (w : World) (l : List UInt8) (hl : l.length ≤ 4294967200) :
    Calls Tryd.prog 68 #[.string (bs l)] w fun e w2 => e = .returned (.bool (rightS l)) ∧ Below w.heap.size w w2 := by
  have hz : (bs l).size = l.length := bs_size l
  generalize hr : rightS l = r
  unfold rightS at hr
  have HR := Lib.hid hr
  clear hr
  by_cases h2 : 120 < l.length
  · go_enter Tryd.func68, Tryd.ntmps68
    go_wp2_with fail
    go_ret
    exact ⟨by rw [← HR.out]; simp [show ¬ l.length ≤ 120 by omega], Below.refl _ _⟩
  · have HS := Lib.hid (parts_sum l)
    have hpn : (partsS l).length ≤ 121 := by have := parts_num l; omega
    have hpp := parts_pos l
    have HP := Lib.hid (fparts_any w l (by omega))
    generalize partsS l = ps at *
    go_enter Tryd.func68, Tryd.ntmps68
    go_wp2_with fail
    refine HP.out.mono ?_
    rintro e w2 ⟨v, rfl, ho, hb⟩
    obtain ⟨D, d, hv, _, hd, _, _⟩ := own_all ho
    subst hv
    have HO := Lib.hid ho
    have HB := Lib.hid hb
    clear ho hb HP
    go_wp2_with fail
    go_loopw [4] (fun iv wr => ∃ i : Nat, i ≤ ps.length ∧ iv = .int .i64 i ∧ Hid ((ps.take i).all nameS = true) ∧ Hid (wr.ownsRow w.heap.size 9 1 (.slice D ps.length d) ps.length (txs ps)) ∧ Hid (Below w.heap.size w wr)) (fun iv _ => ps.length - (intOf iv).toNat)
    case atStart => exact ⟨0, by omega, rfl, Lib.hid (by simp), HO, HB⟩
    case round =>
      clear HO HB
      obtain ⟨i, hi, rfl, hv, ho, hb⟩ := hrel
      by_cases hlt : i < ps.length
      · obtain ⟨D2, d2, hv2, _, _, hrv, _⟩ := own_all ho.out
        injection hv2 with e1 e2 e3
        subst e1 e3
        obtain ⟨ad, rfl, _, hcl⟩ := hrv.at_ (txs_at hlt)
        have HV := Lib.hid (take_allL hlt nameS)
        have HN := Lib.hid (all_noL hlt nameS)
        have hpl : (ps.getD i []).length ≤ l.length := HS.out _ (by simp [hlt])
        have hbz := hb.out.size
        generalize ps.getD i [] = q at *
        have hn := fname_any wr q (by omega)
        generalize hnq : nameS q = nq at *
        have HNQ := Lib.hid hn
        clear hn hrv
        cases nq
        · have hf : ps.all nameS = false := HN.out rfl
          have hrf : r = false := by rw [← HR.out, hf]; simp
          subst hrf
          go_wp2_with (go_at_call 81; refine HNQ.out.mono ?_; rintro e w1 ⟨rfl, hw1⟩; have HB1 := Lib.hid (hb.out.trans (hw1.mono hbz)); clear hw1)
          go_ret
          exact ⟨rfl, HB1.out⟩
        · go_wp2_with (go_at_call 81; refine HNQ.out.mono ?_; rintro e w1 ⟨rfl, hw1⟩; have HO1 := Lib.hid (own_keep ho.out hw1); have HB1 := Lib.hid (hb.out.trans (hw1.mono hbz)); clear hw1)
          exact ⟨⟨i + 1, by omega, by go_num, Lib.hid (by rw [HV.out, hv.out]; rfl), HO1, HB1⟩, by simp [intOf]; omega⟩
      · have hie : i = ps.length := by omega
        have hall : ps.all nameS = true := by
          have := hv.out
          rw [hie, List.take_length] at this
          exact this
        have hrt : r = (decide (1 ≤ l.length) && decide (ps.length ≤ 6)) := by
          rw [← HR.out, hall]
          simp [show l.length ≤ 120 by omega]
        have HT := Lib.hid hrt
        clear hrt
        subst hie
        by_cases hp1 : 1 ≤ ps.length
        · have hp1i : (1 : Int) ≤ (ps.length : Int) := by omega
          have hl1 : 1 ≤ l.length := hpp.1 hp1
          have hT2 : Hid (r = decide (ps.length ≤ 6)) := Lib.hid (by rw [HT.out, decide_eq_true hl1, Bool.true_and])
          clear hl1
          go_wp2_with fail
          go_ret
          exact ⟨by rw [hT2.out]; simp; try omega, hb.out⟩
        · have hp1i : ¬ (1 : Int) ≤ (ps.length : Int) := by omega
          have hl1 : ¬ 1 ≤ l.length := fun h => hp1 (hpp.2 h)
          have hT2 : Hid (r = false) := Lib.hid (by rw [HT.out, decide_eq_false hl1, Bool.false_and])
          clear hl1
          go_wp2_with fail
          go_ret
          exact ⟨by rw [hT2.out]; rfl, hb.out⟩
end Go.Proofs.YthhmamkphcgocaaDoor

/- sleuthref05.Parts, Name and Right by contracts. sleuthref05.Right by a contract. -/
import Derived.Test.YthhmamkphcgocaaDoorRte
import Derived.Test.YthhmamkphcgocaaDoorRfa
namespace Go.Proofs.YthhmamkphcgocaaDoor
section
open Go.RowKit

/-- A text laid ahead of the first part. -/
def hdS (now : List UInt8) : List (List UInt8) → List (List UInt8)
  | [] => [now]
  | p :: ps => (now ++ p) :: ps
theorem hdS_nil (ps : List (List UInt8)) (h : ps ≠ []) : hdS [] ps = ps := by
  cases ps with
  | nil => exact absurd rfl h
  | cons p ps => rfl
theorem hdS_two (a b : List UInt8) (ps : List (List UInt8)) : hdS a (hdS b ps) = hdS (a ++ b) ps := by
  cases ps with
  | nil => rfl
  | cons p ps => simp [hdS]
theorem cut_ne (l : List UInt8) : cutS l ≠ [] := by
  intro h
  have := cut_count l
  rw [h] at this
  simp at this
theorem cut_47 (l : List UInt8) : cutS (47 :: l) = [] :: cutS l := by rw [cutS, if_pos rfl]
theorem cut_else (b : UInt8) (l : List UInt8) (h : b ≠ 47) : cutS (b :: l) = hdS [b] (cutS l) := by
  rw [cutS, if_neg h]
  cases cutS l <;> rfl
theorem drop_head {l : List UInt8} {i : Nat} (hi : i < l.length) : l.drop i = l.getD i 0 :: l.drop (i + 1) := by
  rw [List.drop_eq_getElem_cons hi]
  simp [hi]
theorem bs_cut {l : List UInt8} {i : Nat} (hi : i < l.length) : (bs l).extract i (i + 1) = bs [l.getD i 0] := by
  have e : ((bs l).extract i (i + 1)).data.toList = [l.getD i 0] := by
    rw [Lib.extract_data, bs_list, drop_head hi]
    simp [show i + 1 - i = 1 by omega]
  rw [← e, bs_of]
theorem txs_app (a b : List (List UInt8)) : txs a ++ txs b = txs (a ++ b) := by simp [txs, strs]
theorem txs_one (l : List (List UInt8)) : ∀ u ∈ txs l, u.oneCell' = true := by simp [txs, strs, Value.oneCell']
theorem sl130 : Sl Tryd.prog 130 9 1 16 := ⟨Tryd.underlying130, by kernel_rfl, by decide⟩
attribute [local go_sem] bs_toList bs_at bs_append
set_option maxRecDepth 100000 in
set_option maxHeartbeats 1000000 in
theorem fparts_any (w : World) (l : List UInt8) (hl : l.length ≤ 1000) :
    Calls Tryd.prog 80 #[.string (bs l)] w fun e w2 => ∃ v, e = .returned v ∧ w2.ownsRow w.heap.size 9 1 v (partsS l).length (txs (partsS l)) ∧ Below w.heap.size w w2 := by
  have hz : (bs l).size = l.length := bs_size l
  have HP : Hid (l ≠ [] → partsS l = cutS l) := Lib.hid fun h => by rw [partsS, if_neg h]
  have HP0 : Hid (l = [] → partsS l = []) := Lib.hid fun h => by rw [partsS, if_pos h]
  by_cases h0 : l = []
  · go_enter Tryd.func80, Tryd.ntmps80
    go_wp2_with fail
    go_ret
    refine ⟨.slice none 0 0, rfl, ?_, Below.refl _ _⟩
    rw [HP0.out (by assumption)]
    exact World.ownsRow_nil _ _ _ _
  · have hie : l.isEmpty = false := by simpa using h0
    rw [HP.out h0]
    have HN := Lib.hid (parts_num l)
    rw [HP.out h0] at HN
    have H0 := Lib.hid (hdS_nil (cutS l) (cut_ne l))
    generalize hcs : cutS l = cs at *
    have HCS := Lib.hid hcs
    clear hcs HP HP0 h0
    have hes : ByteArray.empty = bs [] := rfl
    go_enter Tryd.func80, Tryd.ntmps80
    go_wp2_with fail
    go_loopw [3, 4, 5] (fun sv nv kv wr => ∃ (i : Nat) (ps : List (List UInt8)) (now : List UInt8), i ≤ l.length ∧ ps.length ≤ i ∧ now.length ≤ i ∧ nv = .string (bs now) ∧ kv = .int .i64 i ∧ Hid (ps ++ hdS now (cutS (l.drop i)) = cs) ∧ Hid (wr.ownsRow w.heap.size 9 1 sv ps.length (txs ps)) ∧ Hid (Below w.heap.size w wr)) (fun _ _ kv _ => l.length - (intOf kv).toNat)
    case atStart => exact ⟨0, [], [], by omega, Nat.le_refl _, Nat.le_refl _, rfl, rfl, by rw [List.drop_zero, HCS.out, H0.out]; rfl, World.ownsRow_nil _ _ _ _, Below.refl _ _⟩
    case round =>
      obtain ⟨i, ps, now, hi, hps, hnw, rfl, rfl, hj, ho, hb⟩ := hrel
      have hbs := hb.out.size
      by_cases hlt : i < l.length
      · have hxi : (bs l)[i]'(by omega) = l.getD i 0 := bs_at _
        have hxe := bs_cut hlt
        have HD := Lib.hid (drop_head hlt)
        generalize l.getD i 0 = x at *
        have hb8 := x.toNat_lt
        by_cases hx : x = 47
        · have hj2 : Hid ((ps ++ [now]) ++ hdS [] (cutS (l.drop (i + 1))) = cs) := Lib.hid (by rw [← hj.out, HD.out, hx, cut_47, hdS_nil _ (cut_ne _), List.append_assoc]; simp [hdS])
          subst hx
          go_wp2_with (at_builtin; refine wpList_app sl130 rfl (.tmp 19) (.tmp 21) rfl w.heap.size u3 _ (txs ps) rfl (ho.out.alloc _) (some ⟨wr.heap.size, 0, none⟩) 1 1 (txs [now]) rfl (fun e => by cases e) rfl (B := wr.heap.size + 1) ?_ (txs_one _) (by unfold maxLen; omega) (by omega) (by simp; omega) ?_; rotate_left; intro v2 w2 ho2 ha; have HO := Lib.hid ho2; have HA := Lib.hid ha; clear ho2 ha)
          · exact ⟨⟨i + 1, ps ++ [now], [], by omega, by simp; omega, by simp, rfl, by go_num, hj2, by rw [List.length_append, ← txs_app]; exact HO, (hb.out.alloc hbs _).trans (below_of_grown HA.out.grown (by simp; omega) (fun k hk => (ho.out.lt k hk).1))⟩, by simp [intOf]; omega⟩
          · exact new_rv wr (txs [now]) _ _ rfl
        · have hj2 : Hid (ps ++ hdS (now ++ [x]) (cutS (l.drop (i + 1))) = cs) := Lib.hid (by rw [← hj.out, HD.out, cut_else _ _ hx, hdS_two])
          have hn1 : (bs now).size = now.length := bs_size _
          have hn2 : (bs [x]).size = 1 := bs_size _
          have hml : ¬ maxLen < (bs now).size + (bs [x]).size := by rw [hn1, hn2]; unfold maxLen; omega
          have hnx : now.length + 1 ≤ maxLen := by unfold maxLen; omega
          have hxn : ¬ (x.toNat : Int) = 47 := fun e => hx (UInt8.toNat_inj.1 (show x.toNat = 47 by omega))
          go_wp2_with fail
          exact ⟨⟨i + 1, ps, now ++ [x], by omega, by omega, by simp; omega, rfl, by go_num, hj2, ho, hb⟩, by simp [intOf]; omega⟩
      · have hie2 : i = l.length := by omega
        have hj2 : Hid (ps ++ [now] = cs) := Lib.hid (by rw [← hj.out, hie2, List.drop_length]; simp [hdS, cutS])
        go_wp2_with (at_builtin; refine wpList_app sl130 rfl (.tmp 30) (.tmp 32) rfl w.heap.size u3 _ (txs ps) rfl (ho.out.alloc _) (some ⟨wr.heap.size, 0, none⟩) 1 1 (txs [now]) rfl (fun e => by cases e) rfl (B := wr.heap.size + 1) ?_ (txs_one _) (by unfold maxLen; omega) (by omega) (by simp; omega) ?_; rotate_left; intro v2 w2 ho2 ha; have HO := Lib.hid ho2; have HA := Lib.hid ha; clear ho2 ha)
        · go_ret
          have h2 := HO.out
          rw [txs_app, hj2.out] at h2
          rw [← hj2.out, List.length_append]
          rw [← hj2.out] at h2
          exact ⟨v2, rfl, h2, (hb.out.alloc hbs _).trans (below_of_grown HA.out.grown (by simp; omega) (fun k hk => (ho.out.lt k hk).1))⟩
        · exact new_rv wr (txs [now]) _ _ rfl
theorem parts_one (l : List UInt8) (h : 1 ≤ l.length) : decide ((partsS l).length = 1) = !l.contains 47 := by
  have h0 : l ≠ [] := fun e => by rw [e] at h; simp at h
  rw [partsS, if_neg h0, ← cut_count]
  have hc : Lib.countB (bs l) ⟨#[47]⟩ = l.count 47 := by
    show Lib.count (bs l).data.toList [47] = _
    rw [bs_list, Lib.count_one]
  rw [hc]
  by_cases hm : 47 ∈ l
  · have := List.count_pos_iff.2 hm
    rw [decide_eq_false (by omega)]
    simp [hm]
  · rw [List.count_eq_zero.2 hm]
    simp [hm]
set_option maxRecDepth 100000 in
set_option maxHeartbeats 1000000 in
theorem fname_any (w : World) (l : List UInt8) (hl : l.length ≤ 1000) :
    Calls Tryd.prog 81 #[.string (bs l)] w fun e w2 => e = .returned (.bool (nameS l)) ∧ Below w.heap.size w w2 := by
  have hz : (bs l).size = l.length := bs_size l
  have HP := Lib.hid (fseen_any w l (by omega))
  have HC := Lib.hid (fparts_any w l hl)
  have HO := Lib.hid (parts_one l)
  generalize hr : nameS l = r
  unfold nameS at hr
  have HR := Lib.hid hr
  clear hr
  generalize l.all vis = v at *
  generalize partsS l = ps at *
  by_cases h1 : 1 ≤ l.length
  · by_cases h2 : l.length ≤ 32
    · cases v
      · go_enter Tryd.func81, Tryd.ntmps81
        go_wp2_with (go_at_call 88; refine HP.out.mono ?_; rintro e w1 ⟨rfl, hw1⟩; subst w1)
        go_ret
        exact ⟨by rw [← HR.out]; simp, Below.refl _ _⟩
      · by_cases hn : ps.length = 1
        · have HOO := Lib.hid (HO.out h1)
          have hni : ((ps.length : Int) == 1) = true := by simp; omega
          have hct : l.contains 47 = false := by have := HOO.out; rw [decide_eq_true hn] at this; simpa using this.symm
          go_enter Tryd.func81, Tryd.ntmps81
          go_wp2_with (first | (go_at_call 88; refine HP.out.mono ?_; rintro e w1 ⟨rfl, hw1⟩; subst w1) | (go_at_call 80; refine HC.out.mono ?_; rintro e w1 ⟨v1, rfl, ho, hb⟩; obtain ⟨D, d, hv, _, _, _, _⟩ := own_all ho; subst hv; have HB := Lib.hid hb; clear ho hb))
          · go_ret
            refine ⟨?_, HB.out⟩
            rw [← HR.out, hct]
            simp [h1, h2]
            exact fun h => absurd (by assumption) h
          · go_ret
            refine ⟨?_, HB.out⟩
            rw [← HR.out, hct]
            simp [h1, h2]
            rw [beq_dec, beq_dec]
        · have HOO := Lib.hid (HO.out h1)
          have hni : ((ps.length : Int) == 1) = false := by simp; omega
          have hct : l.contains 47 = true := by have := HOO.out; rw [decide_eq_false hn] at this; simpa using this.symm
          go_enter Tryd.func81, Tryd.ntmps81
          go_wp2_with (first | (go_at_call 88; refine HP.out.mono ?_; rintro e w1 ⟨rfl, hw1⟩; subst w1) | (go_at_call 80; refine HC.out.mono ?_; rintro e w1 ⟨v1, rfl, ho, hb⟩; obtain ⟨D, d, hv, _, _, _, _⟩ := own_all ho; subst hv; have HB := Lib.hid hb; clear ho hb))
          go_ret
          exact ⟨by rw [← HR.out, hct]; simp, HB.out⟩
    · have h3 : ¬ ((l.length : Int) ≤ 32) := by omega
      go_enter Tryd.func81, Tryd.ntmps81
      go_wp2_with fail
      go_ret
      exact ⟨by rw [← HR.out]; simp [h2], Below.refl _ _⟩
  · have h3 : ¬ (1 ≤ (l.length : Int)) := by omega
    go_enter Tryd.func81, Tryd.ntmps81
    go_wp2_with fail
    go_ret
    exact ⟨by rw [← HR.out]; simp [h1], Below.refl _ _⟩
end
section
open Go.RowKit

theorem parts_pos (l : List UInt8) : (1 ≤ (partsS l).length) ↔ (1 ≤ l.length) := by
  unfold partsS
  split
  · rename_i h
    simp [h]
  · rename_i h
    have h1 := cut_ne l
    have h2 : 0 < (cutS l).length := List.length_pos_iff.2 h1
    have h3 : 0 < l.length := List.length_pos_iff.2 h
    omega
theorem own_keep {w V : World} {base : Nat} {e : TypeId} {size : Nat} {v : Value} {n : Nat} {xs : List Value} (h : w.ownsRow base e size v n xs) (hb : Below w.heap.size w V) : V.ownsRow base e size v n xs :=
  h.kept (row := none) ⟨hb.os, hb.tape, hb.output, hb.size, fun q hq _ => hb.block q hq⟩ (by cases v.ownBlock <;> simp)
set_option maxRecDepth 100000 in
set_option maxHeartbeats 1000000 in
theorem fright_any (w : World) (l : List UInt8) (hl : l.length ≤ 4294967200) :
    Calls Tryd.prog 68 #[.string (bs l)] w fun e w2 => e = .returned (.bool (rightS l)) ∧ Below w.heap.size w w2 := by
  have hz : (bs l).size = l.length := bs_size l
  generalize hr : rightS l = r
  unfold rightS at hr
  have HR := Lib.hid hr
  clear hr
  by_cases h2 : 120 < l.length
  · go_enter Tryd.func68, Tryd.ntmps68
    go_wp2_with fail
    go_ret
    exact ⟨by rw [← HR.out]; simp [show ¬ l.length ≤ 120 by omega], Below.refl _ _⟩
  · have HS := Lib.hid (parts_sum l)
    have hpn : (partsS l).length ≤ 121 := by have := parts_num l; omega
    have hpp := parts_pos l
    have HP := Lib.hid (fparts_any w l (by omega))
    generalize partsS l = ps at *
    go_enter Tryd.func68, Tryd.ntmps68
    go_wp2_with fail
    refine HP.out.mono ?_
    rintro e w2 ⟨v, rfl, ho, hb⟩
    obtain ⟨D, d, hv, _, hd, _, _⟩ := own_all ho
    subst hv
    have HO := Lib.hid ho
    have HB := Lib.hid hb
    clear ho hb HP
    go_wp2_with fail
    go_loopw [4] (fun iv wr => ∃ i : Nat, i ≤ ps.length ∧ iv = .int .i64 i ∧ Hid ((ps.take i).all nameS = true) ∧ Hid (wr.ownsRow w.heap.size 9 1 (.slice D ps.length d) ps.length (txs ps)) ∧ Hid (Below w.heap.size w wr)) (fun iv _ => ps.length - (intOf iv).toNat)
    case atStart => exact ⟨0, by omega, rfl, Lib.hid (by simp), HO, HB⟩
    case round =>
      clear HO HB
      obtain ⟨i, hi, rfl, hv, ho, hb⟩ := hrel
      by_cases hlt : i < ps.length
      · obtain ⟨D2, d2, hv2, _, _, hrv, _⟩ := own_all ho.out
        injection hv2 with e1 e2 e3
        subst e1 e3
        obtain ⟨ad, rfl, _, hcl⟩ := hrv.at_ (txs_at hlt)
        have HV := Lib.hid (take_allL hlt nameS)
        have HN := Lib.hid (all_noL hlt nameS)
        have hpl : (ps.getD i []).length ≤ l.length := HS.out _ (by simp [hlt])
        have hbz := hb.out.size
        generalize ps.getD i [] = q at *
        have hn := fname_any wr q (by omega)
        generalize hnq : nameS q = nq at *
        have HNQ := Lib.hid hn
        clear hn hrv
        cases nq
        · have hf : ps.all nameS = false := HN.out rfl
          have hrf : r = false := by rw [← HR.out, hf]; simp
          subst hrf
          go_wp2_with (go_at_call 81; refine HNQ.out.mono ?_; rintro e w1 ⟨rfl, hw1⟩; have HB1 := Lib.hid (hb.out.trans (hw1.mono hbz)); clear hw1)
          go_ret
          exact ⟨rfl, HB1.out⟩
        · go_wp2_with (go_at_call 81; refine HNQ.out.mono ?_; rintro e w1 ⟨rfl, hw1⟩; have HO1 := Lib.hid (own_keep ho.out hw1); have HB1 := Lib.hid (hb.out.trans (hw1.mono hbz)); clear hw1)
          exact ⟨⟨i + 1, by omega, by go_num, Lib.hid (by rw [HV.out, hv.out]; rfl), HO1, HB1⟩, by simp [intOf]; omega⟩
      · have hie : i = ps.length := by omega
        have hall : ps.all nameS = true := by
          have := hv.out
          rw [hie, List.take_length] at this
          exact this
        have hrt : r = (decide (1 ≤ l.length) && decide (ps.length ≤ 6)) := by
          rw [← HR.out, hall]
          simp [show l.length ≤ 120 by omega]
        have HT := Lib.hid hrt
        clear hrt
        subst hie
        by_cases hp1 : 1 ≤ ps.length
        · have hp1i : (1 : Int) ≤ (ps.length : Int) := by omega
          have hl1 : 1 ≤ l.length := hpp.1 hp1
          have hT2 : Hid (r = decide (ps.length ≤ 6)) := Lib.hid (by rw [HT.out, decide_eq_true hl1, Bool.true_and])
          clear hl1
          go_wp2_with fail
          go_ret
          exact ⟨by rw [hT2.out]; simp; try omega, hb.out⟩
        · have hp1i : ¬ (1 : Int) ≤ (ps.length : Int) := by omega
          have hl1 : ¬ 1 ≤ l.length := fun h => hp1 (hpp.2 h)
          have hT2 : Hid (r = false) := Lib.hid (by rw [HT.out, decide_eq_false hl1, Bool.false_and])
          clear hl1
          go_wp2_with fail
          go_ret
          exact ⟨by rw [hT2.out]; rfl, hb.out⟩
end
end Go.Proofs.YthhmamkphcgocaaDoor

/- sleuthref33.Check by a contract. -/
import Derived.Test.YthhmamkphcgocaaDoorChk
import Derived.Test.YthhmamkphcgocaaDoorRth
namespace Go.Proofs.YthhmamkphcgocaaDoor
open Go.RowKit

theorem CellsAt.later {w w2 : World} {a : Addr} {cs : List Value} (h : CellsAt w a cs) (hb : Below w.heap.size w w2) (ha : a.block < w.heap.size) : CellsAt w2 a cs := h.keep fun p hp => hb.cell (by rw [hp]; exact ha)
theorem keyE_comm (a b : Lot) : keyE a b = keyE b a := by
  have h : ∀ x y : Bool, (x == y) = (y == x) := by decide
  unfold keyE
  rw [h a.de, h a.mo, h a.co, decide_eq_decide.2 (⟨Eq.symm, Eq.symm⟩ : a.id = b.id ↔ b.id = a.id), decide_eq_decide.2 (⟨Eq.symm, Eq.symm⟩ : a.path = b.path ↔ b.path = a.path), decide_eq_decide.2 (⟨Eq.symm, Eq.symm⟩ : a.algo = b.algo ↔ b.algo = a.algo)]
theorem above_num {k n : Nat} (h : ¬ k < n) : n ≤ k := Nat.le_of_not_lt h
attribute [local go_sem ↓] load42_eq store42_eq new42_eq run_new42 ldT47 ldT73 ldT52 ldT44 ldT71 ldT94 stT47 stT73 stT52 stT94 nwT47 nwT73 nwT52 nwT94 bxT47 bxT73 bxT52 bxT42 bxT44 bdT47 bdT73 bdT52 bdT94 run_nw47 run_nw73 run_nw52 run_nw94
attribute [local go_sem] run_bxT bs_toList
set_option maxRecDepth 100000 in
set_option maxHeartbeats 1000000 in
theorem fcheck_any (w : World) (A : Option Addr) (c : Nat) (ms : List Mot) (ho : Mv w A ms) (hs : ∀ m ∈ ms, m.r.small) (hn : ms.length ≤ 1000000000) :
    Calls Tryd.prog 30 #[.slice A ms.length c] w fun e w2 => e = .returned (.int .i64 (checkP (ms.map (·.r)))) ∧ Below w.heap.size w w2 := by
  have HO := Lib.hid ho
  have HS := Lib.hid hs
  have HR : Hid (checkP (ms.map (·.r)) = if 64 < ms.length then 5 else if (ms.any fun m => decide (400 < m.r.os.length)) then 3 else if !(ms.all fun m => rightL m.r) then 2 else if (List.range ms.length).any (again (ms.map (·.r))) then 17 else 0) := Lib.hid (by rw [checkP, List.length_map, List.any_map, List.all_map]; rfl)
  generalize hR : checkP (ms.map (·.r)) = R at *
  clear ho hs hR
  by_cases h64 : 64 < ms.length
  · have HRR : Hid (R = 5) := Lib.hid (by rw [HR.out, if_pos h64])
    go_enter Tryd.func30, Tryd.ntmps30
    go_wp2_with fail
    go_ret
    exact ⟨by rw [HRR.out]; rfl, Below.refl _ _⟩
  · have H64 : Hid (R = if (ms.any fun m => decide (400 < m.r.os.length)) then 3 else if !(ms.all fun m => rightL m.r) then 2 else if (List.range ms.length).any (again (ms.map (·.r))) then 17 else 0) := Lib.hid (by rw [HR.out, if_neg h64])
    have hl64 : ms.length ≤ 64 := by omega
    go_enter Tryd.func30, Tryd.ntmps30
    go_wp2_with fail
    go_loopw [3] (fun kv wr => ∃ k : Nat, k ≤ ms.length ∧ kv = .int .i64 k ∧ Hid ((ms.any fun m => decide (400 < m.r.os.length)) = (ms.drop k).any fun m => decide (400 < m.r.os.length)) ∧ Hid (Below w.heap.size w wr)) (fun kv _ => ms.length - (intOf kv).toNat)
    case atStart => exact ⟨0, Nat.zero_le _, rfl, rfl, Lib.hid (Below.refl _ _)⟩
    case round =>
      obtain ⟨k, hk, rfl, hs, hb⟩ := hrel
      by_cases hlt : k < ms.length
      · obtain ⟨ad, rfl, _, hc, hok, _⟩ := (HO.out.below hb.out).at_ hlt
        have hld := mOs hc hok.id
        have HST := Lib.hid (any_step (fun m : Mot => decide (400 < m.r.os.length)) ms k hlt)
        generalize ms.getD k default = o at *
        clear hc hok
        generalize o.r.os.length = n at *
        by_cases h4 : 400 < n
        · have e1 : (ms.any fun m => decide (400 < m.r.os.length)) = true := by rw [hs.out.trans HST.out, decide_eq_true h4]; rfl
          have HRR : Hid (R = 3) := Lib.hid (by rw [H64.out, if_pos e1])
          clear e1
          go_wp2_with fail
          go_ret
          exact ⟨by rw [HRR.out]; rfl, hb.out⟩
        · have e1 : Hid ((ms.any fun m => decide (400 < m.r.os.length)) = (ms.drop (k + 1)).any fun m => decide (400 < m.r.os.length)) := Lib.hid (by rw [hs.out.trans HST.out, decide_eq_false h4]; rfl)
          go_wp2_with fail
          exact ⟨⟨k + 1, by omega, by go_num, e1, hb⟩, by simp [intOf]; omega⟩
      · have e1 : (ms.any fun m => decide (400 < m.r.os.length)) = false := by rw [hs.out, List.drop_eq_nil_of_le (by omega)]; rfl
        have H3 : Hid (R = if !(ms.all fun m => rightL m.r) then 2 else if (List.range ms.length).any (again (ms.map (·.r))) then 17 else 0) := Lib.hid (by rw [H64.out, if_neg (by rw [e1]; exact Bool.false_ne_true)])
        have HB := hb
        clear e1 hs hb H64
        obtain ⟨wa, hwa⟩ : ∃ wa, wa = wr := ⟨_, rfl⟩
        rw [← hwa] at HB ⊢
        clear hwa
        go_wp2_with fail
        go_loopw [4] (fun kv wr => ∃ k : Nat, k ≤ ms.length ∧ kv = .int .i64 k ∧ Hid ((ms.any fun m => !rightL m.r) = (ms.drop k).any fun m => !rightL m.r) ∧ Hid (Below w.heap.size w wr)) (fun kv _ => ms.length - (intOf kv).toNat)
        case atStart => exact ⟨0, Nat.zero_le _, rfl, rfl, HB⟩
        case round =>
          clear HB
          obtain ⟨k, hk, rfl, hs, hb⟩ := hrel
          by_cases hlt : k < ms.length
          · obtain ⟨ad, rfl, hadl, hc, hok, hov⟩ := (HO.out.below hb.out).at_ hlt
            have hadl2 : (ad.add (k * 38)).block < wr.heap.size := by rw [block_add]; exact hadl
            have hld := mPath hc hok.id
            have HST := Lib.hid (any_step (fun m : Mot => !rightL m.r) ms k hlt)
            have hsm : (ms.getD k default).r.small := HS.out _ (by simp [hlt])
            generalize ms.getD k default = o at *
            have hsz := hb.out.size
            have HC := Lib.hid (fright_any wr o.r.path hsm.path)
            have HRO : Hid (rightL o.r = ((rightS o.r.path && (decide (0 ≤ o.r.algo) && decide (o.r.algo ≤ 2))) && !(o.r.os.any fun o => !rightO o))) := Lib.hid (by rw [rightL, List.all_eq_not_any_not])
            have HBAD : Hid (rightL o.r = false → R = 2) := Lib.hid fun h => by
              have e1 : (ms.any fun m => !rightL m.r) = true := by rw [hs.out.trans HST.out, h]; rfl
              have e2 : (!(ms.all fun m => rightL m.r)) = true := by rw [List.all_eq_not_any_not, e1]; rfl
              rw [H3.out, if_pos e2]
            have HGD : Hid (rightL o.r = true → (ms.any fun m => !rightL m.r) = (ms.drop (k + 1)).any fun m => !rightL m.r) := Lib.hid fun h => by rw [hs.out.trans HST.out, h]; rfl
            have HCC := Lib.hid hc
            have HOV := Lib.hid hov
            have HSM := Lib.hid hsm
            have hid := hok.id
            clear hc hok hov hsm hs HST
            generalize rightL o.r = ro at *
            generalize rightS o.r.path = q at *
            cases q with
            | false =>
              have HRR := Lib.hid (HBAD.out (by rw [HRO.out]; rfl))
              go_wp2_with (go_at_call 68; refine HC.out.mono ?_; rintro e w1 ⟨rfl, hb1⟩; have B2 := Lib.hid (hb.out.trans (hb1.mono hsz)); clear hb1)
              go_ret
              exact ⟨by rw [HRR.out]; rfl, B2.out⟩
            | true =>
              by_cases h0 : o.r.algo < 0
              · have a1 : decide (0 ≤ o.r.algo) = false := decide_eq_false (by omega)
                have HRR := Lib.hid (HBAD.out (by rw [HRO.out, a1]; rfl))
                clear a1 HRO
                go_wp2_with (go_at_call 68; refine HC.out.mono ?_; rintro e w1 ⟨rfl, hb1⟩; have B2 := Lib.hid (hb.out.trans (hb1.mono hsz)); have la := mAlgo (HCC.out.later hb1 hadl2) hid; clear hb1)
                go_ret
                exact ⟨by rw [HRR.out]; rfl, B2.out⟩
              · by_cases h4 : 2 < o.r.algo
                · have a1 : decide (0 ≤ o.r.algo) = true := decide_eq_true (by omega)
                  have a2 : decide (o.r.algo ≤ 2) = false := decide_eq_false (by omega)
                  have HRR := Lib.hid (HBAD.out (by rw [HRO.out, a1, a2]; rfl))
                  clear a1 a2 HRO
                  go_wp2_with (go_at_call 68; refine HC.out.mono ?_; rintro e w1 ⟨rfl, hb1⟩; have B2 := Lib.hid (hb.out.trans (hb1.mono hsz)); have la := mAlgo (HCC.out.later hb1 hadl2) hid; clear hb1)
                  go_ret
                  exact ⟨by rw [HRR.out]; rfl, B2.out⟩
                · have HR2 : Hid (ro = !(o.r.os.any fun o => !rightO o)) := Lib.hid (by rw [HRO.out, decide_eq_true (show 0 ≤ o.r.algo by omega), decide_eq_true (show o.r.algo ≤ 2 by omega)]; rfl)
                  clear HRO
                  obtain ⟨wo, hwo⟩ : ∃ wo, wo = wr := ⟨_, rfl⟩
                  rw [← hwo] at HCC HOV HC hb hld hsz hadl2 hadl ⊢
                  clear hwo
                  go_wp2_with (go_at_call 68; refine HC.out.mono ?_; rintro e w1 ⟨rfl, hb1⟩; have B2 := Lib.hid hb1; have la := mAlgo (HCC.out.later hb1 hadl2) hid; clear hb1)
                  clear la hld HC
                  go_loopw [5] (fun jv wr => ∃ j : Nat, j ≤ o.r.os.length ∧ jv = .int .i64 j ∧ Hid ((o.r.os.any fun o => !rightO o) = (o.r.os.drop j).any fun o => !rightO o) ∧ Hid (Below wo.heap.size wo wr)) (fun jv _ => o.r.os.length - (intOf jv).toNat)
                  case atStart => exact ⟨0, Nat.zero_le _, rfl, rfl, B2⟩
                  case round =>
                    clear B2
                    obtain ⟨j, hj, rfl, hs, hb2⟩ := hrel
                    have hlo := mOs (HCC.out.later hb2.out hadl2) hid
                    have hsz2 := hb2.out.size
                    have hnum := HSM.out.num
                    by_cases hlj : j < o.r.os.length
                    · obtain ⟨bd, hbd, _, hc, hok⟩ := (HOV.out.below hb2.out).at_ hlj
                      rw [hbd] at hlo
                      have hld := ldO52 hc hok.id
                      have HST := Lib.hid (any_step (fun o : Org => !rightO o) o.r.os j hlj)
                      have hsm : (o.r.os.getD j default).path.length ≤ 4294967200 := HSM.out.os _ (by simp [hlj])
                      generalize o.r.os.getD j default = x at *
                      have n0 : Ar (wr.alloc (.cells zO.cells.toArray 52)) wr.heap.size 52 zO.cells := Ar.new wr _ _
                      have hst := stO52 (p := x) n0 rfl hok.id
                      have n1 := n0.setRow x.cells
                      have np := boPath n1 hok.id
                      have bb := below_row ((Below.refl wr.heap.size wr).alloc (Nat.le_refl _) (.cells zO.cells.toArray 52)) wr.heap.size x.cells.toArray (Nat.le_refl _)
                      have B1 := Lib.hid (hb2.out.trans (bb.mono hsz2))
                      have HC := Lib.hid (fright_any ((wr.alloc (.cells zO.cells.toArray 52)).setRow wr.heap.size x.cells.toArray) x.path hsm)
                      have HN1 := Lib.hid n1
                      have HRO : Hid (rightO x = (rightS x.path && (decide (0 ≤ x.line) && decide (x.line < 400)))) := Lib.hid rfl
                      have hxi := hok.id
                      clear hc hok n0 bb hsm n1
                      generalize rightO x = rx at *
                      generalize rightS x.path = q at *
                      generalize (wr.alloc (.cells zO.cells.toArray 52)).setRow wr.heap.size x.cells.toArray = w5 at *
                      have HBD : Hid (rx = false → R = 2) := Lib.hid fun h => HBAD.out (by rw [HR2.out, hs.out.trans HST.out, h]; rfl)
                      have HGO : Hid (rx = true → (o.r.os.any fun o => !rightO o) = (o.r.os.drop (j + 1)).any fun o => !rightO o) := Lib.hid fun h => by rw [hs.out.trans HST.out, h]; rfl
                      cases q with
                      | false =>
                        have HRR := Lib.hid (HBD.out (by rw [HRO.out]; rfl))
                        go_wp2_with (go_at_call 68; refine HC.out.mono ?_; rintro e w1 ⟨rfl, hb1⟩; have B2 := Lib.hid (hb.out.trans ((B1.out.trans (hb1.mono B1.out.size)).mono hsz)); clear hb1)
                        go_ret
                        exact ⟨by rw [HRR.out]; rfl, B2.out⟩
                      | true =>
                        by_cases h0 : x.line < 0
                        · have a1 : decide (0 ≤ x.line) = false := decide_eq_false (by omega)
                          have HRR := Lib.hid (HBD.out (by rw [HRO.out, a1]; rfl))
                          clear a1 HRO
                          go_wp2_with (go_at_call 68; refine HC.out.mono ?_; rintro e w1 ⟨rfl, hb1⟩; have B2 := Lib.hid (hb.out.trans ((B1.out.trans (hb1.mono B1.out.size)).mono hsz)); have la := boLine (HN1.out.below hb1 HN1.out.lt) hxi; clear hb1)
                          go_ret
                          exact ⟨by rw [HRR.out]; rfl, B2.out⟩
                        · by_cases h4 : 399 < x.line
                          · have a1 : decide (x.line < 400) = false := decide_eq_false (by omega)
                            have a2 : decide (0 ≤ x.line) = true := decide_eq_true (by omega)
                            have HRR := Lib.hid (HBD.out (by rw [HRO.out, a1, a2]; rfl))
                            clear a1 a2 HRO
                            go_wp2_with (go_at_call 68; refine HC.out.mono ?_; rintro e w1 ⟨rfl, hb1⟩; have B2 := Lib.hid (hb.out.trans ((B1.out.trans (hb1.mono B1.out.size)).mono hsz)); have la := boLine (HN1.out.below hb1 HN1.out.lt) hxi; clear hb1)
                            go_ret
                            exact ⟨by rw [HRR.out]; rfl, B2.out⟩
                          · have a1 : decide (x.line < 400) = true := decide_eq_true (by omega)
                            have a2 : decide (0 ≤ x.line) = true := decide_eq_true (by omega)
                            have HRR := Lib.hid (HGO.out (by rw [HRO.out, a1, a2]; rfl))
                            clear a1 a2 HRO
                            go_wp2_with (go_at_call 68; refine HC.out.mono ?_; rintro e w1 ⟨rfl, hb1⟩; have B2 := Lib.hid (B1.out.trans (hb1.mono B1.out.size)); have la := boLine (HN1.out.below hb1 HN1.out.lt) hxi; clear hb1)
                            exact ⟨⟨j + 1, by omega, by go_num, HRR, B2⟩, by simp [intOf]; omega⟩
                    · have e1 : (o.r.os.any fun o => !rightO o) = false := by rw [hs.out, List.drop_eq_nil_of_le (by omega)]; rfl
                      have HRR := Lib.hid (HGD.out (by rw [HR2.out, e1]; rfl))
                      have B9 := Lib.hid (hb.out.trans (hb2.out.mono hsz))
                      clear e1 hs
                      go_wp2_with fail
                      go_goals
                      exact ⟨⟨k + 1, by omega, by go_num, HRR, B9⟩, by simp [intOf]; omega⟩
          · have e1 : (ms.any fun m => !rightL m.r) = false := by rw [hs.out, List.drop_eq_nil_of_le (by omega)]; rfl
            have H2 : Hid (R = if (List.range ms.length).any (again (ms.map (·.r))) then 17 else 0) := Lib.hid (by rw [H3.out, if_neg (by rw [List.all_eq_not_any_not, e1]; exact Bool.false_ne_true)])
            have HB := hb
            clear e1 hs hb H3
            obtain ⟨wa, hwa⟩ : ∃ wa, wa = wr := ⟨_, rfl⟩
            rw [← hwa] at HB ⊢
            clear hwa
            go_wp2_with fail
            go_loopw [7] (fun kv wr => ∃ k : Nat, k ≤ ms.length ∧ kv = .int .i64 k ∧ Hid (∀ j, j < k → again (ms.map (·.r)) j = false) ∧ Hid (Below w.heap.size w wr)) (fun kv _ => ms.length - (intOf kv).toNat)
            case atStart => exact ⟨0, Nat.zero_le _, rfl, Lib.hid (fun j hj => absurd hj (Nat.not_lt_zero _)), HB⟩
            case round =>
              clear HB
              obtain ⟨k, hk, rfl, hs, hb⟩ := hrel
              by_cases hlt : k < ms.length
              · have HAG : Hid (again (ms.map (·.r)) k = (ms.take k).any fun m => keyE m.r (ms.getD k default).r) := Lib.hid (again_map hlt)
                have HBAD : Hid (again (ms.map (·.r)) k = true → R = 17) := Lib.hid fun h => by rw [H2.out, if_pos (List.any_eq_true.2 ⟨k, List.mem_range.2 hlt, h⟩)]
                obtain ⟨wo, hwo⟩ : ∃ wo, wo = wr := ⟨_, rfl⟩
                rw [← hwo] at hb ⊢
                clear hwo
                go_wp2_with fail
                go_loopw [8] (fun jv wr => ∃ j : Nat, j ≤ k ∧ jv = .int .i64 j ∧ Hid (((ms.take j).any fun m => keyE m.r (ms.getD k default).r) = false) ∧ Hid (Below w.heap.size w wr)) (fun jv _ => k - (intOf jv).toNat)
                case atStart => exact ⟨0, Nat.zero_le _, rfl, Lib.hid rfl, hb⟩
                case round =>
                  clear hb
                  obtain ⟨j, hj, rfl, hs2, hb⟩ := hrel
                  by_cases hlj : j < k
                  · have hbd := hb.out.drew
                    have hsz := hb.out.size
                    obtain ⟨ad, rfl, _, hc, hok, _⟩ := (HO.out.below hbd).at_ hlt
                    obtain ⟨ad2, hq, _, hc2, hok2, _⟩ := (HO.out.below hbd).at_ (show j < ms.length by omega)
                    injection hq with hq
                    subst hq
                    have l1 := ldM73 hc hok.id
                    have l2 := ldM73 hc2 hok2.id
                    have HT : Hid (((ms.take (j + 1)).any fun m => keyE m.r (ms.getD k default).r) = keyE (ms.getD j default).r (ms.getD k default).r) := Lib.hid (by rw [List.take_add_one, List.any_append, hs2.out, List.getElem?_eq_getElem (show j < ms.length by omega)]; simp [show j < ms.length by omega])
                    have HK : Hid (keyE (ms.getD j default).r (ms.getD k default).r = true → R = 17) := Lib.hid fun h => HBAD.out (by rw [HAG.out]; exact List.any_eq_true.2 ⟨ms.getD j default, by rw [List.mem_take_iff_getElem]; exact ⟨j, by omega, by simp [show j < ms.length by omega]⟩, h⟩)
                    have HC := Lib.hid (fun W => alike_any W (ms.getD k default) (ms.getD j default) hok.id hok2.id)
                    have HSY := Lib.hid (keyE_comm (ms.getD k default).r (ms.getD j default).r)
                    rw [HSY.out] at HC
                    generalize keyE (ms.getD j default).r (ms.getD k default).r = q2 at *
                    generalize hx1 : (ms.getD k default).cells = x1 at *
                    generalize hx2 : (ms.getD j default).cells = x2 at *
                    clear hc hc2 hok hok2 hx1 hx2 HAG HSY
                    cases q2 with
                    | true =>
                      have HRR := Lib.hid (HK.out rfl)
                      go_wp2_with fail
                      go_region_with (go_at_call 31; refine (HC.out _).mono ?_; rintro e w1 ⟨rfl, hb1⟩; have B2 := Lib.hid (hbd.trans (hb1.mono hbd.size)); clear hb1)
                      all_goals
                        go_wp2_with fail
                        go_ret
                        exact ⟨by rw [HRR.out]; rfl, B2.out⟩
                    | false =>
                      go_wp2_with fail
                      go_region_with (go_at_call 31; refine (HC.out _).mono ?_; rintro e w1 ⟨rfl, hb1⟩; have B2 := Lib.hid (hbd.trans (hb1.mono hbd.size)); clear hb1)
                      all_goals
                        go_wp2_with fail
                        exact ⟨⟨j + 1, by omega, by go_num, HT, B2⟩, by simp [intOf]; omega⟩
                  · have hjk : j = k := by omega
                    have e1 : again (ms.map (·.r)) k = false := by rw [HAG.out, ← hjk]; rw [hjk] at hs2 ⊢; exact hs2.out
                    have e2 : Hid (∀ i, i < k + 1 → again (ms.map (·.r)) i = false) := Lib.hid fun i hi => by
                      rcases Nat.lt_succ_iff_lt_or_eq.1 hi with h | rfl
                      · exact hs.out i h
                      · exact e1
                    clear e1 HAG HBAD hs2 hs
                    go_wp2_with fail
                    go_goals
                    exact ⟨⟨k + 1, by omega, by go_num, e2, hb⟩, by simp [intOf]; omega⟩
              · have e1 : (List.range ms.length).any (again (ms.map (·.r))) = false := List.any_eq_false.2 fun j hj => by rw [hs.out j (by have := List.mem_range.1 hj; omega)]; exact Bool.false_ne_true
                have HRR : Hid (R = 0) := Lib.hid (by rw [H2.out, if_neg (by rw [e1]; exact Bool.false_ne_true)])
                clear e1
                go_wp2_with fail
                go_ret
                exact ⟨by rw [HRR.out]; rfl, hb.out⟩
end Go.Proofs.YthhmamkphcgocaaDoor

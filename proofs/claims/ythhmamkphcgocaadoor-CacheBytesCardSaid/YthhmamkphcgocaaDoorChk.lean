/- cache.Row.right and cache.check by contracts. -/
import Derived.Test.YthhmamkphcgocaaDoorKey
namespace Go.Proofs.YthhmamkphcgocaaDoor
open Go.RowKit

attribute [local go_sem ↓] load42_eq store42_eq new42_eq run_new42 ldT47 ldT73 ldT52 ldT44 ldT71 ldT94 stT47 stT73 stT52 stT94 nwT47 nwT73 nwT52 nwT94 bxT47 bxT73 bxT52 bxT42 bxT44 bdT47 bdT73 bdT52 bdT94 run_nw47 run_nw73 run_nw52 run_nw94
attribute [local go_sem] run_bxT bs_toList
set_option maxRecDepth 100000 in
set_option maxHeartbeats 1000000 in
theorem right60_any (w : World) (m : Mot) (mx : Int) (hm : w.cell? ⟨0, 0, none⟩ = some (.int .i64 mx)) (hw : 0 < w.heap.size) (hid : m.r.id.length = 32) (ho : Ov w m.A m.c m.r.os) (hs : m.r.small) :
    Calls Tryd.prog 60 #[.agg m.cells.toArray] w fun e w2 => e = .returned (.bool (rightL m.r)) ∧ Below w.heap.size w w2 := by
  have hsz : (w.alloc (.cells m.cells.toArray 47)).heap.size = w.heap.size + 1 := World.size_alloc _ _
  have r1 := Ar.new w m.cells 47
  have b1 := (Below.refl w.heap.size w).alloc (Nat.le_refl _) (.cells m.cells.toArray 47)
  have p1 := bPath r1 hid
  have hm1 := (b1.cell (p := ⟨0, 0, none⟩) hw).trans hm
  have HC := Lib.hid (pright_any (w.alloc (.cells m.cells.toArray 47)) m.r.path mx hs.path hm1)
  have R1 := Lib.hid r1
  have B1 := Lib.hid b1
  have HM := Lib.hid hm1
  have HR : Hid (rightL m.r = ((rightS m.r.path && (decide (0 ≤ m.r.algo) && decide (m.r.algo ≤ 2))) && !(m.r.os.any fun o => !rightO o))) := Lib.hid (by rw [rightL, List.all_eq_not_any_not])
  have HO := Lib.hid (ho.below b1)
  have HS := Lib.hid hs
  generalize rightL m.r = r at *
  generalize rightS m.r.path = q at *
  clear r1 b1 hm hm1 ho hs
  go_enter Tryd.func60, Tryd.ntmps60
  go_wp2_with fail
  refine HC.out.mono ?_
  rintro e w2 ⟨rfl, hb⟩
  have r2 := R1.out.below hb R1.out.lt
  have l1 := bAlgo r2 hid
  have l2 := bOs r2 hid
  have B2 := Lib.hid (B1.out.trans (hb.mono B1.out.size))
  have hs2 := hb.size
  have HD := Lib.hid (con75_any w2 m.A m.c m.r.os mx ((hb.cell (p := ⟨0, 0, none⟩) (by rw [hsz]; exact Nat.succ_pos _)).trans HM.out) (by omega) (HO.out.below hb) HS.out.os HS.out.num)
  clear hb HC p1 r2
  generalize (m.r.os.any fun o => !rightO o) = p at *
  generalize m.r.algo = x at *
  cases q
  · go_wp2_with fail
    go_ret
    exact ⟨by rw [HR.out]; rfl, B2.out⟩
  · by_cases h0 : x < 0
    · have a1 : decide (0 ≤ x) = false := decide_eq_false (by omega)
      go_wp2_with fail
      go_ret
      exact ⟨by rw [HR.out, a1]; rfl, B2.out⟩
    · by_cases h4 : 2 < x
      · have a1 : decide (0 ≤ x) = true := decide_eq_true (by omega)
        have a2 : decide (x ≤ 2) = false := decide_eq_false (by omega)
        go_wp2_with fail
        go_ret
        exact ⟨by rw [HR.out, a1, a2]; rfl, B2.out⟩
      · have a1 : decide (0 ≤ x) = true := decide_eq_true (by omega)
        have a2 : decide (x ≤ 2) = true := decide_eq_true (by omega)
        go_wp2_with (go_at_call 75; refine HD.out.mono ?_; rintro e w3 ⟨rfl, hb⟩; have B3 := Lib.hid (B2.out.trans (hb.mono B2.out.size)); clear hb)
        go_ret
        exact ⟨by rw [HR.out, a1, a2]; rfl, B3.out⟩
theorem getD_map {ms : List Mot} {k : Nat} (h : k < ms.length) : (ms.map (·.r)).getD k default = (ms.getD k default).r := by simp [h]
theorem again_map {ms : List Mot} {k : Nat} (h : k < ms.length) : again (ms.map (·.r)) k = (ms.take k).any fun m => keyE m.r (ms.getD k default).r := by
  unfold again
  rw [getD_map h, ← List.map_take, List.any_map]
  rfl
set_option maxRecDepth 100000 in
set_option maxHeartbeats 1000000 in
theorem check_any (w : World) (A : Option Addr) (c : Nat) (ms : List Mot) (mx : Int) (hm : w.cell? ⟨0, 0, none⟩ = some (.int .i64 mx)) (hw : 0 < w.heap.size) (ho : Mv w A ms) (hs : ∀ m ∈ ms, m.r.small) (hn : ms.length ≤ 1000000000) (hc : ms.length ≤ c) :
    Calls Tryd.prog 23 #[.slice A ms.length c] w fun e w2 => e = .returned (.int .i64 (checkP (ms.map (·.r)))) ∧ Below w.heap.size w w2 := by
  have HO := Lib.hid ho
  have HS := Lib.hid hs
  have HM := Lib.hid hm
  have HR : Hid (checkP (ms.map (·.r)) = if 64 < ms.length then 5 else if (ms.any fun m => decide (400 < m.r.os.length)) then 3 else if !(ms.all fun m => rightL m.r) then 2 else if (List.range ms.length).any (again (ms.map (·.r))) then 17 else 0) := Lib.hid (by rw [checkP, List.length_map, List.any_map, List.all_map]; rfl)
  generalize hR : checkP (ms.map (·.r)) = R at *
  clear ho hs hm hR
  by_cases h64 : 64 < ms.length
  · have HRR : Hid (R = 5) := Lib.hid (by rw [HR.out, if_pos h64])
    go_enter Tryd.func23, Tryd.ntmps23
    go_wp2_with fail
    go_ret
    exact ⟨by rw [HRR.out]; rfl, Below.refl _ _⟩
  · have H64 : Hid (R = if (ms.any fun m => decide (400 < m.r.os.length)) then 3 else if !(ms.all fun m => rightL m.r) then 2 else if (List.range ms.length).any (again (ms.map (·.r))) then 17 else 0) := Lib.hid (by rw [HR.out, if_neg h64])
    have hl64 : ms.length ≤ 64 := by omega
    go_enter Tryd.func23, Tryd.ntmps23
    go_wp2_with fail
    go_loopw [14] (fun kv wr => ∃ k : Nat, k ≤ ms.length ∧ kv = .int .i64 k ∧ Hid ((ms.any fun m => decide (400 < m.r.os.length)) = (ms.drop k).any fun m => decide (400 < m.r.os.length)) ∧ Hid (Below w.heap.size w wr)) (fun kv _ => ms.length - (intOf kv).toNat)
    case atStart => exact ⟨0, Nat.zero_le _, rfl, rfl, Lib.hid (Below.refl _ _)⟩
    case round =>
      obtain ⟨k, hk, rfl, hs, hb⟩ := hrel
      by_cases hlt : k < ms.length
      · obtain ⟨ad, rfl, _, hc, hok, _⟩ := (HO.out.below hb.out).at_ hlt
        have hld := ldM47 hc hok.id
        have HST := Lib.hid (any_step (fun m : Mot => decide (400 < m.r.os.length)) ms k hlt)
        generalize ms.getD k default = o at *
        have n0 : Ar (wr.alloc (.cells zM.cells.toArray 47)) wr.heap.size 47 zM.cells := Ar.new wr _ _
        have hst := stM47 (n := o) n0 rfl hok.id
        have n1 := bOs (n0.setRow o.cells) hok.id
        have hsz := hb.out.size
        have B1 := Lib.hid (below_row (hb.out.alloc hsz (.cells zM.cells.toArray 47)) wr.heap.size o.cells.toArray hsz)
        clear hc hok n0
        generalize o.r.os.length = n at *
        by_cases h4 : 400 < n
        · have e1 : (ms.any fun m => decide (400 < m.r.os.length)) = true := by rw [hs.out.trans HST.out, decide_eq_true h4]; rfl
          have HRR : Hid (R = 3) := Lib.hid (by rw [H64.out, if_pos e1])
          clear e1
          go_wp2_with fail
          go_ret
          exact ⟨by rw [HRR.out]; rfl, B1.out⟩
        · have e1 : Hid ((ms.any fun m => decide (400 < m.r.os.length)) = (ms.drop (k + 1)).any fun m => decide (400 < m.r.os.length)) := Lib.hid (by rw [hs.out.trans HST.out, decide_eq_false h4]; rfl)
          go_wp2_with fail
          exact ⟨⟨k + 1, by omega, by go_num, e1, B1⟩, by simp [intOf]; omega⟩
      · have e1 : (ms.any fun m => decide (400 < m.r.os.length)) = false := by rw [hs.out, List.drop_eq_nil_of_le (by omega)]; rfl
        have H3 : Hid (R = if !(ms.all fun m => rightL m.r) then 2 else if (List.range ms.length).any (again (ms.map (·.r))) then 17 else 0) := Lib.hid (by rw [H64.out, if_neg (by rw [e1]; exact Bool.false_ne_true)])
        have HB := hb
        clear e1 hs hb H64
        obtain ⟨wa, hwa⟩ : ∃ wa, wa = wr := ⟨_, rfl⟩
        rw [← hwa] at HB ⊢
        clear hwa
        go_wp2_with fail
        go_loopw [25] (fun kv wr => ∃ k : Nat, k ≤ ms.length ∧ kv = .int .i64 k ∧ Hid ((ms.any fun m => !rightL m.r) = (ms.drop k).any fun m => !rightL m.r) ∧ Hid (Below w.heap.size w wr)) (fun kv _ => ms.length - (intOf kv).toNat)
        case atStart => exact ⟨0, Nat.zero_le _, rfl, rfl, HB⟩
        case round =>
          clear HB
          obtain ⟨k, hk, rfl, hs, hb⟩ := hrel
          by_cases hlt : k < ms.length
          · obtain ⟨ad, rfl, _, hc, hok, hov⟩ := (HO.out.below hb.out).at_ hlt
            have hld := ldM47 hc hok.id
            have HST := Lib.hid (any_step (fun m : Mot => !rightL m.r) ms k hlt)
            have hsm : (ms.getD k default).r.small := HS.out _ (by simp [hlt])
            generalize ms.getD k default = o at *
            have n0 : Ar (wr.alloc (.cells zM.cells.toArray 47)) wr.heap.size 47 zM.cells := Ar.new wr _ _
            have hst := stM47 (n := o) n0 rfl hok.id
            have n1 := b47 (n0.setRow o.cells) hok.id
            have hsz := hb.out.size
            have bb := below_row ((Below.refl wr.heap.size wr).alloc (Nat.le_refl _) (.cells zM.cells.toArray 47)) wr.heap.size o.cells.toArray (Nat.le_refl _)
            have B1 := Lib.hid (hb.out.trans (bb.mono hsz))
            have HC := Lib.hid (right60_any ((wr.alloc (.cells zM.cells.toArray 47)).setRow wr.heap.size o.cells.toArray) o mx ((bb.cell (p := ⟨0, 0, none⟩) (show 0 < wr.heap.size by omega)).trans ((hb.out.cell (p := ⟨0, 0, none⟩) hw).trans HM.out)) (by simp) hok.id (hov.below bb) hsm)
            have hs2 := bb.size
            generalize rightL o.r = q at *
            clear hc hok n0 bb hov hsm
            cases q with
            | false =>
              have e1 : (ms.any fun m => !rightL m.r) = true := by rw [hs.out.trans HST.out]; rfl
              have e2 : (!(ms.all fun m => rightL m.r)) = true := by rw [List.all_eq_not_any_not, e1]; rfl
              have HRR : Hid (R = 2) := Lib.hid (by rw [H3.out, if_pos e2])
              clear e1 e2
              go_wp2_with (go_at_call 60; refine HC.out.mono ?_; rintro e w1 ⟨rfl, hb1⟩; have B2 := Lib.hid (B1.out.trans (hb1.mono B1.out.size)); clear hb1)
              go_ret
              exact ⟨by rw [HRR.out]; rfl, B2.out⟩
            | true =>
              have e1 : Hid ((ms.any fun m => !rightL m.r) = (ms.drop (k + 1)).any fun m => !rightL m.r) := Lib.hid (by rw [hs.out.trans HST.out]; rfl)
              go_wp2_with (go_at_call 60; refine HC.out.mono ?_; rintro e w1 ⟨rfl, hb1⟩; have B2 := Lib.hid (B1.out.trans (hb1.mono B1.out.size)); clear hb1)
              exact ⟨⟨k + 1, by omega, by go_num, e1, B2⟩, by simp [intOf]; omega⟩
          · have e1 : (ms.any fun m => !rightL m.r) = false := by rw [hs.out, List.drop_eq_nil_of_le (by omega)]; rfl
            have H2 : Hid (R = if (List.range ms.length).any (again (ms.map (·.r))) then 17 else 0) := Lib.hid (by rw [H3.out, if_neg (by rw [List.all_eq_not_any_not, e1]; exact Bool.false_ne_true)])
            have HB := hb
            clear e1 hs hb H3
            obtain ⟨wa, hwa⟩ : ∃ wa, wa = wr := ⟨_, rfl⟩
            rw [← hwa] at HB ⊢
            clear hwa
            go_wp2_with fail
            go_loopw [35] (fun kv wr => ∃ k : Nat, k ≤ ms.length ∧ kv = .int .i64 k ∧ Hid (∀ j, j < k → again (ms.map (·.r)) j = false) ∧ Hid (Below w.heap.size w wr)) (fun kv _ => ms.length - (intOf kv).toNat)
            case atStart => exact ⟨0, Nat.zero_le _, rfl, Lib.hid (fun j hj => absurd hj (Nat.not_lt_zero _)), HB⟩
            case round =>
              clear HB
              obtain ⟨k, hk, rfl, hs, hb⟩ := hrel
              by_cases hlt : k < ms.length
              · obtain ⟨ad, rfl, _, hc, hok, hov⟩ := (HO.out.below hb.out).at_ hlt
                have hld := ldM47 hc hok.id
                have HAG := Lib.hid (again_map hlt)
                have hmv := (HO.out.below hb.out).take k
                have hmtl : (ms.take k).length = k := by rw [List.length_take]; omega
                generalize ms.getD k default = o at *
                have n0 : Ar (wr.alloc (.cells zM.cells.toArray 47)) wr.heap.size 47 zM.cells := Ar.new wr _ _
                have hst := stM47 (n := o) n0 rfl hok.id
                have n1 := n0.setRow o.cells
                have hsz := hb.out.size
                have bb := below_row ((Below.refl wr.heap.size wr).alloc (Nat.le_refl _) (.cells zM.cells.toArray 47)) wr.heap.size o.cells.toArray (Nat.le_refl _)
                have B1 := Lib.hid (hb.out.trans (bb.mono hsz))
                have hcon := con61_any ((wr.alloc (.cells zM.cells.toArray 47)).setRow wr.heap.size o.cells.toArray) (some ad) c wr.heap.size (ms.take k) o n1 hok.id (hmv.below bb) (by omega)
                rw [hmtl] at hcon
                have HC := Lib.hid hcon
                have HAG : Hid (again (ms.map (·.r)) k = (ms.take k).any fun m => keyE m.r o.r) := HAG
                generalize ((ms.take k).any fun m => keyE m.r o.r) = q at *
                clear hc hok n0 n1 bb hov hmv hmtl hcon
                cases q with
                | true =>
                  have e1 : (List.range ms.length).any (again (ms.map (·.r))) = true := List.any_eq_true.2 ⟨k, List.mem_range.2 hlt, HAG.out⟩
                  have HRR : Hid (R = 17) := Lib.hid (by rw [H2.out, if_pos e1])
                  clear e1
                  go_wp2_with (go_at_call 61; refine HC.out.mono ?_; rintro e w1 ⟨rfl, hb1⟩; have B2 := Lib.hid (B1.out.trans (hb1.mono B1.out.size)); clear hb1)
                  go_ret
                  exact ⟨by rw [HRR.out]; rfl, B2.out⟩
                | false =>
                  go_wp2_with (go_at_call 61; refine HC.out.mono ?_; rintro e w1 ⟨rfl, hb1⟩; have B2 := Lib.hid (B1.out.trans (hb1.mono B1.out.size)); clear hb1)
                  exact ⟨⟨k + 1, by omega, by go_num, Lib.hid (fun j hj => by rcases Nat.lt_succ_iff_lt_or_eq.1 hj with h | rfl; exact hs.out j h; exact HAG.out), B2⟩, by simp [intOf]; omega⟩
              · have e1 : (List.range ms.length).any (again (ms.map (·.r))) = false := List.any_eq_false.2 fun j hj => by rw [hs.out j (by have := List.mem_range.1 hj; omega)]; exact Bool.false_ne_true
                have HRR : Hid (R = 0) := Lib.hid (by rw [H2.out, if_neg (by rw [e1]; exact Bool.false_ne_true)])
                clear e1
                go_wp2_with fail
                go_ret
                exact ⟨by rw [HRR.out]; rfl, hb.out⟩
end Go.Proofs.YthhmamkphcgocaaDoor

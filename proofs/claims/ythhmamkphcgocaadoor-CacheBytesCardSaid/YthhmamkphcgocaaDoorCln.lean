/- slices.Clone, sleuthlaw33.large, cache.Find by contracts. -/
import Derived.Test.YthhmamkphcgocaaDoorSam
import Derived.Laws.Cover3
namespace Go.Proofs.YthhmamkphcgocaaDoor
open Go.RowKit

attribute [local go_sem ↓] load42_eq store42_eq new42_eq run_new42 ldT47 ldT73 ldT52 ldT44 ldT71 ldT94 stT47 stT73 stT52 stT94 nwT47 nwT73 nwT52 nwT94 bxT47 bxT73 bxT52 bxT42 bxT44 bdT47 bdT73 bdT52 bdT94 run_nw47 run_nw73 run_nw52 run_nw94
attribute [local go_sem] run_bxT bs_toList
theorem empty52_own (w : World) : (w.alloc (.cells #[] 52)).ownsRow w.heap.size 52 34 (.slice (some ⟨w.heap.size, 0, none⟩) 0 0) 0 [] :=
  World.ownsRow_made w #[] 0 (Nat.le_refl _) (by simp [maxLen]) rfl
theorem run_nil45 (A : Option Addr) (l c : Nat) (W : World) : (binOp .eql 45 (.slice A l c) (.slice none 0 0)).run Tryd.prog W = .ok (.bool A.isNone) W := by
  simp only [binOp]
  simp [run_equal_slice_nil W 45 52 A l c Tryd.underlying45]
attribute [local go_sem ↓] run_nil45
set_option maxRecDepth 100000 in
set_option maxHeartbeats 1000000 in
theorem clone_any (w : World) (A : Option Addr) (c : Nat) (os : List Org) (h : Ov w A c os) (hn : os.length ≤ 1000000000) :
    Calls Tryd.prog 47 #[.slice A os.length c] w fun e w2 => ∃ u, e = .returned u ∧ w2.ownsRow w.heap.size 52 34 u os.length (orgs os) ∧ Below w.heap.size w w2 := by
  have H := Lib.hid h
  have HL := Lib.hid (orgs_len h.ok)
  have HB := Lib.hid ((Below.refl w.heap.size w).alloc (Nat.le_refl _) (.cells #[] 52))
  rcases A with _ | ad
  · have hos : os = [] := by
      have h1 := h.nil rfl
      have h2 := h.cap
      exact List.eq_nil_of_length_eq_zero (by omega)
    subst hos
    have hc := h.nil rfl
    subst hc
    clear h
    go_enter Tryd.func47, Tryd.ntmps47
    go_wp2_with fail
    go_ret
    exact ⟨_, rfl, World.ownsRow_nil _ _ _ _, Below.refl _ _⟩
  · have HR := Lib.hid (H.out.rv.below HB.out)
    have hs0 : (w.alloc (.cells #[] 52)).heap.size = w.heap.size + 1 := World.size_alloc _ _
    have HS0 := Lib.hid hs0
    clear h hs0
    go_enter Tryd.func47, Tryd.ntmps47
    go_wp2_with (at_builtin; refine wpList_app sl45 rfl (.tmp 5) (.tmp 6) rfl w.heap.size _ 0 [] rfl (empty52_own w) (some ad) os.length c (orgs os) rfl (fun e => by cases e) HL.out HR.out (orgs_one _) (by unfold maxLen; omega) (by omega) (by rw [HS0.out]; omega) ?_; intro v2 w2 ho ha; rw [Nat.zero_add, List.nil_append] at ho; have HO := Lib.hid ho; have HA := Lib.hid ha; clear ho ha)
    go_ret
    exact ⟨_, rfl, HO.out, HB.out.trans (below_of_grown HA.out.grown (by rw [HS0.out]; omega) (fun k hk => Nat.le_of_eq (Option.some.inj (show some w.heap.size = some k from hk))))⟩
/-- Are rows more, or longer, than the statements go? -/
def fewO (o : Org) : Bool := decide (o.path.length ≤ 300)
def fewL (r : Lot) : Bool := decide (r.os.length ≤ 500) && (decide (r.path.length ≤ 300) && r.os.all fewO)
def few (l : List Lot) : Bool := decide (l.length ≤ 80) && l.all fewL
set_option maxRecDepth 100000 in
set_option maxHeartbeats 1000000 in
theorem large_any (w : World) (A : Option Addr) (c : Nat) (ms : List Mot) (h : Mv w A ms) (hn : ms.length ≤ maxLen) (hx : ∀ m ∈ ms, m.r.os.length ≤ maxLen) :
    Calls Tryd.prog 12 #[.slice A ms.length c] w fun e w2 => e = .returned (.bool (!few (ms.map (·.r)))) ∧ w2 = w := by
  unfold maxLen at hn hx
  have H := Lib.hid h
  have HX := Lib.hid hx
  have HR : Hid ((!few (ms.map (·.r))) = (decide (80 < ms.length) || ms.any fun m => !fewL m.r)) := Lib.hid (by
    rw [few, List.length_map, List.all_map, Bool.not_and, List.all_eq_not_any_not, Bool.not_not, ← decide_not]
    congr 1
    exact decide_eq_decide.2 (by omega))
  generalize (!few (ms.map (·.r))) = R at *
  clear h hx
  go_enter Tryd.func12, Tryd.ntmps12
  go_wp2_with fail
  go_loopw [3] (fun kv wr => ∃ k : Nat, k ≤ ms.length ∧ k ≤ 80 ∧ kv = .int .i64 k ∧ Hid ((ms.any fun m => !fewL m.r) = (ms.drop k).any fun m => !fewL m.r) ∧ wr = w) (fun kv _ => ms.length - (intOf kv).toNat)
  case atStart => exact ⟨0, Nat.zero_le _, by omega, rfl, rfl, rfl⟩
  case round =>
    obtain ⟨k, hk, hk80, rfl, hs, rfl⟩ := hrel
    by_cases hlt : k < ms.length
    · by_cases h80 : 80 ≤ k
      · have HRR : Hid (R = true) := Lib.hid (by rw [HR.out, decide_eq_true (by omega)]; rfl)
        go_wp2_with fail
        go_ret
        exact ⟨by rw [HRR.out]; rfl, rfl⟩
      · obtain ⟨ad, rfl, had, hc, hok, hov⟩ := H.out.at_ hlt
        have HST := Lib.hid (any_step (fun m : Mot => !fewL m.r) ms k hlt)
        have hnum := HX.out (ms.getD k default) (by simp [hlt])
        generalize ms.getD k default = o at *
        have HBAD : Hid (fewL o.r = false → R = true) := Lib.hid fun h => by rw [HR.out, hs.out.trans HST.out, h]; simp
        have HGD : Hid (fewL o.r = true → (ms.any fun m => !fewL m.r) = (ms.drop (k + 1)).any fun m => !fewL m.r) := Lib.hid fun h => by rw [hs.out.trans HST.out, h]; rfl
        have HFL : Hid (fewL o.r = (decide (o.r.os.length ≤ 500) && (decide (o.r.path.length ≤ 300) && !(o.r.os.any fun o => !fewO o)))) := Lib.hid (by rw [fewL, List.all_eq_not_any_not])
        have q1 := mOs hc hok.id
        have q2 := mPath hc hok.id
        have hz : (bs o.r.path).size = o.r.path.length := bs_size _
        have HPL := hok.path
        unfold maxLen at HPL
        have HOV := Lib.hid hov
        clear hc hok hov hs HST
        generalize fewL o.r = fl at *
        by_cases h5 : 500 < o.r.os.length
        · have HRR := Lib.hid (HBAD.out (by rw [HFL.out, decide_eq_false (by omega)]; rfl))
          go_wp2_with fail
          go_ret
          exact ⟨by rw [HRR.out]; rfl, rfl⟩
        · by_cases h3 : 300 < o.r.path.length
          · have HRR := Lib.hid (HBAD.out (by rw [HFL.out, decide_eq_true (show o.r.os.length ≤ 500 by omega), decide_eq_false (by omega)]; rfl))
            go_wp2_with fail
            go_ret
            exact ⟨by rw [HRR.out]; rfl, rfl⟩
          · have HF2 : Hid (fl = !(o.r.os.any fun o => !fewO o)) := Lib.hid (by rw [HFL.out, decide_eq_true (show o.r.os.length ≤ 500 by omega), decide_eq_true (show o.r.path.length ≤ 300 by omega)]; rfl)
            obtain ⟨wo, hwo⟩ : ∃ wo, wo = wr := ⟨_, rfl⟩
            rw [← hwo] at q1 q2 had HOV H ⊢
            have HWO := Lib.hid hwo
            clear hwo HFL
            go_wp2_with fail
            go_loopw [4] (fun jv wr => ∃ j : Nat, j ≤ o.r.os.length ∧ jv = .int .i64 j ∧ Hid ((o.r.os.any fun o => !fewO o) = (o.r.os.drop j).any fun o => !fewO o) ∧ wr = wo) (fun jv _ => o.r.os.length - (intOf jv).toNat)
            case atStart => exact ⟨0, Nat.zero_le _, rfl, rfl, rfl⟩
            case round =>
              obtain ⟨j, hj, rfl, hs, rfl⟩ := hrel
              by_cases hlj : j < o.r.os.length
              · obtain ⟨bd, hbd, _, hc, hok⟩ := HOV.out.at_ hlj
                have HST := Lib.hid (any_step (fun o : Org => !fewO o) o.r.os j hlj)
                rw [hbd] at q1
                generalize o.r.os.getD j default = x at *
                have p1 := oPath hc hok.id
                have hz2 : (bs x.path).size = x.path.length := bs_size _
                have HXL := hok.path
                unfold maxLen at HXL
                have HFO : Hid (fewO x = decide (x.path.length ≤ 300)) := Lib.hid rfl
                clear hc hok
                generalize fewO x = fx at *
                by_cases hx3 : 300 < x.path.length
                · have e1 : fx = false := by rw [HFO.out, decide_eq_false (by omega)]
                  have HRR := Lib.hid (HBAD.out (by rw [HF2.out, hs.out.trans HST.out, e1]; rfl))
                  clear e1
                  go_wp2_with fail
                  go_ret
                  exact ⟨by rw [HRR.out]; rfl, HWO.out⟩
                · have e1 : fx = true := by rw [HFO.out, decide_eq_true (by omega)]
                  have HRR : Hid ((o.r.os.any fun o => !fewO o) = (o.r.os.drop (j + 1)).any fun o => !fewO o) := Lib.hid (by rw [hs.out.trans HST.out, e1]; rfl)
                  clear e1
                  go_wp2_with fail
                  exact ⟨⟨j + 1, by omega, by go_num, HRR, trivial⟩, by simp [intOf]; omega⟩
              · have e1 : (o.r.os.any fun o => !fewO o) = false := by rw [hs.out, List.drop_eq_nil_of_le (by omega)]; rfl
                have HRR := Lib.hid (HGD.out (by rw [HF2.out, e1]; rfl))
                clear e1 hs
                go_wp2_with fail
                go_goals
                exact ⟨⟨k + 1, by omega, by omega, by go_num, HRR, trivial⟩, by simp [intOf]; omega⟩
    · have e1 : (ms.any fun m => !fewL m.r) = false := by rw [hs.out, List.drop_eq_nil_of_le (by omega)]; rfl
      have HRR : Hid (R = false) := Lib.hid (by rw [HR.out, e1, decide_eq_false (by omega)]; rfl)
      clear e1
      go_wp2_with fail
      go_ret
      exact ⟨by rw [HRR.out]; rfl, rfl⟩
end Go.Proofs.YthhmamkphcgocaaDoor

/- sleuthlaw33.plain by a contract. -/
import Derived.Test.YthhmamkphcgocaaDoorCln
import Derived.Test.YthhmamkphcgocaaDoorOrd
import Derived.Test.YthhmamkphcgocaaDoorCfl
namespace Go.Proofs.YthhmamkphcgocaaDoor
open Go.RowKit

attribute [local go_sem ↓] load42_eq store42_eq new42_eq run_new42 ldT47 ldT73 ldT52 ldT44 ldT71 ldT94 stT47 stT73 stT52 stT94 nwT47 nwT73 nwT52 nwT94 bxT47 bxT73 bxT52 bxT42 bxT44 bdT47 bdT73 bdT52 bdT94 run_nw47 run_nw73 run_nw52 run_nw94 bsT24 bsT28 bsT45
attribute [local go_sem] run_bxT bs_toList
set_option maxRecDepth 100000 in
set_option maxHeartbeats 2000000 in
theorem plain33_any (w : World) (A : Option Addr) (c : Nat) (ms : List Mot) (h : Mv w A ms) (hn : ms.length ≤ 1000000) :
    Calls Tryd.prog 10 #[.slice A ms.length c] w fun e w2 => ∃ u, e = .returned u ∧ w2.ownsRow w.heap.size 73 38 u ms.length (mots ms) ∧ Below w.heap.size w w2 := by
  have H := Lib.hid h
  clear h
  go_enter Tryd.func10, Tryd.ntmps10
  go_wp2_with fail
  go_loopw [3, 4] (fun sv kv wr => ∃ k : Nat, k ≤ ms.length ∧ kv = .int .i64 k ∧ Hid (wr.ownsRow w.heap.size 73 38 sv k (mots (ms.take k))) ∧ Hid (Below w.heap.size w wr)) (fun _ kv _ => ms.length - (intOf kv).toNat)
  case atStart => exact ⟨0, Nat.zero_le _, rfl, World.ownsRow_nil _ _ _ _, Lib.hid (Below.refl _ _)⟩
  case round =>
    obtain ⟨k, hk, rfl, ho, hb⟩ := hrel
    by_cases hlt : k < ms.length
    · obtain ⟨ad, rfl, had, hc, hok, hov⟩ := H.out.at_ hlt
      have HT := Lib.hid (show mots (ms.take k) ++ (ms.getD k default).cells = mots (ms.take (k + 1)) by rw [← mots_single, mots_app, List.take_add_one, List.getElem?_eq_getElem hlt]; simp [hlt])
      have had2 : (ad.add (k * 38)).block < w.heap.size := by rw [block_add]; exact had
      generalize ms.getD k default = m at *
      have l1 : ∀ W, Below w.heap.size w W → (load42 (ad.add (k * 38))).run Tryd.prog W = .ok (.agg (bys m.r.id).toArray) W := fun W hW => ldMid (hc.later hW had2) hok.id
      have l2 : ∀ W, Below w.heap.size w W → W.cell? ⟨(ad.add (k * 38)).block, (ad.add (k * 38)).off + 32, none⟩ = some (.string (bs m.r.path)) := fun W hW => mPath (hc.later hW had2) hok.id
      have l3 : ∀ W, Below w.heap.size w W → (ldT 44 ⟨(ad.add (k * 38)).block, (ad.add (k * 38)).off + 33, none⟩).run Tryd.prog W = .ok (.agg #[.int .i64 m.r.algo, .bool m.r.de, .bool m.r.mo, .bool m.r.co]) W := fun W hW => ldM44 (hc.later hW had2) hok.id
      have l4 : ∀ W, Below w.heap.size w W → W.cell? ⟨(ad.add (k * 38)).block, (ad.add (k * 38)).off + 37, none⟩ = some (.slice m.A m.r.os.length m.c) := fun W hW => mOs (hc.later hW had2) hok.id
      have l5 := fun W => run_bd73 m hok.id W
      have HC : Hid (Below w.heap.size w wr.drew) := Lib.hid hb.out.drew
      have HO1 : Hid (wr.drew.ownsRow w.heap.size 73 38 u3 k (mots (ms.take k))) := ho
      go_wp2_with fail
      refine region_of (fun W => Below w.heap.size w W) (by kernel_rfl) ?_
      refine anyC_take 0 (v := ?_) HC.out rfl (by kernel_rfl) (by kernel_rfl) (by kernel_rfl) (fun _ _ _ h => h) rfl (fun W hW => ?_) ?_
      rotate_left
      · go_simp
        try rfl
      simp only [Act.put]
      refine anyC_take 1 (v := ?_) HC.out rfl (by kernel_rfl) (by kernel_rfl) (by kernel_rfl) (fun _ _ _ h => h) rfl (fun W hW => ?_) ?_
      rotate_left
      · go_simp
        try rfl
      simp only [Act.put]
      refine anyC_take 2 (v := ?_) HC.out rfl (by kernel_rfl) (by kernel_rfl) (by kernel_rfl) (fun _ _ _ h => h) rfl (fun W hW => ?_) ?_
      rotate_left
      · go_simp
        try rfl
      simp only [Act.put]
      refine anyC_take 3 (v := ?_) HC.out rfl (by kernel_rfl) (by kernel_rfl) (by kernel_rfl) (fun _ _ _ h => h) rfl (fun W hW => ?_) ?_
      rotate_left
      · go_simp
        try rfl
      simp only [Act.put]
      refine anyC_take 4 (v := ?_) HC.out rfl (by kernel_rfl) (by kernel_rfl) (by kernel_rfl) (fun _ _ _ h => h) rfl (fun W hW => ?_) ?_
      rotate_left
      · go_simp
        try rfl
      simp only [Act.put]
      refine anyC_take 5 (v := ?_) HC.out rfl (by kernel_rfl) (by kernel_rfl) (by kernel_rfl) (fun _ _ _ h => h) rfl (fun W hW => ?_) ?_
      rotate_left
      · go_simp
        try rfl
      simp only [Act.put]
      refine anyC_take 6 (v := ?_) HC.out rfl (by kernel_rfl) (by kernel_rfl) (by kernel_rfl) (fun _ _ _ h => h) rfl (fun W hW => ?_) ?_
      rotate_left
      · go_simp
        try rfl
      simp only [Act.put]
      refine anyC_take 7 (v := ?_) HC.out rfl (by kernel_rfl) (by kernel_rfl) (by kernel_rfl) (fun _ _ _ h => h) rfl (fun W hW => ?_) ?_
      rotate_left
      · go_simp
        try rfl
      simp only [Act.put]
      refine anyC_take 8 (v := ?_) HC.out rfl (by kernel_rfl) (by kernel_rfl) (by kernel_rfl) (fun _ _ _ h => h) rfl (fun W hW => ?_) ?_
      rotate_left
      · go_simp
        try rfl
      simp only [Act.put]
      refine anyC_take 9 (v := ?_) HC.out rfl (by kernel_rfl) (by kernel_rfl) (by kernel_rfl) (fun _ _ _ h => h) rfl (fun W hW => ?_) ?_
      rotate_left
      · go_simp
        try rfl
      simp only [Act.put]
      refine anyC_take 10 (v := ?_) HC.out rfl (by kernel_rfl) (by kernel_rfl) (by kernel_rfl) (fun _ _ _ h => h) rfl (fun W hW => ?_) ?_
      rotate_left
      · go_simp
        try rfl
      simp only [Act.put]
      refine anyC_take 11 (v := ?_) HC.out rfl (by kernel_rfl) (by kernel_rfl) (by kernel_rfl) (fun _ _ _ h => h) rfl (fun W hW => ?_) ?_
      rotate_left
      · go_simp
        try rfl
      simp only [Act.put]
      refine anyC_take 12 (v := ?_) HC.out rfl (by kernel_rfl) (by kernel_rfl) (by kernel_rfl) (fun _ _ _ h => h) rfl (fun W hW => ?_) ?_
      rotate_left
      · go_simp
        try rfl
      simp only [Act.put]
      refine anyC_take 13 (v := ?_) HC.out rfl (by kernel_rfl) (by kernel_rfl) (by kernel_rfl) (fun _ _ _ h => h) rfl (fun W hW => ?_) ?_
      rotate_left
      · go_simp
        try rfl
      simp only [Act.put]
      refine anyC_take 14 (v := ?_) HC.out rfl (by kernel_rfl) (by kernel_rfl) (by kernel_rfl) (fun _ _ _ h => h) rfl (fun W hW => ?_) ?_
      rotate_left
      · go_simp
        try rfl
      simp only [Act.put]
      refine anyC_take 15 (v := ?_) HC.out rfl (by kernel_rfl) (by kernel_rfl) (by kernel_rfl) (fun _ _ _ h => h) rfl (fun W hW => ?_) ?_
      rotate_left
      · go_simp
        try rfl
      simp only [Act.put]
      refine anyC_take 17 (v := ?_) HC.out rfl (by kernel_rfl) (by kernel_rfl) (by kernel_rfl) (fun _ _ _ h => h) rfl (fun W hW => ?_) ?_
      rotate_left
      · go_simp
        try rfl
      simp only [Act.put]
      refine anyC_take 18 (v := ?_) HC.out rfl (by kernel_rfl) (by kernel_rfl) (by kernel_rfl) (fun _ _ _ h => h) rfl (fun W hW => ?_) ?_
      rotate_left
      · go_simp
        try rfl
      simp only [Act.put]
      refine anyC_take 19 (v := ?_) HC.out rfl (by kernel_rfl) (by kernel_rfl) (by kernel_rfl) (fun _ _ _ h => h) rfl (fun W hW => ?_) ?_
      rotate_left
      · go_simp
        try rfl
      simp only [Act.put]
      refine anyC_take 20 (v := ?_) HC.out rfl (by kernel_rfl) (by kernel_rfl) (by kernel_rfl) (fun _ _ _ h => h) rfl (fun W hW => ?_) ?_
      rotate_left
      · go_simp
        try rfl
      simp only [Act.put]
      refine anyC_take 21 (v := ?_) HC.out rfl (by kernel_rfl) (by kernel_rfl) (by kernel_rfl) (fun _ _ _ h => h) rfl (fun W hW => ?_) ?_
      rotate_left
      · go_simp
        try rfl
      simp only [Act.put]
      refine anyC_one 16 HC.out (by kernel_rfl) rfl ?_
      go_wp2_with (go_at_call 32; refine (plainO_any _ m.r.algo m.r.de m.r.mo m.r.co).mono ?_; rintro e w2 ⟨rfl, hb1⟩; have HC2 := Lib.hid (HC.out.trans (hb1.mono HC.out.size)); have HO2 := Lib.hid (own_below HO1.out hb1); clear hb1)
      refine anyC_take 22 (v := ?_) HC2.out rfl (by kernel_rfl) (by kernel_rfl) (by kernel_rfl) (fun _ _ _ h => h) rfl (fun W hW => ?_) ?_
      rotate_left
      · go_simp
        try rfl
      simp only [Act.put]
      have l6 := run_bs28 (m := m) hok.id w2
      have NW := Lib.hid (new_rv w2 m.cells 73 _ rfl)
      have hs2 := HC2.out.size
      have hsw := hb.out.size
      have HC3 := Lib.hid (HC2.out.alloc hs2 (.cells m.cells.toArray 73))
      have HO := Lib.hid (HO2.out.alloc (.cells m.cells.toArray 73))
      have HML := Lib.hid (Mot.len hok.id)
      have hs3 : (w2.alloc (.cells m.cells.toArray 73)).heap.size = w2.heap.size + 1 := World.size_alloc _ _
      clear hc hok hov l1 l2 l3 l4 l5
      refine anyC_one 23 HC2.out (by kernel_rfl) rfl ?_
      go_wp2_with fail
      refine anyC_one 24 HC3.out (by kernel_rfl) rfl ?_
      refine wpList_app sl28 rfl (.tmp 11) (.tmp 34) rfl w.heap.size u3 k (mots (ms.take k)) rfl HO.out (some ⟨w2.heap.size, 0, none⟩) 1 1 m.cells rfl (fun e => by cases e) (by rw [HML.out]) NW.out m.one (by unfold maxLen; omega) (by omega) (by rw [hs3]; omega) ?_
      intro v4 w4 ho4 ha
      rw [HT.out] at ho4
      have HO4 := Lib.hid ho4
      have B4 := Lib.hid (HC3.out.trans (below_of_grown ha.grown (by rw [hs3]; omega) (fun q hq => (HO.out.lt q hq).1)))
      clear ho4
      go_wp2_with fail
      refine anyC_take 25 (v := ?_) B4.out rfl (by kernel_rfl) (by kernel_rfl) (by kernel_rfl) (fun _ _ _ h => h) rfl (fun W hW => ?_) ?_
      rotate_left
      · go_simp
        try rfl
      simp only [Act.put]
      refine anyC_done B4.out (by kernel_rfl) ?_ _
      go_wp2_with fail
      exact ⟨⟨k + 1, by omega, by go_num, HO4, B4⟩, by simp [intOf]; omega⟩
    · have hke : k = ms.length := by omega
      subst hke
      rw [List.take_length] at ho
      go_wp2_with fail
      go_ret
      exact ⟨_, rfl, ho.out, hb.out⟩
end Go.Proofs.YthhmamkphcgocaaDoor

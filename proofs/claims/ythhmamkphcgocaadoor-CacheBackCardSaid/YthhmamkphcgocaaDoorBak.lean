/- sleuthlaw33.CacheBack, walked. -/
import Derived.Test.YthhmamkphcgocaaDoorWor
import Derived.Test.YthhmamkphcgocaaDoorPla
import Derived.Test.YthhmamkphcgocaaDoorCln
import Derived.Test.YthhmamkphcgocaaDoorSam
namespace Go.Proofs.YthhmamkphcgocaaDoor
open Go.RowKit

theorem readP_bad {b : List UInt8} (h : (readP b).2 ≠ 0) : (readP b).1 = [] := by
  unfold readP at *
  split <;> (try rfl)
  rename_i h1
  rw [if_neg h1] at h
  dsimp only at h ⊢
  split <;> (try rfl)
  rename_i h2
  rw [if_neg h2] at h
  split <;> (try rfl)
  rename_i h3
  rw [if_neg h3] at h
  split <;> (try rfl)
  rename_i h4
  rw [if_neg h4] at h
  split <;> (try rfl)
  rename_i h5
  rw [if_neg h5] at h
  split <;> (try rfl)
  rename_i h6
  rw [if_neg h6] at h
  split <;> (try rfl)
  rename_i h7
  rw [if_neg h7] at h
  exact absurd rfl h
theorem few_of {l : List Lot} (h : few l = true) : l.length ≤ 80 ∧ ∀ r ∈ l, r.small ∧ r.os.length ≤ 500 := by
  unfold few at h
  simp only [Bool.and_eq_true, decide_eq_true_eq, List.all_eq_true] at h
  refine ⟨h.1, fun r hr => ?_⟩
  have h2 := h.2 r hr
  unfold fewL at h2
  simp only [Bool.and_eq_true, decide_eq_true_eq, List.all_eq_true] at h2
  refine ⟨⟨by omega, fun o ho => ?_, by omega⟩, h2.1⟩
  have h3 := h2.2.2 o ho
  unfold fewO at h3
  simp only [decide_eq_true_eq] at h3
  omega
/-- The same rows elsewhere. -/
theorem Mv.copy {W W2 : World} {A : Option Addr} {ms : List Mot} {B : Nat} {e : TypeId} {u : Value} {n : Nat} (h : Mv W A ms) (hb : Below W.heap.size W W2) (ho : W2.ownsRow B e 38 u n (mots ms)) : ∃ D d, u = .slice D n d ∧ Mv W2 D ms := by
  obtain ⟨D, d, rfl, _, _, hr, _⟩ := own_all ho
  exact ⟨D, d, rfl, hr, h.ok, fun m hm => (h.os m hm).below hb⟩
theorem file_le {l : List Lot} (h : checkP l = 0) (hid : ∀ x ∈ l, x.id.length = 32 ∧ ∀ o ∈ x.os, o.id.length = 32) : (fileB l).length ≤ 10000000 := by
  obtain ⟨h1, h2⟩ := check_fit h hid
  have h3 := lots_le h2 h1 l.length
  rw [List.take_length] at h3
  have h4 := shaOf_len (bodyB l)
  have h5 : (headB l.length).length = 12 := rfl
  rw [fileB, List.length_append, h4, bodyB, List.length_append, h5]
  omega
theorem mv_ids {W : World} {A : Option Addr} {ms : List Mot} (h : Mv W A ms) : ∀ x ∈ ms.map (·.r), x.id.length = 32 ∧ ∀ o ∈ x.os, o.id.length = 32 := fun x hx => by
  obtain ⟨m, hm, rfl⟩ := List.mem_map.1 hx
  exact ⟨(h.ok m hm).id, fun o ho => ((h.ok m hm).os o ho).id⟩
theorem few_small {ns ms : List Mot} (h : ns.map (·.r) = ms.map (·.r)) (hs : ∀ m ∈ ms, m.r.small ∧ m.r.os.length ≤ 500) : ∀ m ∈ ns, m.r.small := fun m hm => by
  have h1 : m.r ∈ ns.map (·.r) := List.mem_map.2 ⟨m, hm, rfl⟩
  rw [h] at h1
  obtain ⟨m2, hm2, e⟩ := List.mem_map.1 h1
  rw [← e]
  exact (hs m2 hm2).1
set_option maxRecDepth 100000 in
set_option maxHeartbeats 2000000 in
theorem cback_any (w : World) (A D : Option Addr) (c d : Nat) (ms : List Mot) (b : List UInt8) (mx : Int) (hm : w.cell? ⟨0, 0, none⟩ = some (.int .i64 mx)) (hw : 0 < w.heap.size) (ho : Mv w A ms) (hc : ms.length ≤ c) (hn : ms.length ≤ maxLen) (hx : ∀ m ∈ ms, m.r.os.length ≤ maxLen)
    (hb : Rv w.heap.size w D (bys b)) (hD : D = none → d = 0) (hd : b.length ≤ d) (hbn : b.length ≤ maxLen) :
    Calls Tryd.prog 4 #[.slice A ms.length c, .slice D b.length d] w fun e w2 => e = .returned (.bool true) ∧ Below w.heap.size w w2 := by
  have HLG := Lib.hid (large_any w A c ms ho hn hx)
  have HWK := Lib.hid (works_any w mx hm hw)
  have HMX := Lib.hid hm
  have H := Lib.hid ho
  have HB := Lib.hid hb
  have HDN := Lib.hid hD
  unfold maxLen at hbn hn
  have HFW := Lib.hid (few_of (l := ms.map (·.r)))
  generalize few (ms.map (·.r)) = fw at *
  cases fw with
  | false =>
    clear ho hb hx hm hD
    go_enter Tryd.func4, Tryd.ntmps4
    go_wp2_with (first | (go_at_call 12; refine HLG.out.mono ?_; rintro en w1 ⟨rfl, hw1⟩; subst w1) | (go_at_call 6; refine HWK.out.mono ?_; rintro en w1 ⟨rfl, hb1⟩; have B1 := Lib.hid hb1; clear hb1))
    go_ret
    exact ⟨rfl, B1.out⟩
  | true =>
  by_cases h5 : 5000 < b.length
  · clear ho hb hx hm hD
    go_enter Tryd.func4, Tryd.ntmps4
    go_wp2_with (first | (go_at_call 12; refine HLG.out.mono ?_; rintro en w1 ⟨rfl, hw1⟩; subst w1) | (go_at_call 6; refine HWK.out.mono ?_; rintro en w1 ⟨rfl, hb1⟩; have B1 := Lib.hid hb1; clear hb1))
    go_ret
    exact ⟨rfl, B1.out⟩
  obtain ⟨hf1, hf2⟩ := HFW.out rfl
  rw [List.length_map] at hf1
  have HSM : Hid (∀ m ∈ ms, m.r.small ∧ m.r.os.length ≤ 500) := Lib.hid (fun m hm2 => hf2 _ (List.mem_map.2 ⟨m, hm2, rfl⟩))
  have HBT := Lib.hid (bytes_any w A c ms mx hm hw ho (fun m hm2 => (HSM.out m hm2).1) (by omega) hc)
  have HBV : Hid (bytesP (ms.map (·.r)) = if checkP (ms.map (·.r)) ≠ 0 then ([], checkP (ms.map (·.r))) else (fileB (ms.map (·.r)), 0)) := Lib.hid rfl
  have HRF := Lib.hid (fun h => read_file (l := ms.map (·.r)) h (mv_ids ho))
  have HFL := Lib.hid (fun h => file_le (l := ms.map (·.r)) h (mv_ids ho))
  clear ho hb hx hm hD hf2 HWK
  generalize bytesP (ms.map (·.r)) = BR at *
  generalize hck : checkP (ms.map (·.r)) = ck at *
  clear hck
  by_cases hz : ck = 0
  · subst hz
    have HBV2 : Hid (BR = (fileB (ms.map (·.r)), 0)) := Lib.hid (by rw [HBV.out, if_neg (by omega)])
    have hrf := HRF.out rfl
    have hfl := HFL.out rfl
    generalize fileB (ms.map (·.r)) = F at *
    obtain rfl : BR = (F, 0) := HBV2.out
    have HRF2 := Lib.hid hrf
    clear hrf HBV HBV2 HRF HFL
    go_enter Tryd.func4, Tryd.ntmps4
    go_wp2_with (first | (go_at_call 12; refine HLG.out.mono ?_; rintro en w1 ⟨rfl, hw1⟩; subst w1) | (go_at_call 13; refine HBT.out.mono ?_; rintro en w2 ⟨E, f, rfl, hrv, hE, hf, hb2⟩; dsimp only at hrv hf; dsimp only; have B2 := Lib.hid hb2; have hs2 := hb2.size; have hrd := read_any w2 E f F mx ((hb2.cell (p := ⟨0, 0, none⟩) hw).trans HMX.out) (by omega) hrv hE hf hfl; rw [HRF2.out] at hrd; have HRD := Lib.hid hrd; clear hrv hE hb2 hrd HBT) | (go_at_call 7; refine HRD.out.mono ?_; rintro en w3 ⟨G, gc, ns, rfl, hmap, hmv, hgot, hgc, _, hb3⟩; dsimp only at hmap; have B3 := Lib.hid (B2.out.trans (hb3.mono B2.out.size)); have M3 := Lib.hid hmv; have HMAP := Lib.hid hmap; have hnl : ns.length = ms.length := (by simpa using congrArg List.length hmap); rw [hnl]; have HNL := Lib.hid hnl; have hpl := plain33_any w3 G gc ns hmv (by omega); rw [hnl] at hpl; have HPL := Lib.hid hpl; clear hmap hmv hgot hb3 hpl hnl HRD) | (go_at_call_of 10 gc; refine HPL.out.mono ?_; rintro en w4 ⟨u4, rfl, ho4, hb4⟩; obtain ⟨D4, d4, rfl, hm4⟩ := M3.out.copy hb4 ho4; have B4 := Lib.hid (B3.out.trans (hb4.mono B3.out.size)); have M4 := Lib.hid hm4; have HPM := Lib.hid (plain33_any w4 A c ms (H.out.below B4.out) (by omega)); clear ho4 hb4 hm4 HPL) | (go_at_call 10; refine HPM.out.mono ?_; rintro en w5 ⟨u5, rfl, ho5, hb5⟩; obtain ⟨D5, d5, rfl, hm5⟩ := (H.out.below B4.out).copy hb5 ho5; have B5 := Lib.hid (B4.out.trans (hb5.mono B4.out.size)); have hsm := rsame_any w5 D4 D5 d4 d5 ns ms HMAP.out (M4.out.below hb5) hm5 (fun m hm2 => (few_small HMAP.out HSM.out m hm2)) (by rw [HNL.out]; omega); rw [HNL.out] at hsm; have HSA := Lib.hid hsm; clear ho5 hb5 hm5 hsm HPM) | (go_at_call 9; refine HSA.out.mono ?_; rintro en w6 ⟨rfl, hb6⟩; have BX := Lib.hid (B5.out.trans (hb6.mono B5.out.size)); have hrx := Lib.hid (read_any w6 D d b mx ((BX.out.cell (p := ⟨0, 0, none⟩) hw).trans HMX.out) (by have := BX.out.size; omega) (HB.out.low BX.out BX.out.size) HDN.out hd (by omega)); clear hb6 HSA))
    have HFR := Lib.hid (file_read (b := b))
    have HBD := Lib.hid (readP_bad (b := b))
    generalize readP b = RP at *
    obtain ⟨rl, re⟩ := RP
    dsimp only at HFR HBD
    have hsX := BX.out.size
    by_cases hre : re = 0
    · subst hre
      obtain ⟨g1, g2, g3⟩ := HFR.out rfl
      have HG := Lib.hid (And.intro g1 (And.intro g2 g3))
      have hfl : rl.length ≤ 64 := (check_fit g2 (fun x hx => ⟨(g3 x hx).1, fun o ho => ((g3 x hx).2.2.2.2.2 o ho).1⟩)).1
      have hbp : bytesP rl = (b, 0) := by unfold bytesP; rw [if_neg (by rw [g2]; omega), g1]
      have HBP := Lib.hid hbp
      clear g1 g2 g3 hbp HFR HBD
      go_wp2_with (first | (go_at_call 7; refine hrx.out.mono ?_; rintro en w7 ⟨G2, g2, ns2, rfl, hmap2, hmv2, hgot2, hgc2, _, hb7⟩; dsimp only at hmap2; dsimp only; have B7 := Lib.hid (BX.out.trans (hb7.mono hsX)); have hnl2 : ns2.length ≤ 64 := (by rw [← hmap2, List.length_map] at hfl; exact hfl); have hbt2 := bytes_any w7 G2 g2 ns2 mx ((B7.out.cell (p := ⟨0, 0, none⟩) hw).trans HMX.out) (by have := B7.out.size; omega) hmv2 (fun m hm2 => (hgot2 m hm2).small) (by omega) hgc2; rw [hmap2, HBP.out] at hbt2; have HBT2 := Lib.hid hbt2; clear hmap2 hmv2 hgot2 hb7 hbt2 hrx) | (go_at_call_of 13 g2; refine HBT2.out.mono ?_; rintro en w8 ⟨E2, f2, rfl, hrv2, hE2, hf2, hb8⟩; dsimp only at hrv2 hf2; dsimp only; have B8 := Lib.hid (B7.out.trans (hb8.mono B7.out.size)); have HSM2 := Lib.hid (fsame_any w8 E2 D f2 d b b hrv2 (HB.out.low B8.out B8.out.size)); have HWK8 := Lib.hid (works_any w8 mx ((B8.out.cell (p := ⟨0, 0, none⟩) hw).trans HMX.out) (by have := B8.out.size; omega)); clear hrv2 hE2 hb8 HBT2) | (go_at_call 11; refine HSM2.out.mono ?_; rintro en w9 ⟨rfl, hw9⟩; subst w9; rw [decide_eq_true (rfl : b = b)]) | (go_at_call 6; refine HWK8.out.mono ?_; rintro en w10 ⟨rfl, hb10⟩; have B10 := Lib.hid (B8.out.trans (hb10.mono B8.out.size)); clear hb10))
      go_ret
      exact ⟨rfl, B10.out⟩
    · have hrl : rl = [] := HBD.out hre
      subst hrl
      have hq2 : ((re : Int) == 0) = false := beq_eq_false_iff_ne.2 (by omega)
      clear HFR HBD
      go_wp2_with (first | (go_at_call 7; refine hrx.out.mono ?_; rintro en w7 ⟨G2, g2, ns2, rfl, hmap2, hmv2, hgot2, hgc2, _, hb7⟩; dsimp only at hmap2; dsimp only; have B7 := Lib.hid (BX.out.trans (hb7.mono hsX)); obtain rfl : ns2 = [] := List.map_eq_nil_iff.1 hmap2; have HWK8 := Lib.hid (works_any w7 mx ((B7.out.cell (p := ⟨0, 0, none⟩) hw).trans HMX.out) (by have := B7.out.size; omega)); clear hmap2 hmv2 hgot2 hb7 hrx) | (go_at_call 6; refine HWK8.out.mono ?_; rintro en w10 ⟨rfl, hb10⟩; have B10 := Lib.hid (B7.out.trans (hb10.mono B7.out.size)); clear hb10))
      go_ret
      exact ⟨rfl, B10.out⟩
  · have HBV2 : Hid (BR = ([], ck)) := Lib.hid (by rw [HBV.out, if_pos hz])
    obtain rfl : BR = ([], ck) := HBV2.out
    have hq : ((ck : Int) == 0) = false := beq_eq_false_iff_ne.2 (by omega)
    clear HBV HBV2 HRF HFL
    go_enter Tryd.func4, Tryd.ntmps4
    go_wp2_with (first | (go_at_call 12; refine HLG.out.mono ?_; rintro en w1 ⟨rfl, hw1⟩; subst w1) | (go_at_call 13; refine HBT.out.mono ?_; rintro en w2 ⟨E, f, rfl, hrv, hE, hf, hb2⟩; dsimp only at hrv hf; dsimp only; have BX := Lib.hid hb2; have hrx := Lib.hid (read_any w2 D d b mx ((BX.out.cell (p := ⟨0, 0, none⟩) hw).trans HMX.out) (by have := BX.out.size; omega) (HB.out.low BX.out BX.out.size) HDN.out hd (by omega)); clear hrv hE hb2 HBT))
    have HFR := Lib.hid (file_read (b := b))
    have HBD := Lib.hid (readP_bad (b := b))
    generalize readP b = RP at *
    obtain ⟨rl, re⟩ := RP
    dsimp only at HFR HBD
    have hsX := BX.out.size
    by_cases hre : re = 0
    · subst hre
      obtain ⟨g1, g2, g3⟩ := HFR.out rfl
      have HG := Lib.hid (And.intro g1 (And.intro g2 g3))
      have hfl : rl.length ≤ 64 := (check_fit g2 (fun x hx => ⟨(g3 x hx).1, fun o ho => ((g3 x hx).2.2.2.2.2 o ho).1⟩)).1
      have hbp : bytesP rl = (b, 0) := by unfold bytesP; rw [if_neg (by rw [g2]; omega), g1]
      have HBP := Lib.hid hbp
      clear g1 g2 g3 hbp HFR HBD
      go_wp2_with (first | (go_at_call 7; refine hrx.out.mono ?_; rintro en w7 ⟨G2, g2, ns2, rfl, hmap2, hmv2, hgot2, hgc2, _, hb7⟩; dsimp only at hmap2; dsimp only; have B7 := Lib.hid (BX.out.trans (hb7.mono hsX)); have hnl2 : ns2.length ≤ 64 := (by rw [← hmap2, List.length_map] at hfl; exact hfl); have hbt2 := bytes_any w7 G2 g2 ns2 mx ((B7.out.cell (p := ⟨0, 0, none⟩) hw).trans HMX.out) (by have := B7.out.size; omega) hmv2 (fun m hm2 => (hgot2 m hm2).small) (by omega) hgc2; rw [hmap2, HBP.out] at hbt2; have HBT2 := Lib.hid hbt2; clear hmap2 hmv2 hgot2 hb7 hbt2 hrx) | (go_at_call_of 13 g2; refine HBT2.out.mono ?_; rintro en w8 ⟨E2, f2, rfl, hrv2, hE2, hf2, hb8⟩; dsimp only at hrv2 hf2; dsimp only; have B8 := Lib.hid (B7.out.trans (hb8.mono B7.out.size)); have HSM2 := Lib.hid (fsame_any w8 E2 D f2 d b b hrv2 (HB.out.low B8.out B8.out.size)); have HWK8 := Lib.hid (works_any w8 mx ((B8.out.cell (p := ⟨0, 0, none⟩) hw).trans HMX.out) (by have := B8.out.size; omega)); clear hrv2 hE2 hb8 HBT2) | (go_at_call 11; refine HSM2.out.mono ?_; rintro en w9 ⟨rfl, hw9⟩; subst w9; rw [decide_eq_true (rfl : b = b)]) | (go_at_call 6; refine HWK8.out.mono ?_; rintro en w10 ⟨rfl, hb10⟩; have B10 := Lib.hid (B8.out.trans (hb10.mono B8.out.size)); clear hb10))
      go_ret
      exact ⟨rfl, B10.out⟩
    · have hrl : rl = [] := HBD.out hre
      subst hrl
      have hq2 : ((re : Int) == 0) = false := beq_eq_false_iff_ne.2 (by omega)
      clear HFR HBD
      go_wp2_with (first | (go_at_call 7; refine hrx.out.mono ?_; rintro en w7 ⟨G2, g2, ns2, rfl, hmap2, hmv2, hgot2, hgc2, _, hb7⟩; dsimp only at hmap2; dsimp only; have B7 := Lib.hid (BX.out.trans (hb7.mono hsX)); obtain rfl : ns2 = [] := List.map_eq_nil_iff.1 hmap2; have HWK8 := Lib.hid (works_any w7 mx ((B7.out.cell (p := ⟨0, 0, none⟩) hw).trans HMX.out) (by have := B7.out.size; omega)); clear hmap2 hmv2 hgot2 hb7 hrx) | (go_at_call 6; refine HWK8.out.mono ?_; rintro en w10 ⟨rfl, hb10⟩; have B10 := Lib.hid (B7.out.trans (hb10.mono B7.out.size)); clear hb10))
      go_ret
      exact ⟨rfl, B10.out⟩
end Go.Proofs.YthhmamkphcgocaaDoor

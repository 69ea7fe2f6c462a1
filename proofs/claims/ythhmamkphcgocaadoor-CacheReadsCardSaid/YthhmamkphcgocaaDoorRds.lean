/- sleuthlaw33.CacheReads, walked. -/
import Derived.Test.YthhmamkphcgocaaDoorFre
import Derived.Test.YthhmamkphcgocaaDoorWor
import Derived.Test.YthhmamkphcgocaaDoorPla
import Derived.Test.YthhmamkphcgocaaDoorSam
namespace Go.Proofs.YthhmamkphcgocaaDoor
open Go.RowKit

theorem readP_none {b : List UInt8} (h : (readP b).2 ≠ 0) : (readP b).1 = [] := by
  unfold readP at *
  split <;> (try rfl)
  rename_i h1
  rw [if_neg h1] at h
  dsimp only at h ⊢
  split <;> (try rfl)
  rename_i h2
  rw [if_neg h2] at h
  split <;> (try rfl)
  rename_i h3
  rw [if_neg h3] at h
  split <;> (try rfl)
  rename_i h4
  rw [if_neg h4] at h
  split <;> (try rfl)
  rename_i h5
  rw [if_neg h5] at h
  split <;> (try rfl)
  rename_i h6
  rw [if_neg h6] at h
  split <;> (try rfl)
  rename_i h7
  rw [if_neg h7] at h
  exact absurd rfl h
theorem readP_len (b : List UInt8) : (readP b).1.length ≤ 64 := by
  by_cases h : (readP b).2 = 0
  · obtain ⟨g1, g2, g3⟩ := file_read h
    exact (check_fit g2 (fun x hx => ⟨(g3 x hx).1, fun o ho => ((g3 x hx).2.2.2.2.2 o ho).1⟩)).1
  · rw [readP_none h]; simp
theorem empty22_own (w : World) : (w.alloc (.cells #[] 5)).ownsRow w.heap.size 5 1 (.slice (some ⟨w.heap.size, 0, none⟩) 0 0) 0 [] :=
  World.ownsRow_made w #[] 0 (Nat.le_refl _) (by simp [maxLen]) rfl
/-- The same rows elsewhere. -/
theorem Mv.copy2 {W W2 : World} {A : Option Addr} {ms : List Mot} {B : Nat} {e : TypeId} {u : Value} {n : Nat} (h : Mv W A ms) (hb : Below W.heap.size W W2) (ho : W2.ownsRow B e 38 u n (mots ms)) : ∃ D d, u = .slice D n d ∧ Mv W2 D ms := by
  obtain ⟨D, d, rfl, _, _, hr, _⟩ := own_all ho
  exact ⟨D, d, rfl, hr, h.ok, fun m hm => (h.os m hm).below hb⟩
set_option maxRecDepth 100000 in
set_option maxHeartbeats 2000000 in
theorem creads_any (w : World) (A : Option Addr) (c : Nat) (b : List UInt8) (mx : Int) (hm : w.cell? ⟨0, 0, none⟩ = some (.int .i64 mx)) (hw : 0 < w.heap.size) (hb : Rv w.heap.size w A (bys b)) (hA : A = none → c = 0) (hc : b.length ≤ c) (hbn : b.length ≤ maxLen) :
    Calls Tryd.prog 3 #[.slice A b.length c] w fun e w2 => e = .returned (.bool true) ∧ Below w.heap.size w w2 := by
  have HMX := Lib.hid hm
  have HB := Lib.hid hb
  have HAN := Lib.hid hA
  unfold maxLen at hbn
  by_cases h5 : 5000 < b.length
  · have HWK := Lib.hid (works_any w mx hm hw)
    clear hb hm hA
    go_enter Tryd.func3, Tryd.ntmps3
    go_wp2_with (go_at_call 6; refine HWK.out.mono ?_; rintro en w1 ⟨rfl, hb1⟩; have B1 := Lib.hid hb1; clear hb1)
    go_ret
    exact ⟨rfl, B1.out⟩
  have HB0 := Lib.hid ((Below.refl w.heap.size w).alloc (Nat.le_refl _) (.cells #[] 5))
  have hs0 : (w.alloc (.cells #[] 5)).heap.size = w.heap.size + 1 := World.size_alloc _ _
  have HS0 := Lib.hid hs0
  have HR0 := Lib.hid (hb.below HB0.out)
  have HLN := Lib.hid (readP_len b)
  have HRD := fun (W : World) (D : Option Addr) (d : Nat) (h1 : W.cell? ⟨0, 0, none⟩ = some (.int .i64 mx)) (h2 : 0 < W.heap.size) h3 h4 h5 => Lib.hid (read_any W D d b mx h1 h2 h3 h4 h5 (by omega))
  have HFD := fun (W : World) h3 => Lib.hid (fread_any W A c b h3 hA hc (by omega))
  have HRDH := Lib.hid HRD
  have HFDH := Lib.hid HFD
  clear HRD HFD
  generalize readP b = RP at *
  obtain ⟨rl, re⟩ := RP
  dsimp only at HLN
  have hln := HLN.out
  clear hs0 hb hm hA
  go_enter Tryd.func3, Tryd.ntmps3
  go_upto_region 4 with (at_builtin; refine wpList_app sl22 rfl (.tmp 12) (.tmp 13) rfl w.heap.size _ 0 [] rfl (empty22_own w) A b.length c (bys b) rfl HAN.out (by rw [bys_len, Nat.mul_one]) HR0.out (bys_one _) (by unfold maxLen; omega) (by omega) (by rw [HS0.out]; omega) ?_; intro v2 w2 ho ha; rw [Nat.zero_add, List.nil_append] at ho; have HO := Lib.hid ho; have HA := Lib.hid ha; clear ho ha)
  obtain ⟨D, d, hv2, hDn, hdd, hrv, _⟩ := own_all HO.out
  subst hv2
  have B2 := Lib.hid (HB0.out.trans (below_of_grown HA.out.grown (by rw [HS0.out]; omega) (fun k hk => Nat.le_of_eq (Option.some.inj (show some w.heap.size = some k from hk)))))
  have hs2 := B2.out.size
  have HRV := Lib.hid hrv
  have HRD := HRDH.out w2 D d ((B2.out.cell (p := ⟨0, 0, none⟩) hw).trans HMX.out) (by omega) hrv hDn hdd
  clear hrv HRDH HO HA hDn
  go_upto_region 6 with (first | (go_at_call 7; refine HRD.out.mono ?_; rintro en w3 ⟨G, gc, ns, rfl, hmap, hmv, hgot, hgc, _, hb3⟩; dsimp only at hmap; dsimp only; have B3 := Lib.hid (B2.out.trans (hb3.mono B2.out.size)); have B23 := Lib.hid hb3; have M3 := Lib.hid hmv; have HMAP := Lib.hid hmap; have HGOT := Lib.hid hgot; have HFR := HFDH.out w3 (HB.out.low B3.out B3.out.size); clear hmap hmv hgot hb3 HRD) | (go_at_call 8; refine HFR.out.mono ?_; rintro en w4 ⟨G2, gc2, ns2, rfl, hmap2, hmv2, _, hgc2, _, hb4⟩; dsimp only at hmap2; dsimp only; have B4 := Lib.hid (B3.out.trans (hb4.mono B3.out.size)); have B24 := Lib.hid (B23.out.trans (hb4.mono B23.out.size)); have M4 := Lib.hid (M3.out.below hb4); have M42 := Lib.hid hmv2; have HMAP2 := Lib.hid hmap2; clear hmap2 hmv2 hb4 HFR))
  have hnl : ns.length ≤ 64 := by have := congrArg List.length HMAP.out; rw [List.length_map] at this; omega
  have hnl2 : ns2.length = ns.length := by have h1 := congrArg List.length HMAP.out; have h2 := congrArg List.length HMAP2.out; rw [List.length_map] at h1 h2; omega
  have HPL := Lib.hid (plain33_any w4 G gc ns M4.out (by omega))
  have HN2 := Lib.hid hnl2
  clear hnl2
  go_wp2_with (first | (go_at_call 10; refine HPL.out.mono ?_; rintro en w5 ⟨u5, rfl, ho5, hb5⟩; obtain ⟨D5, d5, rfl, hm5⟩ := M4.out.copy2 hb5 ho5; have B5 := Lib.hid (B4.out.trans (hb5.mono B4.out.size)); have B25 := Lib.hid (B24.out.trans (hb5.mono B24.out.size)); have HSA := Lib.hid (rsame_any w5 D5 G2 d5 gc2 ns ns2 (HMAP.out.trans HMAP2.out.symm) hm5 (M42.out.below hb5) (fun m hm => (HGOT.out m hm).small) (by omega)); clear ho5 hb5 hm5 HPL) | (go_at_call 9; refine HSA.out.mono ?_; rintro en w6 ⟨rfl, hb6⟩; have B6 := Lib.hid (B5.out.trans (hb6.mono B5.out.size)); have B26 := Lib.hid (B25.out.trans (hb6.mono B25.out.size)); have HSM := Lib.hid (fsame_any w6 D A d c b b (HRV.out.low B26.out B26.out.size) (HB.out.low B6.out B6.out.size)); have HWK := Lib.hid (works_any w6 mx ((B6.out.cell (p := ⟨0, 0, none⟩) hw).trans HMX.out) (by have := B6.out.size; omega)); clear hb6 HSA) | (go_at_call 11; refine HSM.out.mono ?_; rintro en w9 ⟨rfl, hw9⟩; subst w9; rw [decide_eq_true trivial]) | (go_at_call 6; refine HWK.out.mono ?_; rintro en w10 ⟨rfl, hb10⟩; have B10 := Lib.hid (B6.out.trans (hb10.mono B6.out.size)); clear hb10))
  go_ret
  exact ⟨rfl, B10.out⟩
end Go.Proofs.YthhmamkphcgocaaDoor

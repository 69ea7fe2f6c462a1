/- sleuthref26.copies, by a contract. sleuthref26.near's first loop: what is there and what is not, as a law of the loop. -/
import Derived.Test.YtbmpidacoohdmaaGreatF17
import Derived.Test.YtbmpidacoohdmaaGreatF23
namespace Go.Proofs.YtbmpidacoohdmaaGreat.Rn
open Lib renaming hid → hI
open Go.RowKit
attribute [local go_sem ↓] load44_eq load46_eq
attribute [local go_sem] later_refl later_drew_iff later_drewN_iff later_a1 later_a2 later_a3 later_a4

set_option maxRecDepth 100000 in
set_option maxHeartbeats 4000000 in
theorem rcopies_any (w : World) (B g : Nat) (v0 v1 v2 v3 : Value) (l : List Chg) (A : Option Addr) (c : Nat) (r : St) (hf : Flds w B g 73 [v0, v1, v2, v3] (rowsS r)) (hlen : r.fr.length = l.length ∧ r.sc.length = l.length ∧ r.kd.length = l.length ∧ r.tk.length = l.length) (hB : B ≤ w.heap.size) (hl : LReads w B A l) (ok : ∀ (k : Nat) (x : Chg), l[k]? = some x → x.ok) (hn : l.length ≤ 40) :
    Calls Tryz.prog 24 #[.slice A l.length c, .agg #[v0, v1, v2, v3]] w fun e w' => e = .returned (.tuple #[]) ∧ Flds w' B g 73 [v0, v1, v2, v3] (rowsS (rcTo l r l.length)) ∧ Below B w w' := by
  have OFF : Hid (∀ (i : Nat) (v : Value), [v0, v1, v2, v3][i]? = some v → v.ownBlock ≠ some g) := hI hf.off
  have GLT := hI hf.lt
  have HBB := hI hB
  have HLL := hI hl
  have HKK := hI ok
  have LEN := hI hlen
  have hF0 : Flds (w.alloc (.cells #[v0, v1, v2, v3] 73)) B w.heap.size 73 [v0, v1, v2, v3] (rowsS r) := hf.copied (fun i v hv => hf.below hv)
  have hg0 : (w.alloc (.cells #[v0, v1, v2, v3] 73)).heap[g]? = some (.cells #[v0, v1, v2, v3] 73 (0, 0)) := (Below.heap_alloc _ _ _ hf.lt).trans hf.blk
  have hb0 : Below B w (w.alloc (.cells #[v0, v1, v2, v3] 73)) := (Below.refl _ _).alloc hB _
  have F0 := hI hF0
  have G0 := hI hg0
  have B0 := hI hb0
  clear hf hB hl ok hlen hF0 hg0 hb0
  go_enter Tryz.func24, Tryz.ntmps24
  go_wp2_with fail
  go_loopw [4] (fun k_ wr => ∃ k : Nat, k ≤ l.length ∧ k_ = .int .i64 k ∧ Hid (Flds wr B w.heap.size 73 [v0, v1, v2, v3] (rowsS (rcTo l r k))) ∧ Hid (wr.heap[g]? = some (.cells #[v0, v1, v2, v3] 73 (0, 0))) ∧ Hid (Below B w wr)) (fun k_ _ => l.length - (intOf k_).toNat)
  case atStart => exact ⟨0, Nat.zero_le _, rfl, F0.out, G0.out, B0.out⟩
  case round =>
    obtain ⟨k, hk, rfl, hF, hgb, hb⟩ := hrel
    clear F0 G0 B0
    by_cases hkl : k < l.length
    · go_wp2_with fail
      go_loopw [5] (fun i_ wr => ∃ (j : Nat) (z : Int), j ≤ l.length ∧ z = (l.length : Int) - 1 - j ∧ i_ = .int .i64 z ∧ Hid (Flds wr B w.heap.size 73 [v0, v1, v2, v3] (rowsS (rcS l (rcTo l r k) k j))) ∧ Hid (wr.heap[g]? = some (.cells #[v0, v1, v2, v3] 73 (0, 0))) ∧ Hid (Below B w wr)) (fun i_ _ => (intOf i_ + 1).toNat)
      case atStart => exact ⟨0, (l.length : Int) - 1, Nat.zero_le _, by omega, by go_num, hF.out, hgb.out, hb.out⟩
      case round =>
        clear hF hgb hb
        obtain ⟨j, z, hj, hz, rfl, hF, hgb, hb⟩ := hrel
        obtain ⟨lF, lS, lK, lT⟩ := rcS_len l (rcTo l r k) k (rcTo_len l r LEN.out k) j
        by_cases hjl : j < l.length
        · have HST := hI (show rcS l (rcTo l r k) k (j + 1) = if isT5 l (rcS l (rcTo l r k) k j) k && copHit l k (l.length - 1 - j) then pairC (rcS l (rcTo l r k) k j) (l.length - 1 - j) k else rcS l (rcTo l r k) k j from rfl)
          obtain ⟨i, hi⟩ : ∃ i : Nat, i = l.length - 1 - j := ⟨_, rfl⟩
          rw [← hi] at HST
          obtain rfl : z = (i : Int) := by omega
          generalize rcS l (rcTo l r k) k j = s at *
          have hil : i < l.length := by omega
          have hrd : LReads wr B A l := HLL.out.keep fun p hp => hb.out.cell hp
          have hok : (l.getD k default).ok := HKK.out k _ (by simp [hkl])
          have hoki : (l.getD i default).ok := HKK.out i _ (by simp [hil])
          obtain ⟨ad, rfl, hadb, hcs⟩ := hrd k (l.getD k default) (by simp [hkl])
          obtain ⟨ad', he', _, hcsi⟩ := hrd i (l.getD i default) (by simp [hil])
          obtain rfl : ad = ad' := by injection he'
          have HB : Hid (B ≤ wr.heap.size) := hI (Nat.le_trans HBB.out hb.out.size)
          have HG : Hid (g < wr.heap.size) := hI (Nat.lt_of_lt_of_le GLT.out hb.out.size)
          have h4 := hF.out
          obtain ⟨F, cF, rfl, _, zF, gF, eF, fF⟩ := h4.at_ (i := 0) (k := k) (v := v0) rfl rfl (int_at (by omega))
          obtain ⟨K, cK, rfl, _, zK, gK, eK, fK⟩ := h4.at_ (i := 1) (k := k) (v := v1) rfl rfl (int_at (by omega))
          obtain ⟨S, cS, rfl, _, zS, gS, eS, fS⟩ := h4.at_ (i := 2) (k := k) (v := v2) rfl rfl (int_at (by omega))
          have hle0 : (ints s.fr).length = l.length := by simp [ints, lF]
          have hle1 : (ints s.kd).length = l.length := by simp [ints, lK]
          have hle2 : (ints s.sc).length = l.length := by simp [ints, lS]
          have OF : Hid (g ≠ F) := hI (fun e => OFF.out 0 _ rfl (by rw [e]; rfl))
          have OK : Hid (g ≠ K) := hI (fun e => OFF.out 1 _ rfl (by rw [e]; rfl))
          have OS : Hid (g ≠ S) := hI (fun e => OFF.out 2 _ rfl (by rw [e]; rfl))
          have kx : ∀ W : Aft wr, W.W.cell? (ad.add (i * 70)) = some (.int .i64 (l.getD i default).kind) := fun W => (W.cell (by rw [block_add]; have := HB.out; omega)).trans (hcsi.zero rfl)
          have ky : ∀ W : Aft wr, W.W.cell? (ad.add (k * 70)) = some (.int .i64 (l.getD k default).kind) := fun W => (W.cell (by rw [block_add]; have := HB.out; omega)).trans (hcs.zero rfl)
          have ck : ∀ W : Aft wr, W.W.cell? ⟨w.heap.size, 1, none⟩ = some (.slice (some ⟨K, 0, none⟩) l.length cK) := fun W => (W.cell h4.lt).trans ((h4.cell 1).trans (by rw [hle1]; rfl))
          have ek : ∀ W : Aft wr, W.W.cell? ⟨K, k, none⟩ = some (.int .i64 (s.kd.getD k 0)) := fun W => (W.cell zK).trans eK
          have ho : ∀ w', (∃ W : Aft wr, w' = W.W) → CellsAt w' ⟨(ad.add (i * 70)).block, (ad.add (i * 70)).off + 5, none⟩ (u8s (l.getD i default).oid) := by
            rintro _ ⟨W, rfl⟩
            have hp := (hcsi.part 5).take 32
            rw [Chg.oid_part _ hoki] at hp
            exact hp.keep fun p hp' => W.cell (by rw [hp', block_add, block_add]; have := HB.out; omega)
          have hn' : ∀ w', (∃ W : Aft wr, w' = W.W) → CellsAt w' ⟨(ad.add (k * 70)).block, (ad.add (k * 70)).off + 37, none⟩ (u8s (l.getD k default).nid) := by
            rintro _ ⟨W, rfl⟩
            have hp := (hcs.part 37).take 32
            rw [Chg.nid_part _ hok] at hp
            exact hp.keep fun p hp' => W.cell (by rw [hp', block_add, block_add]; have := HB.out; omega)
          have hlo2 : (Tryz.prog.info? 51).map (·.size) = some (u8s (l.getD i default).oid).length := by rw [u8s_length, hoki.oid]; exact info44
          have hln2 : (Tryz.prog.info? 51).map (·.size) = some (u8s (l.getD k default).nid).length := by rw [u8s_length, hok.nid]; exact info44
          have hq1 : ∀ W, (Op.equalIn 10000 51 (.agg (u8s (l.getD i default).oid).toArray) (.agg (u8s (l.getD k default).nid).toArray)).run Tryz.prog W = .ok (decide ((l.getD i default).oid = (l.getD k default).nid)) W := fun W => run_equalIn_u8s (P := Tryz.prog) (n := 32) W Tryz.underlying51 Tryz.underlying5 (Option.map_eq_some_iff.1 info5).choose_spec.1 (Option.map_eq_some_iff.1 info5).choose_spec.2 9998 _ _ hoki.oid hok.nid
          unfold isT5 copHit at HST
          have HO := hI ho
          have HN := hI hn'
          have HLO := hI hlo2
          have HLN := hI hln2
          have HF := hI h4
          have HZ := hI hz
          have HJ := hI hjl
          clear hz hi hj hjl ho hn' hlo2 hln2 h4 hF hrd hok hoki hcs hcsi he' eF eK eS fF fK fS gF gK gS zF zK zS
          generalize l.getD i default = x at *
          generalize l.getD k default = y at *
          generalize hkd : s.kd.getD k 0 = kd at *
          have HKD := hI hkd
          clear hkd
          rcases hb1 : (y.kind == 1) with _ | _ <;> rw [hb1] at HST
          · go_wp2_with fail
            refine wp_region_aft (by kernel_rfl) (by kernel_rfl) ?_
            repeat (first
              | (go_big_quiet_want; refine quiet_load_cells 51 _ rfl _ rfl (u8s x.oid) Tryz.underlying51 rfl HLO.out HO.out ?_; simp only [Act.put, List.setIfInBounds_toArray, List.set_cons_succ, List.set_cons_zero]; go_big_quiet_on)
              | (go_big_quiet_want; refine quiet_load_cells 51 _ rfl _ rfl (u8s y.nid) Tryz.underlying51 rfl HLN.out HN.out ?_; simp only [Act.put, List.setIfInBounds_toArray, List.set_cons_succ, List.set_cons_zero]; go_big_quiet_on)
              | go_big_quiet_step (fail))
            refine wpQuiet_nil ?_
            rintro _ ⟨W1, rfl⟩
            go_wp2
            refine ⟨⟨j + 1, (i : Int) - 1, HJ.out, by have := HZ.out; omega, by go_num, ?_, ?_, ?_⟩, by simp [intOf]⟩
            · rw [HST.out]; exact (HF.out.later W1.later : _)
            · exact ((W1.h.block g HG.out).trans hgb.out : _)
            · exact (hb.out.trans (W1.h.mono HB.out) : _)
          · rcases hb2 : (kd == 0) with _ | _ <;> rw [hb2] at HST
            · rcases hb3 : (kd == 5) with _ | _ <;> rw [hb3] at HST
              · go_wp2_with fail
                refine wp_region_aft (by kernel_rfl) (by kernel_rfl) ?_
                repeat (first
                  | (go_big_quiet_want; refine quiet_load_cells 51 _ rfl _ rfl (u8s x.oid) Tryz.underlying51 rfl HLO.out HO.out ?_; simp only [Act.put, List.setIfInBounds_toArray, List.set_cons_succ, List.set_cons_zero]; go_big_quiet_on)
                  | (go_big_quiet_want; refine quiet_load_cells 51 _ rfl _ rfl (u8s y.nid) Tryz.underlying51 rfl HLN.out HN.out ?_; simp only [Act.put, List.setIfInBounds_toArray, List.set_cons_succ, List.set_cons_zero]; go_big_quiet_on)
                  | go_big_quiet_step (fail))
                refine wpQuiet_nil ?_
                rintro _ ⟨W1, rfl⟩
                go_wp2
                refine ⟨⟨j + 1, (i : Int) - 1, HJ.out, by have := HZ.out; omega, by go_num, ?_, ?_, ?_⟩, by simp [intOf]⟩
                · rw [HST.out]; exact (HF.out.later W1.later : _)
                · exact ((W1.h.block g HG.out).trans hgb.out : _)
                · exact (hb.out.trans (W1.h.mono HB.out) : _)
              · rcases hb4 : (x.kind == 3) with _ | _ <;> rw [hb4] at HST
                · go_wp2_with fail
                  refine wp_region_aft (by kernel_rfl) (by kernel_rfl) ?_
                  repeat (first
                    | (go_big_quiet_want; refine quiet_load_cells 51 _ rfl _ rfl (u8s x.oid) Tryz.underlying51 rfl HLO.out HO.out ?_; simp only [Act.put, List.setIfInBounds_toArray, List.set_cons_succ, List.set_cons_zero]; go_big_quiet_on)
                    | (go_big_quiet_want; refine quiet_load_cells 51 _ rfl _ rfl (u8s y.nid) Tryz.underlying51 rfl HLN.out HN.out ?_; simp only [Act.put, List.setIfInBounds_toArray, List.set_cons_succ, List.set_cons_zero]; go_big_quiet_on)
                    | go_big_quiet_step (fail))
                  refine wpQuiet_nil ?_
                  rintro _ ⟨W1, rfl⟩
                  go_wp2
                  refine ⟨⟨j + 1, (i : Int) - 1, HJ.out, by have := HZ.out; omega, by go_num, ?_, ?_, ?_⟩, by simp [intOf]⟩
                  · rw [HST.out]; exact (HF.out.later W1.later : _)
                  · exact ((W1.h.block g HG.out).trans hgb.out : _)
                  · exact (hb.out.trans (W1.h.mono HB.out) : _)
                · rcases hb5 : decide (x.oid = y.nid) with _ | _ <;> (rw [hb5] at HST; simp only [hb5] at hq1)
                  · go_wp2_with fail
                    refine wp_region_aft (by kernel_rfl) (by kernel_rfl) ?_
                    repeat (first
                      | (go_big_quiet_want; refine quiet_load_cells 51 _ rfl _ rfl (u8s x.oid) Tryz.underlying51 rfl HLO.out HO.out ?_; simp only [Act.put, List.setIfInBounds_toArray, List.set_cons_succ, List.set_cons_zero]; go_big_quiet_on)
                      | (go_big_quiet_want; refine quiet_load_cells 51 _ rfl _ rfl (u8s y.nid) Tryz.underlying51 rfl HLN.out HN.out ?_; simp only [Act.put, List.setIfInBounds_toArray, List.set_cons_succ, List.set_cons_zero]; go_big_quiet_on)
                      | go_big_quiet_step (fail))
                    refine wpQuiet_nil ?_
                    rintro _ ⟨W1, rfl⟩
                    go_wp2
                    refine ⟨⟨j + 1, (i : Int) - 1, HJ.out, by have := HZ.out; omega, by go_num, ?_, ?_, ?_⟩, by simp [intOf]⟩
                    · rw [HST.out]; exact (HF.out.later W1.later : _)
                    · exact ((W1.h.block g HG.out).trans hgb.out : _)
                    · exact (hb.out.trans (W1.h.mono HB.out) : _)
                  · go_wp2_with fail
                    refine wp_region_aft (by kernel_rfl) (by kernel_rfl) ?_
                    repeat (first
                      | (go_big_quiet_want; refine quiet_load_cells 51 _ rfl _ rfl (u8s x.oid) Tryz.underlying51 rfl HLO.out HO.out ?_; simp only [Act.put, List.setIfInBounds_toArray, List.set_cons_succ, List.set_cons_zero]; go_big_quiet_on)
                      | (go_big_quiet_want; refine quiet_load_cells 51 _ rfl _ rfl (u8s y.nid) Tryz.underlying51 rfl HLN.out HN.out ?_; simp only [Act.put, List.setIfInBounds_toArray, List.set_cons_succ, List.set_cons_zero]; go_big_quiet_on)
                      | go_big_quiet_step (fail))
                    refine wpQuiet_nil ?_
                    rintro _ ⟨W1, rfl⟩
                    have G0 := hI (HF.out.later W1.later)
                    have M0 := hI (hb.out.trans (W1.h.mono HB.out))
                    have N0 : Hid (W1.W.heap[g]? = some (.cells #[.slice (some ⟨F, 0, none⟩) (ints s.fr).length cF, .slice (some ⟨K, 0, none⟩) (ints s.kd).length cK, .slice (some ⟨S, 0, none⟩) (ints s.sc).length cS, v3] 73 (0, 0))) := hI ((W1.h.block g HG.out).trans hgb.out)
                    generalize W1.W = V0 at *
                    have E0 := hI (G0.out.elem (i := 0) (k := k) rfl rfl (int_at (xs := s.fr) (by omega)))
                    have d0 := G0.out.cell 0
                    simp only [List.getElem?_cons_zero, hle0] at d0
                    have s0 := G0.out.lt
                    go_wp2_with (first
                      | (refine wpList_store1 rfl 3 (.tmp 66) (.tmp 65) rfl ⟨F, k, none⟩ rfl (.int .i64 (i : Int)) _ rfl rfl info3c E0.out.1 E0.out.2.1 rfl ?_; intro V1 hV1; have G1 := hI (hV1 ▸ G0.out.stored (i := 0) (k := k) (x := .int .i64 (i : Int)) rfl rfl); have M1 := hI (hV1 ▸ M0.out.setCell (p := ⟨F, k, none⟩) E0.out.2.2.1 (.int .i64 (i : Int))); have N1 : Hid (V1.heap[g]? = some (.cells #[.slice (some ⟨F, 0, none⟩) (ints s.fr).length cF, .slice (some ⟨K, 0, none⟩) (ints s.kd).length cK, .slice (some ⟨S, 0, none⟩) (ints s.sc).length cS, v3] 73 (0, 0))) := hI (hV1 ▸ (Below.heap_setCell _ _ _ _ OF.out).trans N0.out); clear hV1; have E1 := hI (G1.out.elem (i := 1) (k := k) rfl rfl (int_at (xs := s.kd) (by omega))); have d1 := G1.out.cell 1; simp only [List.getElem?_cons_succ, List.getElem?_cons_zero, hle1] at d1; have s1 := G1.out.lt)
                      | (refine wpList_store1 rfl 3 (.tmp 70) (.const (.int .i64 5)) rfl ⟨K, k, none⟩ rfl (.int .i64 5) _ rfl rfl info3c E1.out.1 E1.out.2.1 rfl ?_; intro V2 hV2; have G2 := hI (hV2 ▸ G1.out.stored (i := 1) (k := k) (x := .int .i64 5) rfl rfl); have M2 := hI (hV2 ▸ M1.out.setCell (p := ⟨K, k, none⟩) E1.out.2.2.1 (.int .i64 5)); have N2 := hI (hV2 ▸ (Below.heap_setCell _ _ _ _ OK.out).trans N1.out); clear hV2; have E2 := hI (G2.out.elem (i := 2) (k := k) rfl rfl (int_at (xs := s.sc) (by omega))); have d2 := G2.out.cell 2; simp only [List.getElem?_cons_succ, List.getElem?_cons_zero, hle2] at d2; have s2 := G2.out.lt)
                      | (refine wpList_store1 rfl 3 (.tmp 74) (.const (.int .i64 1000)) rfl ⟨S, k, none⟩ rfl (.int .i64 1000) _ rfl rfl info3c E2.out.1 E2.out.2.1 rfl ?_; intro V3 hV3; have G3 := hI (hV3 ▸ G2.out.stored (i := 2) (k := k) (x := .int .i64 1000) rfl rfl); have M3 := hI (hV3 ▸ M2.out.setCell (p := ⟨S, k, none⟩) E2.out.2.2.1 (.int .i64 1000)); have N3 := hI (hV3 ▸ (Below.heap_setCell _ _ _ _ OS.out).trans N2.out); clear hV3))
                    refine ⟨⟨j + 1, (i : Int) - 1, HJ.out, by have := HZ.out; omega, by go_num, ?_, ?_, ?_⟩, by simp [intOf]⟩
                    · rw [HST.out]
                      change Hid (Flds V3 B w.heap.size 73 _ (rowsS (pairC s i k)))
                      have h := G3.out
                      simp only [rowsS, rows4, pairC, ints_set]
                      exact h
                    · exact N3.out
                    · exact M3.out
            · rcases hb4 : (x.kind == 3) with _ | _ <;> rw [hb4] at HST
              · go_wp2_with fail
                refine wp_region_aft (by kernel_rfl) (by kernel_rfl) ?_
                repeat (first
                  | (go_big_quiet_want; refine quiet_load_cells 51 _ rfl _ rfl (u8s x.oid) Tryz.underlying51 rfl HLO.out HO.out ?_; simp only [Act.put, List.setIfInBounds_toArray, List.set_cons_succ, List.set_cons_zero]; go_big_quiet_on)
                  | (go_big_quiet_want; refine quiet_load_cells 51 _ rfl _ rfl (u8s y.nid) Tryz.underlying51 rfl HLN.out HN.out ?_; simp only [Act.put, List.setIfInBounds_toArray, List.set_cons_succ, List.set_cons_zero]; go_big_quiet_on)
                  | go_big_quiet_step (fail))
                refine wpQuiet_nil ?_
                rintro _ ⟨W1, rfl⟩
                go_wp2
                refine ⟨⟨j + 1, (i : Int) - 1, HJ.out, by have := HZ.out; omega, by go_num, ?_, ?_, ?_⟩, by simp [intOf]⟩
                · rw [HST.out]; exact (HF.out.later W1.later : _)
                · exact ((W1.h.block g HG.out).trans hgb.out : _)
                · exact (hb.out.trans (W1.h.mono HB.out) : _)
              · rcases hb5 : decide (x.oid = y.nid) with _ | _ <;> (rw [hb5] at HST; simp only [hb5] at hq1)
                · go_wp2_with fail
                  refine wp_region_aft (by kernel_rfl) (by kernel_rfl) ?_
                  repeat (first
                    | (go_big_quiet_want; refine quiet_load_cells 51 _ rfl _ rfl (u8s x.oid) Tryz.underlying51 rfl HLO.out HO.out ?_; simp only [Act.put, List.setIfInBounds_toArray, List.set_cons_succ, List.set_cons_zero]; go_big_quiet_on)
                    | (go_big_quiet_want; refine quiet_load_cells 51 _ rfl _ rfl (u8s y.nid) Tryz.underlying51 rfl HLN.out HN.out ?_; simp only [Act.put, List.setIfInBounds_toArray, List.set_cons_succ, List.set_cons_zero]; go_big_quiet_on)
                    | go_big_quiet_step (fail))
                  refine wpQuiet_nil ?_
                  rintro _ ⟨W1, rfl⟩
                  go_wp2
                  refine ⟨⟨j + 1, (i : Int) - 1, HJ.out, by have := HZ.out; omega, by go_num, ?_, ?_, ?_⟩, by simp [intOf]⟩
                  · rw [HST.out]; exact (HF.out.later W1.later : _)
                  · exact ((W1.h.block g HG.out).trans hgb.out : _)
                  · exact (hb.out.trans (W1.h.mono HB.out) : _)
                · go_wp2_with fail
                  refine wp_region_aft (by kernel_rfl) (by kernel_rfl) ?_
                  repeat (first
                    | (go_big_quiet_want; refine quiet_load_cells 51 _ rfl _ rfl (u8s x.oid) Tryz.underlying51 rfl HLO.out HO.out ?_; simp only [Act.put, List.setIfInBounds_toArray, List.set_cons_succ, List.set_cons_zero]; go_big_quiet_on)
                    | (go_big_quiet_want; refine quiet_load_cells 51 _ rfl _ rfl (u8s y.nid) Tryz.underlying51 rfl HLN.out HN.out ?_; simp only [Act.put, List.setIfInBounds_toArray, List.set_cons_succ, List.set_cons_zero]; go_big_quiet_on)
                    | go_big_quiet_step (fail))
                  refine wpQuiet_nil ?_
                  rintro _ ⟨W1, rfl⟩
                  have G0 := hI (HF.out.later W1.later)
                  have M0 := hI (hb.out.trans (W1.h.mono HB.out))
                  have N0 : Hid (W1.W.heap[g]? = some (.cells #[.slice (some ⟨F, 0, none⟩) (ints s.fr).length cF, .slice (some ⟨K, 0, none⟩) (ints s.kd).length cK, .slice (some ⟨S, 0, none⟩) (ints s.sc).length cS, v3] 73 (0, 0))) := hI ((W1.h.block g HG.out).trans hgb.out)
                  generalize W1.W = V0 at *
                  have E0 := hI (G0.out.elem (i := 0) (k := k) rfl rfl (int_at (xs := s.fr) (by omega)))
                  have d0 := G0.out.cell 0
                  simp only [List.getElem?_cons_zero, hle0] at d0
                  have s0 := G0.out.lt
                  go_wp2_with (first
                    | (refine wpList_store1 rfl 3 (.tmp 66) (.tmp 65) rfl ⟨F, k, none⟩ rfl (.int .i64 (i : Int)) _ rfl rfl info3c E0.out.1 E0.out.2.1 rfl ?_; intro V1 hV1; have G1 := hI (hV1 ▸ G0.out.stored (i := 0) (k := k) (x := .int .i64 (i : Int)) rfl rfl); have M1 := hI (hV1 ▸ M0.out.setCell (p := ⟨F, k, none⟩) E0.out.2.2.1 (.int .i64 (i : Int))); have N1 : Hid (V1.heap[g]? = some (.cells #[.slice (some ⟨F, 0, none⟩) (ints s.fr).length cF, .slice (some ⟨K, 0, none⟩) (ints s.kd).length cK, .slice (some ⟨S, 0, none⟩) (ints s.sc).length cS, v3] 73 (0, 0))) := hI (hV1 ▸ (Below.heap_setCell _ _ _ _ OF.out).trans N0.out); clear hV1; have E1 := hI (G1.out.elem (i := 1) (k := k) rfl rfl (int_at (xs := s.kd) (by omega))); have d1 := G1.out.cell 1; simp only [List.getElem?_cons_succ, List.getElem?_cons_zero, hle1] at d1; have s1 := G1.out.lt)
                    | (refine wpList_store1 rfl 3 (.tmp 70) (.const (.int .i64 5)) rfl ⟨K, k, none⟩ rfl (.int .i64 5) _ rfl rfl info3c E1.out.1 E1.out.2.1 rfl ?_; intro V2 hV2; have G2 := hI (hV2 ▸ G1.out.stored (i := 1) (k := k) (x := .int .i64 5) rfl rfl); have M2 := hI (hV2 ▸ M1.out.setCell (p := ⟨K, k, none⟩) E1.out.2.2.1 (.int .i64 5)); have N2 := hI (hV2 ▸ (Below.heap_setCell _ _ _ _ OK.out).trans N1.out); clear hV2; have E2 := hI (G2.out.elem (i := 2) (k := k) rfl rfl (int_at (xs := s.sc) (by omega))); have d2 := G2.out.cell 2; simp only [List.getElem?_cons_succ, List.getElem?_cons_zero, hle2] at d2; have s2 := G2.out.lt)
                    | (refine wpList_store1 rfl 3 (.tmp 74) (.const (.int .i64 1000)) rfl ⟨S, k, none⟩ rfl (.int .i64 1000) _ rfl rfl info3c E2.out.1 E2.out.2.1 rfl ?_; intro V3 hV3; have G3 := hI (hV3 ▸ G2.out.stored (i := 2) (k := k) (x := .int .i64 1000) rfl rfl); have M3 := hI (hV3 ▸ M2.out.setCell (p := ⟨S, k, none⟩) E2.out.2.2.1 (.int .i64 1000)); have N3 := hI (hV3 ▸ (Below.heap_setCell _ _ _ _ OS.out).trans N2.out); clear hV3))
                  refine ⟨⟨j + 1, (i : Int) - 1, HJ.out, by have := HZ.out; omega, by go_num, ?_, ?_, ?_⟩, by simp [intOf]⟩
                  · rw [HST.out]
                    change Hid (Flds V3 B w.heap.size 73 _ (rowsS (pairC s i k)))
                    have h := G3.out
                    simp only [rowsS, rows4, pairC, ints_set]
                    exact h
                  · exact N3.out
                  · exact M3.out
        · obtain rfl : j = l.length := by omega
          have HN := hI (show rcTo l r (k + 1) = rcS l (rcTo l r k) k l.length from rfl)
          go_wp2_with fail
          exact ⟨⟨k + 1, by omega, by go_num, by rw [HN.out]; exact hF, hgb, hb⟩, by simp [intOf]; omega⟩
    · go_wp2_with fail
      go_end0
      obtain rfl : k = l.length := by omega
      have h4 := hF.out
      exact ⟨rfl, ⟨hgb.out, h4.len, h4.own, h4.far, OFF.out⟩, hb.out⟩
end Go.Proofs.YtbmpidacoohdmaaGreat.Rn
namespace Go.Proofs.YtbmpidacoohdmaaGreat
open Lib renaming hid → hI
open Go.RowKit Op
open Rn (Chg LReads CellsAt Fnd St isSource isTarget Flds rowsS int_at boo_at info3c info4c)

theorem own_grown2 {w w2 : World} {C size : Nat} {e : TypeId} {v : Value} {n : Nat} {xs : List Value} {row : Option Nat} (h : w.ownsRow C e size v n xs) (hg : w.grownBy w2 row) (hne : v.ownBlock = none ∨ v.ownBlock ≠ row) : w2.ownsRow C e size v n xs :=
  own_chs h (Chs.of_row hg) fun q hq e => by
    rcases hne with h0 | h0
    · rw [h0] at hq; cases hq
    · exact h0 (hq.trans e)
theorem far_app2 {a b b2 : Option Nat} {n m : Nat} (ha : ∀ q, a = some q → q < n) (hnm : n ≤ m) (h : a = none ∨ a ≠ b) (hh : b2 = b ∨ b2 = some m) : a = none ∨ a ≠ b2 := by
  rcases hh with rfl | rfl
  · exact h
  · refine .inr fun e => ?_
    have := ha m e
    omega
theorem far_app1 {a a2 b : Option Nat} {n m : Nat} (hb : ∀ q, b = some q → q < n) (hnm : n ≤ m) (h : a = none ∨ a ≠ b) (hh : a2 = a ∨ a2 = some m) : a2 = none ∨ a2 ≠ b := by
  rcases hh with rfl | rfl
  · exact h
  · refine .inr fun e => ?_
    have := hb m e.symm
    omega
theorem far_sym {a b : Option Nat} (h : a = none ∨ a ≠ b) : b = none ∨ b ≠ a := by
  rcases h with rfl | h
  · cases b
    · exact .inl rfl
    · exact .inr (fun e => by cases e)
  · exact .inr (fun e => h e.symm)
noncomputable def rnear1_code : Code := ((Tryz.f23.body.map loopsIn).getD []).getD 0 .skip
set_option maxRecDepth 100000 in
set_option maxHeartbeats 1000000 in
theorem rnear1 (w : World) (B h : Nat) (v0 v1 v2 v3 : Value) (l : List Chg) (A : Option Addr) (c : Nat) (r : St) (hf : Flds w B h 73 [v0, v1, v2, v3] (rowsS r)) (hlen : r.fr.length = l.length ∧ r.sc.length = l.length ∧ r.kd.length = l.length ∧ r.tk.length = l.length) (hl : LReads w w.heap.size A l) (hn : l.length ≤ 40) (Q0 : Exit → Act → World → Prop) (z0 z2 z3 z4 z5 z7 z8 z9 z10 z14 z15 z16 z17 z18 z19 z20 z21 z22 z23 z24 z25 z26 z27 z28 z29 z30 z31 z32 z33 z34 z35 z36 z37 z38 z39 z40 z41 z42 z43 z44 z45 z46 z47 z48 z49 z50 z51 z52 z53 z54 z55 z56 z57 z58 z59 z60 z61 z62 z63 z64 z65 z66 z67 z68 z69 z70 z71 z72 z73 z74 z75 z76 z77 z78 z79 z80 z81 z82 z83 z84 z85 z86 z87 z88 z89 z90 z91 z92 z93 z94 z95 z96 z97 z98 z99 z100 z101 z102 z103 z104 z105 z106 z107 z108 z109 z110 z111 z112 z113 z114 z115 z116 z117 z118 z119 z120 z121 z122 z123 z124 z125 z126 z127 z128 z129 z130 z131 z132 z133 z134 z135 z136 z137 z138 z139 z140 z141 z142 z143 z144 z145 z146 z147 z148 z149 z150 z151 z152 z153 z154 z155 z156 z157 z158 z159 z160 z161 z162 z163 z164 z165 z166 z167 z168 z169 z170 z171 z172 z173 z174 z175 z176 z177 z178 z179 z180 z181 z182 z183 z184 z185 z186 z187 z188 z189 z190 z191 z192 z193 z194 z195 z196 z197 z198 z199 z200 z201 z202 z203 z204 z205 z206 z207 z208 z209 z210 z211 z212 z213 z214 z215 z216 z217 z218 z219 z220 z221 z222 z223 z224 z225 z226 z227 z228 z229 z230 z231 z232 z233 z234 z235 z236 z237 z238 z239 z240 z241 z242 z243 z244 z245 z246 z247 z248 z249 z250 z251 z252 z253 z254 z255 z256 z257 z258 z259 z260 z261 z262 z263 z264 z265 z266 z267 z268 z269 z270 z271 z272 z273 z274 z275 z276 z277 z278 z279 z280 z281 z282 z283 z284 z285 z286 z287 z288 z289 : Value)
    (hexit : Hid (∀ (v11 v12 : Value) (wr : World) (y42 y43 y44 y45 y46 y47 y48 y49 y50 y51 y52 y53 y54 y55 y56 y57 y58 y59 y60 y61 y62 y63 y64 y65 y66 y67 y68 y69 y70 y71 y72 y73 y74 y75 y76 y77 y78 y79 y80 y81 y82 y83 : Value), Hid (wr.ownsRow w.heap.size 3 1 v11 (pls (isSource l r) l.length).length (ntI2 (pls (isSource l r) l.length))) → Hid (wr.ownsRow w.heap.size 3 1 v12 (pls (isTarget l r) l.length).length (ntI2 (pls (isTarget l r) l.length))) → Hid (Below w.heap.size w wr) → Q0 (.exit 0) ⟨List.toArray (z0::(.slice A l.length c)::z2::z3::z4::z5::(.pointer (some ⟨h, 0, none⟩))::z7::z8::z9::z10::v11::v12::(.int .i64 (l.length : Int))::z14::z15::z16::z17::z18::z19::z20::z21::z22::z23::z24::z25::z26::z27::z28::z29::z30::z31::z32::z33::z34::z35::z36::z37::z38::z39::z40::z41::y42::y43::y44::y45::y46::y47::y48::y49::y50::y51::y52::y53::y54::y55::y56::y57::y58::y59::y60::y61::y62::y63::y64::y65::y66::y67::y68::y69::y70::y71::y72::y73::y74::y75::y76::y77::y78::y79::y80::y81::y82::y83::z84::z85::z86::z87::z88::z89::z90::z91::z92::z93::z94::z95::z96::z97::z98::z99::z100::z101::z102::z103::z104::z105::z106::z107::z108::z109::z110::z111::z112::z113::z114::z115::z116::z117::z118::z119::z120::z121::z122::z123::z124::z125::z126::z127::z128::z129::z130::z131::z132::z133::z134::z135::z136::z137::z138::z139::z140::z141::z142::z143::z144::z145::z146::z147::z148::z149::z150::z151::z152::z153::z154::z155::z156::z157::z158::z159::z160::z161::z162::z163::z164::z165::z166::z167::z168::z169::z170::z171::z172::z173::z174::z175::z176::z177::z178::z179::z180::z181::z182::z183::z184::z185::z186::z187::z188::z189::z190::z191::z192::z193::z194::z195::z196::z197::z198::z199::z200::z201::z202::z203::z204::z205::z206::z207::z208::z209::z210::z211::z212::z213::z214::z215::z216::z217::z218::z219::z220::z221::z222::z223::z224::z225::z226::z227::z228::z229::z230::z231::z232::z233::z234::z235::z236::z237::z238::z239::z240::z241::z242::z243::z244::z245::z246::z247::z248::z249::z250::z251::z252::z253::z254::z255::z256::z257::z258::z259::z260::z261::z262::z263::z264::z265::z266::z267::z268::z269::z270::z271::z272::z273::z274::z275::z276::z277::z278::z279::z280::z281::z282::z283::z284::z285::z286::z287::z288::z289::[]), []⟩ wr)) :
    Code.wp Tryz.prog (Code.loop rnear1_code) Q0 ⟨List.toArray (z0::(.slice A l.length c)::z2::z3::z4::z5::(.pointer (some ⟨h, 0, none⟩))::z7::z8::z9::z10::(.slice none 0 0)::(.slice none 0 0)::(.int .i64 0)::z14::z15::z16::z17::z18::z19::z20::z21::z22::z23::z24::z25::z26::z27::z28::z29::z30::z31::z32::z33::z34::z35::z36::z37::z38::z39::z40::z41::z42::z43::z44::z45::z46::z47::z48::z49::z50::z51::z52::z53::z54::z55::z56::z57::z58::z59::z60::z61::z62::z63::z64::z65::z66::z67::z68::z69::z70::z71::z72::z73::z74::z75::z76::z77::z78::z79::z80::z81::z82::z83::z84::z85::z86::z87::z88::z89::z90::z91::z92::z93::z94::z95::z96::z97::z98::z99::z100::z101::z102::z103::z104::z105::z106::z107::z108::z109::z110::z111::z112::z113::z114::z115::z116::z117::z118::z119::z120::z121::z122::z123::z124::z125::z126::z127::z128::z129::z130::z131::z132::z133::z134::z135::z136::z137::z138::z139::z140::z141::z142::z143::z144::z145::z146::z147::z148::z149::z150::z151::z152::z153::z154::z155::z156::z157::z158::z159::z160::z161::z162::z163::z164::z165::z166::z167::z168::z169::z170::z171::z172::z173::z174::z175::z176::z177::z178::z179::z180::z181::z182::z183::z184::z185::z186::z187::z188::z189::z190::z191::z192::z193::z194::z195::z196::z197::z198::z199::z200::z201::z202::z203::z204::z205::z206::z207::z208::z209::z210::z211::z212::z213::z214::z215::z216::z217::z218::z219::z220::z221::z222::z223::z224::z225::z226::z227::z228::z229::z230::z231::z232::z233::z234::z235::z236::z237::z238::z239::z240::z241::z242::z243::z244::z245::z246::z247::z248::z249::z250::z251::z252::z253::z254::z255::z256::z257::z258::z259::z260::z261::z262::z263::z264::z265::z266::z267::z268::z269::z270::z271::z272::z273::z274::z275::z276::z277::z278::z279::z280::z281::z282::z283::z284::z285::z286::z287::z288::z289::[]), []⟩ w := by
  conv => arg 2; arg 1; whnf
  have HF := hI hf
  have HL := hI hl
  have LEN := hI hlen
  clear hf hl hlen
  go_loopw [11, 12, 13] (fun ov tv kv wr => ∃ k : Nat, k ≤ l.length ∧ kv = .int .i64 k ∧ Hid (wr.ownsRow w.heap.size 3 1 ov (pls (isSource l r) k).length (ntI2 (pls (isSource l r) k))) ∧ Hid (wr.ownsRow w.heap.size 3 1 tv (pls (isTarget l r) k).length (ntI2 (pls (isTarget l r) k))) ∧ Hid (ov.ownBlock = none ∨ ov.ownBlock ≠ tv.ownBlock) ∧ Hid (Below w.heap.size w wr)) (fun _ _ kv _ => l.length - (intOf kv).toNat)
  case atStart => exact ⟨0, Nat.zero_le _, rfl, hI (World.ownsRow_nil _ _ _ _), hI (World.ownsRow_nil _ _ _ _), hI (.inl rfl), hI (Below.refl _ _)⟩
  case round =>
    obtain ⟨k, hk, rfl, ho, hq, hne, hb⟩ := hrel
    by_cases hlt : k < l.length
    · have HS : Hid (pls (isSource l r) (k + 1) = if isSource l r k then pls (isSource l r) k ++ [k] else pls (isSource l r) k) := hI rfl
      have HT : Hid (pls (isTarget l r) (k + 1) = if isTarget l r k then pls (isTarget l r) k ++ [k] else pls (isTarget l r) k) := hI rfl
      have hps := pls_len (isSource l r) k
      have hpt := pls_len (isTarget l r) k
      obtain ⟨Do, do_, hvv, _⟩ := own_all ho.out
      subst hvv
      obtain ⟨Dt, dt, hvw, _⟩ := own_all hq.out
      subst hvw
      obtain ⟨lF, lS, lK, lT⟩ := LEN.out
      have h4 : Flds wr B h 73 [v0, v1, v2, v3] (rowsS r) := HF.out.later (Rn.later_of_below hb.out (Nat.le_refl _))
      obtain ⟨ad, rfl, hadb, hcs⟩ := HL.out k (l.getD k default) (by simp [hlt])
      have HC : Hid (∀ W, Below w.heap.size w W → W.cell? (ad.add (k * 70)) = some (.int .i64 (l.getD k default).kind)) := hI fun W hW => (hW.cell (by rw [block_add]; exact hadb)).trans (hcs.zero rfl)
      have hkk := HC.out wr hb.out
      obtain ⟨K, cK, rfl, _, zK, gK, eK, fK⟩ := h4.at_ (i := 1) (k := k) (v := v1) rfl rfl (int_at (by omega))
      obtain ⟨T, cT, rfl, _, zT, gT, eT, fT⟩ := h4.at_ (i := 3) (k := k) (v := v3) rfl rfl (boo_at (by omega))
      have ck : wr.cell? ⟨h, 1, none⟩ = some (.slice (some ⟨K, 0, none⟩) l.length cK) := (h4.cell 1).trans (by rw [show (Rn.ints r.kd).length = l.length by simp [Rn.ints, lK]]; rfl)
      have ct : wr.cell? ⟨h, 3, none⟩ = some (.slice (some ⟨T, 0, none⟩) l.length cT) := (h4.cell 3).trans (by rw [show (Rn.boos r.tk).length = l.length by simp [Rn.boos, lT]]; rfl)
      unfold isSource at HS
      unfold isTarget at HT
      clear h4 hcs lF lS lK lT hadb fK fT gK gT zK zT
      change Hid (pls (isSource l r) (k + 1) = if _ then pls (isSource l r) k ++ [k] else pls (isSource l r) k) at HS
      change Hid (pls (isTarget l r) (k + 1) = if _ then pls (isTarget l r) k ++ [k] else pls (isTarget l r) k) at HT
      generalize (l.getD k default).kind = x at *
      generalize r.tk.getD k false = b at *
      generalize r.kd.getD k 0 = kd at *
      have b3 := (Below.refl wr.heap.size wr).alloc (Nat.le_refl _) (.cells #[.int .i64 (k : Int)] 3)
      have O3 := hI (own_below ho.out b3)
      have T3 := hI (own_below hq.out b3)
      have B3 := hI (hb.out.trans (b3.mono hb.out.size))
      have N3 := hI (new_rv wr [.int .i64 (k : Int)] 3 ⟨wr.heap.size, 0, none⟩ rfl)
      clear b3
      have SZ := hI (show (wr.alloc (.cells #[.int .i64 (k : Int)] 3)).heap.size = wr.heap.size + 1 by simp)
      rcases h1 : (x == 2) with _ | _ <;> rw [h1] at HS
      · rcases h2 : (x == 1) with _ | _ <;> rw [h2] at HT
        · go_wp2_with fail
          exact ⟨⟨k + 1, by omega, by go_num, hI (by rw [HS.out]; exact ho.out), hI (by rw [HT.out]; exact hq.out), hne, hb⟩, by simp [intOf]; omega⟩
        · rcases h3 : (kd == 0) with _ | _ <;> rw [h3] at HT
          · go_wp2_with fail
            exact ⟨⟨k + 1, by omega, by go_num, hI (by rw [HS.out]; exact ho.out), hI (by rw [HT.out]; exact hq.out), hne, hb⟩, by simp [intOf]; omega⟩
          · go_wp2_with (at_builtin; refine wpList_app sl48 rfl (.tmp 80) (.tmp 82) rfl w.heap.size _ (pls (isTarget l r) k).length (ntI2 (pls (isTarget l r) k)) rfl T3.out (some ⟨wr.heap.size, 0, none⟩) 1 1 [.int .i64 (k : Int)] rfl (fun q => by cases q) rfl N3.out (by intro u hu; rw [List.mem_singleton.1 hu]; rfl) (by unfold maxLen; omega) (by omega) B3.out.size ?_; intro v7 w7 ho7 ha7; have O7 := hI ho7; have A7 := hI ha7; clear ho7 ha7)
            refine ⟨⟨k + 1, by omega, by go_num, hI ?_, hI ?_, hI ?_, hI ?_⟩, by simp [intOf]; omega⟩
            · rw [HS.out]; exact own_grown2 O3.out A7.out.grown hne.out
            · rw [HT.out]; simpa [ntI2] using O7.out
            · exact far_app2 (fun q e => (ho.out.lt q e).2) (by have := SZ.out; omega) hne.out A7.out.here
            · exact B3.out.grown A7.out.grown B3.out.size (fun q hq => (T3.out.lt q hq).1)
      · have h2 : (x == 1) = false := by rw [beq_iff_eq] at h1; subst h1; rfl
        rw [h2] at HT
        cases b with
        | false =>
          go_wp2_with (at_builtin; refine wpList_app sl48 rfl (.tmp 62) (.tmp 64) rfl w.heap.size _ (pls (isSource l r) k).length (ntI2 (pls (isSource l r) k)) rfl O3.out (some ⟨wr.heap.size, 0, none⟩) 1 1 [.int .i64 (k : Int)] rfl (fun q => by cases q) rfl N3.out (by intro u hu; rw [List.mem_singleton.1 hu]; rfl) (by unfold maxLen; omega) (by omega) B3.out.size ?_; intro v7 w7 ho7 ha7; have O7 := hI ho7; have A7 := hI ha7; have B7 := hI (B3.out.grown ha7.grown B3.out.size (fun q hq => (O3.out.lt q hq).1)); have hk7 := HC.out w7 B7.out; clear ho7 ha7)
          refine ⟨⟨k + 1, by omega, by go_num, hI ?_, hI ?_, hI ?_, B7⟩, by simp [intOf]; omega⟩
          · rw [HS.out]; simpa [ntI2] using O7.out
          · rw [HT.out]; exact own_grown2 T3.out A7.out.grown (far_sym hne.out)
          · exact far_app1 (fun q e => (hq.out.lt q e).2) (by have := SZ.out; omega) hne.out A7.out.here
        | true =>
          go_wp2_with fail
          exact ⟨⟨k + 1, by omega, by go_num, hI (by rw [HS.out]; exact ho.out), hI (by rw [HT.out]; exact hq.out), hne, hb⟩, by simp [intOf]; omega⟩
    · have hke : k = l.length := by omega
      subst hke
      go_wp2_with fail
      exact hexit.out _ _ _ _ _ _ _ _ _ _ _ _ _ _ _ _ _ _ _ _ _ _ _ _ _ _ _ _ _ _ _ _ _ _ _ _ _ _ _ _ _ _ _ _ _ ho hq hb
end Go.Proofs.YtbmpidacoohdmaaGreat

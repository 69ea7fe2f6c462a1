/- sleuthref26.copies, by a contract. -/
import Derived.Test.YtbmpidacoohdmaaGreatRRex
import Derived.Test.YtbmpidacoohdmaaGreatRCop
namespace Go.Proofs.YtbmpidacoohdmaaGreat.Rn
open Go.RowKit
attribute [local go_sem ↓] load44_eq load46_eq
attribute [local go_sem] later_refl later_drew_iff later_drewN_iff later_a1 later_a2 later_a3 later_a4

set_option maxRecDepth 100000 in
set_option maxHeartbeats 4000000 in
theorem rcopies_any (w : World) (B g : Nat) (v0 v1 v2 v3 : Value) (l : List Chg) (A : Option Addr) (c : Nat) (r : St) (hf : Flds w B g 73 [v0, v1, v2, v3] (rowsS r)) (hlen : r.fr.length = l.length ∧ r.sc.length = l.length ∧ r.kd.length = l.length ∧ r.tk.length = l.length) (hB : B ≤ w.heap.size) (hl : LReads w B A l) (ok : ∀ (k : Nat) (x : Chg), l[k]? = some x → x.ok) (hn : l.length ≤ 40) :
    Calls Tryz.prog 24 #[.slice A l.length c, .agg #[v0, v1, v2, v3]] w fun e w' => e = .returned (.tuple #[]) ∧ Flds w' B g 73 [v0, v1, v2, v3] (rowsS (rcTo l r l.length)) ∧ Below B w w' := by
  have OFF : Hid (∀ (i : Nat) (v : Value), [v0, v1, v2, v3][i]? = some v → v.ownBlock ≠ some g) := Lib.hid hf.off
  have GLT := Lib.hid hf.lt
  have HBB := Lib.hid hB
  have HLL := Lib.hid hl
  have HKK := Lib.hid ok
  have LEN := Lib.hid hlen
  have hF0 : Flds (w.alloc (.cells #[v0, v1, v2, v3] 73)) B w.heap.size 73 [v0, v1, v2, v3] (rowsS r) := hf.copied (fun i v hv => hf.below hv)
  have hg0 : (w.alloc (.cells #[v0, v1, v2, v3] 73)).heap[g]? = some (.cells #[v0, v1, v2, v3] 73 (0, 0)) := (Below.heap_alloc _ _ _ hf.lt).trans hf.blk
  have hb0 : Below B w (w.alloc (.cells #[v0, v1, v2, v3] 73)) := (Below.refl _ _).alloc hB _
  have F0 := Lib.hid hF0
  have G0 := Lib.hid hg0
  have B0 := Lib.hid hb0
  clear hf hB hl ok hlen hF0 hg0 hb0
  go_enter Tryz.func24, Tryz.ntmps24
  go_wp2_with fail
  go_loopw [4] (fun k_ wr => ∃ k : Nat, k ≤ l.length ∧ k_ = .int .i64 k ∧ Hid (Flds wr B w.heap.size 73 [v0, v1, v2, v3] (rowsS (rcTo l r k))) ∧ Hid (wr.heap[g]? = some (.cells #[v0, v1, v2, v3] 73 (0, 0))) ∧ Hid (Below B w wr)) (fun k_ _ => l.length - (intOf k_).toNat)
  case atStart => exact ⟨0, Nat.zero_le _, rfl, F0.out, G0.out, B0.out⟩
  case round =>
    obtain ⟨k, hk, rfl, hF, hgb, hb⟩ := hrel
    clear F0 G0 B0
    by_cases hkl : k < l.length
    · go_wp2_with fail
      go_loopw [5] (fun i_ wr => ∃ (j : Nat) (z : Int), j ≤ l.length ∧ z = (l.length : Int) - 1 - j ∧ i_ = .int .i64 z ∧ Hid (Flds wr B w.heap.size 73 [v0, v1, v2, v3] (rowsS (rcS l (rcTo l r k) k j))) ∧ Hid (wr.heap[g]? = some (.cells #[v0, v1, v2, v3] 73 (0, 0))) ∧ Hid (Below B w wr)) (fun i_ _ => (intOf i_ + 1).toNat)
      case atStart => exact ⟨0, (l.length : Int) - 1, Nat.zero_le _, by omega, by go_num, hF.out, hgb.out, hb.out⟩
      case round =>
        clear hF hgb hb
        obtain ⟨j, z, hj, hz, rfl, hF, hgb, hb⟩ := hrel
        obtain ⟨lF, lS, lK, lT⟩ := rcS_len l (rcTo l r k) k (rcTo_len l r LEN.out k) j
        by_cases hjl : j < l.length
        · have HST := Lib.hid (show rcS l (rcTo l r k) k (j + 1) = if isT5 l (rcS l (rcTo l r k) k j) k && copHit l k (l.length - 1 - j) then pairC (rcS l (rcTo l r k) k j) (l.length - 1 - j) k else rcS l (rcTo l r k) k j from rfl)
          obtain ⟨i, hi⟩ : ∃ i : Nat, i = l.length - 1 - j := ⟨_, rfl⟩
          rw [← hi] at HST
          obtain rfl : z = (i : Int) := by omega
          generalize rcS l (rcTo l r k) k j = s at *
          have hil : i < l.length := by omega
          have hrd : LReads wr B A l := HLL.out.keep fun p hp => hb.out.cell hp
          have hok : (l.getD k default).ok := HKK.out k _ (by simp [hkl])
          have hoki : (l.getD i default).ok := HKK.out i _ (by simp [hil])
          obtain ⟨ad, rfl, hadb, hcs⟩ := hrd k (l.getD k default) (by simp [hkl])
          obtain ⟨ad', he', _, hcsi⟩ := hrd i (l.getD i default) (by simp [hil])
          obtain rfl : ad = ad' := by injection he'
          have HB : Hid (B ≤ wr.heap.size) := Lib.hid (Nat.le_trans HBB.out hb.out.size)
          have HG : Hid (g < wr.heap.size) := Lib.hid (Nat.lt_of_lt_of_le GLT.out hb.out.size)
          have h4 := hF.out
          obtain ⟨F, cF, rfl, _, zF, gF, eF, fF⟩ := h4.at_ (i := 0) (k := k) (v := v0) rfl rfl (int_at (by omega))
          obtain ⟨K, cK, rfl, _, zK, gK, eK, fK⟩ := h4.at_ (i := 1) (k := k) (v := v1) rfl rfl (int_at (by omega))
          obtain ⟨S, cS, rfl, _, zS, gS, eS, fS⟩ := h4.at_ (i := 2) (k := k) (v := v2) rfl rfl (int_at (by omega))
          have hle0 : (ints s.fr).length = l.length := by simp [ints, lF]
          have hle1 : (ints s.kd).length = l.length := by simp [ints, lK]
          have hle2 : (ints s.sc).length = l.length := by simp [ints, lS]
          have OF : Hid (g ≠ F) := Lib.hid (fun e => OFF.out 0 _ rfl (by rw [e]; rfl))
          have OK : Hid (g ≠ K) := Lib.hid (fun e => OFF.out 1 _ rfl (by rw [e]; rfl))
          have OS : Hid (g ≠ S) := Lib.hid (fun e => OFF.out 2 _ rfl (by rw [e]; rfl))
          have kx : ∀ W : Aft wr, W.W.cell? (ad.add (i * 70)) = some (.int .i64 (l.getD i default).kind) := fun W => (W.cell (by rw [block_add]; have := HB.out; omega)).trans (hcsi.zero rfl)
          have ky : ∀ W : Aft wr, W.W.cell? (ad.add (k * 70)) = some (.int .i64 (l.getD k default).kind) := fun W => (W.cell (by rw [block_add]; have := HB.out; omega)).trans (hcs.zero rfl)
          have ck : ∀ W : Aft wr, W.W.cell? ⟨w.heap.size, 1, none⟩ = some (.slice (some ⟨K, 0, none⟩) l.length cK) := fun W => (W.cell h4.lt).trans ((h4.cell 1).trans (by rw [hle1]; rfl))
          have ek : ∀ W : Aft wr, W.W.cell? ⟨K, k, none⟩ = some (.int .i64 (s.kd.getD k 0)) := fun W => (W.cell zK).trans eK
          have ho : ∀ w', (∃ W : Aft wr, w' = W.W) → CellsAt w' ⟨(ad.add (i * 70)).block, (ad.add (i * 70)).off + 5, none⟩ (u8s (l.getD i default).oid) := by
            rintro _ ⟨W, rfl⟩
            have hp := (hcsi.part 5).take 32
            rw [Chg.oid_part _ hoki] at hp
            exact hp.keep fun p hp' => W.cell (by rw [hp', block_add, block_add]; have := HB.out; omega)
          have hn' : ∀ w', (∃ W : Aft wr, w' = W.W) → CellsAt w' ⟨(ad.add (k * 70)).block, (ad.add (k * 70)).off + 37, none⟩ (u8s (l.getD k default).nid) := by
            rintro _ ⟨W, rfl⟩
            have hp := (hcs.part 37).take 32
            rw [Chg.nid_part _ hok] at hp
            exact hp.keep fun p hp' => W.cell (by rw [hp', block_add, block_add]; have := HB.out; omega)
          have hlo2 : (Tryz.prog.info? 51).map (·.size) = some (u8s (l.getD i default).oid).length := by rw [u8s_length, hoki.oid]; exact info44
          have hln2 : (Tryz.prog.info? 51).map (·.size) = some (u8s (l.getD k default).nid).length := by rw [u8s_length, hok.nid]; exact info44
          have hq1 : ∀ W, (Op.equalIn 10000 51 (.agg (u8s (l.getD i default).oid).toArray) (.agg (u8s (l.getD k default).nid).toArray)).run Tryz.prog W = .ok (decide ((l.getD i default).oid = (l.getD k default).nid)) W := fun W => run_equalIn_u8s (P := Tryz.prog) (n := 32) W Tryz.underlying51 Tryz.underlying5 (Option.map_eq_some_iff.1 info5).choose_spec.1 (Option.map_eq_some_iff.1 info5).choose_spec.2 9998 _ _ hoki.oid hok.nid
          unfold isT5 copHit at HST
          have HO := Lib.hid ho
          have HN := Lib.hid hn'
          have HLO := Lib.hid hlo2
          have HLN := Lib.hid hln2
          have HF := Lib.hid h4
          have HZ := Lib.hid hz
          have HJ := Lib.hid hjl
          clear hz hi hj hjl ho hn' hlo2 hln2 h4 hF hrd hok hoki hcs hcsi he' eF eK eS fF fK fS gF gK gS zF zK zS
          generalize l.getD i default = x at *
          generalize l.getD k default = y at *
          generalize hkd : s.kd.getD k 0 = kd at *
          have HKD := Lib.hid hkd
          clear hkd
          rcases hb1 : (y.kind == 1) with _ | _ <;> rw [hb1] at HST
          · go_wp2_with fail
            refine wp_region_aft (by kernel_rfl) (by kernel_rfl) ?_
            repeat (first
              | (go_big_quiet_want; refine quiet_load_cells 51 _ rfl _ rfl (u8s x.oid) Tryz.underlying51 rfl HLO.out HO.out ?_; simp only [Act.put, List.setIfInBounds_toArray, List.set_cons_succ, List.set_cons_zero]; go_big_quiet_on)
              | (go_big_quiet_want; refine quiet_load_cells 51 _ rfl _ rfl (u8s y.nid) Tryz.underlying51 rfl HLN.out HN.out ?_; simp only [Act.put, List.setIfInBounds_toArray, List.set_cons_succ, List.set_cons_zero]; go_big_quiet_on)
              | go_big_quiet_step (fail))
            refine wpQuiet_nil ?_
            rintro _ ⟨W1, rfl⟩
            go_wp2
            refine ⟨⟨j + 1, (i : Int) - 1, HJ.out, by have := HZ.out; omega, by go_num, ?_, ?_, ?_⟩, by simp [intOf]⟩
            · rw [HST.out]; exact (HF.out.later W1.later : _)
            · exact ((W1.h.block g HG.out).trans hgb.out : _)
            · exact (hb.out.trans (W1.h.mono HB.out) : _)
          · rcases hb2 : (kd == 0) with _ | _ <;> rw [hb2] at HST
            · rcases hb3 : (kd == 5) with _ | _ <;> rw [hb3] at HST
              · go_wp2_with fail
                refine wp_region_aft (by kernel_rfl) (by kernel_rfl) ?_
                repeat (first
                  | (go_big_quiet_want; refine quiet_load_cells 51 _ rfl _ rfl (u8s x.oid) Tryz.underlying51 rfl HLO.out HO.out ?_; simp only [Act.put, List.setIfInBounds_toArray, List.set_cons_succ, List.set_cons_zero]; go_big_quiet_on)
                  | (go_big_quiet_want; refine quiet_load_cells 51 _ rfl _ rfl (u8s y.nid) Tryz.underlying51 rfl HLN.out HN.out ?_; simp only [Act.put, List.setIfInBounds_toArray, List.set_cons_succ, List.set_cons_zero]; go_big_quiet_on)
                  | go_big_quiet_step (fail))
                refine wpQuiet_nil ?_
                rintro _ ⟨W1, rfl⟩
                go_wp2
                refine ⟨⟨j + 1, (i : Int) - 1, HJ.out, by have := HZ.out; omega, by go_num, ?_, ?_, ?_⟩, by simp [intOf]⟩
                · rw [HST.out]; exact (HF.out.later W1.later : _)
                · exact ((W1.h.block g HG.out).trans hgb.out : _)
                · exact (hb.out.trans (W1.h.mono HB.out) : _)
              · rcases hb4 : (x.kind == 3) with _ | _ <;> rw [hb4] at HST
                · go_wp2_with fail
                  refine wp_region_aft (by kernel_rfl) (by kernel_rfl) ?_
                  repeat (first
                    | (go_big_quiet_want; refine quiet_load_cells 51 _ rfl _ rfl (u8s x.oid) Tryz.underlying51 rfl HLO.out HO.out ?_; simp only [Act.put, List.setIfInBounds_toArray, List.set_cons_succ, List.set_cons_zero]; go_big_quiet_on)
                    | (go_big_quiet_want; refine quiet_load_cells 51 _ rfl _ rfl (u8s y.nid) Tryz.underlying51 rfl HLN.out HN.out ?_; simp only [Act.put, List.setIfInBounds_toArray, List.set_cons_succ, List.set_cons_zero]; go_big_quiet_on)
                    | go_big_quiet_step (fail))
                  refine wpQuiet_nil ?_
                  rintro _ ⟨W1, rfl⟩
                  go_wp2
                  refine ⟨⟨j + 1, (i : Int) - 1, HJ.out, by have := HZ.out; omega, by go_num, ?_, ?_, ?_⟩, by simp [intOf]⟩
                  · rw [HST.out]; exact (HF.out.later W1.later : _)
                  · exact ((W1.h.block g HG.out).trans hgb.out : _)
                  · exact (hb.out.trans (W1.h.mono HB.out) : _)
                · rcases hb5 : decide (x.oid = y.nid) with _ | _ <;> (rw [hb5] at HST; simp only [hb5] at hq1)
                  · go_wp2_with fail
                    refine wp_region_aft (by kernel_rfl) (by kernel_rfl) ?_
                    repeat (first
                      | (go_big_quiet_want; refine quiet_load_cells 51 _ rfl _ rfl (u8s x.oid) Tryz.underlying51 rfl HLO.out HO.out ?_; simp only [Act.put, List.setIfInBounds_toArray, List.set_cons_succ, List.set_cons_zero]; go_big_quiet_on)
                      | (go_big_quiet_want; refine quiet_load_cells 51 _ rfl _ rfl (u8s y.nid) Tryz.underlying51 rfl HLN.out HN.out ?_; simp only [Act.put, List.setIfInBounds_toArray, List.set_cons_succ, List.set_cons_zero]; go_big_quiet_on)
                      | go_big_quiet_step (fail))
                    refine wpQuiet_nil ?_
                    rintro _ ⟨W1, rfl⟩
                    go_wp2
                    refine ⟨⟨j + 1, (i : Int) - 1, HJ.out, by have := HZ.out; omega, by go_num, ?_, ?_, ?_⟩, by simp [intOf]⟩
                    · rw [HST.out]; exact (HF.out.later W1.later : _)
                    · exact ((W1.h.block g HG.out).trans hgb.out : _)
                    · exact (hb.out.trans (W1.h.mono HB.out) : _)
                  · go_wp2_with fail
                    refine wp_region_aft (by kernel_rfl) (by kernel_rfl) ?_
                    repeat (first
                      | (go_big_quiet_want; refine quiet_load_cells 51 _ rfl _ rfl (u8s x.oid) Tryz.underlying51 rfl HLO.out HO.out ?_; simp only [Act.put, List.setIfInBounds_toArray, List.set_cons_succ, List.set_cons_zero]; go_big_quiet_on)
                      | (go_big_quiet_want; refine quiet_load_cells 51 _ rfl _ rfl (u8s y.nid) Tryz.underlying51 rfl HLN.out HN.out ?_; simp only [Act.put, List.setIfInBounds_toArray, List.set_cons_succ, List.set_cons_zero]; go_big_quiet_on)
                      | go_big_quiet_step (fail))
                    refine wpQuiet_nil ?_
                    rintro _ ⟨W1, rfl⟩
                    have G0 := Lib.hid (HF.out.later W1.later)
                    have M0 := Lib.hid (hb.out.trans (W1.h.mono HB.out))
                    have N0 : Hid (W1.W.heap[g]? = some (.cells #[.slice (some ⟨F, 0, none⟩) (ints s.fr).length cF, .slice (some ⟨K, 0, none⟩) (ints s.kd).length cK, .slice (some ⟨S, 0, none⟩) (ints s.sc).length cS, v3] 73 (0, 0))) := Lib.hid ((W1.h.block g HG.out).trans hgb.out)
                    generalize W1.W = V0 at *
                    have E0 := Lib.hid (G0.out.elem (i := 0) (k := k) rfl rfl (int_at (xs := s.fr) (by omega)))
                    have d0 := G0.out.cell 0
                    simp only [List.getElem?_cons_zero, hle0] at d0
                    have s0 := G0.out.lt
                    go_wp2_with (first
                      | (refine wpList_store1 rfl 3 (.tmp 66) (.tmp 65) rfl ⟨F, k, none⟩ rfl (.int .i64 (i : Int)) _ rfl rfl info3c E0.out.1 E0.out.2.1 rfl ?_; intro V1 hV1; have G1 := Lib.hid (hV1 ▸ G0.out.stored (i := 0) (k := k) (x := .int .i64 (i : Int)) rfl rfl); have M1 := Lib.hid (hV1 ▸ M0.out.setCell (p := ⟨F, k, none⟩) E0.out.2.2.1 (.int .i64 (i : Int))); have N1 : Hid (V1.heap[g]? = some (.cells #[.slice (some ⟨F, 0, none⟩) (ints s.fr).length cF, .slice (some ⟨K, 0, none⟩) (ints s.kd).length cK, .slice (some ⟨S, 0, none⟩) (ints s.sc).length cS, v3] 73 (0, 0))) := Lib.hid (hV1 ▸ (Below.heap_setCell _ _ _ _ OF.out).trans N0.out); clear hV1; have E1 := Lib.hid (G1.out.elem (i := 1) (k := k) rfl rfl (int_at (xs := s.kd) (by omega))); have d1 := G1.out.cell 1; simp only [List.getElem?_cons_succ, List.getElem?_cons_zero, hle1] at d1; have s1 := G1.out.lt)
                      | (refine wpList_store1 rfl 3 (.tmp 70) (.const (.int .i64 5)) rfl ⟨K, k, none⟩ rfl (.int .i64 5) _ rfl rfl info3c E1.out.1 E1.out.2.1 rfl ?_; intro V2 hV2; have G2 := Lib.hid (hV2 ▸ G1.out.stored (i := 1) (k := k) (x := .int .i64 5) rfl rfl); have M2 := Lib.hid (hV2 ▸ M1.out.setCell (p := ⟨K, k, none⟩) E1.out.2.2.1 (.int .i64 5)); have N2 := Lib.hid (hV2 ▸ (Below.heap_setCell _ _ _ _ OK.out).trans N1.out); clear hV2; have E2 := Lib.hid (G2.out.elem (i := 2) (k := k) rfl rfl (int_at (xs := s.sc) (by omega))); have d2 := G2.out.cell 2; simp only [List.getElem?_cons_succ, List.getElem?_cons_zero, hle2] at d2; have s2 := G2.out.lt)
                      | (refine wpList_store1 rfl 3 (.tmp 74) (.const (.int .i64 1000)) rfl ⟨S, k, none⟩ rfl (.int .i64 1000) _ rfl rfl info3c E2.out.1 E2.out.2.1 rfl ?_; intro V3 hV3; have G3 := Lib.hid (hV3 ▸ G2.out.stored (i := 2) (k := k) (x := .int .i64 1000) rfl rfl); have M3 := Lib.hid (hV3 ▸ M2.out.setCell (p := ⟨S, k, none⟩) E2.out.2.2.1 (.int .i64 1000)); have N3 := Lib.hid (hV3 ▸ (Below.heap_setCell _ _ _ _ OS.out).trans N2.out); clear hV3))
                    refine ⟨⟨j + 1, (i : Int) - 1, HJ.out, by have := HZ.out; omega, by go_num, ?_, ?_, ?_⟩, by simp [intOf]⟩
                    · rw [HST.out]
                      change Hid (Flds V3 B w.heap.size 73 _ (rowsS (pairC s i k)))
                      have h := G3.out
                      simp only [rowsS, rows4, pairC, ints_set]
                      exact h
                    · exact N3.out
                    · exact M3.out
            · rcases hb4 : (x.kind == 3) with _ | _ <;> rw [hb4] at HST
              · go_wp2_with fail
                refine wp_region_aft (by kernel_rfl) (by kernel_rfl) ?_
                repeat (first
                  | (go_big_quiet_want; refine quiet_load_cells 51 _ rfl _ rfl (u8s x.oid) Tryz.underlying51 rfl HLO.out HO.out ?_; simp only [Act.put, List.setIfInBounds_toArray, List.set_cons_succ, List.set_cons_zero]; go_big_quiet_on)
                  | (go_big_quiet_want; refine quiet_load_cells 51 _ rfl _ rfl (u8s y.nid) Tryz.underlying51 rfl HLN.out HN.out ?_; simp only [Act.put, List.setIfInBounds_toArray, List.set_cons_succ, List.set_cons_zero]; go_big_quiet_on)
                  | go_big_quiet_step (fail))
                refine wpQuiet_nil ?_
                rintro _ ⟨W1, rfl⟩
                go_wp2
                refine ⟨⟨j + 1, (i : Int) - 1, HJ.out, by have := HZ.out; omega, by go_num, ?_, ?_, ?_⟩, by simp [intOf]⟩
                · rw [HST.out]; exact (HF.out.later W1.later : _)
                · exact ((W1.h.block g HG.out).trans hgb.out : _)
                · exact (hb.out.trans (W1.h.mono HB.out) : _)
              · rcases hb5 : decide (x.oid = y.nid) with _ | _ <;> (rw [hb5] at HST; simp only [hb5] at hq1)
                · go_wp2_with fail
                  refine wp_region_aft (by kernel_rfl) (by kernel_rfl) ?_
                  repeat (first
                    | (go_big_quiet_want; refine quiet_load_cells 51 _ rfl _ rfl (u8s x.oid) Tryz.underlying51 rfl HLO.out HO.out ?_; simp only [Act.put, List.setIfInBounds_toArray, List.set_cons_succ, List.set_cons_zero]; go_big_quiet_on)
                    | (go_big_quiet_want; refine quiet_load_cells 51 _ rfl _ rfl (u8s y.nid) Tryz.underlying51 rfl HLN.out HN.out ?_; simp only [Act.put, List.setIfInBounds_toArray, List.set_cons_succ, List.set_cons_zero]; go_big_quiet_on)
                    | go_big_quiet_step (fail))
                  refine wpQuiet_nil ?_
                  rintro _ ⟨W1, rfl⟩
                  go_wp2
                  refine ⟨⟨j + 1, (i : Int) - 1, HJ.out, by have := HZ.out; omega, by go_num, ?_, ?_, ?_⟩, by simp [intOf]⟩
                  · rw [HST.out]; exact (HF.out.later W1.later : _)
                  · exact ((W1.h.block g HG.out).trans hgb.out : _)
                  · exact (hb.out.trans (W1.h.mono HB.out) : _)
                · go_wp2_with fail
                  refine wp_region_aft (by kernel_rfl) (by kernel_rfl) ?_
                  repeat (first
                    | (go_big_quiet_want; refine quiet_load_cells 51 _ rfl _ rfl (u8s x.oid) Tryz.underlying51 rfl HLO.out HO.out ?_; simp only [Act.put, List.setIfInBounds_toArray, List.set_cons_succ, List.set_cons_zero]; go_big_quiet_on)
                    | (go_big_quiet_want; refine quiet_load_cells 51 _ rfl _ rfl (u8s y.nid) Tryz.underlying51 rfl HLN.out HN.out ?_; simp only [Act.put, List.setIfInBounds_toArray, List.set_cons_succ, List.set_cons_zero]; go_big_quiet_on)
                    | go_big_quiet_step (fail))
                  refine wpQuiet_nil ?_
                  rintro _ ⟨W1, rfl⟩
                  have G0 := Lib.hid (HF.out.later W1.later)
                  have M0 := Lib.hid (hb.out.trans (W1.h.mono HB.out))
                  have N0 : Hid (W1.W.heap[g]? = some (.cells #[.slice (some ⟨F, 0, none⟩) (ints s.fr).length cF, .slice (some ⟨K, 0, none⟩) (ints s.kd).length cK, .slice (some ⟨S, 0, none⟩) (ints s.sc).length cS, v3] 73 (0, 0))) := Lib.hid ((W1.h.block g HG.out).trans hgb.out)
                  generalize W1.W = V0 at *
                  have E0 := Lib.hid (G0.out.elem (i := 0) (k := k) rfl rfl (int_at (xs := s.fr) (by omega)))
                  have d0 := G0.out.cell 0
                  simp only [List.getElem?_cons_zero, hle0] at d0
                  have s0 := G0.out.lt
                  go_wp2_with (first
                    | (refine wpList_store1 rfl 3 (.tmp 66) (.tmp 65) rfl ⟨F, k, none⟩ rfl (.int .i64 (i : Int)) _ rfl rfl info3c E0.out.1 E0.out.2.1 rfl ?_; intro V1 hV1; have G1 := Lib.hid (hV1 ▸ G0.out.stored (i := 0) (k := k) (x := .int .i64 (i : Int)) rfl rfl); have M1 := Lib.hid (hV1 ▸ M0.out.setCell (p := ⟨F, k, none⟩) E0.out.2.2.1 (.int .i64 (i : Int))); have N1 : Hid (V1.heap[g]? = some (.cells #[.slice (some ⟨F, 0, none⟩) (ints s.fr).length cF, .slice (some ⟨K, 0, none⟩) (ints s.kd).length cK, .slice (some ⟨S, 0, none⟩) (ints s.sc).length cS, v3] 73 (0, 0))) := Lib.hid (hV1 ▸ (Below.heap_setCell _ _ _ _ OF.out).trans N0.out); clear hV1; have E1 := Lib.hid (G1.out.elem (i := 1) (k := k) rfl rfl (int_at (xs := s.kd) (by omega))); have d1 := G1.out.cell 1; simp only [List.getElem?_cons_succ, List.getElem?_cons_zero, hle1] at d1; have s1 := G1.out.lt)
                    | (refine wpList_store1 rfl 3 (.tmp 70) (.const (.int .i64 5)) rfl ⟨K, k, none⟩ rfl (.int .i64 5) _ rfl rfl info3c E1.out.1 E1.out.2.1 rfl ?_; intro V2 hV2; have G2 := Lib.hid (hV2 ▸ G1.out.stored (i := 1) (k := k) (x := .int .i64 5) rfl rfl); have M2 := Lib.hid (hV2 ▸ M1.out.setCell (p := ⟨K, k, none⟩) E1.out.2.2.1 (.int .i64 5)); have N2 := Lib.hid (hV2 ▸ (Below.heap_setCell _ _ _ _ OK.out).trans N1.out); clear hV2; have E2 := Lib.hid (G2.out.elem (i := 2) (k := k) rfl rfl (int_at (xs := s.sc) (by omega))); have d2 := G2.out.cell 2; simp only [List.getElem?_cons_succ, List.getElem?_cons_zero, hle2] at d2; have s2 := G2.out.lt)
                    | (refine wpList_store1 rfl 3 (.tmp 74) (.const (.int .i64 1000)) rfl ⟨S, k, none⟩ rfl (.int .i64 1000) _ rfl rfl info3c E2.out.1 E2.out.2.1 rfl ?_; intro V3 hV3; have G3 := Lib.hid (hV3 ▸ G2.out.stored (i := 2) (k := k) (x := .int .i64 1000) rfl rfl); have M3 := Lib.hid (hV3 ▸ M2.out.setCell (p := ⟨S, k, none⟩) E2.out.2.2.1 (.int .i64 1000)); have N3 := Lib.hid (hV3 ▸ (Below.heap_setCell _ _ _ _ OS.out).trans N2.out); clear hV3))
                  refine ⟨⟨j + 1, (i : Int) - 1, HJ.out, by have := HZ.out; omega, by go_num, ?_, ?_, ?_⟩, by simp [intOf]⟩
                  · rw [HST.out]
                    change Hid (Flds V3 B w.heap.size 73 _ (rowsS (pairC s i k)))
                    have h := G3.out
                    simp only [rowsS, rows4, pairC, ints_set]
                    exact h
                  · exact N3.out
                  · exact M3.out
        · obtain rfl : j = l.length := by omega
          have HN := Lib.hid (show rcTo l r (k + 1) = rcS l (rcTo l r k) k l.length from rfl)
          go_wp2_with fail
          exact ⟨⟨k + 1, by omega, by go_num, by rw [HN.out]; exact hF, hgb, hb⟩, by simp [intOf]; omega⟩
    · go_wp2_with fail
      go_end0
      obtain rfl : k = l.length := by omega
      have h4 := hF.out
      exact ⟨rfl, ⟨hgb.out, h4.len, h4.own, h4.far, OFF.out⟩, hb.out⟩
end Go.Proofs.YtbmpidacoohdmaaGreat.Rn

/- cache.id by a contract. -/
import Derived.Test.YthhmamkphcgocaaDoorHss
import Derived.Test.YthhmamkphcgocaaDoorRid
import Derived.Test.YthhmamkphcgocaaDoorOrd
namespace Go.Proofs.YthhmamkphcgocaaDoor
open Go.RowKit

theorem len42 : Tryd.prog.arrayLen 42 = 32 := by kernel_rfl
theorem und42 : Tryd.prog.underlying 42 = some (.array (Tryd.prog.arrayLen 42) (Tryd.prog.elem 42)) := by kernel_rfl
theorem siz42 (W : World) : (sizeOf (Tryd.prog.elem 42)).run Tryd.prog W = .ok 1 W := by
  have e : (Tryd.prog.info? (Tryd.prog.elem 42)).map (·.size) = some 1 := by kernel_rfl
  obtain ⟨i, hi, hz⟩ := Option.map_eq_some_iff.1 e
  simp [sizeOf, typeInfo, hi, hz]
theorem all42 (W : World) (a : Addr) : (Instr.sliceAt 42 (.pointer (some a)) none none none).run Tryd.prog W = .ok (.slice (some a) 32 32) W := by
  rw [run_sliceAt_array_all W _ _ und42, siz42, len42]
  simp [slicedAt, Addr.add]
theorem splice_pad (q : List UInt8) : Go.splice (bys (List.replicate 32 0)) 0 (bys q) = bys (padI q) := by
  simp only [Go.splice, padI, bys, List.take_zero, List.nil_append, Nat.zero_add, List.length_map, List.map_append, List.map_replicate, List.drop_replicate]
theorem raw32 (l : List UInt8) (k e : Nat) : rRaw l 32 k e = rTake l 32 k e := by
  unfold rRaw
  rw [if_neg (by omega)]
  rfl
attribute [local go_sem ↓] new42_eq load42_eq store42_eq run_new42 all42
set_option maxRecDepth 100000 in
set_option maxHeartbeats 1000000 in
theorem pid_any (w : World) (g : Nat) (A : Option Addr) (c : Nat) (l : List UInt8) (k e : Nat) (h : Rp w g A c l k e) :
    Calls Tryd.prog 54 #[.pointer (some ⟨g, 0, none⟩)] w fun en w2 => en = .returned (.agg (bys (padI (rTake l 32 k e).1)).toArray) ∧ Rp w2 g A c l (rTake l 32 k e).2.1 (rTake l 32 k e).2.2 ∧ w.grownBy w2 (some g) := by
  have hs0 : (w.alloc (.cells z42 42)).heap.size = w.heap.size + 1 := World.size_alloc _ _
  have hgr : w.grownBy ((w.alloc (.cells z42 42)).alloc (.cells z42 42)).drew none := grown_drew (grown_alloc (grown_alloc (grown_refl w none) _) _)
  have hcall := rraw_any ((w.alloc (.cells z42 42)).alloc (.cells z42 42)).drew g A c l k e 32 (h.later hgr) (by omega)
  rw [raw32] at hcall
  have HF := Lib.hid hcall
  have HG0 := Lib.hid (grown_any hgr (some g))
  have R1 : Hid (Ar ((w.alloc (.cells z42 42)).alloc (.cells z42 42)).drew w.heap.size 42 (bys (List.replicate 32 0))) := Lib.hid ((Ar.new w (bys (List.replicate 32 0)) 42).alloc (.cells z42 42))
  have r2 : Ar ((w.alloc (.cells z42 42)).alloc (.cells z42 42)).drew (w.alloc (.cells z42 42)).heap.size 42 (bys (List.replicate 32 0)) := Ar.new (w.alloc (.cells z42 42)) (bys (List.replicate 32 0)) 42
  rw [hs0] at r2
  have R2 := Lib.hid r2
  have hglt : g < w.heap.size := h.lt
  have H0 := Lib.hid h
  have hq32 := rTake_small l 32 k e
  clear h hcall hgr r2
  generalize rTake l 32 k e = q at *
  go_enter Tryd.func54, Tryd.ntmps54
  go_wp2_with fail
  refine region_of (fun _ => True) (by kernel_rfl) ?_
  generalize ((w.alloc (.cells z42 42)).alloc (.cells z42 42)).drew = w2 at *
  refine anyC_take 0 (v := ?_) trivial rfl (by kernel_rfl) (by kernel_rfl) (by kernel_rfl) (fun _ _ _ h => h) rfl (fun W hW => ?_) ?_
  rotate_left
  · go_simp
    try rfl
  simp only [Act.put]
  refine anyC_take 1 (v := ?_) trivial rfl (by kernel_rfl) (by kernel_rfl) (by kernel_rfl) (fun _ _ _ h => h) rfl (fun W hW => ?_) ?_
  rotate_left
  · go_simp
    try rfl
  simp only [Act.put]
  refine anyC_one 2 trivial (by kernel_rfl) rfl ?_
  go_wp2_with (go_at_call 18; refine HF.out.mono ?_; rintro en w3 ⟨u, rfl, ho, hf, hg⟩; obtain ⟨D, d, hv, _, hd, hrv, _⟩ := own_all ho; subst hv; obtain ⟨q1, q2, q3⟩ := q; dsimp only at hq32 hf hrv ⊢; have HRV := Lib.hid hrv; have HFF := Lib.hid hf; have HG := Lib.hid (grown_trans HG0.out hg); have R1b := Lib.hid (R1.out.later hg (by intro e; have := Option.some.inj e; omega)); have R2b := Lib.hid (R2.out.later hg (by intro e; have := Option.some.inj e; omega)); have hs3 := hg.size; clear hg hf hrv ho HF)
  have HBL := Lib.hid (bys_len q1)
  have HRL := Lib.hid (bys_len (List.replicate 32 0))
  refine anyC_one 3 trivial (by kernel_rfl) rfl ?_
  refine wpList_copy_row rfl (.tmp 4) (.tmp 6) 22 22 rfl 5 (by kernel_rfl) (by kernel_rfl) _ _ _ _ _ _ rfl rfl (w.heap.size + 1) 0 _ _ R2b.out (bys q1) (by rw [HBL.out]; exact (Nat.min_eq_left hq32).symm) _ HRV.out (fun _ => rfl) (by rw [HBL.out, HRL.out, List.length_replicate]; omega) (bys_one _) ?_
  intro w4 ha hg4
  rw [splice_pad q1] at ha
  have HA := Lib.hid ha
  have R1c := Lib.hid (R1b.out.later hg4 (by intro e; have := Option.some.inj e; omega))
  have HPL := padI_len q1 hq32
  have hl := ld42 HA.out HPL
  have hst := st42 (m := padI q1) R1c.out (by simp) HPL
  have R9 := Lib.hid (R1c.out.setRow (bys (padI q1)))
  have hsz4 := hg4.size
  have hG4 : ∀ q, q < w.heap.size → some q ≠ some g → (w4.setRow w.heap.size (bys (padI q1)).toArray).heap[q]? = w.heap[q]? := fun q hq hne => (setRow_other w4 w.heap.size q _ (by omega)).trans ((hg4.block q (by have := HG.out.size; omega) (by intro e; have := Option.some.inj e; omega)).trans (HG.out.block q hq hne))
  have G9 : Hid (w.grownBy (w4.setRow w.heap.size (bys (padI q1)).toArray) (some g)) := Lib.hid ⟨hg4.os.trans HG.out.os, hg4.tape.trans HG.out.tape, hg4.output.trans HG.out.output, by have := HG.out.size; simp; omega, hG4⟩
  have F9 : Hid ((w4.setRow w.heap.size (bys (padI q1)).toArray).heap[g]? = some (.cells #[.slice A l.length c, .int .i64 q2, .int .i64 q3] 98 (0, 0))) := Lib.hid ((setRow_other w4 w.heap.size g _ (by omega)).trans ((hg4.block g (by have := HG.out.size; omega) (by intro e; have := Option.some.inj e; omega)).trans HFF.out.blk))
  clear ha hg4 hG4
  go_wp2_with fail
  refine anyC_done trivial (by kernel_rfl) ?_ _
  go_wp2_with fail
  refine bodyPost_ret (results_cell_row rfl _ _ w.heap.size 42 _ (0, 0) (.array 32 5) rfl R9.out Tryd.underlying42 rfl (by rw [List.size_toArray, bys_len, HPL]; exact inf42)) rfl ?_
  exact ⟨rfl, H0.out.turn G9.out F9.out HFF.out.le, G9.out⟩
end Go.Proofs.YthhmamkphcgocaaDoor

/- sleuthref33.id by a contract. -/
import Derived.Test.YthhmamkphcgocaaDoorIdd
import Derived.Test.YthhmamkphcgocaaDoorRfb
namespace Go.Proofs.YthhmamkphcgocaaDoor
open Go.RowKit

/-- Bytes brought to 32. -/
def padI (t : List UInt8) : List UInt8 := t ++ List.replicate (32 - t.length) 0
theorem padI_len (t : List UInt8) (h : t.length ≤ 32) : (padI t).length = 32 := by simp [padI]; omega
theorem rTake_small (l : List UInt8) (n k e : Nat) : (rTake l n k e).1.length ≤ n := by
  unfold rTake
  split
  · simp
  · split
    · simp only [List.length_take]; omega
    · simp
theorem padI_set (t : List UInt8) (i : Nat) (hi : i < t.length) (ht : t.length ≤ 32) : (t.take i ++ List.replicate (32 - i) 0).set i (t.getD i 0) = t.take (i + 1) ++ List.replicate (32 - (i + 1)) 0 := by
  have hl : (t.take i).length = i := by rw [List.length_take]; omega
  have e : t.take (i + 1) = t.take i ++ [t.getD i 0] := by rw [List.take_add_one, List.getElem?_eq_getElem hi]; simp [hi]
  rw [List.set_append_right _ _ (by omega), hl, Nat.sub_self, show 32 - i = (32 - (i + 1)) + 1 by omega, List.replicate_succ, List.set_cons_zero, e, List.append_assoc]
  rfl
attribute [local go_sem ↓] new42_eq load42_eq store42_eq run_new42
set_option maxRecDepth 100000 in
set_option maxHeartbeats 1000000 in
theorem fid_any (w : World) (g : Nat) (A : Option Addr) (c : Nat) (l : List UInt8) (k e : Nat) (h : Rf w g A c l k e) :
    Calls Tryd.prog 25 #[.pointer (some ⟨g, 0, none⟩)] w fun en w2 => en = .returned (.agg (bys (padI (rTake l 32 k e).1)).toArray) ∧ Rf w2 g A c l (rTake l 32 k e).2.1 (rTake l 32 k e).2.2 ∧ w.grownBy w2 (some g) := by
  have HF := Lib.hid (fraw_any (w.alloc (.cells z42 42)) g A c l k e 32 (h.later (grown_alloc (grown_refl w none) _)) (by omega))
  have R0 : Hid (Ar (w.alloc (.cells z42 42)) w.heap.size 42 (bys (List.replicate 32 0))) := Lib.hid (Ar.new w (bys (List.replicate 32 0)) 42)
  have hs0 : (w.alloc (.cells z42 42)).heap.size = w.heap.size + 1 := World.size_alloc _ _
  have hglt : g < w.heap.size := h.lt
  have H0 := Lib.hid h
  clear h
  have hq32 := rTake_small l 32 k e
  generalize rTake l 32 k e = q at *
  go_enter Tryd.func25, Tryd.ntmps25
  go_wp2_with fail
  refine HF.out.mono ?_
  rintro en w2 ⟨u, rfl, ho, hf, hg⟩
  obtain ⟨D, d, hv, _, hd, hrv, _⟩ := own_all ho
  subst hv
  obtain ⟨q1, q2, q3⟩ := q
  dsimp only at hq32 hf ho hrv hd ⊢
  have HRV := Lib.hid hrv
  have HFF := Lib.hid hf
  have hs2 := hg.size
  have HG := Lib.hid (grown_trans (grown_alloc (grown_refl w (some g)) (.cells z42 42)) hg)
  have N2 : Hid (Ar (w2.alloc (.cells z42 42)) w2.heap.size 42 (bys (List.replicate 32 0))) := Lib.hid (Ar.new w2 (bys (List.replicate 32 0)) 42)
  have B2 := Lib.hid ((Below.refl w2.heap.size w2).alloc (Nat.le_refl _) (.cells z42 42))
  have R2 := Lib.hid (R0.out.later hg (by intro e; have := Option.some.inj e; omega))
  clear ho hf hrv hg HF
  go_wp2_with fail
  generalize w2.alloc (.cells z42 42) = w3 at *
  have hgl : w.heap.size < w2.heap.size := by omega
  go_loopw [5] (fun iv wr => ∃ i : Nat, i ≤ q1.length ∧ iv = .int .i64 i ∧ Ar wr w2.heap.size 42 (bys (q1.take i ++ List.replicate (32 - i) 0)) ∧ Hid (Below w2.heap.size w2 wr)) (fun iv _ => q1.length - (intOf iv).toNat)
  case atStart => exact ⟨0, by omega, rfl, N2.out, B2⟩
  case round =>
    clear N2 B2
    obtain ⟨i, hi, rfl, n4, b4⟩ := hrel
    by_cases hlt : i < q1.length
    · obtain ⟨ad, rfl, had, hcl⟩ := HRV.out.at_ (bys_at hlt)
      have hcl2 : wr.cell? (ad.add i) = some (.int .u8 ((q1.getD i 0).toNat : Int)) := by rw [b4.out.cell (by rw [block_add]; exact had)]; exact hcl
      have hset := padI_set q1 i hlt hq32
      have hlen : (q1.take i ++ List.replicate (32 - i) 0).length = 32 := by simp; omega
      have hco := n4.cell (bys_at (l := q1.take i ++ List.replicate (32 - i) 0) (k := i) (by omega))
      have hfz := n4.frozen i
      have e2 := n4.set i (.int .u8 ((q1.getD i 0).toNat : Int))
      rw [bys_set, hset] at e2
      have N5 := Lib.hid e2
      have B5 := Lib.hid (b4.out.setCell (p := ⟨w2.heap.size, i, none⟩) (Nat.le_refl _) (.int .u8 ((q1.getD i 0).toNat : Int)))
      generalize (q1.take i ++ List.replicate (32 - i) 0).getD i 0 = old at *
      generalize q1.getD i 0 = x at *
      clear e2 hset hlen n4 b4 hcl
      go_wp2_with fail
      exact ⟨⟨i + 1, by omega, by go_num, N5.out, B5⟩, by simp [intOf]; omega⟩
    · have hie : i = q1.length := by omega
      subst hie
      rw [List.take_length] at n4
      have HPL := padI_len q1 hq32
      rw [show q1 ++ List.replicate (32 - q1.length) 0 = padI q1 from rfl] at n4
      have HPD : Hid (padI q1 = padI q1) := Lib.hid rfl
      have hl := ld42 n4 HPL
      have r4 := R2.out.below b4.out hgl
      have hst2 := st42 (m := padI q1) r4 (by simp) HPL
      have R9 := Lib.hid (r4.setRow (bys (padI q1)))
      have G9 : Hid (w.grownBy (wr.setRow w.heap.size (bys (padI q1)).toArray) (some g)) := Lib.hid (grown_trans HG.out ⟨b4.out.os, b4.out.tape, b4.out.output, b4.out.size, fun q hq _ => b4.out.block q hq⟩ |> fun h1 => ⟨h1.os, h1.tape, h1.output, by simpa using h1.size, fun q hq hne => (setRow_other wr w.heap.size q _ (by omega)).trans (h1.block q hq hne)⟩)
      have F9 : Hid ((wr.setRow w.heap.size (bys (padI q1)).toArray).heap[g]? = some (.cells #[.slice A l.length c, .int .i64 q2, .int .i64 q3] 67 (0, 0))) := Lib.hid ((setRow_other wr w.heap.size g _ (by omega)).trans ((b4.out.block g (by omega)).trans HFF.out.blk))
      clear n4 r4
      go_wp2_with fail
      refine bodyPost_ret (results_cell_row rfl _ _ w.heap.size 42 _ (0, 0) (.array 32 5) rfl R9.out Tryd.underlying42 rfl (by rw [List.size_toArray, bys_len, HPL]; exact inf42)) rfl ?_
      refine ⟨rfl, ?_, ?_⟩
      · exact H0.out.turn G9.out F9.out HFF.out.le
      · exact G9.out
end Go.Proofs.YthhmamkphcgocaaDoor

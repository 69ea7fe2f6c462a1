/- sleuthlaw31.works answers true. -/
import Derived.Lib.SlBytesConst
import Derived.Test.YthhmamkphcgocaaPlx
import Derived.Test.YthhmamkphcgocaaPct
import Derived.Test.YthhmamkphcgocaaSym
namespace Go.Proofs.Ythhmamkphcgocaa
open Go.RowKit

theorem mem_pos {w : World} {v : Value} (hm : w.cell? ⟨0, 0, none⟩ = some v) : 0 < w.heap.size := by
  rcases Nat.eq_zero_or_pos w.heap.size with h0 | h0
  · exfalso
    have : w.heap[0]? = none := by simp [h0]
    simp [World.cell?, this] at hm
  · exact h0
/-- A constant text's bytes, as its conversion leaves them. -/
def txt (l : List UInt8) : Obj := .cells (bys l).toArray 5 (l.length, l.length + 1)
theorem lit_rv (w : World) (l : List UInt8) : Rv (w.heap.size + 1) (w.alloc (txt l)) (some ⟨w.heap.size, 0, none⟩) (bys l) := by
  intro k x hx
  refine ⟨_, rfl, Nat.lt_succ_self _, ?_⟩
  rw [Addr.add_lit, Nat.zero_add]
  simp only [World.cell?, heap_alloc_new, txt]
  simpa using hx
theorem conv_txt (w : World) (l : List UInt8) (n c : Nat) : (convert 27 27 (.slice (some ⟨w.heap.size, 0, none⟩) n c)).run Try.prog (w.alloc (.cells (bys l).toArray 5)) = .ok (.slice (some ⟨w.heap.size, 0, none⟩) n c) (w.alloc (txt l)) := by
  have := Lib.run_convert_bytes_const (P := Try.prog) w 27 5 (bys l).toArray n c Try.underlying27 Try.underlying5
  rw [this]
  simp [txt, bys_len]
set_option maxRecDepth 100000 in
set_option maxHeartbeats 2000000 in
theorem pworks_any (w : World) (m0 : Int) (hm : w.cell? ⟨0, 0, none⟩ = some (.int .i64 m0)) : Calls Try.prog 10 #[] w fun e w' => e = .returned (.bool true) ∧ Below w.heap.size w w' := by
  have hp := mem_pos hm
  have b1 : Below w.heap.size w (w.alloc (txt [97, 10, 98, 10])) := (Below.refl _ w).alloc (Nat.le_refl _) _
  have r1 := lit_rv w [97, 10, 98, 10]
  have v1 : (convert 27 27 (.slice (some ⟨w.heap.size, 0, none⟩) 4 4)).run Try.prog (w.alloc (.cells #[.int .u8 97, .int .u8 10, .int .u8 98, .int .u8 10] 5)) = _ := conv_txt w [97, 10, 98, 10] 4 4
  have s1 : (w.alloc (txt [97, 10, 98, 10])).heap.size = w.heap.size + 1 := by simp
  generalize w.alloc (txt [97, 10, 98, 10]) = w1 at *
  have b2 : Below w1.heap.size w1 (w1.alloc (txt [97, 10])) := (Below.refl _ w1).alloc (Nat.le_refl _) _
  have r2 := lit_rv w1 [97, 10]
  have v2 : (convert 27 27 (.slice (some ⟨w1.heap.size, 0, none⟩) 2 2)).run Try.prog (w1.alloc (.cells #[.int .u8 97, .int .u8 10] 5)) = _ := conv_txt w1 [97, 10] 2 2
  have s2 : (w1.alloc (txt [97, 10])).heap.size = w1.heap.size + 1 := by simp
  generalize w1.alloc (txt [97, 10]) = w2 at *
  have b := b1.trans (b2.mono b1.size)
  have h := plines_any w2 _ _ 4 2 [97, 10, 98, 10] [97, 10] [98] m0 ((b.cell (p := ⟨0, 0, none⟩) hp).trans hm) ((r1.below (by rw [← s1]; exact b2)).more (by omega)) (by rw [s2]; exact r2) (by decide) (by decide) (by decide) (by decide)
  rw [works_lines, s1] at h
  have H := Lib.hid h
  have hv : ∀ W : World, (convert 27 27 (.slice (some ⟨W.heap.size, 0, none⟩) 3 3)).run Try.prog (W.alloc (.cells #[.int .u8 97, .int .u8 97, .int .u8 97] 5)) = .ok (.slice (some ⟨W.heap.size, 0, none⟩) 3 3) (W.alloc (txt [97, 97, 97])) := fun W => conv_txt W [97, 97, 97] 3 3
  have hc : ∀ W : World, _ := fun W => count_any (B := (W.alloc (txt [97, 97, 97])).heap.size) (W.alloc (txt [97, 97, 97])) _ 3 [97, 97, 97] [97, 97] (by rw [World.size_alloc]; exact lit_rv W _) (Nat.le_refl _) (by decide) (by decide)
  rw [works_count] at hc
  have HC := Lib.hid hc
  have B := Lib.hid b
  rw [s1] at v2
  clear h hc r1 r2 b1 b2 b
  go_enter Try.func10, Try.ntmps10
  go_wp2_with (first
    | (go_at_call 11; refine H.out.mono ?_; rintro e w3 ⟨rfl, hb⟩; have B3 := Lib.hid hb; clear hb; have hv3 := hv w3)
    | (go_at_call 13; refine (HC.out w3).mono ?_; rintro e w4 ⟨rfl, hb⟩; have B4 := Lib.hid hb; clear hb))
  go_ret
  refine ⟨rfl, B.out.trans ((B3.out.trans (((Below.refl _ _).alloc B3.out.size _).trans (B4.out.mono ?_))).mono ?_)⟩
  · have := B3.out.size; simp; omega
  · omega
end Go.Proofs.Ythhmamkphcgocaa

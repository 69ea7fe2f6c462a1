/- (*myers.field).row, by contracts: from what is at hand, or from a new array. -/
import Derived.Test.YthhmamkphcgocaaFil2
namespace Go.Proofs.Ythhmamkphcgocaa
open Go.RowKit

def intCs (l : List Int) : Array Value := (ints l).toArray
theorem int_info2 : (Try.prog.info? 3).map (fun i => (i.zero, i.size, i.bytes)) = some (some (.int .i64 0), 1, 8) := by kernel_rfl
theorem make_two (k n : Nat) (hk : k ≤ n) (hn : n ≤ 1000000) (W : World) : (Instr.makeSlice 51 (.int .i64 k) (.int .i64 n)).run Try.prog W = .ok (.slice (some ⟨W.heap.size, 0, none⟩) k n) (W.alloc (.cells (intCs (List.replicate n 0)) 3)) := by
  obtain ⟨i0, hi0, hz0, hz1, hz2⟩ := info_parts int_info2
  have h := run_make (P := Try.prog) W 51 3 i0 (.int .i64 0) Try.underlying51 hi0 hz0 .i64 .i64 k n (by omega) (by omega) (by rw [hz2]; omega) (by omega)
  rw [h, hz1]
  have e : (madeCells (Value.int .i64 0).cells ((n : Int).toNat * 1)) = intCs (List.replicate n 0) := by
    apply Array.ext'
    simp only [Int.toNat_natCast, Nat.mul_one]
    rw [show (Value.int .i64 0).cells = #[Value.int .i64 0] from rfl, toList_madeCells_one]
    simp [intCs, ints]
  rw [e]
  simp
theorem make_zero (n : Nat) (hn : n ≤ 1000000) (W : World) : (Instr.makeSlice 51 (.int .i64 0) (.int .i64 n)).run Try.prog W = .ok (.slice (some ⟨W.heap.size, 0, none⟩) 0 n) (W.alloc (.cells (intCs (List.replicate n 0)) 3)) :=
  make_two 0 n (Nat.zero_le _) hn W

set_option maxHeartbeats 1000000 in
theorem row_fit (w : World) (F S : Nat) (sa sb rv : Value) (len cap n : Nat) (blk : w.heap[F]? = some (.cells #[sa, sb, rv, .slice (some ⟨S, 0, none⟩) len cap] 106 (0, 0)))
    (hn0 : 0 < n) (hn : len + n ≤ cap) (hc : cap ≤ 1000000) :
    Calls Try.prog 67 #[.pointer (some ⟨F, 0, none⟩), .int .i64 n] w fun e w' => e = .returned (.slice (some ⟨S, len, none⟩) n n) ∧ ∃ m, w' = (w.setCell ⟨F, 3, none⟩ (.slice (some ⟨S, 0, none⟩) (len + n) cap)).drewN m := by
  have c3 : w.cell? ⟨F, 3, none⟩ = some (.slice (some ⟨S, 0, none⟩) len cap) := by rw [cell_of_row w F 3 _ _ _ blk]; rfl
  have f3 : w.frozen? ⟨F, 3, none⟩ = false := frozen_of_row w F 3 _ _ blk
  clear blk
  go_enter Try.func67, Try.ntmps67
  go_wp2_with fail
  refine wp_region_quiet_lit (by kernel_rfl) (by kernel_rfl) ?_
  repeat (go_big_quiet_step (fail))
  refine wpQuiet_nil ?_
  rintro _ ⟨nq, rfl⟩
  go_wp2
  go_ret
  refine ⟨?_, nq, rfl⟩
  show Ending.returned (.slice (some ⟨S, len, none⟩) (len + n - len) (len + n - len)) = _
  rw [Nat.add_sub_cancel_left]

set_option maxRecDepth 100000 in
set_option maxHeartbeats 1000000 in
theorem row_new (w : World) (F : Nat) (sa sb rv sv : Value) (A : Option Addr) (len cap n : Nat) (hsv : sv = .slice A len cap) (blk : w.heap[F]? = some (.cells #[sa, sb, rv, sv] 106 (0, 0)))
    (hn0 : 0 < n) (hn : cap < len + n) (hlc : len ≤ cap) (hn2 : n < 4096) :
    Calls Try.prog 67 #[.pointer (some ⟨F, 0, none⟩), .int .i64 n] w fun e w' => e = .returned (.slice (some ⟨w.heap.size, 0, none⟩) n n) ∧
      ∃ m, w' = (((w.alloc (.cells (intCs (List.replicate 4096 0)) 3)).setCell ⟨F, 3, none⟩ (.slice (some ⟨w.heap.size, 0, none⟩) 0 4096)).setCell ⟨F, 3, none⟩ (.slice (some ⟨w.heap.size, 0, none⟩) n 4096)).drewN m := by
  have hF : F < w.heap.size := (Array.getElem?_eq_some_iff.1 blk).1
  have c3 : w.cell? ⟨F, 3, none⟩ = some (.slice A len cap) := by rw [cell_of_row w F 3 _ _ _ blk, hsv]; rfl
  have f3 : w.frozen? ⟨F, 3, none⟩ = false := frozen_of_row w F 3 _ _ blk
  have mk : ∀ W : World, (Instr.makeSlice 51 (.int .i64 0) (.int .i64 4096)).run Try.prog W = .ok (.slice (some ⟨W.heap.size, 0, none⟩) 0 4096) (W.alloc (.cells (intCs (List.replicate 4096 0)) 3)) := make_zero 4096 (by omega)
  generalize intCs (List.replicate 4096 0) = Z at *
  clear blk hsv
  go_enter Try.func67, Try.ntmps67
  go_wp2_with fail
  refine wp_region_quiet_lit (by kernel_rfl) (by kernel_rfl) ?_
  repeat (go_big_quiet_step (fail))
  refine wpQuiet_nil ?_
  rintro _ ⟨nq, rfl⟩
  have c3' : ((w.drewN nq).alloc (.cells Z 3)).cell? ⟨F, 3, none⟩ = some (.slice A len cap) := (World.cell?_of_block (Below.heap_alloc (w.drewN nq) _ F hF)).trans c3
  have f3' : ((w.drewN nq).alloc (.cells Z 3)).frozen? ⟨F, 3, none⟩ = false := (World.frozen?_of_block (Below.heap_alloc (w.drewN nq) _ F hF)).trans f3
  go_wp2
  go_ret
  exact ⟨rfl, nq, rfl⟩
end Go.Proofs.Ythhmamkphcgocaa

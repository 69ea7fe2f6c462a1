/- rename.start makes a finder; finder.pair notes a pair: each by a contract. -/
import Derived.Test.YthhmamkphcgocaaFnd2
namespace Go.Proofs.Ythhmamkphcgocaa
open Go.RowKit

theorem int_info : (Try.prog.info? 3).map (fun i => (i.zero, i.size, i.bytes)) = some (some (.int .i64 0), 1, 8) := by kernel_rfl
theorem bool_info : (Try.prog.info? 4).map (fun i => (i.zero, i.size, i.bytes)) = some (some (.bool false), 1, 1) := by kernel_rfl
theorem make_ints (n : Nat) (hn : n ≤ 40) (W : World) : (Instr.makeSlice 51 (.int .i64 n) (.int .i64 n)).run Try.prog W = .ok (.slice (some ⟨W.heap.size, 0, none⟩) n n) (W.alloc (.cells (intCells (List.replicate n 0)) 3)) := by
  obtain ⟨i0, hi0, hz0, hz1, hz2⟩ := info_parts int_info
  have h := run_make (P := Try.prog) W 51 3 i0 (.int .i64 0) Try.underlying51 hi0 hz0 .i64 .i64 n n (by omega) (by omega) (by rw [hz2]; omega) (by omega)
  rw [h, hz1]
  have e : (madeCells (Value.int .i64 0).cells ((n : Int).toNat * 1)) = intCells (List.replicate n 0) := by
    apply Array.ext'
    simp only [Int.toNat_natCast, Nat.mul_one]
    rw [show (Value.int .i64 0).cells = #[Value.int .i64 0] from rfl, toList_madeCells_one]
    simp [intCells]
  rw [e]
  simp
theorem make_bools (n : Nat) (hn : n ≤ 40) (W : World) : (Instr.makeSlice 52 (.int .i64 n) (.int .i64 n)).run Try.prog W = .ok (.slice (some ⟨W.heap.size, 0, none⟩) n n) (W.alloc (.cells (boolCells (List.replicate n false)) 4)) := by
  obtain ⟨i0, hi0, hz0, hz1, hz2⟩ := info_parts bool_info
  have h := run_make (P := Try.prog) W 52 4 i0 (.bool false) Try.underlying52 hi0 hz0 .i64 .i64 n n (by omega) (by omega) (by rw [hz2]; omega) (by omega)
  rw [h, hz1]
  have e : (madeCells (Value.bool false).cells ((n : Int).toNat * 1)) = boolCells (List.replicate n false) := by
    apply Array.ext'
    simp only [Int.toNat_natCast, Nat.mul_one]
    rw [show (Value.bool false).cells = #[Value.bool false] from rfl, toList_madeCells_one]
    simp [boolCells]
  rw [e]
  simp

section
variable (w : World) (o0 o1 o2 o3 o4 : Obj)
theorem at0 : ((((((w.alloc o0).alloc o1).alloc o2).alloc o3).alloc o4).drew).heap[w.heap.size]? = some o0 := by
  show (((((w.heap.push o0).push o1).push o2).push o3).push o4)[w.heap.size]? = _
  simp only [Array.getElem?_push, Array.size_push]
  repeat (first | rw [if_pos trivial] | rw [if_pos rfl] | rw [if_neg (by omega)])
theorem at1 : ((((((w.alloc o0).alloc o1).alloc o2).alloc o3).alloc o4).drew).heap[w.heap.size + 1]? = some o1 := by
  show (((((w.heap.push o0).push o1).push o2).push o3).push o4)[w.heap.size + 1]? = _
  simp only [Array.getElem?_push, Array.size_push]
  repeat (first | rw [if_pos trivial] | rw [if_pos rfl] | rw [if_neg (by omega)])
theorem at2 : ((((((w.alloc o0).alloc o1).alloc o2).alloc o3).alloc o4).drew).heap[w.heap.size + 1 + 1]? = some o2 := by
  show (((((w.heap.push o0).push o1).push o2).push o3).push o4)[w.heap.size + 1 + 1]? = _
  simp only [Array.getElem?_push, Array.size_push]
  repeat (first | rw [if_pos trivial] | rw [if_pos rfl] | rw [if_neg (by omega)])
theorem at3 : ((((((w.alloc o0).alloc o1).alloc o2).alloc o3).alloc o4).drew).heap[w.heap.size + 1 + 1 + 1]? = some o3 := by
  show (((((w.heap.push o0).push o1).push o2).push o3).push o4)[w.heap.size + 1 + 1 + 1]? = _
  simp only [Array.getElem?_push, Array.size_push]
  repeat (first | rw [if_pos trivial] | rw [if_pos rfl] | rw [if_neg (by omega)])
theorem at4 : ((((((w.alloc o0).alloc o1).alloc o2).alloc o3).alloc o4).drew).heap[w.heap.size + 1 + 1 + 1 + 1]? = some o4 := by
  show (((((w.heap.push o0).push o1).push o2).push o3).push o4)[w.heap.size + 1 + 1 + 1 + 1]? = _
  simp only [Array.getElem?_push, Array.size_push]
  repeat (first | rw [if_pos trivial] | rw [if_pos rfl] | rw [if_neg (by omega)])
theorem below5 : Below w.heap.size w (((((w.alloc o0).alloc o1).alloc o2).alloc o3).alloc o4).drew :=
  ((((((Below.refl _ _).alloc (Nat.le_refl _) _).alloc (by simp) _).alloc (by simp; omega) _).alloc (by simp; omega) _).alloc (by simp; omega) _).drew
end
def st0 (n : Nat) (f0 : Int) : St := ⟨List.replicate n f0, List.replicate n 0, List.replicate n 0, List.replicate n false⟩
set_option maxHeartbeats 2000000 in
theorem start_any (w : World) (A : Option Addr) (c : Nat) (l : List Chg) (hr : LReads w w.heap.size A l) (ho : ∀ (k : Nat) (x : Chg), l[k]? = some x → x.ok) (hn : l.length ≤ 40) :
    Calls Try.prog 18 #[.slice A l.length c] w fun e w' => ∃ b F S K T, e = .returned (.pointer (some ⟨b, 0, none⟩)) ∧ Fnd w' w.heap.size b F S K T A c l (st0 l.length 0) ∧ Below w.heap.size w w' := by
  have m1 := make_ints l.length hn
  have m2 := make_bools l.length hn
  have HR := Lib.hid hr
  have HO := Lib.hid ho
  clear hr ho
  have hkeep : ∀ w', Below w.heap.size w w' → LReads w' w.heap.size A l := fun w' hb => HR.out.keep fun p hp => hb.cell hp
  have HK := Lib.hid hkeep
  clear hkeep
  go_enter Try.func18, Try.ntmps18
  go_wp2_with fail
  go_region
  all_goals go_wp2
  all_goals go_ret
  all_goals clear m1 m2
  all_goals refine ⟨_, _, _, _, _, rfl, ⟨at4 _ _ _ _ _ _, ?_, ?_, ?_, ?_, by simp [st0], by simp [st0], by simp [st0], by simp [st0], by omega, by omega, by omega, by omega, by omega, by omega, by omega, by omega, HK.out _ (below5 _ _ _ _ _ _), HO.out, hn⟩, below5 _ _ _ _ _ _⟩
  all_goals first | exact at0 _ _ _ _ _ _ | exact at1 _ _ _ _ _ _ | exact at2 _ _ _ _ _ _ | exact at3 _ _ _ _ _ _

end Go.Proofs.Ythhmamkphcgocaa

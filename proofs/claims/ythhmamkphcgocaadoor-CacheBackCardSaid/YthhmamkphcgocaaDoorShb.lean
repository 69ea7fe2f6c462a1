/- sha.mix and what it calls, by contracts. -/
import Derived.Test.YthhmamkphcgocaaDoorSha
import Derived.Test.YthhmamkphcgocaaDoorChecked
import Derived.IntWalk
namespace Go.Proofs.YthhmamkphcgocaaDoor
open Go.RowKit
attribute [local go_sem ↓] run_addU run_andU run_xorU run_orU run_notU
attribute [local go_sem] U_cells U_one

theorem rot_and (n : Nat) (h1 : 1 ≤ n) (h2 : n ≤ 31) : Go.bits BinOp.and IntKind.u64 (IntKind.u64.wrap (-(n : Int))) 31 = ((32 - n : Nat) : Int) := by
  have h : ∀ m : Fin 31, Go.bits BinOp.and IntKind.u64 (IntKind.u64.wrap (-((m.val + 1 : Nat) : Int))) 31 = ((32 - (m.val + 1) : Nat) : Int) := by decide +kernel
  have := h ⟨n - 1, by omega⟩
  rwa [show n - 1 + 1 = n by omega] at this
theorem rotl_any (w : World) (x : UInt32) (y : Int) (n : Nat) (hy : y = -(n : Int)) (h1 : 1 ≤ n) (h2 : n ≤ 31) :
    Calls Tryd.prog 84 #[U x, .int .i64 y] w fun e w2 => e = .returned (U (rotr x n)) ∧ w = w2 := by
  subst hy
  have q1 := rot_and n h1 h2
  have q2 : IntKind.u64.wrap (32 - ((32 - n : Nat) : Int)) = (n : Int) := by rw [IntKind.wrap_u64]; omega
  have s1 := fun W t => run_shlU (P := Tryd.prog) W t x (32 - n) (by omega)
  have s2 := fun W t => run_shrU (P := Tryd.prog) W t x n (by omega)
  have e : rotr x n = (x <<< UInt32.ofNat (32 - n)) ||| (x >>> UInt32.ofNat n) := by unfold rotr; exact UInt32.or_comm _ _
  rw [e]
  clear e
  go_enter Tryd.func84, Tryd.ntmps84
  go_wp2
  go_ret
  exact ⟨rfl, rfl⟩
theorem right_any (w : World) (x : UInt32) (y : Int) (n : Nat) (hy : y = n) (h1 : 1 ≤ n) (h2 : n ≤ 31) :
    Calls Tryd.prog 79 #[U x, .int .u64 y] w fun e w2 => e = .returned (U (rotr x n)) ∧ w = w2 := by
  subst hy
  have q2 : IntKind.u64.wrap (32 - (n : Int)) = ((32 - n : Nat) : Int) := by rw [IntKind.wrap_u64]; omega
  have s1 := fun W t => run_shlU (P := Tryd.prog) W t x (32 - n) (by omega)
  have s2 := fun W t => run_shrU (P := Tryd.prog) W t x n (by omega)
  unfold rotr
  go_enter Tryd.func79, Tryd.ntmps79
  go_wp2
  go_ret
  exact ⟨rfl, rfl⟩

theorem inf8 : (Tryd.prog.info? 110).map (·.size) = some 8 := by kernel_rfl
theorem inf64 : (Tryd.prog.info? 132).map (·.size) = some 64 := by kernel_rfl
def z8 : Array Value := (us (List.replicate 8 0)).toArray
def z64 : Array Value := (us (List.replicate 64 0)).toArray
theorem z8_info : (Tryd.prog.info? 110).map (·.zero) = some (some (.agg z8)) := by kernel_rfl
theorem z64_info : (Tryd.prog.info? 132).map (·.zero) = some (some (.agg z64)) := by kernel_rfl
def new8 : Sem Value := Instr.alloc 110 true (.tuple #[])
def new64 : Sem Value := Instr.alloc 132 true (.tuple #[])
def load8 (a : Addr) : Sem Value := loadVar 110 a
def load64 (a : Addr) : Sem Value := loadVar 132 a
def store8 (a : Addr) (v : Value) : Sem Unit := storeVar 110 a v
def store64 (a : Addr) (v : Value) : Sem Unit := storeVar 132 a v
theorem new8_eq : Instr.alloc 110 true (.tuple #[]) = new8 := rfl
theorem new64_eq : Instr.alloc 132 true (.tuple #[]) = new64 := rfl
theorem load8_eq (a : Addr) : loadVar 110 a = load8 a := rfl
theorem load64_eq (a : Addr) : loadVar 132 a = load64 a := rfl
theorem store8_eq (a : Addr) (v : Value) : storeVar 110 a v = store8 a v := rfl
theorem store64_eq (a : Addr) (v : Value) : storeVar 132 a v = store64 a v := rfl
theorem run_new8 (W : World) : new8.run Tryd.prog W = .ok (.pointer (some ⟨W.heap.size, 0, none⟩)) (W.alloc (.cells z8 110)) := by
  obtain ⟨i, hi, hz⟩ := Option.map_eq_some_iff.1 z8_info
  simp [new8, Instr.alloc, zeroValue, typeInfo, hi, hz, newVar, newRow, Value.cells]
theorem run_new64 (W : World) : new64.run Tryd.prog W = .ok (.pointer (some ⟨W.heap.size, 0, none⟩)) (W.alloc (.cells z64 132)) := by
  obtain ⟨i, hi, hz⟩ := Option.map_eq_some_iff.1 z64_info
  simp [new64, Instr.alloc, zeroValue, typeInfo, hi, hz, newVar, newRow, Value.cells]
section
variable {W : World} {g : Nat} {t : TypeId} {l m : List UInt32}
theorem ld8 (h : Ar W g t (us l)) (hl : l.length = 8) : (load8 ⟨g, 0, none⟩).run Tryd.prog W = .ok (.agg (us l).toArray) W := h.load (by rw [us_len, hl]) Tryd.underlying110 rfl inf8
theorem ld64 (h : Ar W g t (us l)) (hl : l.length = 64) : (load64 ⟨g, 0, none⟩).run Tryd.prog W = .ok (.agg (us l).toArray) W := h.load (by rw [us_len, hl]) Tryd.underlying132 rfl inf64
theorem st8 (h : Ar W g t (us l)) (hl : l.length = 8) (hm : m.length = 8) : (store8 ⟨g, 0, none⟩ (.agg (us m).toArray)).run Tryd.prog W = .ok () (W.setRow g (us m).toArray) := h.store (by rw [us_len, hl]) (by rw [us_len, hm]) (us_one2 m) inf8
theorem st64 (h : Ar W g t (us l)) (hl : l.length = 64) (hm : m.length = 64) : (store64 ⟨g, 0, none⟩ (.agg (us m).toArray)).run Tryd.prog W = .ok () (W.setRow g (us m).toArray) := h.store (by rw [us_len, hl]) (by rw [us_len, hm]) (us_one2 m) inf64
end
attribute [local go_sem ↓] new8_eq new64_eq load8_eq load64_eq store8_eq store64_eq run_new8 run_new64
def KA : Array Value := (us K256).toArray
def HA8 : Array Value := (us H256).toArray
set_option maxRecDepth 100000 in
set_option maxHeartbeats 400000 in
theorem start_any (w : World) : Calls Tryd.prog 69 #[] w fun e w2 => e = .returned (.agg (us H256).toArray) ∧ Below w.heap.size w w2 := by
  have hn : Ar (w.alloc (.cells z8 110)) w.heap.size 110 (us (List.replicate 8 0)) := Ar.new w (us (List.replicate 8 0)) 110
  have hs := st8 (m := H256) hn rfl rfl
  have e1 : (us H256).toArray = #[.int .u32 1779033703, .int .u32 3144134277, .int .u32 1013904242, .int .u32 2773480762, .int .u32 1359893119, .int .u32 2600822924, .int .u32 528734635, .int .u32 1541459225] := rfl
  have hr : ((w.alloc (.cells z8 110)).setRow w.heap.size (us H256).toArray).heap[w.heap.size]? = some (.cells (us H256).toArray 110 (0, 0)) := hn.setRow (us H256)
  have HB := Lib.hid (below_row ((Below.refl w.heap.size w).alloc (Nat.le_refl _) (.cells z8 110)) w.heap.size (us H256).toArray (Nat.le_refl _))
  rw [e1] at hs HB hr
  rw [e1]
  have E1 := Lib.hid e1
  have HR := Lib.hid hr
  clear hr
  clear hn e1
  go_enter Tryd.func69, Tryd.ntmps69
  go_wp2
  try simp only [Exit.inBlock, Exit.then]
  refine bodyPost_ret (results_cell_row rfl _ _ w.heap.size 110 _ (0, 0) (.array 8 56) rfl HR.out Tryd.underlying110 rfl (by rw [← E1.out]; kernel_rfl)) rfl ?_
  exact ⟨rfl, HB.out⟩
set_option maxRecDepth 100000 in
set_option maxHeartbeats 400000 in
theorem fstart_any (w : World) : Calls Tryd.prog 65 #[] w fun e w2 => e = .returned (.agg (us H256).toArray) ∧ Below w.heap.size w w2 := by
  have hn : Ar (w.alloc (.cells z8 110)) w.heap.size 110 (us (List.replicate 8 0)) := Ar.new w (us (List.replicate 8 0)) 110
  have hs := st8 (m := H256) hn rfl rfl
  have e1 : (us H256).toArray = #[.int .u32 1779033703, .int .u32 3144134277, .int .u32 1013904242, .int .u32 2773480762, .int .u32 1359893119, .int .u32 2600822924, .int .u32 528734635, .int .u32 1541459225] := rfl
  have hr : ((w.alloc (.cells z8 110)).setRow w.heap.size (us H256).toArray).heap[w.heap.size]? = some (.cells (us H256).toArray 110 (0, 0)) := hn.setRow (us H256)
  have HB := Lib.hid (below_row ((Below.refl w.heap.size w).alloc (Nat.le_refl _) (.cells z8 110)) w.heap.size (us H256).toArray (Nat.le_refl _))
  rw [e1] at hs HB hr
  rw [e1]
  have E1 := Lib.hid e1
  have HR := Lib.hid hr
  clear hr
  clear hn e1
  go_enter Tryd.func65, Tryd.ntmps65
  go_wp2
  try simp only [Exit.inBlock, Exit.then]
  refine bodyPost_ret (results_cell_row rfl _ _ w.heap.size 110 _ (0, 0) (.array 8 56) rfl HR.out Tryd.underlying110 rfl (by rw [← E1.out]; kernel_rfl)) rfl ?_
  exact ⟨rfl, HB.out⟩
set_option maxRecDepth 100000 in
set_option maxHeartbeats 400000 in
theorem konst_any (w : World) : Calls Tryd.prog 82 #[] w fun e w2 => e = .returned (.agg (us K256).toArray) ∧ Below w.heap.size w w2 := by
  have hn : Ar (w.alloc (.cells z64 132)) w.heap.size 132 (us (List.replicate 64 0)) := Ar.new w (us (List.replicate 64 0)) 132
  have hs := st64 (m := K256) hn rfl rfl
  have e1 : (us K256).toArray = #[.int .u32 1116352408, .int .u32 1899447441, .int .u32 3049323471, .int .u32 3921009573, .int .u32 961987163, .int .u32 1508970993, .int .u32 2453635748, .int .u32 2870763221, .int .u32 3624381080, .int .u32 310598401, .int .u32 607225278, .int .u32 1426881987, .int .u32 1925078388, .int .u32 2162078206, .int .u32 2614888103, .int .u32 3248222580, .int .u32 3835390401, .int .u32 4022224774, .int .u32 264347078, .int .u32 604807628, .int .u32 770255983, .int .u32 1249150122, .int .u32 1555081692, .int .u32 1996064986, .int .u32 2554220882, .int .u32 2821834349, .int .u32 2952996808, .int .u32 3210313671, .int .u32 3336571891, .int .u32 3584528711, .int .u32 113926993, .int .u32 338241895, .int .u32 666307205, .int .u32 773529912, .int .u32 1294757372, .int .u32 1396182291, .int .u32 1695183700, .int .u32 1986661051, .int .u32 2177026350, .int .u32 2456956037, .int .u32 2730485921, .int .u32 2820302411, .int .u32 3259730800, .int .u32 3345764771, .int .u32 3516065817, .int .u32 3600352804, .int .u32 4094571909, .int .u32 275423344, .int .u32 430227734, .int .u32 506948616, .int .u32 659060556, .int .u32 883997877, .int .u32 958139571, .int .u32 1322822218, .int .u32 1537002063, .int .u32 1747873779, .int .u32 1955562222, .int .u32 2024104815, .int .u32 2227730452, .int .u32 2361852424, .int .u32 2428436474, .int .u32 2756734187, .int .u32 3204031479, .int .u32 3329325298] := rfl
  have hr : ((w.alloc (.cells z64 132)).setRow w.heap.size (us K256).toArray).heap[w.heap.size]? = some (.cells (us K256).toArray 132 (0, 0)) := hn.setRow (us K256)
  have HB := Lib.hid (below_row ((Below.refl w.heap.size w).alloc (Nat.le_refl _) (.cells z64 132)) w.heap.size (us K256).toArray (Nat.le_refl _))
  rw [e1] at hs HB hr
  rw [e1]
  have E1 := Lib.hid e1
  have HR := Lib.hid hr
  clear hr
  clear hn e1
  go_enter Tryd.func82, Tryd.ntmps82
  go_wp2
  try simp only [Exit.inBlock, Exit.then]
  refine bodyPost_ret (results_cell_row rfl _ _ w.heap.size 132 _ (0, 0) (.array 64 56) rfl HR.out Tryd.underlying132 rfl (by rw [← E1.out]; kernel_rfl)) rfl ?_
  exact ⟨rfl, HB.out⟩
end Go.Proofs.YthhmamkphcgocaaDoor

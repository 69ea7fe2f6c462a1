/- SHA-256 over UInt32, plain; the operations on numbers of 32 bits, run whole. No program. sha.mix and what it calls, by contracts. sha.spread and sha.mix, by contracts. -/
import Derived.Test.YtbmpidacoohdmaaGreatF00
import Derived.Lib.EndianBits
import Derived.Test.YtbmpidacoohdmaaGreatChecked
import Derived.IntWalk
import Derived.StillTailTactics
namespace Go.Proofs.YtbmpidacoohdmaaGreat
open Go.RowKit

/-- A number of 32 bits, as a value. -/
def U (x : UInt32) : Value := .int .u32 (x.toNat : Int)
theorem U_cells (x : UInt32) : (U x).cells = #[U x] := rfl
theorem U_one (x : UInt32) : (U x).oneCell' = true := rfl
theorem u32_wrap (n : Nat) : IntKind.u32.wrap (n : Int) = ((UInt32.ofNat n).toNat : Int) := by
  rw [IntKind.wrap_u32]
  simp
section
variable {P : Program} (w : World) (t t2 : TypeId) (x y : UInt32)
theorem run_addU : (binOp .add t (U x) (U y)).run P w = .ok (U (x + y)) w := by
  have e : IntKind.u32.wrap ((x.toNat : Int) + (y.toNat : Int)) = ((x + y).toNat : Int) := by
    rw [← Int.natCast_add, u32_wrap]; simp
  unfold U
  rw [binOp_add, ← e]
  rfl
theorem bits_u32 : Go.bits .and .u32 (x.toNat : Int) (y.toNat : Int) = ((x &&& y).toNat : Int) ∧ Go.bits .xor .u32 (x.toNat : Int) (y.toNat : Int) = ((x ^^^ y).toNat : Int) ∧ Go.bits .or .u32 (x.toNat : Int) (y.toNat : Int) = ((x ||| y).toNat : Int) := by
  have hx : x.toNat % 2 ^ 32 = x.toNat := Nat.mod_eq_of_lt x.toNat_lt
  have hy : y.toNat % 2 ^ 32 = y.toNat := Nat.mod_eq_of_lt y.toNat_lt
  have k : IntKind.u32.bits = 32 := rfl
  refine ⟨?_, ?_, ?_⟩
  · simp only [Go.bits, k, BitVec.ofInt_natCast, BitVec.toNat_and, BitVec.toNat_ofNat, hx, hy]
    rw [u32_wrap]; congr 1; rw [← UInt32.toNat_and]; simp
  · simp only [Go.bits, k, BitVec.ofInt_natCast, BitVec.toNat_xor, BitVec.toNat_ofNat, hx, hy]
    rw [u32_wrap]; congr 1; rw [← UInt32.toNat_xor]; simp
  · simp only [Go.bits, k, BitVec.ofInt_natCast, BitVec.toNat_or, BitVec.toNat_ofNat, hx, hy]
    rw [u32_wrap]; congr 1; rw [← UInt32.toNat_or]; simp
theorem run_andU : (binOp .and t (U x) (U y)).run P w = .ok (U (x &&& y)) w := by
  unfold U; rw [binOp_and, intBits_and, (bits_u32 x y).1]; rfl
theorem run_xorU : (binOp .xor t (U x) (U y)).run P w = .ok (U (x ^^^ y)) w := by
  unfold U; rw [binOp_xor, intBits_xor, (bits_u32 x y).2.1]; rfl
theorem run_orU : (binOp .or t (U x) (U y)).run P w = .ok (U (x ||| y)) w := by
  unfold U; rw [binOp_or, intBits_or, (bits_u32 x y).2.2]; rfl
theorem run_shrU (n : Nat) (hn : n < 32) : (binOp .shr t (U x) (.int .u64 n)).run P w = .ok (U (x >>> UInt32.ofNat n)) w := by
  have e : (x.toNat : Int) / 2 ^ n = ((x >>> UInt32.ofNat n).toNat : Int) := by
    rw [UInt32.toNat_shiftRight, Nat.shiftRight_eq_div_pow]
    simp [Nat.mod_eq_of_lt (show n < 4294967296 by omega), Nat.mod_eq_of_lt hn]
  unfold U
  show (Op.shift .shr .u32 (x.toNat : Int) .u64 (n : Int)).run P w = _
  rw [shift_shr .u32 .u64 _ _ (by omega) (by show (n : Int) ≤ 32; omega), ← e]
  rfl
theorem run_shlU (n : Nat) (hn : n < 32) : (binOp .shl t (U x) (.int .u64 n)).run P w = .ok (U (x <<< UInt32.ofNat n)) w := by
  have e : IntKind.u32.wrap ((x.toNat : Int) * 2 ^ n) = ((x <<< UInt32.ofNat n).toNat : Int) := by
    rw [show (x.toNat : Int) * 2 ^ n = ((x.toNat * 2 ^ n : Nat) : Int) by simp, u32_wrap, UInt32.toNat_shiftLeft, Nat.shiftLeft_eq]
    simp [Nat.mod_eq_of_lt (show n < 4294967296 by omega), Nat.mod_eq_of_lt hn]
  unfold U
  show (Op.shift .shl .u32 (x.toNat : Int) .u64 (n : Int)).run P w = _
  rw [shift_shl .u32 .u64 _ _ (by omega) (by show (n : Int) ≤ 32; omega), ← e]
  rfl
def nt (x : UInt32) : UInt32 := 4294967295 ^^^ x
theorem run_notU : (Op.unary .xor (U x)).run P w = .ok (U (nt x)) w := by
  have h := (bits_u32 4294967295 x).2.1
  have e : ((4294967295 : UInt32).toNat : Int) = 4294967295 := rfl
  rw [e] at h
  unfold U nt
  show (Op.intBits .xor .u32 4294967295 (x.toNat : Int)).run P w = _
  rw [intBits_xor, h]
  rfl
end
def us (l : List UInt32) : List Value := l.map U
theorem us_len (l : List UInt32) : (us l).length = l.length := by simp [us]
theorem us_at {l : List UInt32} {k : Nat} (h : k < l.length) : (us l)[k]? = some (U (l.getD k 0)) := by simp [us, h]
theorem us_one (l : List UInt32) : ones (us l).toArray = true := by simp [ones, us, U_one]
theorem us_one2 (l : List UInt32) : ∀ u ∈ us l, u.oneCell' = true := by simp [us, U_one]
theorem us_app (a b : List UInt32) : us a ++ us b = us (a ++ b) := by simp [us]

def rotr (x : UInt32) (n : Nat) : UInt32 := (x >>> UInt32.ofNat n) ||| (x <<< UInt32.ofNat (32 - n))
def K256 : List UInt32 := [0x428a2f98, 0x71374491, 0xb5c0fbcf, 0xe9b5dba5, 0x3956c25b, 0x59f111f1, 0x923f82a4, 0xab1c5ed5, 0xd807aa98, 0x12835b01, 0x243185be, 0x550c7dc3, 0x72be5d74, 0x80deb1fe, 0x9bdc06a7, 0xc19bf174, 0xe49b69c1, 0xefbe4786, 0x0fc19dc6, 0x240ca1cc, 0x2de92c6f, 0x4a7484aa, 0x5cb0a9dc, 0x76f988da, 0x983e5152, 0xa831c66d, 0xb00327c8, 0xbf597fc7, 0xc6e00bf3, 0xd5a79147, 0x06ca6351, 0x14292967, 0x27b70a85, 0x2e1b2138, 0x4d2c6dfc, 0x53380d13, 0x650a7354, 0x766a0abb, 0x81c2c92e, 0x92722c85, 0xa2bfe8a1, 0xa81a664b, 0xc24b8b70, 0xc76c51a3, 0xd192e819, 0xd6990624, 0xf40e3585, 0x106aa070, 0x19a4c116, 0x1e376c08, 0x2748774c, 0x34b0bcb5, 0x391c0cb3, 0x4ed8aa4a, 0x5b9cca4f, 0x682e6ff3, 0x748f82ee, 0x78a5636f, 0x84c87814, 0x8cc70208, 0x90befffa, 0xa4506ceb, 0xbef9a3f7, 0xc67178f2]
def H256 : List UInt32 := [0x6a09e667, 0xbb67ae85, 0x3c6ef372, 0xa54ff53a, 0x510e527f, 0x9b05688c, 0x1f83d9ab, 0x5be0cd19]
/-- One round. -/
def rnd (k w : UInt32) : List UInt32 → List UInt32
  | [a, b, c, d, e, f, g, h] =>
    let t1 := h + (rotr e 6 ^^^ rotr e 11 ^^^ rotr e 25) + ((e &&& f) ^^^ (nt e &&& g)) + k + w
    let t2 := (rotr a 2 ^^^ rotr a 13 ^^^ rotr a 22) + ((a &&& b) ^^^ (a &&& c) ^^^ (b &&& c))
    [t1 + t2, a, b, c, d + t1, e, f, g]
  | l => l
def sg0 (x : UInt32) : UInt32 := rotr x 7 ^^^ rotr x 18 ^^^ (x >>> UInt32.ofNat 3)
def sg1 (y : UInt32) : UInt32 := rotr y 17 ^^^ rotr y 19 ^^^ (y >>> UInt32.ofNat 10)
/-- One number more of a block's. -/
def wnext (l : List UInt32) : List UInt32 := l ++ [l.getD (l.length - 16) 0 + sg0 (l.getD (l.length - 15) 0) + l.getD (l.length - 7) 0 + sg1 (l.getD (l.length - 2) 0)]
def wmore : Nat → List UInt32 → List UInt32
  | 0, l => l
  | n + 1, l => wmore n (wnext l)
def be32 (a b c d : UInt8) : UInt32 := UInt32.ofNat (a.toNat * 16777216 + b.toNat * 65536 + c.toNat * 256 + d.toNat)
def wfirst (b : List UInt8) (n : Nat) : List UInt32 := (List.range n).map fun t => be32 (b.getD (4 * t) 0) (b.getD (4 * t + 1) 0) (b.getD (4 * t + 2) 0) (b.getD (4 * t + 3) 0)
/-- A block's 64 numbers. -/
def sched (b : List UInt8) : List UInt32 := wmore 48 (wfirst b 16)
def rnds (w : List UInt32) (n : Nat) (v : List UInt32) : List UInt32 := (List.range n).foldl (fun v t => rnd (K256.getD t 0) (w.getD t 0) v) v
/-- What a state becomes by a block. -/
def mixS (st : List UInt32) (b : List UInt8) : List UInt32 := List.zipWith (· + ·) (rnds (sched b) 64 st) st
theorem rnds_succ (w : List UInt32) (n : Nat) (v : List UInt32) : rnds w (n + 1) v = rnd (K256.getD n 0) (w.getD n 0) (rnds w n v) := by simp [rnds, List.range_succ]
theorem rnd_len (k w : UInt32) (l : List UInt32) (h : l.length = 8) : (rnd k w l).length = 8 := by
  match l, h with
  | [a, b, c, d, e, f, g, i], _ => rfl
theorem rnds_len (w : List UInt32) (v : List UInt32) (h : v.length = 8) : ∀ n, (rnds w n v).length = 8 := by
  intro n
  induction n with
  | zero => exact h
  | succ n ih => rw [rnds_succ]; exact rnd_len _ _ _ ih
theorem mixS_len (st : List UInt32) (b : List UInt8) (h : st.length = 8) : (mixS st b).length = 8 := by simp [mixS, h, rnds_len _ _ h]
theorem wnext_len (l : List UInt32) : (wnext l).length = l.length + 1 := by simp [wnext]
theorem wmore_len (n : Nat) : ∀ l, (wmore n l).length = l.length + n := by
  induction n with
  | zero => intro l; rfl
  | succ n ih => intro l; rw [wmore, ih, wnext_len]; omega
theorem wfirst_len (b : List UInt8) (n : Nat) : (wfirst b n).length = n := by simp [wfirst]
theorem wfirst_succ (b : List UInt8) (n : Nat) : wfirst b (n + 1) = wfirst b n ++ [be32 (b.getD (4 * n) 0) (b.getD (4 * n + 1) 0) (b.getD (4 * n + 2) 0) (b.getD (4 * n + 3) 0)] := by simp [wfirst, List.range_succ]
theorem sched_len (b : List UInt8) : (sched b).length = 64 := by rw [sched, wmore_len, wfirst_len]
theorem wmore_last (n : Nat) : ∀ l, wmore (n + 1) l = wnext (wmore n l) := by
  induction n with
  | zero => intro l; rfl
  | succ n ih => intro l; rw [wmore, ih]; rfl
/-- A state that takes all whole blocks of a text. -/
def absorb (st : List UInt32) (l : List UInt8) : List UInt32 := if _h : l.length < 64 then st else absorb (mixS st (l.take 64)) (l.drop 64)
  termination_by l.length
  decreasing_by simp; omega
theorem absorb_small {st : List UInt32} {l : List UInt8} (h : l.length < 64) : absorb st l = st := by rw [absorb]; simp [h]
theorem absorb_more {st : List UInt32} {l : List UInt8} (h : 64 ≤ l.length) : absorb st l = absorb (mixS st (l.take 64)) (l.drop 64) := by rw [absorb]; simp [show ¬ l.length < 64 by omega]
theorem absorb_len (n : Nat) : ∀ (l : List UInt8) (st : List UInt32), l.length ≤ n → st.length = 8 → (absorb st l).length = 8 := by
  induction n with
  | zero => intro l st hn h; rw [absorb_small (by omega)]; exact h
  | succ n ih =>
    intro l st hn h
    by_cases h1 : l.length < 64
    · rw [absorb_small h1]; exact h
    · rw [absorb_more (by omega)]
      exact ih _ _ (by simp; omega) (mixS_len _ _ h)
theorem absorb_app (n : Nat) : ∀ (a b : List UInt8) (st : List UInt32), a.length ≤ n → a.length % 64 = 0 → absorb st (a ++ b) = absorb (absorb st a) b := by
  induction n with
  | zero =>
    intro a b st hn h
    have : a = [] := List.eq_nil_of_length_eq_zero (by omega)
    subst this
    rw [absorb_small (l := []) (by simp)]; rfl
  | succ n ih =>
    intro a b st hn h
    by_cases h1 : a.length < 64
    · have : a = [] := List.eq_nil_of_length_eq_zero (by omega)
      subst this
      rw [absorb_small (l := []) (by simp)]; rfl
    · rw [absorb_more (l := a) (by omega), absorb_more (l := a ++ b) (by simp; omega)]
      rw [List.take_append_of_le_length (by omega), List.drop_append_of_le_length (by omega)]
      exact ih _ _ _ (by simp; omega) (by simp; omega)
/-- What stands behind a text of n bytes. -/
def padB (n : Nat) : List UInt8 := 128 :: List.replicate ((64 - (n + 9) % 64) % 64) 0
def outB (st : List UInt32) : List UInt8 := st.flatMap fun x => [by8 (x.toNat / 16777216), by8 (x.toNat / 65536), by8 (x.toNat / 256), by8 x.toNat]
end Go.Proofs.YtbmpidacoohdmaaGreat
namespace Go.Proofs.YtbmpidacoohdmaaGreat
open Lib renaming hid → hI
section
open Go.RowKit
attribute [local go_sem ↓] run_addU run_andU run_xorU run_orU run_notU
attribute [local go_sem] U_cells U_one

theorem rot_and (n : Nat) (h1 : 1 ≤ n) (h2 : n ≤ 31) : Go.bits BinOp.and IntKind.u64 (IntKind.u64.wrap (-(n : Int))) 31 = ((32 - n : Nat) : Int) := by
  have h : ∀ m : Fin 31, Go.bits BinOp.and IntKind.u64 (IntKind.u64.wrap (-((m.val + 1 : Nat) : Int))) 31 = ((32 - (m.val + 1) : Nat) : Int) := by decide +kernel
  have := h ⟨n - 1, by omega⟩
  rwa [show n - 1 + 1 = n by omega] at this
theorem rotl_any (w : World) (x : UInt32) (y : Int) (n : Nat) (hy : y = -(n : Int)) (h1 : 1 ≤ n) (h2 : n ≤ 31) :
    Calls Tryz.prog 267 #[U x, .int .i64 y] w fun e w2 => e = .returned (U (rotr x n)) ∧ w = w2 := by
  subst hy
  have q1 := rot_and n h1 h2
  have q2 : IntKind.u64.wrap (32 - ((32 - n : Nat) : Int)) = (n : Int) := by rw [IntKind.wrap_u64]; omega
  have s1 := fun W t => run_shlU (P := Tryz.prog) W t x (32 - n) (by omega)
  have s2 := fun W t => run_shrU (P := Tryz.prog) W t x n (by omega)
  have e : rotr x n = (x <<< UInt32.ofNat (32 - n)) ||| (x >>> UInt32.ofNat n) := by unfold rotr; exact UInt32.or_comm _ _
  rw [e]
  clear e
  go_enter Tryz.func267, Tryz.ntmps267
  go_wp2
  go_ret
  exact ⟨rfl, rfl⟩
theorem right_any (w : World) (x : UInt32) (y : Int) (n : Nat) (hy : y = n) (h1 : 1 ≤ n) (h2 : n ≤ 31) :
    Calls Tryz.prog 219 #[U x, .int .u64 y] w fun e w2 => e = .returned (U (rotr x n)) ∧ w = w2 := by
  subst hy
  have q2 : IntKind.u64.wrap (32 - (n : Int)) = ((32 - n : Nat) : Int) := by rw [IntKind.wrap_u64]; omega
  have s1 := fun W t => run_shlU (P := Tryz.prog) W t x (32 - n) (by omega)
  have s2 := fun W t => run_shrU (P := Tryz.prog) W t x n (by omega)
  unfold rotr
  go_enter Tryz.func219, Tryz.ntmps219
  go_wp2
  go_ret
  exact ⟨rfl, rfl⟩

theorem inf8 : (Tryz.prog.info? 267).map (·.size) = some 8 := by kernel_rfl
theorem inf64 : (Tryz.prog.info? 390).map (·.size) = some 64 := by kernel_rfl
def z8 : Array Value := (us (List.replicate 8 0)).toArray
def z64 : Array Value := (us (List.replicate 64 0)).toArray
theorem z8_info : (Tryz.prog.info? 267).map (·.zero) = some (some (.agg z8)) := by kernel_rfl
theorem z64_info : (Tryz.prog.info? 390).map (·.zero) = some (some (.agg z64)) := by kernel_rfl
def new8 : Sem Value := Instr.alloc 267 true (.tuple #[])
def new64 : Sem Value := Instr.alloc 390 true (.tuple #[])
def load8 (a : Addr) : Sem Value := loadVar 267 a
def load64 (a : Addr) : Sem Value := loadVar 390 a
def store8 (a : Addr) (v : Value) : Sem Unit := storeVar 267 a v
def store64 (a : Addr) (v : Value) : Sem Unit := storeVar 390 a v
theorem new8_eq : Instr.alloc 267 true (.tuple #[]) = new8 := rfl
theorem new64_eq : Instr.alloc 390 true (.tuple #[]) = new64 := rfl
theorem load8_eq (a : Addr) : loadVar 267 a = load8 a := rfl
theorem load64_eq (a : Addr) : loadVar 390 a = load64 a := rfl
theorem store8_eq (a : Addr) (v : Value) : storeVar 267 a v = store8 a v := rfl
theorem store64_eq (a : Addr) (v : Value) : storeVar 390 a v = store64 a v := rfl
theorem run_new8 (W : World) : new8.run Tryz.prog W = .ok (.pointer (some ⟨W.heap.size, 0, none⟩)) (W.alloc (.cells z8 267)) := by
  obtain ⟨i, hi, hz⟩ := Option.map_eq_some_iff.1 z8_info
  simp [new8, Instr.alloc, zeroValue, typeInfo, hi, hz, newVar, newRow, Value.cells]
theorem run_new64 (W : World) : new64.run Tryz.prog W = .ok (.pointer (some ⟨W.heap.size, 0, none⟩)) (W.alloc (.cells z64 390)) := by
  obtain ⟨i, hi, hz⟩ := Option.map_eq_some_iff.1 z64_info
  simp [new64, Instr.alloc, zeroValue, typeInfo, hi, hz, newVar, newRow, Value.cells]
section
variable {W : World} {g : Nat} {t : TypeId} {l m : List UInt32}
theorem ld8 (h : Ar W g t (us l)) (hl : l.length = 8) : (load8 ⟨g, 0, none⟩).run Tryz.prog W = .ok (.agg (us l).toArray) W := h.load (by rw [us_len, hl]) Tryz.underlying267 rfl inf8
theorem ld64 (h : Ar W g t (us l)) (hl : l.length = 64) : (load64 ⟨g, 0, none⟩).run Tryz.prog W = .ok (.agg (us l).toArray) W := h.load (by rw [us_len, hl]) Tryz.underlying390 rfl inf64
theorem st8 (h : Ar W g t (us l)) (hl : l.length = 8) (hm : m.length = 8) : (store8 ⟨g, 0, none⟩ (.agg (us m).toArray)).run Tryz.prog W = .ok () (W.setRow g (us m).toArray) := h.store (by rw [us_len, hl]) (by rw [us_len, hm]) (us_one2 m) inf8
theorem st64 (h : Ar W g t (us l)) (hl : l.length = 64) (hm : m.length = 64) : (store64 ⟨g, 0, none⟩ (.agg (us m).toArray)).run Tryz.prog W = .ok () (W.setRow g (us m).toArray) := h.store (by rw [us_len, hl]) (by rw [us_len, hm]) (us_one2 m) inf64
end
attribute [local go_sem ↓] new8_eq new64_eq load8_eq load64_eq store8_eq store64_eq run_new8 run_new64
def KA : Array Value := (us K256).toArray
set_option maxRecDepth 100000 in
set_option maxHeartbeats 400000 in
theorem start_any (w : World) : Calls Tryz.prog 198 #[] w fun e w2 => e = .returned (.agg (us H256).toArray) ∧ Below w.heap.size w w2 := by
  have hn : Ar (w.alloc (.cells z8 267)) w.heap.size 267 (us (List.replicate 8 0)) := Ar.new w (us (List.replicate 8 0)) 267
  have hs := st8 (m := H256) hn rfl rfl
  have e1 : (us H256).toArray = #[.int .u32 1779033703, .int .u32 3144134277, .int .u32 1013904242, .int .u32 2773480762, .int .u32 1359893119, .int .u32 2600822924, .int .u32 528734635, .int .u32 1541459225] := rfl
  have hr : ((w.alloc (.cells z8 267)).setRow w.heap.size (us H256).toArray).heap[w.heap.size]? = some (.cells (us H256).toArray 267 (0, 0)) := hn.setRow (us H256)
  have HB := hI (below_row ((Below.refl w.heap.size w).alloc (Nat.le_refl _) (.cells z8 267)) w.heap.size (us H256).toArray (Nat.le_refl _))
  rw [e1] at hs HB hr
  rw [e1]
  have E1 := hI e1
  have HR := hI hr
  clear hr
  clear hn e1
  go_enter Tryz.func198, Tryz.ntmps198
  go_wp2
  try simp only [Exit.inBlock, Exit.then]
  refine bodyPost_ret (results_cell_row rfl _ _ w.heap.size 267 _ (0, 0) (.array 8 217) rfl HR.out Tryz.underlying267 rfl (by rw [← E1.out]; kernel_rfl)) rfl ?_
  exact ⟨rfl, HB.out⟩
set_option maxRecDepth 100000 in
set_option maxHeartbeats 400000 in
theorem fstart_any (w : World) : Calls Tryz.prog 163 #[] w fun e w2 => e = .returned (.agg (us H256).toArray) ∧ Below w.heap.size w w2 := by
  have hn : Ar (w.alloc (.cells z8 267)) w.heap.size 267 (us (List.replicate 8 0)) := Ar.new w (us (List.replicate 8 0)) 267
  have hs := st8 (m := H256) hn rfl rfl
  have e1 : (us H256).toArray = #[.int .u32 1779033703, .int .u32 3144134277, .int .u32 1013904242, .int .u32 2773480762, .int .u32 1359893119, .int .u32 2600822924, .int .u32 528734635, .int .u32 1541459225] := rfl
  have hr : ((w.alloc (.cells z8 267)).setRow w.heap.size (us H256).toArray).heap[w.heap.size]? = some (.cells (us H256).toArray 267 (0, 0)) := hn.setRow (us H256)
  have HB := hI (below_row ((Below.refl w.heap.size w).alloc (Nat.le_refl _) (.cells z8 267)) w.heap.size (us H256).toArray (Nat.le_refl _))
  rw [e1] at hs HB hr
  rw [e1]
  have E1 := hI e1
  have HR := hI hr
  clear hr
  clear hn e1
  go_enter Tryz.func163, Tryz.ntmps163
  go_wp2
  try simp only [Exit.inBlock, Exit.then]
  refine bodyPost_ret (results_cell_row rfl _ _ w.heap.size 267 _ (0, 0) (.array 8 217) rfl HR.out Tryz.underlying267 rfl (by rw [← E1.out]; kernel_rfl)) rfl ?_
  exact ⟨rfl, HB.out⟩
set_option maxRecDepth 100000 in
set_option maxHeartbeats 400000 in
theorem konst_any (w : World) : Calls Tryz.prog 265 #[] w fun e w2 => e = .returned (.agg (us K256).toArray) ∧ Below w.heap.size w w2 := by
  have hn : Ar (w.alloc (.cells z64 390)) w.heap.size 390 (us (List.replicate 64 0)) := Ar.new w (us (List.replicate 64 0)) 390
  have hs := st64 (m := K256) hn rfl rfl
  have e1 : (us K256).toArray = #[.int .u32 1116352408, .int .u32 1899447441, .int .u32 3049323471, .int .u32 3921009573, .int .u32 961987163, .int .u32 1508970993, .int .u32 2453635748, .int .u32 2870763221, .int .u32 3624381080, .int .u32 310598401, .int .u32 607225278, .int .u32 1426881987, .int .u32 1925078388, .int .u32 2162078206, .int .u32 2614888103, .int .u32 3248222580, .int .u32 3835390401, .int .u32 4022224774, .int .u32 264347078, .int .u32 604807628, .int .u32 770255983, .int .u32 1249150122, .int .u32 1555081692, .int .u32 1996064986, .int .u32 2554220882, .int .u32 2821834349, .int .u32 2952996808, .int .u32 3210313671, .int .u32 3336571891, .int .u32 3584528711, .int .u32 113926993, .int .u32 338241895, .int .u32 666307205, .int .u32 773529912, .int .u32 1294757372, .int .u32 1396182291, .int .u32 1695183700, .int .u32 1986661051, .int .u32 2177026350, .int .u32 2456956037, .int .u32 2730485921, .int .u32 2820302411, .int .u32 3259730800, .int .u32 3345764771, .int .u32 3516065817, .int .u32 3600352804, .int .u32 4094571909, .int .u32 275423344, .int .u32 430227734, .int .u32 506948616, .int .u32 659060556, .int .u32 883997877, .int .u32 958139571, .int .u32 1322822218, .int .u32 1537002063, .int .u32 1747873779, .int .u32 1955562222, .int .u32 2024104815, .int .u32 2227730452, .int .u32 2361852424, .int .u32 2428436474, .int .u32 2756734187, .int .u32 3204031479, .int .u32 3329325298] := rfl
  have hr : ((w.alloc (.cells z64 390)).setRow w.heap.size (us K256).toArray).heap[w.heap.size]? = some (.cells (us K256).toArray 390 (0, 0)) := hn.setRow (us K256)
  have HB := hI (below_row ((Below.refl w.heap.size w).alloc (Nat.le_refl _) (.cells z64 390)) w.heap.size (us K256).toArray (Nat.le_refl _))
  rw [e1] at hs HB hr
  rw [e1]
  have E1 := hI e1
  have HR := hI hr
  clear hr
  clear hn e1
  go_enter Tryz.func265, Tryz.ntmps265
  go_wp2
  try simp only [Exit.inBlock, Exit.then]
  refine bodyPost_ret (results_cell_row rfl _ _ w.heap.size 390 _ (0, 0) (.array 64 217) rfl HR.out Tryz.underlying390 rfl (by rw [← E1.out]; kernel_rfl)) rfl ?_
  exact ⟨rfl, HB.out⟩
end
section
open Go.RowKit
attribute [local go_sem ↓] run_addU run_andU run_xorU run_orU run_notU
attribute [local go_sem] U_cells U_one
attribute [local go_sem ↓] new8_eq new64_eq load8_eq load64_eq store8_eq store64_eq run_new8 run_new64

theorem be32_or (a b c d : Nat) (ha : a < 256) (hb : b < 256) (hc : c < 256) (hd : d < 256) :
    Go.bits BinOp.or IntKind.u32 (Go.bits BinOp.or IntKind.u32 (Go.bits BinOp.or IntKind.u32 ((a : Int) * 16777216) ((b : Int) * 65536)) ((c : Int) * 256)) (d : Int) = ((a * 16777216 + b * 65536 + c * 256 + d : Nat) : Int) := by
  have e1 : Go.bits BinOp.or IntKind.u32 ((a : Int) * 16777216) ((b : Int) * 65536) = ((a * 16777216 + b * 65536 : Nat) : Int) := by
    rw [Go.bits_join .u32 32 (by decide) Go.wraps_u32 24 _ _ (by omega) (by omega) (by omega) (by omega) (by omega) (by omega)]; omega
  rw [e1]
  have e2 : Go.bits BinOp.or IntKind.u32 ((a * 16777216 + b * 65536 : Nat) : Int) ((c : Int) * 256) = ((a * 16777216 + b * 65536 + c * 256 : Nat) : Int) := by
    rw [Go.bits_join .u32 32 (by decide) Go.wraps_u32 16 _ _ (by omega) (by omega) (by omega) (by omega) (by omega) (by omega)]; omega
  rw [e2]
  rw [Go.bits_join .u32 32 (by decide) Go.wraps_u32 8 _ _ (by omega) (by omega) (by omega) (by omega) (by omega) (by omega)]; omega
theorem be32_U (a b c d : UInt8) : (.int .u32 ((a.toNat * 16777216 + b.toNat * 65536 + c.toNat * 256 + d.toNat : Nat) : Int) : Value) = U (be32 a b c d) := by
  have h1 := a.toNat_lt; have h2 := b.toNat_lt; have h3 := c.toNat_lt; have h4 := d.toNat_lt
  unfold U be32
  congr 2
  simp; omega
/-- The first numbers, then zeros. -/
def fill (l : List UInt32) : List UInt32 := l ++ List.replicate (64 - l.length) 0
theorem fill_len (l : List UInt32) (h : l.length ≤ 64) : (fill l).length = 64 := by simp [fill]; omega
theorem fill_set (l : List UInt32) (x : UInt32) (h : l.length < 64) : (fill l).set l.length x = fill (l ++ [x]) := by
  unfold fill
  rw [List.set_append_right _ _ (Nat.le_refl _), Nat.sub_self]
  rw [show 64 - l.length = (64 - (l ++ [x]).length) + 1 by simp; omega, List.replicate_succ, List.set_cons_zero]
  simp
theorem fill_get (l : List UInt32) (k : Nat) (h : k < l.length) : (fill l).getD k 0 = l.getD k 0 := by simp [fill, List.getElem?_append, h]
theorem us_set (l : List UInt32) (k : Nat) (x : UInt32) : (us l).set k (U x) = us (l.set k x) := by simp [us, List.map_set]
theorem inf56 : (Tryz.prog.info? 217).map (·.size) = some 1 := by kernel_rfl
theorem shr3 (w : World) (t : TypeId) (x : UInt32) : (binOp .shr t (U x) (.int .u64 3)).run Tryz.prog w = .ok (U (x >>> UInt32.ofNat 3)) w := run_shrU w t x 3 (by omega)
theorem shr10 (w : World) (t : TypeId) (x : UInt32) : (binOp .shr t (U x) (.int .u64 10)).run Tryz.prog w = .ok (U (x >>> UInt32.ofNat 10)) w := run_shrU w t x 10 (by omega)
set_option maxRecDepth 100000 in
set_option maxHeartbeats 2000000 in
theorem spread_any {B : Nat} (w : World) (A : Option Addr) (c : Nat) (m : List UInt8) (hm : m.length = 64) (h : Rv B w A (bys m)) (hB : B ≤ w.heap.size) :
    Calls Tryz.prog 266 #[.slice A 64 c] w fun e w2 => e = .returned (.agg (us (sched m)).toArray) ∧ Below w.heap.size w w2 := by
  obtain ⟨ad, rfl, hab, hcells⟩ := h.some_ (by rw [bys_len]; omega)
  have HC := hI hcells
  have HM := hI hm
  clear h hcells hm
  have hz : Ar ((w.alloc (.cells z64 390)).alloc (.cells z64 390)) (w.heap.size + 1) 390 (us (List.replicate 64 0)) := by have h := Ar.new (w.alloc (.cells z64 390)) (us (List.replicate 64 0)) 390; rw [World.size_alloc] at h; exact h
  have hz0 : Ar (w.alloc (.cells z64 390)) w.heap.size 390 (us (List.replicate 64 0)) := Ar.new w (us (List.replicate 64 0)) 390
  have HZ0 := hI (hz0.alloc (.cells z64 390))
  have HZ := hI hz
  have HB := hI ((((Below.refl w.heap.size w).alloc (Nat.le_refl _) (.cells z64 390)).alloc (by simp) (.cells z64 390)))
  clear hz hz0
  go_enter Tryz.func266, Tryz.ntmps266
  go_wp2_with fail
  go_loopw [4] (fun tv wr => ∃ t : Nat, t ≤ 16 ∧ tv = .int .i64 t ∧ Ar wr (w.heap.size + 1) 390 (us (fill (wfirst m t))) ∧ Ar wr w.heap.size 390 (us (List.replicate 64 0)) ∧ Hid (Below w.heap.size w wr)) (fun tv _ => 16 - (intOf tv).toNat)
  case atStart => exact ⟨0, by omega, rfl, HZ.out, HZ0.out, HB.out⟩
  case round =>
    obtain ⟨t, ht, rfl, hw3, hw2, hbel⟩ := hrel
    have hbs := hbel.out.size
    by_cases hlt : t < 16
    · have hc : ∀ j, j < 64 → wr.cell? (ad.add j) = some (.int .u8 ((m.getD j 0).toNat : Int)) := fun j hj => (hbel.out.cell (by rw [block_add]; omega)).trans (HC.out j _ (bys_at (by rw [HM.out]; exact hj)))
      have k0 := hc (4 * t) (by omega)
      have k1 := hc (4 * t + 1) (by omega)
      have k2 := hc (4 * t + 2) (by omega)
      have k3 := hc (4 * t + 3) (by omega)
      have hl := wfirst_len m t
      have l0 := (m.getD (4 * t) 0).toNat_lt
      have l1 := (m.getD (4 * t + 1) 0).toNat_lt
      have l2 := (m.getD (4 * t + 2) 0).toNat_lt
      have l3 := (m.getD (4 * t + 3) 0).toNat_lt
      have HU := hI (be32_U (m.getD (4 * t) 0) (m.getD (4 * t + 1) 0) (m.getD (4 * t + 2) 0) (m.getD (4 * t + 3) 0))
      have HO := hI (be32_or _ _ _ _ l0 l1 l2 l3)
      have HS := hI (wfirst_succ m t)
      generalize be32 (m.getD (4 * t) 0) (m.getD (4 * t + 1) 0) (m.getD (4 * t + 2) 0) (m.getD (4 * t + 3) 0) = r at *
      generalize m.getD (4 * t) 0 = x0 at *
      generalize m.getD (4 * t + 1) 0 = x1 at *
      generalize m.getD (4 * t + 2) 0 = x2 at *
      generalize m.getD (4 * t + 3) 0 = x3 at *
      have ho : wr.cell? ⟨w.heap.size + 1, t, none⟩ = some (U ((fill (wfirst m t)).getD t 0)) := hw3.cell (us_at (by rw [fill_len _ (by omega)]; omega))
      have hf := hw3.frozen t
      have HW3 := hI hw3
      have HW2 := hI hw2
      clear hc hw3 hw2
      go_wp2_with fail
      have q0 : IntKind.i64.wrap (4 * (t : Int)) = 4 * (t : Int) := IntWalk.i64_in _ (by omega)
      have q1 : IntKind.i64.wrap (4 * (t : Int) + 1) = 4 * (t : Int) + 1 := IntWalk.i64_in _ (by omega)
      have q2 : IntKind.i64.wrap (4 * (t : Int) + 2) = 4 * (t : Int) + 2 := IntWalk.i64_in _ (by omega)
      have q3 : IntKind.i64.wrap (4 * (t : Int) + 3) = 4 * (t : Int) + 3 := IntWalk.i64_in _ (by omega)
      have r0 : (4 * (t : Int)).toNat = 4 * t := by omega
      have r1 : (4 * (t : Int) + 1).toNat = 4 * t + 1 := by omega
      have r2 : (4 * (t : Int) + 2).toNat = 4 * t + 2 := by omega
      have r3 : (4 * (t : Int) + 3).toNat = 4 * t + 3 := by omega
      have s0 : (0 : Int) ≤ 4 * (t : Int) ∧ 4 * (t : Int) < 64 := by omega
      have s1 : (0 : Int) ≤ 4 * (t : Int) + 1 ∧ 4 * (t : Int) + 1 < 64 := by omega
      have s2 : (0 : Int) ≤ 4 * (t : Int) + 2 ∧ 4 * (t : Int) + 2 < 64 := by omega
      have s3 : (0 : Int) ≤ 4 * (t : Int) + 3 ∧ 4 * (t : Int) + 3 < 64 := by omega
      have s4 : (t : Int) < 64 := by omega
      have v0 : ∀ y : UInt8, IntKind.u32.wrap (y.toNat : Int) = (y.toNat : Int) := fun y => Go.wraps_u32 _ (by omega) (by have := y.toNat_lt; omega)
      have v1 : ∀ y : UInt8, IntKind.u32.wrap ((y.toNat : Int) * 16777216) = (y.toNat : Int) * 16777216 := fun y => Go.wraps_u32 _ (by omega) (by have := y.toNat_lt; omega)
      have v2 : ∀ y : UInt8, IntKind.u32.wrap ((y.toNat : Int) * 65536) = (y.toNat : Int) * 65536 := fun y => Go.wraps_u32 _ (by omega) (by have := y.toNat_lt; omega)
      have v3 : ∀ y : UInt8, IntKind.u32.wrap ((y.toNat : Int) * 256) = (y.toNat : Int) * 256 := fun y => Go.wraps_u32 _ (by omega) (by have := y.toNat_lt; omega)
      rw [Addr.add_succ'] at k1
      rw [Addr.add_succ'] at k2
      rw [Addr.add_succ'] at k3
      have k3 : wr.cell? ⟨ad.block, ad.off + (4 * t + 1 + 1 + 1), none⟩ = some (.int .u8 (x3.toNat : Int)) := k3
      go_still_tail 35, (by kernel_rfl)
      clear q0 q1 q2 q3 r0 r1 r2 r3 v0 v1 v2 v3
      change wpList _ _ _ _ _ wr.drew
      rw [HO.out, HU.out]
      go_wp2_with (refine wpList_store1 rfl 217 (.tmp 48) (.tmp 47) rfl ⟨w.heap.size + 1, t, none⟩ rfl (U r) _ rfl (U_one r) inf56 ho hf rfl ?_; intro W hW; subst hW)
      refine ⟨⟨t + 1, by omega, by go_num, ?_, ?_, hbel.out.drew.setCell (p := ⟨w.heap.size + 1, t, none⟩) (Nat.le_succ _) _⟩, by simp [intOf]; omega⟩
      · have e := (HW3.out.drewN 1).set t (U r)
        rw [us_set] at e
        have e2 := fill_set (wfirst m t) r (by omega)
        rw [hl] at e2
        rw [HS.out, ← e2]
        exact e
      · exact (HW2.out.drewN 1).other _ _ (by simp)
    · have ht16 : t = 16 := by omega
      rw [ht16] at hw3
      clear ht16
      go_wp2_with fail
      go_loopw [5] (fun tv wr => ∃ t : Nat, t ≤ 48 ∧ tv = .int .i64 ((16 + t : Nat) : Int) ∧ Ar wr (w.heap.size + 1) 390 (us (fill (wmore t (wfirst m 16)))) ∧ Ar wr w.heap.size 390 (us (List.replicate 64 0)) ∧ Hid (Below w.heap.size w wr)) (fun tv _ => 64 - (intOf tv).toNat)
      case atStart => exact ⟨0, by omega, rfl, hw3, hw2, hbel⟩
      case round =>
        clear hw3 hw2 hbel hbs hlt ht
        obtain ⟨t, ht, rfl, hw3, hw2, hbel⟩ := hrel
        have hl : (wmore t (wfirst m 16)).length = 16 + t := by rw [wmore_len, wfirst_len]
        by_cases hlt : t < 48
        · have hg : ∀ j, j < 16 + t → wr.cell? ⟨w.heap.size + 1, j, none⟩ = some (U ((wmore t (wfirst m 16)).getD j 0)) := fun j hj => by
            rw [← fill_get _ _ (by rw [hl]; exact hj)]
            exact hw3.cell (us_at (by rw [fill_len _ (by rw [hl]; omega)]; omega))
          have k1 := hg (16 + t - 15) (by omega)
          have k2 := hg (16 + t - 2) (by omega)
          have k3 := hg (16 + t - 16) (by omega)
          have k4 := hg (16 + t - 7) (by omega)
          have k5 : wr.cell? ⟨w.heap.size + 1, 16 + t, none⟩ = some (U ((fill (wmore t (wfirst m 16))).getD (16 + t) 0)) := hw3.cell (us_at (by rw [fill_len _ (by rw [hl]; omega)]; omega))
          have hf := hw3.frozen (16 + t)
          have HW3 := hI hw3
          have HW2 := hI hw2
          clear hg hw3 hw2
          have q1 : IntKind.i64.wrap (((16 + t : Nat) : Int) - 15) = ((16 + t - 15 : Nat) : Int) := by rw [IntWalk.i64_in _ (by omega)]; omega
          have q2 : IntKind.i64.wrap (((16 + t : Nat) : Int) - 2) = ((16 + t - 2 : Nat) : Int) := by rw [IntWalk.i64_in _ (by omega)]; omega
          have q3 : IntKind.i64.wrap (((16 + t : Nat) : Int) - 16) = ((16 + t - 16 : Nat) : Int) := by rw [IntWalk.i64_in _ (by omega)]; omega
          have q4 : IntKind.i64.wrap (((16 + t : Nat) : Int) - 7) = ((16 + t - 7 : Nat) : Int) := by rw [IntWalk.i64_in _ (by omega)]; omega
          have b1 : ((16 + t - 15 : Nat) : Int) < 64 := by omega
          have b2 : ((16 + t - 2 : Nat) : Int) < 64 := by omega
          have b3 : ((16 + t - 16 : Nat) : Int) < 64 := by omega
          have b4 : ((16 + t - 7 : Nat) : Int) < 64 := by omega
          have b5 : ((16 + t : Nat) : Int) < 64 := by omega
          have HN := hI (by rw [wmore_last, wnext, hl] : wmore (t + 1) (wfirst m 16) = wmore t (wfirst m 16) ++ [(wmore t (wfirst m 16)).getD (16 + t - 16) 0 + sg0 ((wmore t (wfirst m 16)).getD (16 + t - 15) 0) + (wmore t (wfirst m 16)).getD (16 + t - 7) 0 + sg1 ((wmore t (wfirst m 16)).getD (16 + t - 2) 0)])
          generalize (wmore t (wfirst m 16)).getD (16 + t - 15) 0 = y1 at *
          generalize (wmore t (wfirst m 16)).getD (16 + t - 2) 0 = y2 at *
          generalize (wmore t (wfirst m 16)).getD (16 + t - 16) 0 = y3 at *
          generalize (wmore t (wfirst m 16)).getD (16 + t - 7) 0 = y4 at *
          have hle := fill_len (wmore t (wfirst m 16)) (by omega)
          have HST := hI (fill_set (wmore t (wfirst m 16)) (y3 + sg0 y1 + y4 + sg1 y2) (by omega))
          rw [hl] at HST
          generalize (fill (wmore t (wfirst m 16))).getD (16 + t) 0 = y5 at *
          generalize hi1 : 16 + t - 15 = i1 at *
          generalize hi2 : 16 + t - 2 = i2 at *
          generalize hi3 : 16 + t - 16 = i3 at *
          generalize hi4 : 16 + t - 7 = i4 at *
          generalize hi5 : 16 + t = i5 at *
          have R1 := hI hi1
          have R2 := hI hi2
          have R3 := hI hi3
          have R4 := hI hi4
          have R5 := hI hi5
          clear hi1 hi2 hi3 hi4 hi5
          have hs3 := fun W t => shr3 W t
          have hs10 := fun W t => shr10 W t
          go_wp2_with fail
          refine wp_region_quiet_lit (by kernel_rfl) (by kernel_rfl) ?_
          repeat (go_big_quiet_step (fail))
          refine wpQuiet_nil ?_
          rintro _ ⟨n1, rfl⟩
          go_wp2_with (first
            | ((with_reducible refine (rotl_any _ _ _ 7 (by decide) (by omega) (by omega)).mono ?_); rintro e w' ⟨rfl, rfl⟩)
            | ((with_reducible refine (rotl_any _ _ _ 18 (by decide) (by omega) (by omega)).mono ?_); rintro e w' ⟨rfl, rfl⟩)
            | ((with_reducible refine (rotl_any _ _ _ 17 (by decide) (by omega) (by omega)).mono ?_); rintro e w' ⟨rfl, rfl⟩)
            | ((with_reducible refine (rotl_any _ _ _ 19 (by decide) (by omega) (by omega)).mono ?_); rintro e w' ⟨rfl, rfl⟩))
          have k3 : (wr.drewN n1).cell? ⟨w.heap.size + 1, i3, none⟩ = _ := k3
          have k4 : (wr.drewN n1).cell? ⟨w.heap.size + 1, i4, none⟩ = _ := k4
          have k5 : (wr.drewN n1).cell? ⟨w.heap.size + 1, i5, none⟩ = _ := k5
          have hf : (wr.drewN n1).frozen? ⟨w.heap.size + 1, i5, none⟩ = false := hf
          have HW3 := hI (HW3.out.drewN n1)
          have HW2 := hI (HW2.out.drewN n1)
          have HBL := hI (below_dr hbel.out n1)
          generalize wr.drewN n1 = w1 at *
          go_still_tail 15, (by kernel_rfl)
          clear q1 q2 q3 q4
          change wpList _ _ _ _ _ w1.drew
          go_wp2_with (refine wpList_store1 rfl 217 (.tmp 91) (.tmp 90) rfl ⟨w.heap.size + 1, i5, none⟩ rfl (U (y3 + sg0 y1 + y4 + sg1 y2)) _ rfl (U_one _) inf56 k5 hf rfl ?_; intro W hW; subst hW)
          have e1 := (HW3.out.drewN 1).set i5 (U (y3 + sg0 y1 + y4 + sg1 y2))
          rw [us_set, HST.out, ← HN.out] at e1
          have E1 := hI e1
          have E2 := hI ((HW2.out.drewN 1).other ⟨w.heap.size + 1, i5, none⟩ (U (y3 + sg0 y1 + y4 + sg1 y2)) (by simp))
          clear e1
          go_roundw
          case rel => exact ⟨t + 1, by omega, by have := R5.out; go_num, E1.out, E2.out, HBL.out.drew.setCell (p := ⟨w.heap.size + 1, i5, none⟩) (Nat.le_succ _) _⟩
          case measure => have := R5.out; simp [intOf]; omega
        · obtain rfl : t = 48 := by omega
          have hlen : (wmore 48 (wfirst m 16)).length = 64 := hl
          have hfill : fill (wmore 48 (wfirst m 16)) = sched m := by unfold fill sched; rw [hlen]; simp
          rw [hfill] at hw3
          have l3 := ld64 hw3 (sched_len m)
          have s2 := st64 (m := sched m) hw2 (by simp) (sched_len m)
          have HF := hI (hw2.setRow (us (sched m)))
          go_wp2
          try simp only [Exit.inBlock, Exit.then]
          refine bodyPost_ret (results_cell_row rfl _ _ w.heap.size 390 _ (0, 0) (.array 64 217) rfl HF.out Tryz.underlying390 rfl (by rw [List.size_toArray, us_len, sched_len]; exact inf64)) rfl ?_
          exact ⟨rfl, below_row hbel.out _ _ (Nat.le_refl _)⟩
end
end Go.Proofs.YtbmpidacoohdmaaGreat

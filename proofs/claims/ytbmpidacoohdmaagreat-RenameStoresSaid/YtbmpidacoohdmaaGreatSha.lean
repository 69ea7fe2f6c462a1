/- SHA-256 over UInt32, plain; the operations on numbers of 32 bits, run whole. No program. -/
import Derived.Test.YtbmpidacoohdmaaGreatObj
import Derived.Lib.EndianBits
namespace Go.Proofs.YtbmpidacoohdmaaGreat
open Go.RowKit

/-- A number of 32 bits, as a value. -/
def U (x : UInt32) : Value := .int .u32 (x.toNat : Int)
theorem U_cells (x : UInt32) : (U x).cells = #[U x] := rfl
theorem U_one (x : UInt32) : (U x).oneCell' = true := rfl
theorem u32_wrap (n : Nat) : IntKind.u32.wrap (n : Int) = ((UInt32.ofNat n).toNat : Int) := by
  rw [IntKind.wrap_u32]
  simp
theorem u32_cast (x : UInt32) : (x.toNat : Int) < 2 ^ 32 := by have := x.toNat_lt; exact_mod_cast this
section
variable {P : Program} (w : World) (t t2 : TypeId) (x y : UInt32)
theorem run_addU : (binOp .add t (U x) (U y)).run P w = .ok (U (x + y)) w := by
  have e : IntKind.u32.wrap ((x.toNat : Int) + (y.toNat : Int)) = ((x + y).toNat : Int) := by
    rw [← Int.natCast_add, u32_wrap]; simp
  unfold U
  rw [binOp_add, ← e]
  rfl
theorem bits_u32 : Go.bits .and .u32 (x.toNat : Int) (y.toNat : Int) = ((x &&& y).toNat : Int) ∧ Go.bits .xor .u32 (x.toNat : Int) (y.toNat : Int) = ((x ^^^ y).toNat : Int) ∧ Go.bits .or .u32 (x.toNat : Int) (y.toNat : Int) = ((x ||| y).toNat : Int) := by
  have hx : x.toNat % 2 ^ 32 = x.toNat := Nat.mod_eq_of_lt x.toNat_lt
  have hy : y.toNat % 2 ^ 32 = y.toNat := Nat.mod_eq_of_lt y.toNat_lt
  have k : IntKind.u32.bits = 32 := rfl
  refine ⟨?_, ?_, ?_⟩
  · simp only [Go.bits, k, BitVec.ofInt_natCast, BitVec.toNat_and, BitVec.toNat_ofNat, hx, hy]
    rw [u32_wrap]; congr 1; rw [← UInt32.toNat_and]; simp
  · simp only [Go.bits, k, BitVec.ofInt_natCast, BitVec.toNat_xor, BitVec.toNat_ofNat, hx, hy]
    rw [u32_wrap]; congr 1; rw [← UInt32.toNat_xor]; simp
  · simp only [Go.bits, k, BitVec.ofInt_natCast, BitVec.toNat_or, BitVec.toNat_ofNat, hx, hy]
    rw [u32_wrap]; congr 1; rw [← UInt32.toNat_or]; simp
theorem run_andU : (binOp .and t (U x) (U y)).run P w = .ok (U (x &&& y)) w := by
  unfold U; rw [binOp_and, intBits_and, (bits_u32 x y).1]; rfl
theorem run_xorU : (binOp .xor t (U x) (U y)).run P w = .ok (U (x ^^^ y)) w := by
  unfold U; rw [binOp_xor, intBits_xor, (bits_u32 x y).2.1]; rfl
theorem run_orU : (binOp .or t (U x) (U y)).run P w = .ok (U (x ||| y)) w := by
  unfold U; rw [binOp_or, intBits_or, (bits_u32 x y).2.2]; rfl
theorem run_shrU (n : Nat) (hn : n < 32) : (binOp .shr t (U x) (.int .u64 n)).run P w = .ok (U (x >>> UInt32.ofNat n)) w := by
  have e : (x.toNat : Int) / 2 ^ n = ((x >>> UInt32.ofNat n).toNat : Int) := by
    rw [UInt32.toNat_shiftRight, Nat.shiftRight_eq_div_pow]
    simp [Nat.mod_eq_of_lt (show n < 4294967296 by omega), Nat.mod_eq_of_lt hn]
  unfold U
  show (Op.shift .shr .u32 (x.toNat : Int) .u64 (n : Int)).run P w = _
  rw [shift_shr .u32 .u64 _ _ (by omega) (by show (n : Int) ≤ 32; omega), ← e]
  rfl
theorem run_shlU (n : Nat) (hn : n < 32) : (binOp .shl t (U x) (.int .u64 n)).run P w = .ok (U (x <<< UInt32.ofNat n)) w := by
  have e : IntKind.u32.wrap ((x.toNat : Int) * 2 ^ n) = ((x <<< UInt32.ofNat n).toNat : Int) := by
    rw [show (x.toNat : Int) * 2 ^ n = ((x.toNat * 2 ^ n : Nat) : Int) by simp, u32_wrap, UInt32.toNat_shiftLeft, Nat.shiftLeft_eq]
    simp [Nat.mod_eq_of_lt (show n < 4294967296 by omega), Nat.mod_eq_of_lt hn]
  unfold U
  show (Op.shift .shl .u32 (x.toNat : Int) .u64 (n : Int)).run P w = _
  rw [shift_shl .u32 .u64 _ _ (by omega) (by show (n : Int) ≤ 32; omega), ← e]
  rfl
def nt (x : UInt32) : UInt32 := 4294967295 ^^^ x
theorem run_notU : (Op.unary .xor (U x)).run P w = .ok (U (nt x)) w := by
  have h := (bits_u32 4294967295 x).2.1
  have e : ((4294967295 : UInt32).toNat : Int) = 4294967295 := rfl
  rw [e] at h
  unfold U nt
  show (Op.intBits .xor .u32 4294967295 (x.toNat : Int)).run P w = _
  rw [intBits_xor, h]
  rfl
end
def us (l : List UInt32) : List Value := l.map U
theorem us_len (l : List UInt32) : (us l).length = l.length := by simp [us]
theorem us_at {l : List UInt32} {k : Nat} (h : k < l.length) : (us l)[k]? = some (U (l.getD k 0)) := by simp [us, h]
theorem us_one (l : List UInt32) : ones (us l).toArray = true := by simp [ones, us, U_one]
theorem us_one2 (l : List UInt32) : ∀ u ∈ us l, u.oneCell' = true := by simp [us, U_one]
theorem us_app (a b : List UInt32) : us a ++ us b = us (a ++ b) := by simp [us]

def rotr (x : UInt32) (n : Nat) : UInt32 := (x >>> UInt32.ofNat n) ||| (x <<< UInt32.ofNat (32 - n))
def K256 : List UInt32 := [0x428a2f98, 0x71374491, 0xb5c0fbcf, 0xe9b5dba5, 0x3956c25b, 0x59f111f1, 0x923f82a4, 0xab1c5ed5, 0xd807aa98, 0x12835b01, 0x243185be, 0x550c7dc3, 0x72be5d74, 0x80deb1fe, 0x9bdc06a7, 0xc19bf174, 0xe49b69c1, 0xefbe4786, 0x0fc19dc6, 0x240ca1cc, 0x2de92c6f, 0x4a7484aa, 0x5cb0a9dc, 0x76f988da, 0x983e5152, 0xa831c66d, 0xb00327c8, 0xbf597fc7, 0xc6e00bf3, 0xd5a79147, 0x06ca6351, 0x14292967, 0x27b70a85, 0x2e1b2138, 0x4d2c6dfc, 0x53380d13, 0x650a7354, 0x766a0abb, 0x81c2c92e, 0x92722c85, 0xa2bfe8a1, 0xa81a664b, 0xc24b8b70, 0xc76c51a3, 0xd192e819, 0xd6990624, 0xf40e3585, 0x106aa070, 0x19a4c116, 0x1e376c08, 0x2748774c, 0x34b0bcb5, 0x391c0cb3, 0x4ed8aa4a, 0x5b9cca4f, 0x682e6ff3, 0x748f82ee, 0x78a5636f, 0x84c87814, 0x8cc70208, 0x90befffa, 0xa4506ceb, 0xbef9a3f7, 0xc67178f2]
def H256 : List UInt32 := [0x6a09e667, 0xbb67ae85, 0x3c6ef372, 0xa54ff53a, 0x510e527f, 0x9b05688c, 0x1f83d9ab, 0x5be0cd19]
/-- One round. -/
def rnd (k w : UInt32) : List UInt32 → List UInt32
  | [a, b, c, d, e, f, g, h] =>
    let t1 := h + (rotr e 6 ^^^ rotr e 11 ^^^ rotr e 25) + ((e &&& f) ^^^ (nt e &&& g)) + k + w
    let t2 := (rotr a 2 ^^^ rotr a 13 ^^^ rotr a 22) + ((a &&& b) ^^^ (a &&& c) ^^^ (b &&& c))
    [t1 + t2, a, b, c, d + t1, e, f, g]
  | l => l
def sg0 (x : UInt32) : UInt32 := rotr x 7 ^^^ rotr x 18 ^^^ (x >>> UInt32.ofNat 3)
def sg1 (y : UInt32) : UInt32 := rotr y 17 ^^^ rotr y 19 ^^^ (y >>> UInt32.ofNat 10)
/-- One number more of a block's. -/
def wnext (l : List UInt32) : List UInt32 := l ++ [l.getD (l.length - 16) 0 + sg0 (l.getD (l.length - 15) 0) + l.getD (l.length - 7) 0 + sg1 (l.getD (l.length - 2) 0)]
def wmore : Nat → List UInt32 → List UInt32
  | 0, l => l
  | n + 1, l => wmore n (wnext l)
def be32 (a b c d : UInt8) : UInt32 := UInt32.ofNat (a.toNat * 16777216 + b.toNat * 65536 + c.toNat * 256 + d.toNat)
def wfirst (b : List UInt8) (n : Nat) : List UInt32 := (List.range n).map fun t => be32 (b.getD (4 * t) 0) (b.getD (4 * t + 1) 0) (b.getD (4 * t + 2) 0) (b.getD (4 * t + 3) 0)
/-- A block's 64 numbers. -/
def sched (b : List UInt8) : List UInt32 := wmore 48 (wfirst b 16)
def rnds (w : List UInt32) (n : Nat) (v : List UInt32) : List UInt32 := (List.range n).foldl (fun v t => rnd (K256.getD t 0) (w.getD t 0) v) v
/-- What a state becomes by a block. -/
def mixS (st : List UInt32) (b : List UInt8) : List UInt32 := List.zipWith (· + ·) (rnds (sched b) 64 st) st
theorem rnds_succ (w : List UInt32) (n : Nat) (v : List UInt32) : rnds w (n + 1) v = rnd (K256.getD n 0) (w.getD n 0) (rnds w n v) := by simp [rnds, List.range_succ]
theorem rnd_len (k w : UInt32) (l : List UInt32) (h : l.length = 8) : (rnd k w l).length = 8 := by
  match l, h with
  | [a, b, c, d, e, f, g, i], _ => rfl
theorem rnds_len (w : List UInt32) (v : List UInt32) (h : v.length = 8) : ∀ n, (rnds w n v).length = 8 := by
  intro n
  induction n with
  | zero => exact h
  | succ n ih => rw [rnds_succ]; exact rnd_len _ _ _ ih
theorem mixS_len (st : List UInt32) (b : List UInt8) (h : st.length = 8) : (mixS st b).length = 8 := by simp [mixS, h, rnds_len _ _ h]
theorem wnext_len (l : List UInt32) : (wnext l).length = l.length + 1 := by simp [wnext]
theorem wmore_len (n : Nat) : ∀ l, (wmore n l).length = l.length + n := by
  induction n with
  | zero => intro l; rfl
  | succ n ih => intro l; rw [wmore, ih, wnext_len]; omega
theorem wfirst_len (b : List UInt8) (n : Nat) : (wfirst b n).length = n := by simp [wfirst]
theorem wfirst_succ (b : List UInt8) (n : Nat) : wfirst b (n + 1) = wfirst b n ++ [be32 (b.getD (4 * n) 0) (b.getD (4 * n + 1) 0) (b.getD (4 * n + 2) 0) (b.getD (4 * n + 3) 0)] := by simp [wfirst, List.range_succ]
theorem sched_len (b : List UInt8) : (sched b).length = 64 := by rw [sched, wmore_len, wfirst_len]
theorem wmore_last (n : Nat) : ∀ l, wmore (n + 1) l = wnext (wmore n l) := by
  induction n with
  | zero => intro l; rfl
  | succ n ih => intro l; rw [wmore, ih]; rfl
/-- A state that takes all whole blocks of a text. -/
def absorb (st : List UInt32) (l : List UInt8) : List UInt32 := if _h : l.length < 64 then st else absorb (mixS st (l.take 64)) (l.drop 64)
  termination_by l.length
  decreasing_by simp; omega
theorem absorb_small {st : List UInt32} {l : List UInt8} (h : l.length < 64) : absorb st l = st := by rw [absorb]; simp [h]
theorem absorb_more {st : List UInt32} {l : List UInt8} (h : 64 ≤ l.length) : absorb st l = absorb (mixS st (l.take 64)) (l.drop 64) := by rw [absorb]; simp [show ¬ l.length < 64 by omega]
theorem absorb_len (n : Nat) : ∀ (l : List UInt8) (st : List UInt32), l.length ≤ n → st.length = 8 → (absorb st l).length = 8 := by
  induction n with
  | zero => intro l st hn h; rw [absorb_small (by omega)]; exact h
  | succ n ih =>
    intro l st hn h
    by_cases h1 : l.length < 64
    · rw [absorb_small h1]; exact h
    · rw [absorb_more (by omega)]
      exact ih _ _ (by simp; omega) (mixS_len _ _ h)
theorem absorb_app (n : Nat) : ∀ (a b : List UInt8) (st : List UInt32), a.length ≤ n → a.length % 64 = 0 → absorb st (a ++ b) = absorb (absorb st a) b := by
  induction n with
  | zero =>
    intro a b st hn h
    have : a = [] := List.eq_nil_of_length_eq_zero (by omega)
    subst this
    rw [absorb_small (l := []) (by simp)]; rfl
  | succ n ih =>
    intro a b st hn h
    by_cases h1 : a.length < 64
    · have : a = [] := List.eq_nil_of_length_eq_zero (by omega)
      subst this
      rw [absorb_small (l := []) (by simp)]; rfl
    · rw [absorb_more (l := a) (by omega), absorb_more (l := a ++ b) (by simp; omega)]
      rw [List.take_append_of_le_length (by omega), List.drop_append_of_le_length (by omega)]
      exact ih _ _ _ (by simp; omega) (by simp; omega)
/-- What stands behind a text of n bytes. -/
def padB (n : Nat) : List UInt8 := 128 :: List.replicate ((64 - (n + 9) % 64) % 64) 0
def outB (st : List UInt32) : List UInt8 := st.flatMap fun x => [by8 (x.toNat / 16777216), by8 (x.toNat / 65536), by8 (x.toNat / 256), by8 x.toNat]
end Go.Proofs.YtbmpidacoohdmaaGreat

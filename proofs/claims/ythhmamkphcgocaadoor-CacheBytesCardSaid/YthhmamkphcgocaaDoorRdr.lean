/- A Reader's state: bytes, a place, an error; what each reading makes of them. Plain. -/
import Derived.Test.YthhmamkphcgocaaDoorObj
import Derived.Lib.EndianBits
import Derived.Lib.VarintBits
namespace Go.Proofs.YthhmamkphcgocaaDoor
open Go.RowKit

/-- A Reader in block g (a struct of type t): bytes l, place k, error e. -/
structure Rd (w : World) (g : Nat) (t : TypeId) (A : Option Addr) (c : Nat) (l : List UInt8) (k e : Nat) : Prop where
  blk : w.heap[g]? = some (.cells #[.slice A l.length c, .int .i64 k, .int .i64 e] t (0, 0))
  rv : Rv w.heap.size w A (bys l)
  far : ∀ ad, A = some ad → ad.block ≠ g
  cap : l.length ≤ c
  nil : A = none → c = 0
  le : k ≤ l.length
  small : l.length ≤ 1000000000
section
variable {w w2 : World} {g : Nat} {t : TypeId} {A : Option Addr} {c : Nat} {l : List UInt8} {k e : Nat}
theorem Rd.lt (h : Rd w g t A c l k e) : g < w.heap.size := (Array.getElem?_eq_some_iff.1 h.blk).1
theorem Rd.c0 (h : Rd w g t A c l k e) : w.cell? ⟨g, 0, none⟩ = some (.slice A l.length c) := by rw [cell_of_row w g 0 _ _ _ h.blk]; rfl
theorem Rd.c1 (h : Rd w g t A c l k e) : w.cell? ⟨g, 1, none⟩ = some (.int .i64 k) := by rw [cell_of_row w g 1 _ _ _ h.blk]; rfl
theorem Rd.c2 (h : Rd w g t A c l k e) : w.cell? ⟨g, 2, none⟩ = some (.int .i64 e) := by rw [cell_of_row w g 2 _ _ _ h.blk]; rfl
theorem Rd.fz (h : Rd w g t A c l k e) (i : Nat) : w.frozen? ⟨g, i, none⟩ = false := frozen_of_row w g i _ _ h.blk
theorem Rd.turn (h : Rd w g t A c l k e) {k2 e2 : Nat} (hg : w.grownBy w2 (some g)) (hb : w2.heap[g]? = some (.cells #[.slice A l.length c, .int .i64 k2, .int .i64 e2] t (0, 0))) (hk : k2 ≤ l.length) : Rd w2 g t A c l k2 e2 := by
  refine ⟨hb, fun j x hx => ?_, h.far, h.cap, h.nil, hk, h.small⟩
  obtain ⟨ad, e1, hlt, hc⟩ := h.rv j x hx
  refine ⟨ad, e1, by have := hg.size; omega, ?_⟩
  rw [World.cell?_of_block (w := w) (w' := w2), hc]
  rw [block_add]
  exact hg.block _ hlt (fun e2 => h.far ad e1 (by injection e2))
theorem grown_refl (w : World) (r : Option Nat) : w.grownBy w r := ⟨rfl, rfl, rfl, Nat.le_refl _, fun _ _ _ => rfl⟩
theorem grown_trans {w w2 w3 : World} {r : Option Nat} (h : w.grownBy w2 r) (k : w2.grownBy w3 r) : w.grownBy w3 r :=
  ⟨k.os.trans h.os, k.tape.trans h.tape, k.output.trans h.output, Nat.le_trans h.size k.size, fun j hj hne => (k.block j (Nat.lt_of_lt_of_le hj h.size) hne).trans (h.block j hj hne)⟩
theorem grown_drewN {w w2 : World} {r : Option Nat} (h : w.grownBy w2 r) (n : Nat) : w.grownBy (w2.drewN n) r := ⟨h.os, h.tape, h.output, h.size, h.block⟩
theorem grown_drew {w w2 : World} {r : Option Nat} (h : w.grownBy w2 r) : w.grownBy w2.drew r := ⟨h.os, h.tape, h.output, h.size, h.block⟩
theorem grown_alloc {w w2 : World} {r : Option Nat} (h : w.grownBy w2 r) (o : Obj) : w.grownBy (w2.alloc o) r :=
  ⟨h.os, h.tape, h.output, by have := h.size; simp; omega, fun j hj hne => (Below.heap_alloc w2 o j (Nat.lt_of_lt_of_le hj h.size)).trans (h.block j hj hne)⟩
theorem grown_set {w w2 : World} {g : Nat} (h : w.grownBy w2 (some g)) (i : Nat) (v : Value) : w.grownBy (w2.setCell ⟨g, i, none⟩ v) (some g) :=
  ⟨h.os, h.tape, h.output, by have := h.size; simpa using this, fun j hj hne => (Below.heap_setCell w2 ⟨g, i, none⟩ v j (fun e => hne (by rw [e]))).trans (h.block j hj hne)⟩
theorem grown_any {w w2 : World} (h : w.grownBy w2 none) (r : Option Nat) : w.grownBy w2 r := ⟨h.os, h.tape, h.output, h.size, fun k hk _ => h.block k hk (by simp)⟩
theorem grown_of_below {w w2 : World} (h : Below w.heap.size w w2) (r : Option Nat) : w.grownBy w2 r := ⟨h.os, h.tape, h.output, h.size, fun k hk _ => h.block k hk⟩
theorem Rd.drewN (h : Rd w g t A c l k e) (n : Nat) : Rd (w.drewN n) g t A c l k e := h.turn (grown_drewN (grown_refl w _) n) h.blk h.le
theorem Rd.drew (h : Rd w g t A c l k e) : Rd w.drew g t A c l k e := h.turn (grown_drew (grown_refl w _)) h.blk h.le
theorem Rd.later (h : Rd w g t A c l k e) (hg : w.grownBy w2 none) : Rd w2 g t A c l k e := h.turn (grown_any hg _) ((hg.block g h.lt (by simp)).trans h.blk) h.le
theorem Rd.set1 (h : Rd w g t A c l k e) (x : Int) (k2 : Nat) (hx : x = k2) (hk : k2 ≤ l.length) : Rd (w.setCell ⟨g, 1, none⟩ (.int .i64 x)) g t A c l k2 e := by
  subst hx
  exact h.turn (grown_set (grown_refl w _) 1 _) (by have := heap_setCell_same w g 1 _ t (.int .i64 (k2 : Int)) h.blk; simpa using this) hk
theorem Rd.set2 (h : Rd w g t A c l k e) (x : Int) (e2 : Nat) (hx : x = e2) : Rd (w.setCell ⟨g, 2, none⟩ (.int .i64 x)) g t A c l k e2 := by
  subst hx
  exact h.turn (grown_set (grown_refl w _) 2 _) (by have := heap_setCell_same w g 2 _ t (.int .i64 (e2 : Int)) h.blk; simpa using this) h.le
theorem Rd.heap (h : Rd w g t A c l k e) (e1 : w2.heap = w.heap) : Rd w2 g t A c l k e :=
  ⟨by rw [e1]; exact h.blk, fun j x hx => by
    obtain ⟨ad, e2, hb, hc⟩ := h.rv j x hx
    exact ⟨ad, e2, by rw [e1]; exact hb, (World.cell?_of_block (by rw [e1])).trans hc⟩, h.far, h.cap, h.nil, h.le, h.small⟩
/-- A part of the bytes, as a slice expression makes it. -/
theorem Rd.cut (h : Rd w g t A c l k e) {C : Nat} (hC : w.heap.size ≤ C) (i n : Nat) (hi : i + n ≤ l.length) : Rv C w (if c = i then A else A.map (·.add (i * 1))) (bys ((l.drop i).take n)) := by
  rw [← bys_part]
  rcases A with _ | ad
  · have h0 : l = [] := by
      have := h.cap
      have h2 := h.nil rfl
      exact List.eq_nil_of_length_eq_zero (by omega)
    subst h0
    intro j x hx
    simp [bys] at hx
  · have hr := (h.rv.more hC).part i rfl n
    split
    · rename_i hc
      have : n = 0 := by have := h.cap; omega
      subst this
      intro j x hx
      simp at hx
    · simpa using hr
end

theorem own_low {w w2 : World} {base : Nat} {e : TypeId} {size : Nat} {v : Value} {n : Nat} {xs : List Value} {g : Nat} (h : w.ownsRow base e size v n xs) (hg : w.grownBy w2 (some g)) (hlt : g < base) : w2.ownsRow base e size v n xs := by
  refine h.kept hg ?_
  cases hv : v.ownBlock with
  | none => exact .inl rfl
  | some k => exact .inr (fun e2 => by injection e2 with e2; have := (h.lt k hv).1; omega)
/-- Of bytes taken: what they are, the place, the error. -/
def rTake (l : List UInt8) (n k e : Nat) : List UInt8 × Nat × Nat := if e ≠ 0 then ([], k, e) else if n ≤ l.length - k then ((l.drop k).take n, k + n, 0) else ([], k, 10)
def rRaw (l : List UInt8) (n : Int) (k e : Nat) : List UInt8 × Nat × Nat := if e = 0 ∧ n < 0 then ([], k, 3) else rTake l n.toNat k e
def bigN (l : List UInt8) : Nat := l.foldl (fun n c => n * 256 + c.toNat) 0
def rBig (l : List UInt8) (n k e : Nat) : Nat × Nat × Nat := (bigN (rTake l n k e).1, (rTake l n k e).2)
/-- A number of any size, from its k-th byte on: the number, behind how many bytes, the error. -/
def numF (k acc : Nat) : List UInt8 → Nat × Nat × Nat
  | [] => (0, 0, 10)
  | c :: t => if (k = 9 ∧ 1 < c.toNat) ∨ (0 < k ∧ c.toNat = 0) then (0, 0, 12) else if c.toNat < 128 then (acc + c.toNat % 128 * 128 ^ k, k + 1, 0) else numF (k + 1) (acc + c.toNat % 128 * 128 ^ k) t
def rVar (l : List UInt8) (most k e : Nat) : Nat × Nat × Nat :=
  if e ≠ 0 then (0, k, e) else
  match numF 0 0 (l.drop k) with
  | (n, s, f) => if f ≠ 0 then (0, k, f) else if most < n then (0, k, 3) else (n, k + s, 0)
def rText (l : List UInt8) (most : Int) (k e : Nat) : List UInt8 × Nat × Nat :=
  if e ≠ 0 then ([], k, e) else
  match numF 0 0 (l.drop k) with
  | (n, s, f) => if f ≠ 0 then ([], k, f) else if most < 0 ∨ most < n then ([], k, 3) else if l.length - (k + s) < n then ([], k, 10) else ((l.drop (k + s)).take n, k + s + n, 0)
theorem rTake_le {l : List UInt8} {n k e : Nat} (h : k ≤ l.length) : (rTake l n k e).2.1 ≤ l.length := by
  unfold rTake; split <;> (try split) <;> simp <;> omega
theorem numF_ok (t : List UInt8) : ∀ k acc n s, numF k acc t = (n, s, 0) → k < s ∧ s ≤ k + t.length := by
  induction t with
  | nil => intro k acc n s h; simp [numF] at h
  | cons c t ih =>
    intro k acc n s h
    unfold numF at h
    split at h
    · simp at h
    · split at h
      · simp at h; simp; omega
      · have := ih _ _ _ _ h
        simp; omega
theorem bytes_drop {l : List UInt8} {k : Nat} (h : k < l.length) : l.drop k = l.getD k 0 :: l.drop (k + 1) := by
  rw [List.drop_eq_getElem_cons h]; simp [h]
theorem or8_32 (a x : Nat) (ha : a < 16777216) (hx : x < 256) : Go.bits BinOp.or IntKind.u32 ((a : Int) * 256) (x : Int) = ((a * 256 + x : Nat) : Int) := by
  rw [Go.bits_join .u32 32 (by decide) Go.wraps_u32 8 _ _ (by omega) (by omega) (by omega) (by omega) (by omega) (by omega)]
  omega
theorem orv (acc y j : Nat) (hj : j ≤ 9) (hacc : acc < 128 ^ j) (hy : y < 256) (h9 : j = 9 → y ≤ 1) :
    Go.bits BinOp.or IntKind.u64 (acc : Int) (IntKind.u64.wrap (IntKind.u64.wrap (Go.bits BinOp.and IntKind.u8 (y : Int) 127) * 2 ^ (7 * j))) = ((acc + y % 128 * 128 ^ j : Nat) : Int) := by
  have hp : (128 : Nat) ^ j = 2 ^ (7 * j) := by rw [Nat.pow_mul]
  have hlt : y % 128 * 2 ^ (7 * j) < 2 ^ 64 := by
    rcases Nat.lt_or_ge j 9 with h | h
    · have h1 : 2 ^ (7 * j) ≤ 2 ^ 56 := Nat.pow_le_pow_right (by omega) (by omega)
      have h2 : y % 128 * 2 ^ (7 * j) ≤ 127 * 2 ^ 56 := Nat.mul_le_mul (by omega) h1
      exact Nat.lt_of_le_of_lt h2 (by decide)
    · obtain rfl : j = 9 := by omega
      have h1 := h9 rfl
      have h2 : y % 128 * 2 ^ (7 * 9) ≤ 1 * 2 ^ 63 := Nat.mul_le_mul (by omega) (by decide)
      exact Nat.lt_of_le_of_lt h2 (by decide)
  have ha : acc < 2 ^ 64 := by
    rw [hp] at hacc
    exact Nat.lt_of_lt_of_le hacc (Nat.pow_le_pow_right (by omega) (by omega))
  rw [Go.u8_and127 (y : Int) (by omega) (by omega), Go.wraps_u64 ((y : Int) % 128) (by omega) (by omega)]
  have e : (y : Int) % 128 * 2 ^ (7 * j) = ((y % 128 * 2 ^ (7 * j) : Nat) : Int) := by simp
  rw [e, Go.wraps_u64 _ (Int.natCast_nonneg _) (by exact_mod_cast hlt)]
  rw [Go.bits_join_low .u64 64 (by decide) Go.wraps_u64 (7 * j) _ _ (Int.natCast_nonneg _) (by rw [hp] at hacc; exact_mod_cast hacc) (by exact_mod_cast ha) (Int.natCast_nonneg _) (by exact_mod_cast Nat.mul_mod_left _ _) (by exact_mod_cast hlt)]
  rw [hp]
  simp
/-- The number's next byte. -/
theorem numF_bad {k acc : Nat} {c : UInt8} {t : List UInt8} (h : (k = 9 ∧ 1 < c.toNat) ∨ (0 < k ∧ c.toNat = 0)) : numF k acc (c :: t) = (0, 0, 12) := by
  unfold numF; rw [if_pos h]
theorem numF_last {k acc : Nat} {c : UInt8} {t : List UInt8} (h : ¬ ((k = 9 ∧ 1 < c.toNat) ∨ (0 < k ∧ c.toNat = 0))) (h2 : c.toNat < 128) : numF k acc (c :: t) = (acc + c.toNat % 128 * 128 ^ k, k + 1, 0) := by
  unfold numF; rw [if_neg h, if_pos h2]
theorem numF_next {k acc : Nat} {c : UInt8} {t : List UInt8} (h : ¬ ((k = 9 ∧ 1 < c.toNat) ∨ (0 < k ∧ c.toNat = 0))) (h2 : ¬ c.toNat < 128) : numF k acc (c :: t) = numF (k + 1) (acc + c.toNat % 128 * 128 ^ k) t := by
  conv => lhs; unfold numF
  rw [if_neg h, if_neg h2]
theorem numF_acc {j acc y : Nat} (h : acc < 128 ^ j) : acc + y % 128 * 128 ^ j < 128 ^ (j + 1) := by
  have h1 : y % 128 ≤ 127 := by omega
  have h2 : y % 128 * 128 ^ j ≤ 127 * 128 ^ j := Nat.mul_le_mul_right _ h1
  rw [Nat.pow_succ]
  omega
end Go.Proofs.YthhmamkphcgocaaDoor

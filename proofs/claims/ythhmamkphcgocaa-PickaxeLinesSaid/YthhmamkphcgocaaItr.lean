/- line.lines and the iterator that it hands back, by contracts. -/
import Derived.RangeFuncNested
import Derived.RangeFuncBound
import Derived.RangeFuncCalls
import Derived.RangeFuncLeaves
import Derived.Shelf.Abstract
import Derived.WalkKit
import Derived.OwnWalkIn
import Derived.TacticsInMore
import Derived.LoopNIn
import Derived.LoopIn
import Derived.Test.YthhmamkphcgocaaRng
import Derived.Test.YthhmamkphcgocaaShf
import Derived.Test.YthhmamkphcgocaaLin
namespace Go.Proofs.Ythhmamkphcgocaa
open Go.RowKit
attribute [local go_sem] Oper.semAt_some

/-- How long the first line is. -/
def lineLen (l : List UInt8) : Nat := if Lib.indexByte l 10 = -1 then l.length else (Lib.indexByte l 10).toNat + 1
theorem lineLen_cons (x : UInt8) (l : List UInt8) : lineLen (x :: l) = if x = 10 then 1 else lineLen l + 1 := by
  have e : Lib.indexByte (x :: l) 10 = if x == 10 then 0 else if Lib.indexByte l 10 == -1 then -1 else Lib.indexByte l 10 + 1 := rfl
  have hge := Lib.indexByte_ge l 10
  unfold lineLen
  rw [e]
  clear e
  generalize Lib.indexByte l 10 = i at *
  by_cases hx : x = 10
  · simp [hx]
  · have hb : (x == 10) = false := by simpa using hx
    rw [hb, if_neg hx]
    simp only [Bool.false_eq_true, if_false]
    by_cases h1 : i = -1
    · simp [h1]
    · have hb1 : (i == -1) = false := by simpa using h1
      rw [hb1]
      simp only [Bool.false_eq_true, if_false]
      rw [if_neg (by omega), if_neg h1]
      omega
theorem lineLen_le (l : List UInt8) : lineLen l ≤ l.length := by
  induction l with
  | nil => simp [lineLen, Lib.indexByte]
  | cons x l ih => rw [lineLen_cons]; simp only [List.length_cons]; split <;> omega
theorem lineLen_pos (x : UInt8) (l : List UInt8) : 0 < lineLen (x :: l) := by rw [lineLen_cons]; split <;> omega
theorem splitB_line (l : List UInt8) : ∀ cur, (cur ≠ [] ∨ l ≠ []) → splitB cur l = (cur ++ l.take (lineLen l)) :: splitB [] (l.drop (lineLen l)) := by
  induction l with
  | nil =>
    intro cur h
    have hc : cur ≠ [] := by rcases h with h | h; exact h; exact absurd rfl h
    have e : lineLen [] = 0 := by simp [lineLen, Lib.indexByte]
    rw [e]
    simp [splitB, hc]
  | cons x l ih =>
    intro cur _
    rw [lineLen_cons, splitB]
    by_cases hx : x = 10
    · rw [if_pos hx, if_pos hx]; simp
    · rw [if_neg hx, if_neg hx, ih _ (.inl (by simp))]
      simp
theorem bytesOf_nat (l : List UInt8) : Lib.bytesOf (l.map fun b => (b.toNat : Int)) = l := by
  unfold Lib.bytesOf
  rw [List.map_map]
  conv => rhs; rw [← List.map_id l]
  apply List.map_congr_left
  intro b _
  simp

set_option maxRecDepth 100000 in
theorem lines_any (w : World) (A : Option Addr) (n c : Nat) : Calls Try.prog 43 #[.slice A n c] w fun e w' => e = .returned (.func (.func 52) #[] #[.pointer (some ⟨w.heap.size, 0, none⟩)]) ∧ w' = w.alloc (.cells #[.slice A n c] 27) := by
  go_enter Try.func43, Try.ntmps43
  go_wp2
  go_ret
  exact ⟨rfl, rfl⟩
theorem index10 (w : World) (ad : Addr) (l : List UInt8) (c : Nat) (h : ∀ j x, (bys l)[j]? = some x → w.cell? (ad.add j) = some x) :
    Calls Try.prog 53 #[.slice (some ad) l.length c, .int .u8 10] w fun e w' => e = .returned (.int .i64 (Lib.indexByte l 10)) ∧ w' = w := by
  have := Try.bytes_IndexByte_at ad l.length c (l.map fun b => (b.toNat : Int)) 10 w (by simp) (fun i hi => by rw [h i _ (bys_at hi)]; simp [hi])
  rw [bytesOf_nat] at this
  exact this
theorem conv_take (w : World) (ad : Addr) (c : Nat) (l : List UInt8) (m : Nat) (hm : m ≤ l.length) (h : ∀ j x, (bys l)[j]? = some x → w.cell? (ad.add j) = some x) : (convert 27 9 (.slice (some ad) m c)).run Try.prog w = .ok (.string (bs (l.take m))) w := by
  have := conv_part w ad c l 0 m (by omega) h
  rwa [Addr.add_zero', List.drop_zero] at this

/-- How much is left, off the box. -/
def boxLen (w : World) (X : Nat) : Nat := match w.cell? ⟨X, 0, none⟩ with
  | some (.slice _ n _) => n
  | _ => 0
theorem boxLen_eq {w : World} {X n c : Nat} {A : Option Addr} (h : w.cell? ⟨X, 0, none⟩ = some (.slice A n c)) : boxLen w X = n := by unfold boxLen; rw [h]

theorem bys_drop (l : List UInt8) (k : Nat) : bys (l.drop k) = (bys l).drop k := by simp [bys]
theorem rv_drop {B : Nat} {w : World} {ad : Addr} {l : List UInt8} (h : Rv B w (some ad) (bys l)) (k c : Nat) (hk : k ≤ l.length) (hc : l.length ≤ c) : Rv B w (if c = k then some ad else some (ad.add k)) (bys (l.drop k)) := by
  by_cases e : c = k
  · obtain rfl : k = l.length := by omega
    rw [List.drop_length]
    exact Rv.nil
  · rw [if_neg e, bys_drop]
    intro j x hx
    have hx' : (bys l)[k + j]? = some x := by simpa using hx
    obtain ⟨ad', e', hb, hcell⟩ := h (k + j) x hx'
    obtain rfl : ad = ad' := by injection e'
    exact ⟨_, rfl, by rw [block_add]; exact hb, by rw [add_add]; exact hcell⟩

set_option maxRecDepth 100000 in
set_option maxHeartbeats 2000000 in
theorem iter_in (n : Nat) (l X B : Nat) (t : List UInt8) (A : Option Addr) (c : Nat) (ht : t.length ≤ 400) (hc : t.length ≤ c) (J : List (List UInt8) → World → Prop)
    (hJX : ∀ s W v, J s W → J s (W.setCell ⟨X, 0, none⟩ v)) (hK : ∀ s W, J s W → Rv B W A (bys t))
    (hY : ∀ pre x W1, J pre W1 → pre.length < (splitB [] t).length → YieldAt Fence.wide (n - 1) Try.prog l #[.string (bs x)] W1 fun e W' => e = .returned (.bool true) ∧ J (pre ++ [x]) W' ∧ W'.cell? ⟨X, 0, none⟩ = W1.cell? ⟨X, 0, none⟩ ∧ W'.frozen? ⟨X, 0, none⟩ = W1.frozen? ⟨X, 0, none⟩)
    (W : World) (h0 : J [] W) (hbox : W.cell? ⟨X, 0, none⟩ = some (.slice A t.length c)) (hfr : W.frozen? ⟨X, 0, none⟩ = false) :
    CallsIn Fence.wide n Try.prog 52 #[.func (.yield l) #[] #[], .pointer (some ⟨X, 0, none⟩)] W fun e W' => (∃ v, e = .returned v) ∧ J (splitB [] t) W' := by
  have HJX := Lib.hid hJX
  have HK := Lib.hid hK
  have HY := Lib.hid hY
  clear hJX hK hY
  refine callsIn_of_wp Try.func52 rfl trivial ?_ rfl
  simp only [Try.ntmps52, List.size_toArray, List.length_cons, List.length_nil, Nat.reduceAdd, Nat.reduceSub, Array.replicate_succ, Array.replicate_zero, List.push_toArray, List.append_toArray, List.nil_append, List.cons_append]
  gi_wp2
  gi_loopw [3] (fun _ wr => ∃ (pre : List (List UInt8)) (r : List UInt8) (A' : Option Addr) (c' : Nat), r.length ≤ 400 ∧ r.length ≤ c' ∧ wr.cell? ⟨X, 0, none⟩ = some (.slice A' r.length c') ∧ wr.frozen? ⟨X, 0, none⟩ = false ∧
    Hid (pre ++ splitB [] r = splitB [] t) ∧ Hid (∀ s V, J s V → Rv B V A' (bys r)) ∧ Hid (J pre wr)) (fun _ wr => boxLen wr X)
  case atStart => exact ⟨[], t, A, c, ht, hc, hbox, hfr, rfl, HK.out, h0⟩
  case round =>
    obtain ⟨pre, r, A', c', hr, hrc, hb, hf, hs, hk, hj⟩ := hrel
    rcases r with _ | ⟨x, r⟩
    · have h := hs.out
      have e : splitB [] [] = [] := rfl
      rw [e, List.append_nil] at h
      have HE := Lib.hid h
      clear h e
      gi_wp2
      go_end0
      exact ⟨⟨_, rfl⟩, by rw [← HE.out]; exact hj.out⟩
    · have hline := splitB_line (x :: r) [] (.inr (by simp))
      have hpos := lineLen_pos x r
      have hle := lineLen_le (x :: r)
      have hidx : Lib.indexByte (x :: r) 10 = -1 ∨ Lib.indexByte (x :: r) 10 = (lineLen (x :: r) : Int) - 1 := by
        have hge := Lib.indexByte_ge (x :: r) 10
        unfold lineLen
        by_cases h1 : Lib.indexByte (x :: r) 10 = -1
        · exact .inl h1
        · right; rw [if_neg h1]; omega
      have hall : Lib.indexByte (x :: r) 10 = -1 → lineLen (x :: r) = (x :: r).length := fun h => by unfold lineLen; rw [if_pos h]
      have hlen : 0 < (x :: r).length := by simp
      rw [List.nil_append] at hline
      have HLINE := Lib.hid hline
      generalize x :: r = L at *
      obtain ⟨ad, rfl, _, hcell⟩ := (hk.out pre wr hj.out).some_ (by rw [bys_len]; exact hlen)
      have HC := Lib.hid (index10 wr ad L c' hcell)
      have hcv := fun c2 => conv_take wr ad c2 L (lineLen L) hle hcell
      obtain ⟨fn, tmps, assign, body, hy, hR⟩ := HY.out pre (L.take (lineLen L)) wr hj.out (by rw [← hs.out, hline]; simp)
      clear hcell hline
      generalize lineLen L = e at *
      rcases hidx with hi | hi
      · obtain rfl := hall hi
        rw [hi] at HC
        rw [List.take_length] at hy hR hcv HLINE
        clear hi hall
        gi_wp2_with (refine ⟨trivial, (fun h => by cases h), ?_⟩; refine (callsIn_wide.2 HC.out).mono ?_; rintro e3 w3 ⟨rfl, hw3⟩; subst w3)
        refine ⟨(fun h => by cases h), hR.mono ?_⟩
        rintro e3 W3 ⟨rfl, hJ3, hx3, hf3⟩
        have c3 : W3.cell? ⟨X, 0, none⟩ = some (.slice (some ad) L.length c') := hx3.trans hb
        have f3 : W3.frozen? ⟨X, 0, none⟩ = false := hf3.trans hf
        have HJ3 := Lib.hid hJ3
        have HM := Lib.hid (boxLen_eq hb)
        have C3 := Lib.hid c3
        clear hx3 hf3 hJ3 hb hf hy hR
        gi_wp2
        have hdl : (L.drop L.length).length = 0 := by simp
        refine ⟨⟨pre ++ [L], L.drop L.length, (if c' = L.length then some ad else some (ad.add L.length)), c' - L.length, by omega, by omega, ?_, by simpa using f3, ?_, fun s V h => rv_drop (hk.out s V h) L.length c' hle hrc, ?_⟩, ?_⟩
        · rw [hdl]; exact World.cell?_setCell_same _ _ _ C3.out
        · have h := hs.out
          rw [HLINE.out] at h
          unfold Hid
          simpa using h
        · exact HJX.out _ _ _ HJ3.out
        · rw [boxLen_eq (World.cell?_setCell_same _ _ _ C3.out), HM.out]; omega
      · rw [hi] at HC
        clear hi hall
        gi_wp2_with (refine ⟨trivial, (fun h => by cases h), ?_⟩; refine (callsIn_wide.2 HC.out).mono ?_; rintro e3 w3 ⟨rfl, hw3⟩; subst w3)
        refine ⟨(fun h => by cases h), hR.mono ?_⟩
        rintro e3 W3 ⟨rfl, hJ3, hx3, hf3⟩
        have c3 : W3.cell? ⟨X, 0, none⟩ = some (.slice (some ad) L.length c') := hx3.trans hb
        have f3 : W3.frozen? ⟨X, 0, none⟩ = false := hf3.trans hf
        have HJ3 := Lib.hid hJ3
        have HM := Lib.hid (boxLen_eq hb)
        have C3 := Lib.hid c3
        clear hx3 hf3 hJ3 hb hf hy hR
        gi_wp2
        have hdl : (L.drop e).length = L.length - e := by simp
        refine ⟨⟨pre ++ [L.take e], L.drop e, (if c' = e then some ad else some (ad.add e)), c' - e, by omega, by omega, ?_, by simpa using f3, ?_, fun s V h => rv_drop (hk.out s V h) e c' hle hrc, ?_⟩, ?_⟩
        · rw [hdl]; exact World.cell?_setCell_same _ _ _ C3.out
        · have h := hs.out
          rw [HLINE.out] at h
          unfold Hid
          simpa using h
        · exact HJX.out _ _ _ HJ3.out
        · rw [boxLen_eq (World.cell?_setCell_same _ _ _ C3.out), HM.out]; omega
end Go.Proofs.Ythhmamkphcgocaa

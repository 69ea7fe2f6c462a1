/- rename's finder.exact, by a contract. -/
import Derived.Test.YthhmamkphcgocaaFnd3
import Derived.Test.YthhmamkphcgocaaFnd4
namespace Go.Proofs.Ythhmamkphcgocaa
open Go.RowKit

def foundAt (l : List Chg) (s : St) (k : Nat) : Int :=
  if firstFrom (hit l s k true) l.length 0 < 0 then firstFrom (hit l s k false) l.length 0 else firstFrom (hit l s k true) l.length 0
def exactStep (l : List Chg) (s : St) (k : Nat) : St :=
  if isTarget l s k then (if 0 ≤ foundAt l s k then pairSt s (foundAt l s k).toNat k 1000 else s) else s
def exactTo (l : List Chg) (s : St) : Nat → St
  | 0 => s
  | k + 1 => exactStep l (exactTo l s k) k

theorem firstFrom_bd (p : Nat → Bool) (n : Nat) : ∀ m i, i + m = n → firstFrom p m i = -1 ∨ ∃ j : Nat, j < n ∧ firstFrom p m i = j := by
  intro m
  induction m with
  | zero => intro i _; exact .inl rfl
  | succ m ih =>
    intro i h
    unfold firstFrom
    split
    · exact .inr ⟨i, by omega, rfl⟩
    · exact ih (i + 1) (by omega)

theorem neg_of_nat (j : Nat) : ¬ ((j : Int) < 0) := by omega
theorem below_drewN {B : Nat} {a w : World} (h : Below B a w) (n : Nat) : Below B a (w.drewN n) := ⟨h.os, h.tape, h.output, h.size, h.block⟩
theorem Fnd.alloc {w : World} {B b F S K T : Nat} {A : Option Addr} {c : Nat} {l : List Chg} {s : St} (h : Fnd w B b F S K T A c l s) (o : Obj) : Fnd (w.alloc o) B b F S K T A c l s := h.keep fun g hg => Below.heap_alloc w o g hg

set_option maxHeartbeats 2000000 in
theorem exact_any {w : World} {B b F S K T : Nat} {A : Option Addr} {c : Nat} {l : List Chg} {s : St} (h : Fnd w B b F S K T A c l s) :
    Calls Try.prog 19 #[.pointer (some ⟨b, 0, none⟩)] w fun e w' => e = .returned (.tuple #[]) ∧ Fnd w' B b F S K T A c l (exactTo l s l.length) ∧ Below B w w' := by
  have h0 : w.cell? ⟨b, 0, none⟩ = some (.slice A l.length c) := h.cell 0
  have hn40 := h.short
  have hlt : b < w.heap.size := (Array.getElem?_eq_some_iff.1 h.self).1
  have hB := h.bb
  have hbx : Fnd (w.alloc (.cells #[.pointer (some ⟨b, 0, none⟩)] 47)) B b F S K T A c l s := h.alloc _
  have HB := Lib.hid hbx
  clear hbx h
  go_enter Try.func19, Try.ntmps19
  go_wp2
  go_loopw [10] (fun i wr => ∃ k : Nat, k ≤ l.length ∧ i = .int .i64 k ∧ Hid (Fnd wr B b F S K T A c l (exactTo l s k)) ∧ Hid (wr.heap[w.heap.size]? = some (.cells #[.pointer (some ⟨b, 0, none⟩)] 47 (0, 0))) ∧ Hid (Below B w wr)) (fun i _ => l.length - (intOf i).toNat)
  case atStart => exact ⟨0, Nat.zero_le _, rfl, HB.out, heap_alloc_new _ _, (Below.refl _ _).alloc (by omega) _⟩
  case round =>
    obtain ⟨k, hk, rfl, hr, hf, hb⟩ := hrel
    clear h0
    by_cases hkl : k < l.length
    · have hW : Fnd (wr.alloc (.cells #[.int .i64 k] 3)) B b F S K T A c l (exactTo l s k) := hr.out.alloc _
      have hWb : Below B w (wr.alloc (.cells #[.int .i64 k] 3)) := hb.out.alloc (by have := hr.out.bb; have := (Array.getElem?_eq_some_iff.1 hr.out.self).1; omega) _
      have hWf : (wr.alloc (.cells #[.int .i64 k] 3)).heap[w.heap.size]? = some (.cells #[.pointer (some ⟨b, 0, none⟩)] 47 (0, 0)) := by
        exact (Below.heap_alloc _ _ _ (Array.getElem?_eq_some_iff.1 hf.out).1).trans hf.out
      have cf : (wr.alloc (.cells #[.int .i64 k] 3)).cell? ⟨w.heap.size, 0, none⟩ = some (.pointer (some ⟨b, 0, none⟩)) := cell_of_row _ _ 0 _ _ _ hWf
      have ck : (wr.alloc (.cells #[.int .i64 k] 3)).cell? ⟨wr.heap.size, 0, none⟩ = some (.int .i64 k) := cell_of_row _ _ 0 _ _ _ (heap_alloc_new _ _)
      have hct := target_any hW k hkl
      have hc1 := find_any hW k hkl true w.heap.size wr.heap.size cf ck
      have hc2 : ∀ m, Calls Try.prog 37 #[.bool false, .pointer (some ⟨w.heap.size, 0, none⟩), .pointer (some ⟨wr.heap.size, 0, none⟩)] ((wr.alloc (.cells #[.int .i64 k] 3)).drewN m) fun e w' => e = .returned (.int .i64 (firstFrom (hit l (exactTo l s k) k false) l.length 0)) ∧ ∃ m', w' = ((wr.alloc (.cells #[.int .i64 k] 3)).drewN m).drewN m' :=
        fun m => find_any (hW.drewN m) k hkl false w.heap.size wr.heap.size cf ck
      have hst : exactTo l s (k + 1) = exactStep l (exactTo l s k) k := rfl
      have hfa : foundAt l (exactTo l s k) k = if firstFrom (hit l (exactTo l s k) k true) l.length 0 < 0 then firstFrom (hit l (exactTo l s k) k false) l.length 0 else firstFrom (hit l (exactTo l s k) k true) l.length 0 := rfl
      unfold exactStep at hst
      rw [hfa] at hst
      clear hfa
      have b1 := firstFrom_bd (hit l (exactTo l s k) k true) l.length l.length 0 (by omega)
      have b2 := firstFrom_bd (hit l (exactTo l s k) k false) l.length l.length 0 (by omega)
      generalize firstFrom (hit l (exactTo l s k) k true) l.length 0 = a1 at *
      generalize firstFrom (hit l (exactTo l s k) k false) l.length 0 = a2 at *
      generalize isTarget l (exactTo l s k) k = tg at *
      have HST := Lib.hid hst
      have HW := Lib.hid hW
      have HWB := Lib.hid hWb
      have HWF := Lib.hid hWf
      have HCT := Lib.hid hct
      have HC1 := Lib.hid hc1
      have HC2 := Lib.hid hc2
      have hfz : w.heap.size < wr.heap.size := (Array.getElem?_eq_some_iff.1 hf.out).1
      have hfc : wr.cell? ⟨w.heap.size, 0, none⟩ = some (.pointer (some ⟨b, 0, none⟩)) := cell_of_row _ _ 0 _ _ _ hf.out
      clear hst hW hWb hWf hct hc1 hc2 cf ck
      cases tg with
      | false =>
        clear b1 b2
        go_wp2_with (go_at_call 36; refine HCT.out.mono ?_; rintro e w' ⟨rfl, rfl⟩)
        refine ⟨⟨k + 1, by omega, by go_num, ?_, ?_, ?_⟩, by simp [intOf]; omega⟩
        · rw [show exactTo l s (k + 1) = exactTo l s k by rw [HST.out]; simp]; exact (HW.out : _)
        · exact (HWF.out : _)
        · exact (HWB.out : _)
      | true =>
        rcases b1 with rfl | ⟨j, hj, rfl⟩
        · rcases b2 with rfl | ⟨j, hj, rfl⟩
          · go_wp2_with (first
              | (go_at_call 36; refine HCT.out.mono ?_; rintro e w' ⟨rfl, rfl⟩)
              | (go_at_call_of 37 (Value.bool true); refine HC1.out.mono ?_; rintro e w' ⟨rfl, m1, rfl⟩)
              | (go_at_call_of 37 (Value.bool false); refine (HC2.out _).mono ?_; rintro e w' ⟨rfl, m2, rfl⟩))
            refine ⟨⟨k + 1, by omega, by go_num, ?_, ?_, ?_⟩, by simp [intOf]; omega⟩
            · rw [show exactTo l s (k + 1) = exactTo l s k by rw [HST.out]; simp]; exact (HW.out.drewN _ : _)
            · exact (HWF.out : _)
            · exact (below_drewN HWB.out _ : _)
          · go_wp2_with (first
              | (go_at_call 36; refine HCT.out.mono ?_; rintro e w' ⟨rfl, rfl⟩)
              | (go_at_call_of 37 (Value.bool true); refine HC1.out.mono ?_; rintro e w' ⟨rfl, m1, rfl⟩)
              | (go_at_call_of 37 (Value.bool false); refine (HC2.out _).mono ?_; rintro e w' ⟨rfl, m2, rfl⟩)
              | (go_at_call 40; refine (pair_any (HW.out.drewN _) j k hj hkl 1000).mono ?_; rintro e w' ⟨rfl, hp1, hp2, hp3, hp4⟩))
            refine ⟨⟨k + 1, by omega, by go_num, ?_, ?_, ?_⟩, by simp [intOf]; omega⟩
            · rw [show exactTo l s (k + 1) = pairSt (exactTo l s k) j k 1000 by rw [HST.out]; simp]; exact (hp1 : _)
            · exact ((hp3 _ (ne_of_types HWF.out HW.out.hF (by decide)) (ne_of_types HWF.out HW.out.hS (by decide)) (ne_of_types HWF.out HW.out.hK (by decide)) (ne_of_types HWF.out HW.out.hT (by decide))).trans HWF.out : _)
            · exact ((below_drewN HWB.out _).trans hp2 : _)
        · clear b2
          go_wp2_with (first
              | (go_at_call 36; refine HCT.out.mono ?_; rintro e w' ⟨rfl, rfl⟩)
              | (go_at_call_of 37 (Value.bool true); refine HC1.out.mono ?_; rintro e w' ⟨rfl, m1, rfl⟩)
              | (go_at_call 40; refine (pair_any (HW.out.drewN _) j k hj hkl 1000).mono ?_; rintro e w' ⟨rfl, hp1, hp2, hp3, hp4⟩))
          refine ⟨⟨k + 1, by omega, by go_num, ?_, ?_, ?_⟩, by simp [intOf]; omega⟩
          · rw [show exactTo l s (k + 1) = pairSt (exactTo l s k) j k 1000 by rw [HST.out]; simp [neg_of_nat]]; exact (hp1 : _)
          · exact ((hp3 _ (ne_of_types HWF.out HW.out.hF (by decide)) (ne_of_types HWF.out HW.out.hS (by decide)) (ne_of_types HWF.out HW.out.hK (by decide)) (ne_of_types HWF.out HW.out.hT (by decide))).trans HWF.out : _)
          · exact ((below_drewN HWB.out _).trans hp2 : _)
    · go_wp2
      go_end0
      obtain rfl : k = l.length := by omega
      exact ⟨rfl, hr.out, hb.out⟩
end Go.Proofs.Ythhmamkphcgocaa

/- The last stroke of a text: strings.LastIndexByte, route.Base and the references' Last and Base, each by a contract. -/
import Derived.Test.YthhmamkphcgocaaProg
import Derived.Test.YthhmamkphcgocaaBase
namespace Go.Proofs.Ythhmamkphcgocaa
open Go.RowKit

def lastTo (c : UInt8) (l : List UInt8) : Nat → Int
  | 0 => -1
  | n+1 => if l.getD n 0 = c then (n : Int) else lastTo c l n

theorem lastTo_bd (c : UInt8) (l : List UInt8) (n : Nat) : -1 ≤ lastTo c l n ∧ lastTo c l n < n := by
  induction n with
  | zero => simp [lastTo]
  | succ n ih => unfold lastTo; split <;> omega

theorem byte_eq {a b : UInt8} (h : ((a.toNat : Int) == (b.toNat : Int)) = true) : a = b := by
  have h' : (a.toNat : Int) = b.toNat := by simpa using h
  exact UInt8.toNat_inj.1 (by omega)
theorem byte_ne {a b : UInt8} (h : ((a.toNat : Int) == (b.toNat : Int)) = false) : a ≠ b := by
  rintro rfl
  simp at h
theorem getD_data (s : ByteArray) (k : Nat) (h : k < s.size) : s.data.toList.getD k 0 = s[k] := by
  have h' : k < s.data.toList.length := by simpa using h
  rw [List.getD_eq_getElem?_getD, List.getElem?_eq_getElem h']
  rfl
theorem lastTo_hit (c : UInt8) (s : ByteArray) (k : Nat) (h : k < s.size) (hc : s[k] = c) : lastTo c s.data.toList (k + 1) = k := by
  unfold lastTo; rw [getD_data s k h, if_pos hc]
theorem lastTo_miss (c : UInt8) (s : ByteArray) (k : Nat) (h : k < s.size) (hc : s[k] ≠ c) : lastTo c s.data.toList (k + 1) = lastTo c s.data.toList k := by
  conv => lhs; unfold lastTo
  rw [getD_data s k h, if_neg hc]

def baseB (s : ByteArray) : ByteArray := s.extract (lastTo 47 s.data.toList s.size + 1).toNat s.size

set_option maxHeartbeats 400000 in
theorem libs_any (s : ByteArray) (c : UInt8) (w : World) (hs : s.size ≤ maxLen) :
    Calls Try.prog 66 #[.string s, .int .u8 c.toNat] w fun e w' => e = .returned (.int .i64 (lastTo c s.data.toList s.size)) ∧ w = w' := by
  unfold maxLen at hs
  go_enter Try.func66, Try.ntmps66
  go_wp2
  go_loop [5] (fun i => ∃ k : Nat, k ≤ s.size ∧ i = .int .i64 ((k : Int) - 1) ∧ Hid (lastTo c s.data.toList s.size = lastTo c s.data.toList k)) (fun i => (intOf i + 1).toNat)
  case atStart => exact ⟨s.size, Nat.le_refl _, rfl, rfl⟩
  case round =>
    obtain ⟨k, hk, rfl, hl⟩ := hrel
    rcases k with _ | k
    · go_wp2
      go_ret
      exact ⟨ret_int (hl.out.trans rfl).symm, rfl⟩
    · have hkk : (((k + 1 : Nat) : Int) - 1) = k := by omega
      rw [hkk]
      clear hkk
      go_wp2
      · go_ret
        exact ⟨ret_int (hl.out.trans (lastTo_hit c s k (by assumption) (byte_eq (by assumption)))).symm, rfl⟩
      · refine ⟨⟨k, by omega, rfl, ?_⟩, by simp [intOf]⟩
        exact (hl.out.trans (lastTo_miss c s k (by assumption) (byte_ne (by assumption))) : _)

theorem lib_any (s : ByteArray) (c : UInt8) (w : World) (hs : s.size ≤ maxLen) :
    Calls Try.prog 57 #[.string s, .int .u8 c.toNat] w fun e w' => e = .returned (.int .i64 (lastTo c s.data.toList s.size)) ∧ w = w' := by
  go_enter Try.func57, Try.ntmps57
  go_wp2_with (go_at_call 66; refine (libs_any _ _ _ hs).mono ?_; rintro e w' ⟨rfl, rfl⟩)
  go_ret
  exact ⟨rfl, rfl⟩

set_option maxHeartbeats 400000 in
theorem last_any (s : ByteArray) (w : World) (hs : s.size ≤ maxLen) :
    Calls Try.prog 58 #[.string s] w fun e w' => e = .returned (.int .i64 (lastTo 47 s.data.toList s.size)) ∧ w = w' := by
  unfold maxLen at hs
  go_enter Try.func58, Try.ntmps58
  go_wp2
  go_loop [3, 4] (fun at' i => ∃ k : Nat, k ≤ s.size ∧ i = .int .i64 (k : Int) ∧ at' = .int .i64 (lastTo 47 s.data.toList k)) (fun _ i => s.size - (intOf i).toNat)
  case atStart => exact ⟨0, Nat.zero_le _, rfl, rfl⟩
  case round =>
    obtain ⟨k, hk, rfl, rfl⟩ := hrel
    by_cases hlt : k < s.size
    · go_wp2
      · go_round
        case rel => exact ⟨k + 1, by omega, by go_num, by rw [lastTo_hit 47 s k hlt (byte_eq (by assumption))]⟩
        case measure => simp [intOf]; omega
      · go_round
        case rel => exact ⟨k + 1, by omega, by go_num, by rw [lastTo_miss 47 s k hlt (byte_ne (by assumption))]⟩
        case measure => simp [intOf]; omega
    · go_wp2
      go_ret
      obtain rfl : k = s.size := by omega
      exact ⟨rfl, rfl⟩

set_option maxHeartbeats 400000 in
theorem base_any (s : ByteArray) (w : World) (hs : s.size ≤ maxLen) :
    Calls Try.prog 50 #[.string s] w fun e w' => e = .returned (.string (baseB s)) ∧ w = w' := by
  have hc := lib_any s 47 w hs
  have hb := lastTo_bd 47 s.data.toList s.size
  unfold baseB
  generalize lastTo 47 s.data.toList s.size = x at *
  have HC := Lib.hid hc
  clear hc
  unfold maxLen at hs
  obtain ⟨hb1, hb2⟩ := hb
  go_enter Try.func50, Try.ntmps50
  go_wp2_with (go_at_call 57; refine HC.out.mono ?_; rintro e w' ⟨rfl, rfl⟩)
  go_ret
  exact ⟨rfl, rfl⟩

set_option maxHeartbeats 400000 in
theorem rbase_any (s : ByteArray) (w : World) (hs : s.size ≤ maxLen) :
    Calls Try.prog 51 #[.string s] w fun e w' => e = .returned (.string (baseB s)) ∧ w = w' := by
  have hc := last_any s w hs
  have hb := lastTo_bd 47 s.data.toList s.size
  unfold baseB
  generalize lastTo 47 s.data.toList s.size = x at *
  have HC := Lib.hid hc
  clear hc
  unfold maxLen at hs
  obtain ⟨hb1, hb2⟩ := hb
  go_enter Try.func51, Try.ntmps51
  go_wp2_with (go_at_call 58; refine HC.out.mono ?_; rintro e w' ⟨rfl, rfl⟩)
  go_ret
  exact ⟨rfl, rfl⟩
end Go.Proofs.Ythhmamkphcgocaa

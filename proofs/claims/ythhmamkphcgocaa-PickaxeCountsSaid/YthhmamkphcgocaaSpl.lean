/- Lines of a text (splitA); sleuthref20.Split, by a contract. -/
import Derived.Test.YthhmamkphcgocaaNum
import Derived.Laws.IdiomStrings
namespace Go.Proofs.Ythhmamkphcgocaa
open Go.RowKit

def bs (l : List UInt8) : ByteArray := ⟨l.toArray⟩
def bys (l : List UInt8) : List Value := l.map fun b => Value.int .u8 (b.toNat : Int)
theorem bs_size (l : List UInt8) : (bs l).size = l.length := by simp [bs, ByteArray.size]
theorem bs_append (l k : List UInt8) : bs l ++ bs k = bs (l ++ k) := by
  apply ByteArray.ext
  simp [bs]
theorem bs_inj {l k : List UInt8} (h : bs l = bs k) : l = k := by
  have := congrArg (fun b => b.data.toList) h
  simpa [bs] using this
theorem bs_nil : bs [] = ByteArray.empty := rfl
theorem bys_at {l : List UInt8} {k : Nat} (h : k < l.length) : (bys l)[k]? = some (.int .u8 ((l.getD k 0).toNat : Int)) := by simp [bys, h]
theorem bys_len (l : List UInt8) : (bys l).length = l.length := by simp [bys]

/-- The lines of a text, cur standing ahead of it. -/
def splitA (cur : List UInt8) : List UInt8 → List ByteArray
  | [] => if cur = [] then [] else [bs cur]
  | x :: l => if x = 10 then bs (cur ++ [x]) :: splitA [] l else splitA (cur ++ [x]) l
theorem bytes_drop {l : List UInt8} {k : Nat} (h : k < l.length) : l.drop k = l.getD k 0 :: l.drop (k + 1) := by
  rw [List.drop_eq_getElem_cons h]; simp [h]
theorem splitA_len (l : List UInt8) : ∀ cur, (splitA cur l).length ≤ l.length + 1 := by
  induction l with
  | nil => intro cur; unfold splitA; split <;> simp
  | cons x l ih =>
    intro cur
    unfold splitA
    split
    · have := ih []; simp; omega
    · have := ih (cur ++ [x]); simp; omega
theorem conv_one (w : World) (ad : Addr) (c : Nat) (x : UInt8) (h : w.cell? ad = some (.int .u8 (x.toNat : Int))) : (convert 27 9 (.slice (some ad) 1 c)).run Try.prog w = .ok (.string (bs [x])) w := by
  refine run_convert_bytes_back w 27 9 5 ad c [x] Try.underlying27 Try.underlying5 Try.underlying9 (fun j hj => ?_)
  simp only [List.length_cons, List.length_nil] at hj
  obtain rfl : j = 0 := by omega
  rw [Addr.add_zero']
  exact h

theorem byte_ten {x : UInt8} (h : ((x.toNat : Int) == 10) = true) : x = 10 := by
  have h' : (x.toNat : Int) = 10 := by simpa using h
  exact UInt8.toNat_inj.1 (by simp; omega)

set_option maxRecDepth 100000 in
set_option maxHeartbeats 2000000 in
theorem rsplit_any (w : World) (A : Option Addr) (c : Nat) (l : List UInt8) (h : Rv w.heap.size w A (bys l)) (hl : l.length ≤ 390) (hcap : l.length ≤ c) :
    Calls Try.prog 29 #[.slice A l.length c] w fun e w' => ∃ v, e = .returned v ∧ w'.ownsRow w.heap.size 9 1 v (splitA [] l).length (strs (splitA [] l)) ∧ Below w.heap.size w w' := by
  have H := Lib.hid h
  obtain ⟨i9, hi9', hz9', hs9', hb9'⟩ := info_parts info9b
  have hi9 := Lib.hid hi9'
  have hz9 := Lib.hid hz9'
  have hs9 := Lib.hid hs9'
  have hb9 := Lib.hid hb9'
  clear h hi9' hz9' hs9' hb9'
  go_enter Try.func29, Try.ntmps29
  go_wp2_with fail
  go_loopw [3, 4, 5] (fun v nv kv wr => ∃ (k : Nat) (cur : List UInt8) (acc : List ByteArray), k ≤ l.length ∧ cur.length ≤ k ∧ acc.length ≤ k ∧ kv = .int .i64 k ∧ nv = .string (bs cur) ∧ Hid (acc ++ splitA cur (l.drop k) = splitA [] l) ∧
    Hid (wr.ownsRow w.heap.size 9 1 v acc.length (strs acc)) ∧ Hid (Below w.heap.size w wr)) (fun _ _ kv _ => l.length - (intOf kv).toNat)
  case atStart => exact ⟨0, [], [], Nat.zero_le _, Nat.zero_le _, Nat.zero_le _, rfl, rfl, rfl, World.ownsRow_nil _ _ _ _, Below.refl _ _⟩
  case round =>
    obtain ⟨k, cur, acc, hk, hcur, hacc, rfl, rfl, hs, hown, hb⟩ := hrel
    by_cases hlt : k < l.length
    · obtain ⟨ad, rfl, _, hc⟩ := (H.out.below hb.out).at_ (k := k) (bys_at hlt)
      have hd : splitA cur (l.drop k) = if l.getD k 0 = 10 then bs (cur ++ [l.getD k 0]) :: splitA [] (l.drop (k + 1)) else splitA (cur ++ [l.getD k 0]) (l.drop (k + 1)) := by rw [bytes_drop hlt]; rfl
      have HD := Lib.hid hd
      have hsz := hb.out.size
      clear hd
      generalize l.getD k 0 = x at *
      have hcv := fun c => conv_one wr (ad.add k) c x hc
      have hcs := bs_size cur
      have hba := bs_append cur [x]
      have hcs2 : (bs [x]).size = 1 := bs_size [x]
      by_cases hx : ((x.toNat : Int) == 10) = true
      · have HX10 := Lib.hid (byte_ten hx)
        go_wp2_with (at_builtin; refine wpList_append_own _ rfl (.tmp 25) (.tmp 27) 34 rfl w.heap.size 9 i9 (.string ByteArray.empty) 1 16 Try.underlying34 hi9.out hz9.out hs9.out hb9.out rfl (by decide) u3 acc.length (strs acc) rfl (hown.out.alloc (.cells #[.string (bs (cur ++ [x]))] 9)) ⟨wr.heap.size, 0, none⟩ 1 1 [.string (bs (cur ++ [x]))] rfl rfl (new_cells _ _ _ _ rfl) (by simp [Value.oneCell']) (by unfold maxLen; omega) (by omega) (by simp; omega) ?_; intro v1 w1 ho hg hz; clear hz; have HO := Lib.hid ho; have HG := Lib.hid hg; clear ho hg)
        refine ⟨⟨k + 1, [], acc ++ [bs (cur ++ [x])], by omega, by simp, by simp; omega, by go_num, rfl, ?_, ?_, ?_⟩, by simp [intOf]; omega⟩
        · have h := hs.out
          rw [HD.out, if_pos HX10.out] at h
          unfold Hid
          simpa using h
        · unfold Hid
          rw [strs_snoc, List.length_append]
          exact HO.out
        · exact (((hb.out.alloc hsz _).grown HG.out (by simp; omega) (fun j e => (hown.out.lt j e).1)) : _)
      · have hx' : ((x.toNat : Int) == 10) = false := by simpa using hx
        have hx10 : x ≠ 10 := fun e => hx (by rw [e]; rfl)
        have HX10 := Lib.hid hx10
        clear hx hx10
        go_wp2
        refine ⟨⟨k + 1, cur ++ [x], acc, by omega, by simp; omega, by omega, by go_num, rfl, ?_, hown.out, hb.out⟩, by simp [intOf]; omega⟩
        have h := hs.out
        rw [HD.out, if_neg HX10.out] at h
        exact h
    · have hsz := hb.out.size
      obtain rfl : k = l.length := by omega
      rw [List.drop_length] at hs
      by_cases hc : cur = []
      · have h := hs.out
        rw [splitA, if_pos hc, List.append_nil] at h
        have HE := Lib.hid h
        subst hc
        have hne : (bs []).toList.isEmpty = true := by rw [ByteArray.toList_eq]; rfl
        clear h
        go_wp2
        go_ret
        rw [← HE.out]
        exact ⟨_, rfl, hown.out, hb.out⟩
      · have h := hs.out
        rw [splitA, if_neg hc] at h
        have HE := Lib.hid h
        have hne : (bs cur).toList.isEmpty = false := by
          rw [ByteArray.toList_eq]
          show cur.isEmpty = false
          cases cur <;> simp_all
        clear h
        go_wp2_with (at_builtin; refine wpList_append_own _ rfl (.tmp 31) (.tmp 33) 34 rfl w.heap.size 9 i9 (.string ByteArray.empty) 1 16 Try.underlying34 hi9.out hz9.out hs9.out hb9.out rfl (by decide) u3 acc.length (strs acc) rfl (hown.out.alloc (.cells #[.string (bs cur)] 9)) ⟨wr.heap.size, 0, none⟩ 1 1 [.string (bs cur)] rfl rfl (new_cells _ _ _ _ rfl) (by simp [Value.oneCell']) (by unfold maxLen; omega) (by omega) (by simp; omega) ?_; intro v1 w1 ho hg hz; clear hz; have HO := Lib.hid ho; have HG := Lib.hid hg; clear ho hg)
        go_ret
        rw [← HE.out, strs_snoc, List.length_append]
        exact ⟨_, rfl, HO.out, (hb.out.alloc hsz _).grown HG.out (by simp; omega) (fun j e => (hown.out.lt j e).1)⟩
end Go.Proofs.Ythhmamkphcgocaa

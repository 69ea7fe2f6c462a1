/- Paths as plain lists of bytes: what may be seen, the parts between strokes, a name, a path; sleuthref05.seen and route.plain by contracts. route.Name, route.Parts, route.Right by contracts. Cutting at strokes: strings.Split's pieces as cutS; route.Parts and route.Right by contracts. -/
import Derived.Test.YthhmamkphcgocaaDoorObj
import Derived.Test.YthhmamkphcgocaaDoorShf
import Derived.Test.YthhmamkphcgocaaDoorChecked
import Derived.Lib.SplitLaws
namespace Go.Proofs.YthhmamkphcgocaaDoor
section
open Go.RowKit

/-- May the byte be seen? -/
def vis (b : UInt8) : Bool := decide (33 ≤ b.toNat) && decide (b.toNat ≤ 126)
/-- The parts between strokes; of no bytes: one part. -/
def cutS : List UInt8 → List (List UInt8)
  | [] => [[]]
  | b :: l => if b = 47 then [] :: cutS l else match cutS l with
    | [] => [[b]]
    | p :: ps => (b :: p) :: ps
def partsS (l : List UInt8) : List (List UInt8) := if l = [] then [] else cutS l
def nameS (l : List UInt8) : Bool := decide (1 ≤ l.length) && (decide (l.length ≤ 32) && (l.all vis && (!l.contains 47 && (decide (l ≠ [46]) && decide (l ≠ [46, 46])))))
def rightS (l : List UInt8) : Bool := decide (1 ≤ l.length) && (decide (l.length ≤ 120) && ((partsS l).all nameS && decide ((partsS l).length ≤ 6)))

theorem take_all {l : List UInt8} {i : Nat} (hi : i < l.length) (f : UInt8 → Bool) : (l.take (i + 1)).all f = ((l.take i).all f && f (l.getD i 0)) := by
  rw [List.take_add_one, List.all_append, List.getElem?_eq_getElem hi]
  simp [hi]
theorem all_no {l : List UInt8} {i : Nat} (hi : i < l.length) (f : UInt8 → Bool) (h : f (l.getD i 0) = false) : l.all f = false := by
  rw [List.all_eq_false]
  refine ⟨l.getD i 0, by simp [hi], by rw [h]; exact Bool.false_ne_true⟩
attribute [local go_sem] bs_at
set_option maxRecDepth 100000 in
set_option maxHeartbeats 1000000 in
theorem fseen_any (w : World) (l : List UInt8) (hl : l.length ≤ 4294967200) :
    Calls Tryd.prog 88 #[.string (bs l)] w fun e w2 => e = .returned (.bool (l.all vis)) ∧ w2 = w := by
  have hz : (bs l).size = l.length := bs_size l
  generalize hr : l.all vis = r
  have HR := Lib.hid hr
  clear hr
  go_enter Tryd.func88, Tryd.ntmps88
  go_wp2_with fail
  go_loopw [3] (fun iv wr => ∃ i : Nat, i ≤ l.length ∧ iv = .int .i64 i ∧ Hid ((l.take i).all vis = true) ∧ wr = w) (fun iv _ => l.length - (intOf iv).toNat)
  case atStart => exact ⟨0, by omega, rfl, Lib.hid (by simp), rfl⟩
  case round =>
    obtain ⟨i, hi, rfl, hv, rfl⟩ := hrel
    by_cases hlt : i < l.length
    · have hxi : (bs l)[i]'(by omega) = l.getD i 0 := bs_at _
      have HV := Lib.hid (take_all hlt vis)
      have HN := Lib.hid (all_no hlt vis)
      generalize l.getD i 0 = x at *
      have hb := x.toNat_lt
      by_cases h1 : x.toNat < 33
      · have hvx : vis x = false := by simp [vis]; omega
        have hrf : r = false := by rw [← HR.out]; exact HN.out hvx
        subst hrf
        go_wp2_with fail
        go_ret
        exact ⟨rfl, rfl⟩
      · by_cases h2 : 126 < x.toNat
        · have hvx : vis x = false := by simp [vis]; omega
          have hrf : r = false := by rw [← HR.out]; exact HN.out hvx
          subst hrf
          go_wp2_with fail
          go_ret
          exact ⟨rfl, rfl⟩
        · have hvx : vis x = true := by simp [vis]; omega
          have HX := Lib.hid hvx
          go_wp2_with fail
          exact ⟨⟨i + 1, by omega, by go_num, Lib.hid (by rw [HV.out, hv.out, HX.out]; rfl), trivial⟩, by simp [intOf]; omega⟩
    · have hie : i = l.length := by omega
      have hrt : r = true := by
        have := hv.out
        rw [hie, List.take_length, HR.out] at this
        exact this
      subst hrt hie
      go_wp2_with fail
      go_ret
      exact ⟨rfl, rfl⟩
set_option maxRecDepth 100000 in
set_option maxHeartbeats 1000000 in
theorem plain_any (w : World) (l : List UInt8) (hl : l.length ≤ 4294967200) :
    Calls Tryd.prog 90 #[.string (bs l)] w fun e w2 => e = .returned (.bool (l.all vis)) ∧ w2 = w := by
  have hz : (bs l).size = l.length := bs_size l
  generalize hr : l.all vis = r
  have HR := Lib.hid hr
  clear hr
  go_enter Tryd.func90, Tryd.ntmps90
  go_wp2_with fail
  go_loopw [6] (fun iv wr => ∃ i : Nat, i ≤ l.length ∧ iv = .int .i64 i ∧ Hid ((l.take i).all vis = true) ∧ wr = w) (fun iv _ => l.length - (intOf iv).toNat)
  case atStart => exact ⟨0, by omega, rfl, Lib.hid (by simp), rfl⟩
  case round =>
    obtain ⟨i, hi, rfl, hv, rfl⟩ := hrel
    by_cases hlt : i < l.length
    · have hxi : (bs l)[i]'(by omega) = l.getD i 0 := bs_at _
      have HV := Lib.hid (take_all hlt vis)
      have HN := Lib.hid (all_no hlt vis)
      generalize l.getD i 0 = x at *
      have hb := x.toNat_lt
      by_cases h1 : x.toNat < 33
      · have hvx : vis x = false := by simp [vis]; omega
        have hrf : r = false := by rw [← HR.out]; exact HN.out hvx
        subst hrf
        go_wp2_with fail
        go_ret
        exact ⟨rfl, rfl⟩
      · by_cases h2 : 126 < x.toNat
        · have hvx : vis x = false := by simp [vis]; omega
          have hrf : r = false := by rw [← HR.out]; exact HN.out hvx
          subst hrf
          go_wp2_with fail
          go_ret
          exact ⟨rfl, rfl⟩
        · have hvx : vis x = true := by simp [vis]; omega
          have HX := Lib.hid hvx
          go_wp2_with fail
          exact ⟨⟨i + 1, by omega, by go_num, Lib.hid (by rw [HV.out, hv.out, HX.out]; rfl), trivial⟩, by simp [intOf]; omega⟩
    · have hie : i = l.length := by omega
      have hrt : r = true := by
        have := hv.out
        rw [hie, List.take_length, HR.out] at this
        exact this
      subst hrt hie
      go_wp2_with fail
      go_ret
      exact ⟨rfl, rfl⟩
end
section
open Go.RowKit

theorem bs_list (l : List UInt8) : (bs l).data.toList = l := by simp [bs]
theorem index_neg (c : UInt8) (l : List UInt8) : decide (0 ≤ Lib.indexByte l c) = l.contains c := by
  induction l with
  | nil => rfl
  | cons x l ih =>
    unfold Lib.indexByte
    by_cases h : x = c
    · subst h; simp
    · have hb : (c == x) = false := by simpa using fun e => h e.symm
      have hx : (x == c) = false := by simpa using h
      have hg := Lib.indexByte_ge l c
      simp only [List.contains_cons, hb, Bool.false_or, ← ih, hx, Bool.false_eq_true, if_false]
      by_cases hm : Lib.indexByte l c = -1
      · simp [hm]
      · rw [if_neg (by simpa using hm)]
        exact decide_eq_decide.2 (by omega)
theorem bs_eq_iff (l : List UInt8) (m : List UInt8) : (bs l = ⟨m.toArray⟩) ↔ l = m := ⟨fun h => bs_inj h, fun h => by rw [h]; rfl⟩
theorem beq_dec (l m : List UInt8) : (l == m) = decide (l = m) := by rw [Bool.eq_iff_iff]; simp
theorem bs_toList (l : List UInt8) : (bs l).toList = l := by
  rw [ByteArray.toList_eq]
  exact bs_list l
attribute [local go_sem] bs_toList
set_option maxRecDepth 100000 in
set_option maxHeartbeats 1000000 in
theorem name_any (w : World) (l : List UInt8) (hl : l.length ≤ 4294967200) :
    Calls Tryd.prog 86 #[.string (bs l)] w fun e w2 => e = .returned (.bool (nameS l)) ∧ w2 = w := by
  have hz : (bs l).size = l.length := bs_size l
  have hp := plain_any w l hl
  have hc := Tryd.strings_Contains_one (bs l) 47 w
  rw [bs_list, index_neg] at hc
  generalize hr : nameS l = r
  unfold nameS at hr
  have HR := Lib.hid hr
  clear hr
  generalize l.all vis = v at *
  generalize l.contains 47 = c at *
  have HP := Lib.hid hp
  have HC := Lib.hid hc
  clear hp hc
  by_cases h1 : 0 < l.length
  · by_cases h2 : l.length ≤ 32
    · cases v
      · go_enter Tryd.func86, Tryd.ntmps86
        go_wp2_with (go_at_call 90; refine HP.out.mono ?_; rintro e w1 ⟨rfl, hw1⟩; subst w1)
        go_ret
        exact ⟨by rw [← HR.out]; simp , rfl⟩
      · cases c
        · go_enter Tryd.func86, Tryd.ntmps86
          go_wp2_with (first | (go_at_call 90; refine HP.out.mono ?_; rintro e w1 ⟨rfl, hw1⟩; subst w1) | (go_at_call 91; refine HC.out.mono ?_; rintro e w1 ⟨rfl, hw1⟩; subst w1))
          · have h1' : 1 ≤ l.length := h1
            go_ret
            refine ⟨?_, rfl⟩
            rw [← HR.out]
            simp [h1', h2]
            exact fun h => absurd (by assumption) h
          · have h1' : 1 ≤ l.length := h1
            go_ret
            refine ⟨?_, rfl⟩
            rw [← HR.out]
            simp [h1', h2]
            rw [beq_dec, beq_dec]
        · go_enter Tryd.func86, Tryd.ntmps86
          go_wp2_with (first | (go_at_call 90; refine HP.out.mono ?_; rintro e w1 ⟨rfl, hw1⟩; subst w1) | (go_at_call 91; refine HC.out.mono ?_; rintro e w1 ⟨rfl, hw1⟩; subst w1))
          go_ret
          exact ⟨by rw [← HR.out]; simp , rfl⟩
    · have h3 : ¬ ((l.length : Int) ≤ 32) := by omega
      go_enter Tryd.func86, Tryd.ntmps86
      go_wp2_with fail
      go_ret
      exact ⟨by rw [← HR.out]; simp [h2], rfl⟩
  · have h3 : ¬ (0 < (l.length : Int)) := by omega
    go_enter Tryd.func86, Tryd.ntmps86
    go_wp2_with fail
    go_ret
    exact ⟨by rw [← HR.out]; simp; omega, rfl⟩
end
section
open Go.RowKit

theorem cut_none : ∀ {l : List UInt8}, (∀ k : Nat, l[k]? ≠ some 47) → cutS l = [l] := by
  intro l
  induction l with
  | nil => intro _; rfl
  | cons b l ih =>
    intro h
    have hb : b ≠ 47 := fun e => h 0 (by rw [e]; rfl)
    have ht := ih fun k => h (k + 1)
    rw [cutS, if_neg hb, ht]
theorem cut_at : ∀ {l : List UInt8} {i : Nat}, l[i]? = some 47 → (∀ k, k < i → l[k]? ≠ some 47) → cutS l = l.take i :: cutS (l.drop (i + 1)) := by
  intro l
  induction l with
  | nil => intro i h; simp at h
  | cons b l ih =>
    intro i h hk
    rcases i with _ | i
    · have hb : b = 47 := by simpa using h
      rw [cutS, if_pos hb]
      rfl
    · have hb : b ≠ 47 := fun e => hk 0 (by omega) (by rw [e]; rfl)
      have ht := ih (i := i) (by simpa using h) fun k hki => hk (k + 1) (by omega)
      rw [cutS, if_neg hb, ht]
      rfl
theorem split_cut : ∀ (k : Nat) (l : List UInt8), l.count 47 ≤ k → Lib.splitK [47] 0 k l = cutS l := by
  intro k
  induction k with
  | zero =>
    intro l h
    have h0 : ∀ k : Nat, l[k]? ≠ some 47 := fun k e => by
      have := List.count_pos_iff.2 (List.mem_of_getElem? e)
      omega
    rw [cut_none h0]
    rfl
  | succ k ih =>
    intro l h
    rw [Lib.splitK, Lib.index_one]
    by_cases hm : Lib.indexByte l 47 = -1
    · rw [if_pos (by simpa using hm), cut_none (Lib.indexByte_none hm)]
    · have hg := Lib.indexByte_ge l 47
      obtain ⟨i, hi⟩ : ∃ i : Nat, Lib.indexByte l 47 = i := ⟨(Lib.indexByte l 47).toNat, by omega⟩
      obtain ⟨h1, h2⟩ := Lib.indexByte_some hi
      rw [if_neg (by simpa using hm), hi, cut_at h1 h2, Int.toNat_natCast]
      have hlt := (List.getElem?_eq_some_iff.1 h1).1
      have hc : (l.drop (i + 1)).count 47 ≤ k := by
        have e : l.drop i = 47 :: l.drop (i + 1) := by
          rw [List.drop_eq_getElem_cons hlt, (List.getElem?_eq_some_iff.1 h1).2]
        have e2 : l.count 47 = (l.take i).count 47 + (l.drop i).count 47 := by rw [← List.count_append, List.take_append_drop]
        rw [e, List.count_cons_self] at e2
        omega
      rw [← ih _ hc]
      rfl
theorem split_bs (l : List UInt8) : Lib.splitB ⟨#[47]⟩ 0 (Lib.countB (bs l) ⟨#[47]⟩) (bs l) = (cutS l).map bs := by
  have h := Lib.splitB_data ⟨#[47]⟩ 0 (Lib.countB (bs l) ⟨#[47]⟩) (bs l)
  rw [bs_list] at h
  have hc : Lib.countB (bs l) ⟨#[47]⟩ = l.count 47 := by
    show Lib.count (bs l).data.toList [47] = _
    rw [bs_list, Lib.count_one]
  have h2 : Lib.splitK [47] 0 (Lib.countB (bs l) ⟨#[47]⟩) l = cutS l := split_cut _ _ (by rw [hc]; exact Nat.le_refl _)
  have h3 : (Lib.splitB ⟨#[47]⟩ 0 (Lib.countB (bs l) ⟨#[47]⟩) (bs l)).map (·.data.toList) = cutS l := h.trans h2
  rw [← h3, List.map_map]
  have e : (bs ∘ fun x : ByteArray => x.data.toList) = id := funext fun x => bs_of x
  rw [e, List.map_id]
theorem cut_count (l : List UInt8) : Lib.countB (bs l) ⟨#[47]⟩ + 1 = (cutS l).length := by
  have hc : Lib.countB (bs l) ⟨#[47]⟩ = l.count 47 := by
    show Lib.count (bs l).data.toList [47] = _
    rw [bs_list, Lib.count_one]
  rw [hc]
  clear hc
  induction l with
  | nil => rfl
  | cons b l ih =>
    rw [cutS]
    by_cases hb : b = 47
    · rw [if_pos hb, hb, List.count_cons_self, List.length_cons, ← ih]
    · rw [if_neg hb, List.count_cons_of_ne hb, ih]
      cases h : cutS l with
      | nil => rw [h] at ih; simp at ih
      | cons p ps => rfl
/-- The bytes of some texts as strings. -/
def txs (l : List (List UInt8)) : List Value := strs (l.map bs)
theorem txs_len (l : List (List UInt8)) : (txs l).length = l.length := by simp [txs, strs]
theorem txs_at {l : List (List UInt8)} {k : Nat} (h : k < l.length) : (txs l)[k]? = some (.string (bs (l.getD k []))) := by simp [txs, strs, h]
theorem bs_empty (l : List UInt8) : (bs l).toList = [] ↔ l = [] := by rw [bs_toList]
attribute [local go_sem] bs_toList
set_option maxRecDepth 100000 in
set_option maxHeartbeats 1000000 in
theorem parts_any (w : World) (l : List UInt8) (m : Int) (hl : l.length ≤ 4294967200) (hm : w.cell? ⟨0, 0, none⟩ = some (.int .i64 m)) :
    Calls Tryd.prog 85 #[.string (bs l)] w fun e w2 => ∃ A, e = .returned (.slice A (partsS l).length (partsS l).length) ∧ Rv w2.heap.size w2 A (txs (partsS l)) ∧ Below w.heap.size w w2 := by
  have hc := Tryd.strings_Split (bs l) ⟨#[47]⟩ m w (by rw [bs_size]; omega) hm (by decide)
  rw [split_bs, cut_count] at hc
  have HC : Hid (Calls Tryd.prog 89 #[.string (bs l), .string ⟨#[47]⟩] w fun e w' => e = .returned (.slice (some ⟨w.heap.size, 0, none⟩) (cutS l).length (cutS l).length) ∧ w' = w.alloc (.cells (txs (cutS l)).toArray 9)) := Lib.hid hc
  have HP : Hid (l ≠ [] → partsS l = cutS l) := Lib.hid fun h => by rw [partsS, if_neg h]
  have HP0 : Hid (l = [] → partsS l = []) := Lib.hid fun h => by rw [partsS, if_pos h]
  clear hc hm
  by_cases h0 : l = []
  · go_enter Tryd.func85, Tryd.ntmps85
    go_wp2_with fail
    go_ret
    refine ⟨none, ?_, ?_, Below.refl _ _⟩
    · rw [HP0.out (by assumption)]; rfl
    · rw [HP0.out (by assumption)]; exact Rv.nil
  · have hie : l.isEmpty = false := by simpa using h0
    go_enter Tryd.func85, Tryd.ntmps85
    go_wp2_with (go_at_call 89; refine HC.out.mono ?_; rintro e w1 ⟨rfl, hw1⟩; subst w1)
    go_ret
    rw [HP.out h0]
    have hrv := new_rv w (txs (cutS l)) 9 _ rfl
    have hbl := (Below.refl w.heap.size w).alloc (Nat.le_refl _) (.cells (txs (cutS l)).toArray 9)
    refine ⟨some ⟨w.heap.size, 0, none⟩, rfl, ?_, hbl⟩
    rw [show (w.alloc (.cells (txs (cutS l)).toArray 9)).heap.size = w.heap.size + 1 from World.size_alloc _ _]
    exact hrv
theorem take_allL {l : List (List UInt8)} {i : Nat} (hi : i < l.length) (f : List UInt8 → Bool) : (l.take (i + 1)).all f = ((l.take i).all f && f (l.getD i [])) := by
  rw [List.take_add_one, List.all_append, List.getElem?_eq_getElem hi]
  simp [hi]
theorem all_noL {l : List (List UInt8)} {i : Nat} (hi : i < l.length) (f : List UInt8 → Bool) (h : f (l.getD i []) = false) : l.all f = false := by
  rw [List.all_eq_false]
  refine ⟨l.getD i [], by simp [hi], by rw [h]; exact Bool.false_ne_true⟩
theorem cut_sum (l : List UInt8) : ∀ p ∈ cutS l, p.length ≤ l.length := by
  induction l with
  | nil => intro p hp; simp [cutS] at hp; simp [hp]
  | cons b l ih =>
    intro p hp
    rw [cutS] at hp
    by_cases hb : b = 47
    · rw [if_pos hb] at hp
      rcases List.mem_cons.1 hp with h | h
      · rw [h]; simp
      · have := ih p h; simp; omega
    · rw [if_neg hb] at hp
      cases h : cutS l with
      | nil => rw [h] at hp; simp at hp; simp [hp]
      | cons q qs =>
        rw [h] at hp ih
        rcases List.mem_cons.1 hp with h2 | h2
        · have := ih q (by simp); rw [h2]; simp; omega
        · have := ih p (by simp [h2]); simp; omega
theorem parts_num (l : List UInt8) : (partsS l).length ≤ l.length + 1 := by
  unfold partsS
  split
  · simp
  · rw [← cut_count]
    have hc : Lib.countB (bs l) ⟨#[47]⟩ = l.count 47 := by
      show Lib.count (bs l).data.toList [47] = _
      rw [bs_list, Lib.count_one]
    rw [hc]
    have := List.count_le_length (a := (47 : UInt8)) (l := l)
    omega
theorem parts_sum (l : List UInt8) : ∀ p ∈ partsS l, p.length ≤ l.length := by
  unfold partsS
  split
  · simp
  · exact cut_sum l
set_option maxRecDepth 100000 in
set_option maxHeartbeats 1000000 in
theorem pright_any (w : World) (l : List UInt8) (m : Int) (hl : l.length ≤ 4294967200) (hm : w.cell? ⟨0, 0, none⟩ = some (.int .i64 m)) :
    Calls Tryd.prog 74 #[.string (bs l)] w fun e w2 => e = .returned (.bool (rightS l)) ∧ Below w.heap.size w w2 := by
  have hz : (bs l).size = l.length := bs_size l
  generalize hr : rightS l = r
  unfold rightS at hr
  have HR := Lib.hid hr
  clear hr
  by_cases h1 : l.length = 0
  · go_enter Tryd.func74, Tryd.ntmps74
    go_wp2_with fail
    go_ret
    exact ⟨by rw [← HR.out]; simp [h1], Below.refl _ _⟩
  · have hq : ((l.length : Int) == 0) = false := by simp; intro e; simp [e] at h1
    by_cases h2 : 120 < l.length
    · go_enter Tryd.func74, Tryd.ntmps74
      go_wp2_with fail
      go_ret
      exact ⟨by rw [← HR.out]; simp [show ¬ l.length ≤ 120 by omega], Below.refl _ _⟩
    · have HS := Lib.hid (parts_sum l)
      have hpn : (partsS l).length ≤ 121 := by have := parts_num l; omega
      have HP := Lib.hid (parts_any w l m hl hm)
      clear hm
      generalize partsS l = ps at *
      go_enter Tryd.func74, Tryd.ntmps74
      go_wp2_with fail
      refine HP.out.mono ?_
      rintro e w2 ⟨A, rfl, hrv, hb⟩
      have HRV := Lib.hid hrv
      have HB := Lib.hid hb
      clear hrv hb HP
      go_wp2_with fail
      go_loopw [18] (fun iv wr => ∃ i : Nat, i ≤ ps.length ∧ iv = .int .i64 i ∧ Hid ((ps.take i).all nameS = true) ∧ wr = w2) (fun iv _ => ps.length - (intOf iv).toNat)
      case atStart => exact ⟨0, by omega, rfl, Lib.hid (by simp), rfl⟩
      case round =>
        obtain ⟨i, hi, rfl, hv, rfl⟩ := hrel
        by_cases hlt : i < ps.length
        · obtain ⟨ad, rfl, _, hcl⟩ := HRV.out.at_ (txs_at hlt)
          have HV := Lib.hid (take_allL hlt nameS)
          have HN := Lib.hid (all_noL hlt nameS)
          have hpl : (ps.getD i []).length ≤ l.length := HS.out _ (by simp [hlt])
          generalize ps.getD i [] = q at *
          have hn := name_any wr q (by omega)
          generalize hnq : nameS q = nq at *
          have HNQ := Lib.hid hn
          clear hn
          cases nq
          · have hf : ps.all nameS = false := HN.out rfl
            have hrf : r = false := by rw [← HR.out, hf]; simp
            subst hrf
            go_wp2_with (go_at_call 86; refine HNQ.out.mono ?_; rintro e w1 ⟨rfl, hw1⟩; subst w1)
            go_ret
            exact ⟨rfl, HB.out⟩
          · go_wp2_with (go_at_call 86; refine HNQ.out.mono ?_; rintro e w1 ⟨rfl, hw1⟩; subst w1)
            exact ⟨⟨i + 1, by omega, by go_num, Lib.hid (by rw [HV.out, hv.out]; rfl), trivial⟩, by simp [intOf]; omega⟩
        · have hie : i = ps.length := by omega
          have hall : ps.all nameS = true := by
            have := hv.out
            rw [hie, List.take_length] at this
            exact this
          have hrt : r = decide (ps.length ≤ 6) := by
            rw [← HR.out, hall]
            simp [show 1 ≤ l.length by omega, show l.length ≤ 120 by omega]
          subst hrt hie
          go_wp2_with fail
          go_ret
          exact ⟨by simp; omega, HB.out⟩
end
end Go.Proofs.YthhmamkphcgocaaDoor

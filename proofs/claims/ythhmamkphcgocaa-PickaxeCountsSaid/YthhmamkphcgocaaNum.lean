/- sleuthref20.first and Numbers, by contracts. -/
import Derived.Test.YthhmamkphcgocaaProg
import Derived.Test.YthhmamkphcgocaaRds
namespace Go.Proofs.Ythhmamkphcgocaa
open Go.RowKit

/-- Where s stands first, counted from k on; -1: nowhere. -/
def fstI (s : ByteArray) : List ByteArray → Nat → Int
  | [], _ => -1
  | x :: l, k => if x = s then (k : Int) else fstI s l (k + 1)
theorem fstI_bd (s : ByteArray) (l : List ByteArray) : ∀ k : Nat, -1 ≤ fstI s l k ∧ fstI s l k < k + l.length := by
  induction l with
  | nil => intro k; simp [fstI]; omega
  | cons x l ih =>
    intro k
    unfold fstI
    have := ih (k + 1)
    simp only [List.length_cons]
    split <;> omega
theorem strs_drop {l : List ByteArray} {k : Nat} (h : k < l.length) : l.drop k = l.getD k ByteArray.empty :: l.drop (k + 1) := by
  rw [List.drop_eq_getElem_cons h]; simp [h]
theorem fstI_hit {s : ByteArray} {l : List ByteArray} {k : Nat} (h : k < l.length) (e : l.getD k ByteArray.empty = s) : fstI s (l.drop k) k = k := by
  rw [strs_drop h, fstI, if_pos e]
theorem fstI_miss {s : ByteArray} {l : List ByteArray} {k : Nat} (h : k < l.length) (e : l.getD k ByteArray.empty ≠ s) : fstI s (l.drop k) k = fstI s (l.drop (k + 1)) (k + 1) := by
  rw [strs_drop h, fstI, if_neg e]
theorem fstI_end {s : ByteArray} {l : List ByteArray} {k : Nat} (h : l.length ≤ k) : fstI s (l.drop k) k = -1 := by
  rw [List.drop_eq_nil_of_le h, fstI]

set_option maxHeartbeats 1000000 in
theorem first_any {B : Nat} (w : World) (A : Option Addr) (c : Nat) (l : List ByteArray) (s : ByteArray) (h : Rv B w A (strs l)) (hl : l.length ≤ 1000000) :
    Calls Try.prog 48 #[.slice A l.length c, .string s] w fun e w' => e = .returned (.int .i64 (fstI s l 0)) ∧ w' = w := by
  have H := Lib.hid h
  clear h
  go_enter Try.func48, Try.ntmps48
  go_wp2
  go_loopw [5] (fun i wr => ∃ k : Nat, k ≤ l.length ∧ i = .int .i64 k ∧ Hid (fstI s l 0 = fstI s (l.drop k) k) ∧ Hid (wr = w)) (fun i _ => l.length - (intOf i).toNat)
  case atStart => exact ⟨0, Nat.zero_le _, rfl, rfl, rfl⟩
  case round =>
    obtain ⟨k, hk, rfl, hf, hw⟩ := hrel
    obtain rfl := hw.out
    by_cases hlt : k < l.length
    · obtain ⟨ad, rfl, _, hc⟩ := H.out.at_ (k := k) (strs_at hlt)
      have HH := Lib.hid (fstI_hit (s := s) hlt)
      have HM := Lib.hid (fstI_miss (s := s) hlt)
      generalize l.getD k ByteArray.empty = x at *
      by_cases hx : (x.toList == s.toList) = true
      · go_wp2
        go_ret
        have e : x = s := by rw [str_beq] at hx; simpa using hx
        exact ⟨ret_int (hf.out.trans (HH.out e)).symm, rfl⟩
      · have hx' : (x.toList == s.toList) = false := by simpa using hx
        clear hx
        go_wp2
        have e : x ≠ s := by rw [str_beq] at hx'; simpa using hx'
        refine ⟨⟨k + 1, by omega, by go_num, ?_, trivial⟩, by simp [intOf]; omega⟩
        exact (hf.out.trans (HM.out e) : _)
    · go_wp2
      go_ret
      exact ⟨ret_int (hf.out.trans (fstI_end (by omega))).symm, rfl⟩

/-- One more string, known. -/
def kn (l : List ByteArray) (x : ByteArray) : List ByteArray := if fstI x l 0 < 0 then l ++ [x] else l
def nst (st : List ByteArray × List Int) (x : ByteArray) : List ByteArray × List Int := (kn st.1 x, st.2 ++ [fstI x (kn st.1 x) 0])
def numsF (k : List ByteArray) (l : List ByteArray) : List ByteArray × List Int := l.foldl nst (k, [])
theorem numsF_step {k l : List ByteArray} {j : Nat} (h : j < l.length) : numsF k (l.take (j + 1)) = nst (numsF k (l.take j)) (l.getD j ByteArray.empty) := by
  unfold numsF
  rw [List.take_succ_eq_append_getElem h, List.foldl_append]
  simp [h]
theorem kn_len (l : List ByteArray) (x : ByteArray) : (kn l x).length ≤ l.length + 1 := by unfold kn; split <;> simp
theorem foldl_len (l : List ByteArray) : ∀ st : List ByteArray × List Int, (l.foldl nst st).1.length ≤ st.1.length + l.length ∧ (l.foldl nst st).2.length = st.2.length + l.length := by
  induction l with
  | nil => intro st; simp
  | cons x l ih =>
    intro st
    simp only [List.foldl_cons, List.length_cons]
    have h1 := ih (nst st x)
    have h2 := kn_len st.1 x
    simp only [nst, List.length_append, List.length_cons, List.length_nil] at h1 h2 ⊢
    omega
theorem numsF_len (k l : List ByteArray) : (numsF k l).1.length ≤ k.length + l.length ∧ (numsF k l).2.length = l.length := by
  have := foldl_len l (k, [])
  simpa [numsF] using this

theorem own_ne {w : World} {B C : Nat} {e f : TypeId} {sz tz : Nat} {v u : Value} {n m : Nat} {xs ys : List Value} (h : w.ownsRow B e sz v n xs) (k : w.ownsRow C f tz u m ys) (hef : e ≠ f) : v.ownBlock = none ∨ v.ownBlock ≠ u.ownBlock := by
  rcases h.2 with ⟨rfl, _⟩ | ⟨g, cap, cur, rfl, hb, hg, _⟩
  · exact .inl rfl
  · rcases k.2 with ⟨rfl, _⟩ | ⟨g', cap', cur', rfl, hb', hg', _⟩
    · exact .inr (fun e => by cases e)
    · refine .inr fun e1 => ?_
      simp only [Value.ownBlock, Option.some.injEq] at e1
      subst e1
      rw [hg] at hg'
      simp at hg'
      exact hef hg'.2
theorem own_mor {w : World} {B C : Nat} {e : TypeId} {size : Nat} {v : Value} {n : Nat} {xs : List Value} (h : w.ownsRow C e size v n xs) (hb : B ≤ C) : w.ownsRow B e size v n xs := by
  refine ⟨h.1, ?_⟩
  rcases h.2 with h2 | ⟨g, cap, cur, hv, hg, hrest⟩
  · exact .inl h2
  · exact .inr ⟨g, cap, cur, hv, by omega, hrest⟩
theorem xne2 {u v : Value} (h : u.ownBlock = v.ownBlock → u.ownBlock = none) : u.ownBlock = none ∨ u.ownBlock ≠ v.ownBlock := by
  by_cases e : u.ownBlock = v.ownBlock
  · exact .inl (h e)
  · exact .inr e
theorem info9b : (Try.prog.info? 9).map (fun i => (i.zero, i.size, i.bytes)) = some (some (.string ByteArray.empty), 1, 16) := by kernel_rfl
theorem info3c : (Try.prog.info? 3).map (fun i => (i.zero, i.size, i.bytes)) = some (some (.int .i64 0), 1, 8) := by kernel_rfl

set_option maxRecDepth 100000 in
set_option maxHeartbeats 4000000 in
theorem rnums_any (w : World) (A D : Option Addr) (cA cD : Nat) (a b : List ByteArray) (ha : Rv w.heap.size w A (strs a)) (hb : Rv w.heap.size w D (strs b)) (la : a.length ≤ 400) (lb : b.length ≤ 400) :
    Calls Try.prog 30 #[.slice A a.length cA, .slice D b.length cD] w fun e w' => ∃ xv yv, e = .returned (.tuple #[xv, yv]) ∧ w'.ownsRow w.heap.size 3 1 xv a.length (ints (numsF [] a).2) ∧ w'.ownsRow w.heap.size 3 1 yv b.length (ints (numsF (numsF [] a).1 b).2) ∧ Below w.heap.size w w' := by
  have RA := Lib.hid ha
  have RB := Lib.hid hb
  obtain ⟨i9, hi9', hz9', hs9', hb9'⟩ := info_parts info9b
  obtain ⟨i3, hi3', hz3', hs3', hb3'⟩ := info_parts info3c
  have hi9 := Lib.hid hi9'
  have hz9 := Lib.hid hz9'
  have hs9 := Lib.hid hs9'
  have hb9 := Lib.hid hb9'
  have hi3 := Lib.hid hi3'
  have hz3 := Lib.hid hz3'
  have hs3 := Lib.hid hs3'
  have hb3 := Lib.hid hb3'
  clear ha hb hi9' hz9' hs9' hb9' hi3' hz3' hs3' hb3'
  go_enter Try.func30, Try.ntmps30
  go_wp2_with fail
  go_loopw [6, 7, 9] (fun kv xv iv wr => ∃ k : Nat, k ≤ a.length ∧ iv = .int .i64 k ∧ Hid (wr.ownsRow w.heap.size 9 1 kv (numsF [] (a.take k)).1.length (strs (numsF [] (a.take k)).1)) ∧ Hid (wr.ownsRow w.heap.size 3 1 xv k (ints (numsF [] (a.take k)).2)) ∧ Hid (Below w.heap.size w wr)) (fun _ _ iv _ => a.length - (intOf iv).toNat)
  case atStart => exact ⟨0, Nat.zero_le _, rfl, World.ownsRow_nil _ _ _ _, World.ownsRow_nil _ _ _ _, Below.refl _ _⟩
  case round =>
    obtain ⟨k, hk, rfl, hkn, hox, hb⟩ := hrel
    by_cases hlt : k < a.length
    · have hlen := numsF_len [] (a.take k)
      have hlt0 : (a.take k).length = k := by simp; omega
      have hsz := hb.out.size
      obtain ⟨ad, rfl, hblk, hc0⟩ := (RA.out.below hb.out).at_ (k := k) (strs_at hlt)
      have HST := Lib.hid (numsF_step (k := []) hlt)
      obtain ⟨kD, kd, rfl, _, hkr⟩ := own_rv hkn.out
      have hnl : (numsF [] (a.take k)).1.length ≤ 400 := by simp only [List.length_nil] at hlen; omega
      clear hlen hlt0
      generalize numsF [] (a.take k) = st at *
      obtain ⟨kl, out⟩ := st
      simp only at hkn hox hkr hnl
      generalize a.getD k ByteArray.empty = x at *
      have HF := Lib.hid (first_any wr kD kd kl x hkr (by omega))
      by_cases hneg : fstI x kl 0 < 0
      · have e1 : kn kl x = kl ++ [x] := if_pos hneg
        rw [nst, e1] at HST
        clear e1
        generalize fstI x kl 0 = f0 at *
        generalize hix : fstI x (kl ++ [x]) 0 = ix at *
        have HIX := Lib.hid hix
        clear hix
        go_wp2_with (first
          | (go_at_call_of 48 (Value.slice kD kl.length kd); refine HF.out.mono ?_; rintro e w3 ⟨rfl, hw3⟩; subst w3)
          | (go_at_call 48; have hc2 := first_any w1 kD2 kd2 (kl ++ [x]) x (by rw [strs_snoc]; exact KR2.out) (by simp; omega); simp only [List.length_append, List.length_cons, List.length_nil, Nat.zero_add] at hc2; rw [HIX.out] at hc2; refine hc2.mono ?_; rintro e w3 ⟨rfl, hw3⟩; subst w3)
          | (at_builtin; refine wpList_append_own _ rfl (.tmp 24) (.tmp 29) 34 rfl w.heap.size 9 i9 (.string ByteArray.empty) 1 16 Try.underlying34 hi9.out hz9.out hs9.out hb9.out rfl (by decide) (.slice kD kl.length kd) kl.length (strs kl) rfl (hkn.out.alloc (.cells #[.string x] 9)) ⟨wr.heap.size, 0, none⟩ 1 1 [.string x] rfl rfl (new_cells _ _ _ _ rfl) (by simp [Value.oneCell']) (by unfold maxLen; omega) (by omega) (by simp; omega) ?_; intro v1 w1 ho hg hz; clear hz; obtain ⟨kD2, kd2, hv1, _, hkr2⟩ := own_rv ho; subst hv1; have KR2 := Lib.hid hkr2; have HO := Lib.hid ho; have HG := Lib.hid hg; have hsz1 : wr.heap.size + 1 ≤ w1.heap.size := (by have := hg.size; simpa using this); have HB1 := Lib.hid ((hb.out.alloc hsz (.cells #[.string x] 9)).grown hg (by simp; omega) (fun j e => (hkn.out.lt j e).1)); have hc1 : w1.cell? (ad.add k) = some (.string x) := ((HB1.out.cell (p := ad.add k) (by rw [block_add]; exact hblk)).trans (hb.out.cell (p := ad.add k) (by rw [block_add]; exact hblk)).symm).trans hc0; have HOX := Lib.hid ((hox.out.alloc (.cells #[.string x] 9)).kept hg (own_ne (hox.out.alloc (.cells #[.string x] 9)) (hkn.out.alloc (.cells #[.string x] 9)) (by decide))); clear ho hg hkr2)
          | (at_builtin; refine wpList_append_own _ rfl (.tmp 31) (.tmp 38) 51 rfl w.heap.size 3 i3 (.int .i64 0) 1 8 Try.underlying51 hi3.out hz3.out hs3.out hb3.out rfl (by decide) u7 k (ints out) rfl (HOX.out.alloc (.cells #[.int .i64 ix] 3)) ⟨w1.heap.size, 0, none⟩ 1 1 [.int .i64 ix] rfl rfl (new_cells _ _ _ _ rfl) (by simp [Value.oneCell']) (by unfold maxLen; omega) (by omega) (by simp; omega) ?_; intro v2 w2 ho hg hz; clear hz; have HO2 := Lib.hid ho; have HG2 := Lib.hid hg; clear ho hg))
        refine ⟨⟨k + 1, by omega, by go_num, ?_, ?_, ?_⟩, by simp [intOf]; omega⟩
        · rw [HST.out]
          unfold Hid
          simp only [strs_snoc, List.length_append, List.length_cons, List.length_nil]
          exact (HO.out.alloc (.cells #[.int .i64 ix] 3)).kept HG2.out (own_ne (HO.out.alloc (.cells #[.int .i64 ix] 3)) (HOX.out.alloc (.cells #[.int .i64 ix] 3)) (by decide))
        · rw [HST.out]
          unfold Hid
          simp only [ints_snoc]
          exact HO2.out
        · exact ((HB1.out.alloc (by omega) (.cells #[.int .i64 ix] 3)).grown HG2.out (by simp; omega) (fun j e => (HOX.out.lt j e).1) : _)
      · have e1 : kn kl x = kl := if_neg hneg
        rw [nst, e1] at HST
        clear e1
        generalize fstI x kl 0 = f0 at *
        go_wp2_with (first
          | (go_at_call 48; refine HF.out.mono ?_; rintro e w3 ⟨rfl, hw3⟩; subst w3)
          | (at_builtin; refine wpList_append_own _ rfl (.tmp 31) (.tmp 38) 51 rfl w.heap.size 3 i3 (.int .i64 0) 1 8 Try.underlying51 hi3.out hz3.out hs3.out hb3.out rfl (by decide) u7 k (ints out) rfl (hox.out.alloc (.cells #[.int .i64 f0] 3)) ⟨wr.heap.size, 0, none⟩ 1 1 [.int .i64 f0] rfl rfl (new_cells _ _ _ _ rfl) (by simp [Value.oneCell']) (by unfold maxLen; omega) (by omega) (by simp; omega) ?_; intro v2 w2 ho hg hz; clear hz; have HO2 := Lib.hid ho; have HG2 := Lib.hid hg; clear ho hg))
        refine ⟨⟨k + 1, by omega, by go_num, ?_, ?_, ?_⟩, by simp [intOf]; omega⟩
        · rw [HST.out]
          exact ((hkn.out.alloc (.cells #[.int .i64 f0] 3)).kept HG2.out (own_ne (hkn.out.alloc (.cells #[.int .i64 f0] 3)) (hox.out.alloc (.cells #[.int .i64 f0] 3)) (by decide)) : _)
        · rw [HST.out]
          unfold Hid
          simp only [ints_snoc]
          exact HO2.out
        · exact ((hb.out.alloc (by omega) (.cells #[.int .i64 f0] 3)).grown HG2.out (by simp; omega) (fun j e => (hox.out.lt j e).1) : _)
    · obtain rfl : k = a.length := by omega
      rw [List.take_length] at hkn hox
      have hl1 := numsF_len [] a
      have hsz1 := hb.out.size
      have hx := fun g (e : u7.ownBlock = some g) => (hox.out.lt g e).2
      have hnl1 : (numsF [] a).1.length ≤ 400 := by simp only [List.length_nil] at hl1; omega
      clear hl1
      obtain ⟨k0, hk0⟩ : ∃ k0, k0 = (numsF [] a).1 := ⟨_, rfl⟩
      rw [← hk0] at hkn hnl1
      have HK0 := Lib.hid hk0
      clear hk0
      generalize hn : wr.heap.size = n1 at *
      have HN := Lib.hid hn
      have hwn : w.heap.size ≤ n1 := by omega
      clear hn
      have xne : ∀ (wr : World) (yv : Value) (n : Nat) (ys : List Value), wr.ownsRow n1 3 1 yv n ys → u7.ownBlock = yv.ownBlock → u7.ownBlock = none := by
        intro wr yv n ys ho e
        rcases hq : u7.ownBlock with _ | g
        · rfl
        · have := hx g hq
          have := (ho.lt g (by rw [← e, hq])).1
          omega
      have XNE := Lib.hid xne
      clear xne hx
      have HKN := Lib.hid hkn.out
      have HOX0 := Lib.hid hox.out
      have HB0 := Lib.hid hb.out
      clear hkn hox hb
      go_wp2_with fail
      go_loopw [6, 8, 10] (fun kv yv iv wr => ∃ k : Nat, k ≤ b.length ∧ iv = .int .i64 k ∧ Hid (wr.ownsRow w.heap.size 9 1 kv (numsF k0 (b.take k)).1.length (strs (numsF k0 (b.take k)).1)) ∧ Hid (wr.ownsRow n1 3 1 yv k (ints (numsF k0 (b.take k)).2)) ∧ Hid (wr.ownsRow w.heap.size 3 1 u7 a.length (ints (numsF [] a).2)) ∧ Hid (n1 ≤ wr.heap.size) ∧ Hid (Below w.heap.size w wr)) (fun _ _ iv _ => b.length - (intOf iv).toNat)
      case atStart => exact ⟨0, Nat.zero_le _, rfl, HKN.out, World.ownsRow_nil _ _ _ _, HOX0.out, Nat.le_of_eq HN.out.symm, HB0.out⟩
      case round =>
        obtain ⟨k, hk, rfl, hkn, hox, hx0, hn1, hb⟩ := hrel
        have hn1' := hn1.out
        by_cases hlt : k < b.length
        · have hlen := numsF_len k0 (b.take k)
          have hlt0 : (b.take k).length = k := by simp; omega
          have hsz := hb.out.size
          obtain ⟨ad, rfl, hblk, hc0⟩ := (RB.out.below hb.out).at_ (k := k) (strs_at hlt)
          have HST := Lib.hid (numsF_step (k := k0) hlt)
          obtain ⟨kD, kd, rfl, _, hkr⟩ := own_rv hkn.out
          have hnl : (numsF k0 (b.take k)).1.length ≤ 800 := by omega
          clear hlen hlt0
          generalize numsF k0 (b.take k) = st at *
          obtain ⟨kl, out⟩ := st
          simp only at hkn hox hkr hnl
          generalize b.getD k ByteArray.empty = x at *
          have HF := Lib.hid (first_any wr kD kd kl x hkr (by omega))
          by_cases hneg : fstI x kl 0 < 0
          · have e1 : kn kl x = kl ++ [x] := if_pos hneg
            rw [nst, e1] at HST
            clear e1
            generalize fstI x kl 0 = f0 at *
            generalize hix : fstI x (kl ++ [x]) 0 = ix at *
            have HIX := Lib.hid hix
            clear hix
            go_wp2_with (first
              | (go_at_call_of 48 (Value.slice kD kl.length kd); refine HF.out.mono ?_; rintro e w3 ⟨rfl, hw3⟩; subst w3)
              | (go_at_call 48; have hc2 := first_any w1 kD2 kd2 (kl ++ [x]) x (by rw [strs_snoc]; exact KR2.out) (by simp; omega); simp only [List.length_append, List.length_cons, List.length_nil, Nat.zero_add] at hc2; rw [HIX.out] at hc2; refine hc2.mono ?_; rintro e w3 ⟨rfl, hw3⟩; subst w3)
              | (at_builtin; refine wpList_append_own _ rfl (.tmp 53) (.tmp 58) 34 rfl w.heap.size 9 i9 (.string ByteArray.empty) 1 16 Try.underlying34 hi9.out hz9.out hs9.out hb9.out rfl (by decide) (.slice kD kl.length kd) kl.length (strs kl) rfl (hkn.out.alloc (.cells #[.string x] 9)) ⟨wr.heap.size, 0, none⟩ 1 1 [.string x] rfl rfl (new_cells _ _ _ _ rfl) (by simp [Value.oneCell']) (by unfold maxLen; omega) (by omega) (by simp; omega) ?_; intro v1 w1 ho hg hz; clear hz; obtain ⟨kD2, kd2, hv1, _, hkr2⟩ := own_rv ho; subst hv1; have KR2 := Lib.hid hkr2; have HO := Lib.hid ho; have HG := Lib.hid hg; have hsz1 : wr.heap.size + 1 ≤ w1.heap.size := (by have := hg.size; simpa using this); have HB1 := Lib.hid ((hb.out.alloc hsz (.cells #[.string x] 9)).grown hg (by simp; omega) (fun j e => (hkn.out.lt j e).1)); have hc1 : w1.cell? (ad.add k) = some (.string x) := ((HB1.out.cell (p := ad.add k) (by rw [block_add]; exact hblk)).trans (hb.out.cell (p := ad.add k) (by rw [block_add]; exact hblk)).symm).trans hc0; have HOX := Lib.hid ((hox.out.alloc (.cells #[.string x] 9)).kept hg (own_ne (hox.out.alloc (.cells #[.string x] 9)) (hkn.out.alloc (.cells #[.string x] 9)) (by decide))); have HX1 := Lib.hid ((hx0.out.alloc (.cells #[.string x] 9)).kept hg (own_ne (hx0.out.alloc (.cells #[.string x] 9)) (hkn.out.alloc (.cells #[.string x] 9)) (by decide))); clear ho hg hkr2)
              | (at_builtin; refine wpList_append_own _ rfl (.tmp 60) (.tmp 67) 51 rfl n1 3 i3 (.int .i64 0) 1 8 Try.underlying51 hi3.out hz3.out hs3.out hb3.out rfl (by decide) u8 k (ints out) rfl (HOX.out.alloc (.cells #[.int .i64 ix] 3)) ⟨w1.heap.size, 0, none⟩ 1 1 [.int .i64 ix] rfl rfl (new_cells _ _ _ _ rfl) (by simp [Value.oneCell']) (by unfold maxLen; omega) (by omega) (by simp; omega) ?_; intro v2 w2 ho hg hz; clear hz; have HO2 := Lib.hid ho; have HG2 := Lib.hid hg; clear ho hg))
            refine ⟨⟨k + 1, by omega, by go_num, ?_, ?_, ?_, ?_, ?_⟩, by simp [intOf]; omega⟩
            · rw [HST.out]
              unfold Hid
              simp only [strs_snoc, List.length_append, List.length_cons, List.length_nil]
              exact (HO.out.alloc (.cells #[.int .i64 ix] 3)).kept HG2.out (own_ne (HO.out.alloc (.cells #[.int .i64 ix] 3)) (HOX.out.alloc (.cells #[.int .i64 ix] 3)) (by decide))
            · rw [HST.out]
              unfold Hid
              simp only [ints_snoc]
              exact HO2.out
            · exact ((HX1.out.alloc (.cells #[.int .i64 ix] 3)).kept HG2.out (xne2 (XNE.out _ _ _ _ HOX.out)) : _)
            · have h1 := hn1.out
              have h2 := HG2.out.size
              have h3 := HG.out.size
              simp at h2 h3
              exact (by omega : n1 ≤ w2.heap.size)
            · exact ((HB1.out.alloc (by omega) (.cells #[.int .i64 ix] 3)).grown HG2.out (by simp; omega) (fun j e => by have := (HOX.out.lt j e).1; omega) : _)
          · have e1 : kn kl x = kl := if_neg hneg
            rw [nst, e1] at HST
            clear e1
            generalize fstI x kl 0 = f0 at *
            go_wp2_with (first
              | (go_at_call 48; refine HF.out.mono ?_; rintro e w3 ⟨rfl, hw3⟩; subst w3)
              | (at_builtin; refine wpList_append_own _ rfl (.tmp 60) (.tmp 67) 51 rfl n1 3 i3 (.int .i64 0) 1 8 Try.underlying51 hi3.out hz3.out hs3.out hb3.out rfl (by decide) u8 k (ints out) rfl (hox.out.alloc (.cells #[.int .i64 f0] 3)) ⟨wr.heap.size, 0, none⟩ 1 1 [.int .i64 f0] rfl rfl (new_cells _ _ _ _ rfl) (by simp [Value.oneCell']) (by unfold maxLen; omega) (by omega) (by simp; omega) ?_; intro v2 w2 ho hg hz; clear hz; have HO2 := Lib.hid ho; have HG2 := Lib.hid hg; clear ho hg))
            refine ⟨⟨k + 1, by omega, by go_num, ?_, ?_, ?_, ?_, ?_⟩, by simp [intOf]; omega⟩
            · rw [HST.out]
              exact ((hkn.out.alloc (.cells #[.int .i64 f0] 3)).kept HG2.out (own_ne (hkn.out.alloc (.cells #[.int .i64 f0] 3)) (hox.out.alloc (.cells #[.int .i64 f0] 3)) (by decide)) : _)
            · rw [HST.out]
              unfold Hid
              simp only [ints_snoc]
              exact HO2.out
            · exact ((hx0.out.alloc (.cells #[.int .i64 f0] 3)).kept HG2.out (xne2 (XNE.out _ _ _ _ hox.out)) : _)
            · have h1 := hn1.out
              have h2 := HG2.out.size
              simp at h2
              exact (by omega : n1 ≤ w2.heap.size)
            · exact ((hb.out.alloc (by omega) (.cells #[.int .i64 f0] 3)).grown HG2.out (by simp; omega) (fun j e => by have := (hox.out.lt j e).1; omega) : _)
        · obtain rfl : k = b.length := by omega
          rw [List.take_length] at hkn hox
          go_wp2
          go_ret2
          exact ⟨u7, u8, rfl, hx0.out, by rw [← HK0.out]; exact own_mor hox.out hwn, hb.out⟩
end Go.Proofs.Ythhmamkphcgocaa

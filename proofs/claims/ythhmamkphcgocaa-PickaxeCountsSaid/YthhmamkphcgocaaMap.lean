/- line.Numbers' closure, by a contract: a map from strings to their places (MapKn). -/
import Derived.Test.YthhmamkphcgocaaNum
import Derived.Test.YthhmamkphcgocaaFil4
import Derived.Maps.OwnSet
import Derived.Maps.OwnOps
import Derived.StringKeys
namespace Go.Proofs.Ythhmamkphcgocaa
open Go.RowKit Go.Maps

theorem fstI_snoc (s x : ByteArray) (l : List ByteArray) : ∀ k : Nat, fstI s (l ++ [x]) k = if fstI s l k < 0 then (if x = s then ((k + l.length : Nat) : Int) else -1) else fstI s l k := by
  induction l with
  | nil => intro k; simp [fstI]
  | cons y l ih =>
    intro k
    simp only [List.cons_append, fstI]
    split
    · rw [if_neg (by omega)]
    · rw [ih]
      simp only [List.length_cons]
      rw [show k + 1 + l.length = k + (l.length + 1) by omega]
def keyS (s : ByteArray) : Lit := .string s.data.toList
theorem keyS_inj {s t : ByteArray} (h : keyS s = keyS t) : s = t := by
  unfold keyS at h
  injection h with h
  apply ByteArray.ext
  exact Array.ext' h
theorem isk (s : ByteArray) : WideAt.IsKeyLit (keyS s) := trivial
/-- The map holds each string's place. -/
structure MapKn (D : DataW Unit) (kl : List ByteArray) : Prop where
  tidy : Tidy D
  size : Maps.size D = kl.length
  has : ∀ s, Maps.has D (keyS s) = decide (0 ≤ fstI s kl 0)
  at_ : ∀ s, 0 ≤ fstI s kl 0 → ∀ z, D.atKey (keyS s) z = .lit (.int .i64 (fstI s kl 0))
theorem mapKn_nil : MapKn (.map []) [] := ⟨tidy_empty, rfl, fun s => by simp [Maps.has, fstI], fun s h => by simp [fstI] at h⟩
theorem mapKn_put {D : DataW Unit} {kl : List ByteArray} {x : ByteArray} (h : MapKn D kl) (hx : fstI x kl 0 < 0) : MapKn (D.put (keyS x) (.lit (.int .i64 kl.length))) (kl ++ [x]) := by
  have hn : Maps.has D (keyS x) = false := by rw [h.has]; simp; omega
  have hxx : fstI x (kl ++ [x]) 0 = kl.length := by rw [fstI_snoc, if_pos hx, if_pos rfl]; simp
  have other : ∀ s, s ≠ x → fstI s (kl ++ [x]) 0 = fstI s kl 0 := by
    intro s hs
    rw [fstI_snoc]
    split
    · rw [if_neg (fun e => hs e.symm)]
      have := (fstI_bd s kl 0).1
      omega
    · rfl
  refine ⟨h.tidy.put (isk x) _, ?_, fun s => ?_, fun s hs z => ?_⟩
  · rw [size_put h.tidy, if_neg (by rw [hn]; simp), h.size]; simp
  · by_cases e : s = x
    · subst e
      rw [has_put_same h.tidy.isMap (isk _), hxx]
      simp
    · rw [has_put_other (fun e' => e (keyS_inj e')), h.has, other s e]
  · by_cases e : s = x
    · subst e
      rw [atKey_put_same h.tidy.isMap (isk _), hxx]
    · rw [other s e] at hs ⊢
      rw [atKey_put_other (fun e' => e (keyS_inj e')), h.at_ s hs]

/-- Only block M, among the old ones, has been written. -/
@[reducible] def Km (M : Nat) (w w' : World) : Prop := w.grownBy w' (some M)
section
variable {M : Nat} {w w1 w2 : World}
theorem km_refl : Km M w w := ⟨rfl, rfl, rfl, Nat.le_refl _, fun _ _ _ => rfl⟩
theorem km_trans (h : Km M w w1) (k : Km M w1 w2) : Km M w w2 := ⟨k.os.trans h.os, k.tape.trans h.tape, k.output.trans h.output, Nat.le_trans h.size k.size, fun j hj hne => (k.block j (Nat.lt_of_lt_of_le hj h.size) hne).trans (h.block j hj hne)⟩
theorem km_alloc (h : Km M w w1) (o : Obj) : Km M w (w1.alloc o) := ⟨h.os, h.tape, h.output, by have := h.size; simp; omega, fun j hj hne => (Below.heap_alloc w1 o j (by have := h.size; omega)).trans (h.block j hj hne)⟩
theorem km_row (h : Km M w w1) {r : Option Nat} (k : w1.grownBy w2 r) (hr : ∀ j, r = some j → w.heap.size ≤ j) : Km M w w2 :=
  ⟨k.os.trans h.os, k.tape.trans h.tape, k.output.trans h.output, Nat.le_trans h.size k.size, fun j hj hne => (k.block j (Nat.lt_of_lt_of_le hj h.size) (fun e => by have := hr j e.symm; omega)).trans (h.block j hj hne)⟩
theorem km_below {B : Nat} (h : Km M w w1) (hB : B ≤ M) (hs : B ≤ w.heap.size) : Below B w w1 := ⟨h.os, h.tape, h.output, h.size, fun j hj => h.block j (by omega) (fun e => by injection e with e; omega)⟩
end
theorem zero3 (w : World) : (zeroValue 3).run Try.prog w = .ok (.int .i64 0) w := by kernel_rfl
theorem key9 : Keyed Try.prog 9 := string_keyed Try.underlying9

set_option maxRecDepth 100000 in
set_option maxHeartbeats 4000000 in
theorem number_any {B : Nat} (w : World) (K M : Nat) (A : Option Addr) (c : Nat) (l kl : List ByteArray) (D : DataW Unit) (hown : w.ownsMap Try.prog 9 (plainElem Try.prog 3) M kl.length D) (hD : MapKn D kl) (hK : w.cell? ⟨K, 0, none⟩ = some (.map (some M))) (hKM : K ≠ M)
    (hl : Rv B w A (strs l)) (hB : B ≤ M) (ll : l.length ≤ 400) (lk : kl.length ≤ 800) (hstr : ∀ s ∈ l, s.size ≤ 2000) :
    Calls Try.prog 44 #[.slice A l.length c, .pointer (some ⟨K, 0, none⟩)] w fun e w' => ∃ v D', e = .returned v ∧ w'.ownsRow w.heap.size 3 1 v l.length (ints (numsF kl l).2) ∧ w'.ownsMap Try.prog 9 (plainElem Try.prog 3) M (numsF kl l).1.length D' ∧ MapKn D' (numsF kl l).1 ∧ Km M w w' := by
  have hMs : M < w.heap.size := by obtain ⟨es, ck, hb, _⟩ := hown; exact (Array.getElem?_eq_some_iff.1 hb).1
  have hKs : K < w.heap.size := World.block_lt_of_cell? w ⟨K, 0, none⟩ hK
  have kcell : ∀ W, Km M w W → W.cell? ⟨K, 0, none⟩ = some (.map (some M)) := fun W h => h.cell hK (fun e => hKM (by injection e))
  have KC := Lib.hid kcell
  have H := Lib.hid hl
  have HS := Lib.hid hstr
  have HO := Lib.hid hown
  have HD := Lib.hid hD
  obtain ⟨i3, hi3', hz3', hs3', hb3'⟩ := info_parts info3c
  have hi3 := Lib.hid hi3'
  have hz3 := Lib.hid hz3'
  have hs3 := Lib.hid hs3'
  have hb3 := Lib.hid hb3'
  have mk := make_two 0 l.length (Nat.zero_le _) (by omega)
  have hmk : ∀ W : World, (Instr.makeSlice 51 (.int .i64 0) (.int .i64 l.length)).run Try.prog W = .ok (.slice (some ⟨W.heap.size, 0, none⟩) 0 l.length) (W.alloc (.cells (intCs (List.replicate l.length 0)) 3)) := mk
  have hzsz : (intCs (List.replicate l.length 0)).size = l.length * 1 := by simp [intCs, ints]
  generalize intCs (List.replicate l.length 0) = Z at *
  clear hl hstr hown hD kcell hi3' hz3' hs3' hb3' mk hK
  go_enter Try.func44, Try.ntmps44
  go_wp2_with fail
  go_loopw [4, 14] (fun v iv wr => ∃ k : Nat, k ≤ l.length ∧ iv = .int .i64 k ∧ Hid (wr.ownsRow w.heap.size 3 1 v k (ints (numsF kl (l.take k)).2)) ∧ Hid (∃ D' : DataW Unit, wr.ownsMap Try.prog 9 (plainElem Try.prog 3) M (numsF kl (l.take k)).1.length D' ∧ MapKn D' (numsF kl (l.take k)).1) ∧ Hid (Km M w wr)) (fun _ iv _ => l.length - (intOf iv).toNat)
  case atStart => exact ⟨0, Nat.zero_le _, rfl, World.ownsRow_made w Z l.length (Nat.le_refl _) (by unfold maxLen; omega) hzsz, ⟨D, HO.out.alloc _, HD.out⟩, km_alloc km_refl _⟩
  case round =>
    obtain ⟨k, hk, rfl, hox, hm, hkm⟩ := hrel
    by_cases hlt : k < l.length
    · obtain ⟨D1, hown, hD1⟩ := hm.out
      have HOWN := Lib.hid hown
      have HD1 := Lib.hid hD1
      have hsz := hkm.out.size
      obtain ⟨ad, rfl, hblk, hc0⟩ := (H.out.below (km_below hkm.out hB (by omega))).at_ (k := k) (strs_at hlt)
      have HST := Lib.hid (numsF_step (k := kl) hlt)
      have hlen := numsF_len kl (l.take k)
      have hlt0 : (l.take k).length = k := by simp; omega
      have hnl : (numsF kl (l.take k)).1.length ≤ 1200 := by omega
      have hxs : (l.getD k ByteArray.empty).size ≤ maxLen := by
        have := HS.out (l.getD k ByteArray.empty) (by rw [List.getD_eq_getElem?_getD, List.getElem?_eq_getElem hlt]; exact List.getElem_mem _)
        unfold maxLen; omega
      have hkc := KC.out wr hkm.out
      clear hown hD1 hlen hlt0 hm
      generalize numsF kl (l.take k) = st at *
      obtain ⟨kn1, out⟩ := st
      simp only at hox hnl HOWN HD1
      generalize l.getD k ByteArray.empty = x at *
      have hkey : keyOf Try.prog 9 (.string x) = some (keyS x) := WideMaps.keyOf_string_mk Try.underlying9 hxs
      have HKEY := Lib.hid hkey
      have hhas := HD1.out.has x
      have hsize := HD1.out.size
      clear hkey hxs
      by_cases hneg : fstI x kn1 0 < 0
      · have e1 : kn kn1 x = kn1 ++ [x] := if_pos hneg
        rw [nst, e1] at HST
        have e2 : fstI x (kn1 ++ [x]) 0 = kn1.length := by rw [fstI_snoc, if_pos hneg, if_pos rfl]; simp
        rw [e2] at HST
        have hd : decide (0 ≤ fstI x kn1 0) = false := by simp; omega
        rw [hd] at hhas
        have HP := Lib.hid (mapKn_put HD1.out hneg)
        clear e1 e2 hd hneg
        go_wp2_with (first
          | (at_lookup; refine wpList_lookup_own_ok_int _ rfl _ _ 85 rfl 9 3 .i64 key9 Try.underlying85 Try.underlying3 (zero3 _) M kn1.length D1 rfl HOWN.out _ _ rfl HKEY.out ?_; intro c1 hat hwc; clear hwc; clear hat)
          | (at_len; refine wpList_len_own _ rfl _ 85 rfl 9 3 Try.underlying85 _ M _ _ rfl HOWN.out ?_)
          | (at_mapUpdate; refine wpList_mapUpdate_own _ rfl _ _ _ 85 rfl 9 3 key9 Try.underlying85 (plainElem Try.prog 3) M kn1.length D1 rfl HOWN.out (by unfold maxLen; omega) _ _ (keyS x) rfl rfl HKEY.out (.lit (.int .i64 kn1.length)) [] (plainElem_int Try.underlying3 (WalkArith.wf_i64 (by omega))) ?_; intro w1 hown1 hgrow1; have HOWN1 := Lib.hid hown1; have HG1 := Lib.hid hgrow1; have hsz1 := hgrow1.size; have HOX := Lib.hid (hox.out.kept hgrow1 (.inr (fun e => (by have := (hox.out.lt M e).1; omega : False)))); clear hown1 hgrow1)
          | (at_builtin; refine wpList_append_own _ rfl (.tmp 31) (.tmp 33) 51 rfl w.heap.size 3 i3 (.int .i64 0) 1 8 Try.underlying51 hi3.out hz3.out hs3.out hb3.out rfl (by decide) u4 k (ints out) rfl (HOX.out.alloc (.cells #[.int .i64 kn1.length] 3)) ⟨w1.heap.size, 0, none⟩ 1 1 [.int .i64 kn1.length] rfl rfl (new_cells _ _ _ _ rfl) (by simp [Value.oneCell']) (by unfold maxLen; omega) (by omega) (by simp; omega) ?_; intro v2 w2 ho hg hz; clear hz; have HO2 := Lib.hid ho; have HG2 := Lib.hid hg; clear ho hg))
        refine ⟨⟨k + 1, by omega, by go_num, ?_, ⟨D1.put (keyS x) (.lit (.int .i64 kn1.length)), ?_, ?_⟩, ?_⟩, by simp [intOf]; omega⟩
        · rw [HST.out]
          unfold Hid
          simp only [ints_snoc]
          exact HO2.out
        · rw [HST.out]
          simp only [List.length_append, List.length_cons, List.length_nil]
          exact (HOWN1.out.alloc (.cells #[.int .i64 kn1.length] 3)).kept HG2.out (fun e => by have := (HOX.out.lt M e.symm).1; omega)
        · rw [HST.out]
          exact HP.out
        · exact (km_row (km_alloc (km_trans hkm.out HG1.out) (.cells #[.int .i64 kn1.length] 3)) HG2.out (fun j e => (HOX.out.lt j e).1) : _)
      · have e1 : kn kn1 x = kn1 := if_neg hneg
        rw [nst, e1] at HST
        have hd : decide (0 ≤ fstI x kn1 0) = true := by simp; omega
        rw [hd] at hhas
        have hatx := HD1.out.at_ x (by omega) (.lit (.int .i64 0))
        have HATX := Lib.hid hatx
        clear e1 hd hneg hatx
        go_wp2_with (first
          | (at_lookup; refine wpList_lookup_own_ok_int _ rfl _ _ 85 rfl 9 3 .i64 key9 Try.underlying85 Try.underlying3 (zero3 _) M kn1.length D1 rfl HOWN.out _ _ rfl HKEY.out ?_; intro c1 hat hwc; clear hwc; have hc1 : c1 = fstI x kn1 0 := (by have h := HATX.out; rw [hat] at h; injection h with h; injection h with _ h); clear hat; subst hc1)
          | (at_builtin; refine wpList_append_own _ rfl (.tmp 31) (.tmp 33) 51 rfl w.heap.size 3 i3 (.int .i64 0) 1 8 Try.underlying51 hi3.out hz3.out hs3.out hb3.out rfl (by decide) u4 k (ints out) rfl (hox.out.alloc (.cells #[.int .i64 (fstI x kn1 0)] 3)) ⟨wr.heap.size, 0, none⟩ 1 1 [.int .i64 (fstI x kn1 0)] rfl rfl (new_cells _ _ _ _ rfl) (by simp [Value.oneCell']) (by unfold maxLen; omega) (by omega) (by simp; omega) ?_; intro v2 w2 ho hg hz; clear hz; have HO2 := Lib.hid ho; have HG2 := Lib.hid hg; clear ho hg))
        refine ⟨⟨k + 1, by omega, by go_num, ?_, ⟨D1, ?_, ?_⟩, ?_⟩, by simp [intOf]; omega⟩
        · rw [HST.out]
          unfold Hid
          simp only [ints_snoc]
          exact HO2.out
        · rw [HST.out]
          exact (HOWN.out.alloc (.cells #[.int .i64 (fstI x kn1 0)] 3)).kept HG2.out (fun e => by have := (hox.out.lt M e.symm).1; omega)
        · rw [HST.out]
          exact HD1.out
        · exact (km_row (km_alloc hkm.out (.cells #[.int .i64 (fstI x kn1 0)] 3)) HG2.out (fun j e => (hox.out.lt j e).1) : _)
    · obtain rfl : k = l.length := by omega
      rw [List.take_length] at hox hm
      obtain ⟨D1, hown, hD1⟩ := hm.out
      have HF := Lib.hid (And.intro hown hD1)
      clear hm hown hD1
      go_wp2
      go_ret
      exact ⟨_, D1, rfl, hox.out, HF.out.1, HF.out.2, hkm.out⟩

set_option maxRecDepth 100000 in
set_option maxHeartbeats 1000000 in
theorem pnums_any (w : World) (A D : Option Addr) (cA cD : Nat) (a b : List ByteArray) (ha : Rv w.heap.size w A (strs a)) (hb : Rv w.heap.size w D (strs b)) (la : a.length ≤ 400) (lb : b.length ≤ 400) (sa : ∀ s ∈ a, s.size ≤ 2000) (sb : ∀ s ∈ b, s.size ≤ 2000) :
    Calls Try.prog 24 #[.slice A a.length cA, .slice D b.length cD] w fun e w' => ∃ xv yv, e = .returned (.tuple #[xv, yv]) ∧ w'.ownsRow w.heap.size 3 1 xv a.length (ints (numsF [] a).2) ∧ w'.ownsRow w.heap.size 3 1 yv b.length (ints (numsF (numsF [] a).1 b).2) ∧ Below w.heap.size w w' := by
  have hmm := @run_makeMap Try.prog
  have RA := Lib.hid ha
  have RB := Lib.hid hb
  have SA := Lib.hid sa
  have SB := Lib.hid sb
  clear ha hb sa sb
  go_enter Try.func24, Try.ntmps24
  obtain ⟨W1, hW1⟩ : ∃ W, W = (w.alloc (.map #[] 0)).alloc (.cells #[.map (some w.heap.size)] 85) := ⟨_, rfl⟩
  have hB1 : Below w.heap.size w W1 := by rw [hW1]; exact ((Below.refl _ _).alloc (Nat.le_refl _) _).alloc (by simp) _
  have hs1 : W1.heap.size = w.heap.size + 2 := by rw [hW1]; simp
  have ho1 : W1.ownsMap Try.prog 9 (plainElem (H := Unit) Try.prog 3) w.heap.size 0 (.map []) := by rw [hW1]; exact (World.ownsMap_made w _ _ _).alloc _
  have hc1 : W1.cell? ⟨w.heap.size + 1, 0, none⟩ = some (.map (some w.heap.size)) := by
    have hb : W1.heap[w.heap.size + 1]? = some (.cells #[.map (some w.heap.size)] 85 (0, 0)) := by
      rw [hW1]
      have := heap_alloc_new (w.alloc (.map #[] 0)) (.cells #[.map (some w.heap.size)] 85)
      simpa using this
    rw [cell_of_row W1 _ 0 _ _ _ hb]
    rfl
  have N1 := Lib.hid (number_any W1 (w.heap.size + 1) w.heap.size A cA a [] (.map []) ho1 mapKn_nil hc1 (by omega) (RA.out.below hB1) (Nat.le_refl _) la (by simp) SA.out)
  have hn2 : ∀ (W : World) (D' : DataW Unit), Km w.heap.size W1 W → W.ownsMap Try.prog 9 (plainElem Try.prog 3) w.heap.size (numsF [] a).1.length D' → MapKn D' (numsF [] a).1 → _ := fun W D' hk ho hD =>
    number_any W (w.heap.size + 1) w.heap.size D cD b (numsF [] a).1 D' ho hD (hk.cell hc1 (fun e => by simp at e)) (by omega) (RB.out.below (hB1.trans (km_below hk (Nat.le_refl _) (by omega)))) (Nat.le_refl _) lb (by have := (numsF_len [] a).1; simp at this; omega) SB.out
  have N2 := Lib.hid hn2
  have HB1 := Lib.hid hB1
  have HS1 := Lib.hid hs1
  have HW1 := Lib.hid hW1
  clear hn2 hB1 hs1 ho1 hc1 hW1
  go_wp2_with (first
    | (go_at_call_of 44 (Value.slice A a.length cA); rw [← HW1.out]; refine N1.out.mono ?_; rintro e w1 ⟨xv, D1, rfl, hx1, hm1, hD1, hk1⟩; have HX := Lib.hid hx1; have HM1 := Lib.hid hm1; have HD1 := Lib.hid hD1; have HK1 := Lib.hid hk1; clear hx1 hm1 hD1 hk1)
    | (go_at_call 44; refine (N2.out w1 D1 HK1.out HM1.out HD1.out).mono ?_; rintro e w2 ⟨yv, D2, rfl, hy2, hm2, hD2, hk2⟩; have HY := Lib.hid hy2; have HK2 := Lib.hid hk2; clear hy2 hm2 hD2 hk2))
  go_ret2
  have hs1 := HS1.out
  have hs2 := HK1.out.size
  refine ⟨xv, yv, rfl, own_mor (HX.out.kept HK2.out (.inr (fun e => by have := (HX.out.lt _ e).1; omega))) (by omega), own_mor HY.out (by omega), ?_⟩
  exact HB1.out.trans (km_below (km_trans HK1.out HK2.out) (Nat.le_refl _) (by omega))
end Go.Proofs.Ythhmamkphcgocaa

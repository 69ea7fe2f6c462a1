/- rename's near: the sort's plain law: what it leaves is the order that taking the best again and again takes. rename's near: its sort, in the world. -/
import Derived.Test.YtbmpidacoohdmaaGreatF32
import Derived.Test.YtbmpidacoohdmaaGreatF31
namespace Go.Proofs.YtbmpidacoohdmaaGreat
open Go.Sort (HoldsK PermIn SortedIn SWO)
open Rn (Chg St isNamed)

abbrev R3 := Nat × Nat × Nat
def Rok (S T : List Nat) (x : R3) : Prop := x.1 < S.length ∧ x.2.1 < T.length ∧ x.2.2 ≤ 1000
def ltN (l : List Chg) (S T : List Nat) (x y : R3) : Bool := ahd (conv l S T x) (conv l S T y)
theorem swo_ahd : SWO ahd where
  irrefl x := ahd_irr x
  trans _ _ _ h k := ahd_trans h k
  ntrans x y z h k := by
    cases e : ahd x z
    · rfl
    · exfalso
      by_cases h1 : x = y
      · subst h1; rw [e] at k; cases k
      · have := ahd_trans (ahd_tri h h1) e
        rw [this] at k; cases k
theorem swoN (l : List Chg) (S T : List Nat) {α : Type} (f : α → R3) : SWO (fun x y : α => ltN l S T (f x) (f y)) where
  irrefl _ := swo_ahd.irrefl _
  trans _ _ _ h k := swo_ahd.trans _ _ _ h k
  ntrans _ _ _ h k := swo_ahd.ntrans _ _ _ h k
def nmR (l : List Chg) (S T : List Nat) (x : R3) : Bool := isNamed l (S.getD x.1 0) (T.getD x.2.1 0)
theorem cfN_lt (l : List Chg) (S T : List Nat) (x y : R3) : cfN l S T x y < 0 ↔ y.2.2 < x.2.2 ∨ (x.2.2 = y.2.2 ∧ nmR l S T x = true ∧ nmR l S T y = false) := by
  unfold cfN
  change (if x.2.2 ≠ y.2.2 then (y.2.2 : Int) - x.2.2 else lat (nmR l S T x) - lat (nmR l S T y)) < 0 ↔ _
  cases nmR l S T x <;> cases nmR l S T y <;> unfold lat <;> by_cases e : x.2.2 = y.2.2 <;> simp [e] <;> omega
theorem swoC (l : List Chg) (S T : List Nat) {α : Type} (f : α → R3) : SWO (ltOf fun x y : α => cfN l S T (f x) (f y)) where
  irrefl x := by
    refine decide_eq_false ?_
    rw [cfN_lt]
    rintro (h | ⟨_, h, k⟩)
    · omega
    · rw [h] at k; cases k
  trans x y z h k := by
    have h := of_decide_eq_true h
    have k := of_decide_eq_true k
    refine decide_eq_true ?_
    rw [cfN_lt] at *
    rcases h with h | ⟨h1, h2, h3⟩ <;> rcases k with k | ⟨k1, k2, k3⟩
    · exact .inl (by omega)
    · exact .inl (by omega)
    · exact .inl (by omega)
    · rw [h3] at k2; cases k2
  ntrans x y z h k := by
    have h := of_decide_eq_false h
    have k := of_decide_eq_false k
    refine decide_eq_false ?_
    rw [cfN_lt] at *
    cases e1 : nmR l S T (f x) <;> cases e2 : nmR l S T (f y) <;> cases e3 : nmR l S T (f z) <;> simp_all <;> omega
theorem getD_left (a b : List Nat) (i : Nat) (h : i < a.length) : (a ++ b).getD i 0 = a.getD i 0 := by rw [List.getD_eq_getElem?_getD, List.getD_eq_getElem?_getD, List.getElem?_append_left h]
theorem getD_last (a : List Nat) (x : Nat) : (a ++ [x]).getD a.length 0 = x := by simp
/-- A row of places grows. -/
def Asc (S : List Nat) : Prop := ∀ i j, i < j → j < S.length → S.getD i 0 < S.getD j 0
theorem pls_asc (p : Nat → Bool) : ∀ k, Asc (pls p k)
  | 0, i, j, _, hj => by cases hj
  | k + 1, i, j, hij, hj => by
    unfold pls at hj ⊢
    split at hj
    · rename_i hp
      rw [if_pos hp]
      rw [List.length_append, List.length_singleton] at hj
      by_cases e : j < (pls p k).length
      · rw [getD_left _ _ _ e, getD_left _ _ _ (by omega)]
        exact pls_asc p k i j hij e
      · have : j = (pls p k).length := by omega
        subst this
        rw [getD_left _ _ _ hij, getD_last]
        rw [List.getD_eq_getElem?_getD, List.getElem?_eq_getElem hij]
        exact (pls_mem p k _ (List.getElem_mem hij)).1
    · rename_i hp
      rw [if_neg hp]
      exact pls_asc p k i j hij hj
theorem Asc.lt {S : List Nat} (h : Asc S) {i j : Nat} (hi : i < S.length) (hj : j < S.length) (e : S.getD i 0 < S.getD j 0) : i < j := by
  rcases Nat.lt_trichotomy i j with a | a | a
  · exact a
  · subst a; omega
  · have := h j i a hi; omega
theorem Asc.inj {S : List Nat} (h : Asc S) {i j : Nat} (hi : i < S.length) (hj : j < S.length) (e : S.getD i 0 = S.getD j 0) : i = j := by
  rcases Nat.lt_trichotomy i j with a | a | a
  · have := h i j a hj; omega
  · exact a
  · have := h j i a hi; omega
/-- Where the table's order holds, the sort's comparison is the whole order. -/
theorem cmp_agrees (l : List Chg) {S T : List Nat} (hS : Asc S) (hT : Asc T) (x y : R3) (hx : Rok S T x) (hy : Rok S T y) (h : ltOf cfT x y = false) : ltOf (cfN l S T) x y = ltN l S T x y := by
  have h := of_decide_eq_false h
  rw [cfT_lt] at h
  have e : cfN l S T x y < 0 ↔ ltN l S T x y = true := by
    rw [cfN_lt]
    unfold ltN
    rw [ahd_iff]
    show _ ↔ y.2.2 < x.2.2 ∨ (x.2.2 = y.2.2 ∧ ((nmR l S T x = true ∧ nmR l S T y = false) ∨ (nmR l S T x = nmR l S T y ∧ (S.getD x.1 0 < S.getD y.1 0 ∨ (S.getD x.1 0 = S.getD y.1 0 ∧ T.getD x.2.1 0 < T.getD y.2.1 0)))))
    constructor
    · rintro (h1 | ⟨h1, h2⟩)
      · exact .inl h1
      · exact .inr ⟨h1, .inl h2⟩
    · rintro (h1 | ⟨h1, h2 | ⟨_, h3 | ⟨h3, h4⟩⟩⟩)
      · exact .inl h1
      · exact .inr ⟨h1, h2⟩
      · exact absurd (.inr ⟨h1, .inl (hS.lt hx.1 hy.1 h3)⟩) h
      · exact absurd (.inr ⟨h1, .inr ⟨hS.inj hx.1 hy.1 h3, hT.lt hx.2.1 hy.2.1 h4⟩⟩) h
  unfold ltOf
  cases k : ltN l S T x y
  · exact decide_eq_false (fun q => by rw [e.1 q] at k; cases k)
  · exact decide_eq_true (e.2 k)
theorem getD_bang {α : Type} [Inhabited α] (d : Array α) (i : Nat) (h : i < d.size) : d[i]! = d[i] := getElem!_pos d i h
/-- The loop over the sorted pairs is the taking of the best, as often as you like. -/
theorem fold_is (l : List Chg) (S T : List Nat) (xs ys : List (List UInt8)) (least : Int) (t d : Array R3) (n : Nat) (s : St)
    (ht : t.toList.Perm (tabTo xs ys least xs.length)) (hd : d.toList.Perm t.toList) (hs : ∀ i j, i < j → j < d.size → ltN l S T d[j]! d[i]! = false)
    (hl : ∀ x ∈ tabTo xs ys least xs.length, S.getD x.1 0 < s.tk.length) (hn : d.size ≤ n) : titer (rowsOf l S T xs ys least) s n = foldK l S T d.toList s d.size := by
  unfold foldK
  rw [show d.toList.take d.size = d.toList by rw [← Array.length_toList]; exact List.take_length ..]
  refine greedy_eq (rowsOf l S T xs ys least) (d.toList.map (conv l S T)) ((hd.trans ht).map _) ?_ _ [] s n rfl ?_ (fun _ h => by cases h) (by simpa using hn)
  · rw [List.pairwise_map, List.pairwise_iff_getElem]
    intro i j hi hj hij
    have := hs i j hij (by simpa using hj)
    rw [getD_bang _ _ (by simpa using hj), getD_bang _ _ (by simpa using hi)] at this
    simpa [ltN] using this
  · intro r hr
    obtain ⟨x, hx, rfl⟩ := List.mem_map.1 hr
    exact hl x hx
end Go.Proofs.YtbmpidacoohdmaaGreat
namespace Go.Proofs.YtbmpidacoohdmaaGreat
open Go.Shelf Go.RowKit Go.Lib Go.Sort Op
open Rn (Chg Fnd St isNamed)

section
variable {β : Type} (P : β → Prop)
theorem sub_get [Inhabited β] [Inhabited {x // P x}] (e : Array {x // P x}) (i : Nat) (h : i < e.size) : (e.map Subtype.val)[i]! = (e[i]!).1 := by
  rw [getElem!_pos _ _ (by simpa using h), getElem!_pos e i h]
  simp
theorem sub_flat [Inhabited β] [Inhabited {x // P x}] (enc : β → List Value) (e : Array {x // P x}) : flatK enc 3 (e.map Subtype.val) = flatK (fun x : {x // P x} => enc x.1) 3 e := by
  refine ext_get! (by simp) fun t ht => ?_
  rw [size_flatK, Array.size_map] at ht
  rw [get_flatK _ _ _ _ (by simpa using ht), get_flatK _ _ _ _ ht, sub_get P e (t / 3) (by omega)]
theorem sub_holds [Inhabited β] [Inhabited {x // P x}] (enc : β → List Value) (e : Array {x // P x}) (w : World) (g : Nat) : HoldsK enc 3 w g 0 (e.map Subtype.val) ↔ HoldsK (fun x : {x // P x} => enc x.1) 3 w g 0 e := by
  unfold HoldsK
  rw [sub_flat]
end
theorem sort_rows (w4 w5 : World) {B b F S K T : Nat} {A : Option Addr} {c : Nat} {l : List Chg} {s : St} (hf : Fnd w4 B b F S K T A c l s) (pf p8 p9 : Nat) (D3 D7 : Option Addr) (d3 d7 : Nat) (Sl Tl : List Nat)
    (cf : w4.cell? ⟨pf, 0, none⟩ = some (.pointer (some ⟨b, 0, none⟩))) (c8 : w4.cell? ⟨p8, 0, none⟩ = some (.slice D3 Sl.length d3)) (c9 : w4.cell? ⟨p9, 0, none⟩ = some (.slice D7 Tl.length d7)) (l1 : pf < w4.heap.size) (l2 : p8 < w4.heap.size) (l3 : p9 < w4.heap.size)
    (h3 : Rv w4.heap.size w4 D3 (ntI2 Sl)) (h7 : Rv w4.heap.size w4 D7 (ntI2 Tl)) (hS : ∀ k ∈ Sl, k < l.length) (hT : ∀ k ∈ Tl, k < l.length) (hb : Below w4.heap.size w4 w5)
    (g cap : Nat) (d : Array R3) (hg : w4.heap.size ≤ g) (hg5 : g < w5.heap.size) (hd : HoldsK encR 3 w5 g 0 d) (hok : ∀ x ∈ d, Rok Sl Tl x) (hsT : SortedIn (ltOf cfT) 0 d.size d) (hn : d.size < 40) (hps : 0 < Sl.length) (hpt : 0 < Tl.length) (hAS : Asc Sl) (hAT : Asc Tl) :
    Calls Tryz.prog 48 #[.slice (some ⟨g, 0, none⟩) d.size cap, .func (.func 49) #[] #[.pointer (some ⟨pf, 0, none⟩), .pointer (some ⟨p8, 0, none⟩), .pointer (some ⟨p9, 0, none⟩)]] w5 fun e w2 => e = .returned (.tuple #[]) ∧ ∃ d2 : Array R3, HoldsK encR 3 w2 g 0 d2 ∧ d2.size = d.size ∧ d2.toList.Perm d.toList ∧ (∀ i j, i < j → j < d2.size → ltN l Sl Tl d2[j]! d2[i]! = false) ∧ Chs (fun q => q = g) w5 w2 := by
  obtain ⟨dk, hdk⟩ : ∃ dk : Array {x // Rok Sl Tl x}, dk.map Subtype.val = d := ⟨d.attachWith _ hok, Array.attachWith_map_subtype_val _⟩
  subst hdk
  rw [Array.size_map] at hn hsT ⊢
  haveI : Inhabited {x // Rok Sl Tl x} := ⟨⟨(0, 0, 0), hps, hpt, Nat.zero_le _⟩⟩
  have hR : RowK (fun x : {x // Rok Sl Tl x} => encR x.1) 3 w5 g 0 dk := ⟨fun _ => rfl, fun x => encR_one x.1, (sub_holds (Rok Sl Tl) encR dk w5 g).1 hd, hg5⟩
  have zE : ∀ w, (Go.sizeOf 120).run Tryz.prog w = .ok 3 w := Tryz.sizeOf120
  have eg : ∀ args w, (callFunc 49 args).run Tryz.prog w = .ok (.enter 49 args) w := by
    exact enters_of Tryz.func49 (by kernel_rfl) rfl
  have hC : CmpLays Tryz.prog 49 #[.pointer (some ⟨pf, 0, none⟩), .pointer (some ⟨p8, 0, none⟩), .pointer (some ⟨p9, 0, none⟩)] (fun x : {x // Rok Sl Tl x} => encR x.1) 3 (fun x y => cfN l Sl Tl x.1 y.1) g 0 dk.size w5 := by
    intro m os dk' hs x y
    have hc := chs_sort (enc := fun x : {x // Rok Sl Tl x} => encR x.1) (k := 3) (blk := g) (w := w5) (d := dk') m os
    have hV : Below w4.heap.size w4 (sortWorldK (fun x : {x // Rok Sl Tl x} => encR x.1) 3 w5 g 0 m dk' os) := hb.trans ⟨hc.os, hc.tape, hc.output, hc.size, fun q hq => hc.block q (Nat.lt_of_lt_of_le hq hb.size) (fun e => by omega)⟩
    exact near1_any w4 hf pf p8 p9 D3 D7 d3 d7 Sl Tl cf c8 c9 l1 l2 l3 h3 h7 hS hT _ hV x.1 y.1 x.2 y.2
  have T : Tld (fun x : {x // Rok Sl Tl x} => encR x.1) w5 g 0 dk (fun x y => ltN l Sl Tl x.1 y.1) (fun x y => cfN l Sl Tl x.1 y.1) 49 #[.pointer (some ⟨pf, 0, none⟩), .pointer (some ⟨p8, 0, none⟩), .pointer (some ⟨p9, 0, none⟩)] := ⟨hR, swoN l Sl Tl _, swoC l Sl Tl _, eg, hC⟩
  have ha : ∀ q p, q < dk.size → p < q → ltOf (fun x y : {x // Rok Sl Tl x} => cfN l Sl Tl x.1 y.1) dk[q]! dk[p]! = (fun x y : {x // Rok Sl Tl x} => ltN l Sl Tl x.1 y.1) dk[q]! dk[p]! := fun q p hq hp => by
    have h := hsT p q (Nat.zero_le _) hp hq
    rw [sub_get _ dk q hq, sub_get _ dk p (by omega)] at h
    exact cmp_agrees l hAS hAT _ _ (dk[q]!).2 (dk[p]!).2 h
  refine (sortstable_any T (sym_any 3 zE hR (fun x y => ltN l Sl Tl x.1 y.1) (swoN l Sl Tl _) (fun x y => cfN l Sl Tl x.1 y.1) _ _ eg hC) dk w5 (SWK.start hR.hH) rfl cap hn ha).mono ?_
  rintro e w2 ⟨rfl, d2, ⟨n2, os2, rfl⟩, hp, hs⟩
  have hz : d2.size = dk.size := hp.1
  refine ⟨rfl, d2.map Subtype.val, (sub_holds (Rok Sl Tl) encR d2 _ g).2 (holds_sort hR.hH hz hg5 n2 os2), by simpa using hz, ?_, fun i j hij hj => ?_, chs_sort n2 os2⟩
  · rw [Array.toList_map, Array.toList_map]
    exact (perm_list hp).map _
  · rw [Array.size_map] at hj
    rw [sub_get _ d2 j hj, sub_get _ d2 i (by omega)]
    exact hs i j (Nat.zero_le _) hij (by omega)
set_option maxRecDepth 100000 in
set_option maxHeartbeats 1000000 in
theorem stable_nil (w : World) (n : Nat) (cb : Array Value) :
    Calls Tryz.prog 107 #[.slice none 0 0, .int .i64 0, .func (.func n) #[] cb] w fun e w2 => e = .returned (.tuple #[]) ∧ w2 = w := by
  have hi : ∀ W, Calls Tryz.prog 171 #[.slice none 0 0, .int .i64 0, .int .i64 0, .func (.func n) #[] cb] W fun e w' => e = .returned (.tuple #[]) ∧ w' = W := fun W => AnyF.insertionSortCmpFunc_none { Tryz.sortRow with } none 0 (.func (.func n) #[] cb) W
  go_enter Tryz.func107, Tryz.ntmps107
  go_wp2_with fail
  refine wp_loop_rounds 1 ?_
  rw [rounds_succ]
  go_wp2_with (go_at_call 171; refine (hi _).mono ?_; rintro e w' ⟨rfl, rfl⟩)
  refine wp_loop_rounds 1 ?_
  rw [rounds_succ]
  go_wp2_with fail
  go_end0
  exact ⟨rfl, rfl⟩
set_option maxRecDepth 100000 in
theorem sort_nil (w : World) (n : Nat) (cb : Array Value) :
    Calls Tryz.prog 48 #[.slice none 0 0, .func (.func n) #[] cb] w fun e w2 => e = .returned (.tuple #[]) ∧ w2 = w := by
  go_enter Tryz.func48, Tryz.ntmps48
  go_wp2_with fail
  refine (stable_nil w n cb).mono ?_
  rintro e w2 ⟨rfl, rfl⟩
  go_wp2_with fail
  go_end0
  exact ⟨rfl, rfl⟩
end Go.Proofs.YtbmpidacoohdmaaGreat

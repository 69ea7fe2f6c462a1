/- A slice of one-cell elements that the call owns, whatever mark its block bears (that of a converted string too). Plain. A blob as an object's bytes: object.Bytes and sleuthref08.Bytes at kind 1, by contracts. -/
import Derived.Test.YtbmpidacoohdmaaGreatGro
import Derived.ArgAppend
import Derived.Test.YtbmpidacoohdmaaGreatHex
namespace Go.Proofs.YtbmpidacoohdmaaGreat
open Go.RowKit

/-- The value v owns the cells xs, in a block from base on, of elements e. -/
def Ows (w : World) (base : Nat) (e : TypeId) (v : Value) (xs : List Value) : Prop :=
  (v = .slice none 0 0 ∧ xs = []) ∨
  ∃ g cap cur fr, v = .slice (some ⟨g, 0, none⟩) xs.length cap ∧ base ≤ g ∧ w.heap[g]? = some (.cells cur e fr) ∧ (∀ i, i < cur.size → ¬ (fr.1 ≤ i ∧ i < fr.2)) ∧ xs.length ≤ cap ∧ cap ≤ maxLen ∧ cur.size = cap ∧ cur.toList.take xs.length = xs
section
variable {w w2 : World} {base : Nat} {e : TypeId} {v : Value} {xs : List Value}
theorem Ows.of (h : w.ownsRow base e 1 v xs.length xs) : Ows w base e v xs := by
  obtain ⟨_, ⟨h1, h2⟩ | ⟨g, cap, cur, h1, h2, h3, h4, h5, h6, h7⟩⟩ := h
  · exact .inl ⟨h1, List.eq_nil_of_length_eq_zero h2⟩
  · exact .inr ⟨g, cap, cur, (0, 0), h1, h2, h3, fun i _ q => by simp at q, h4, h5, by omega, by rwa [Nat.mul_one] at h7⟩
theorem Ows.less (h : Ows w base e v xs) {b : Nat} (hb : b ≤ base) : Ows w b e v xs := by
  rcases h with h | ⟨g, cap, cur, fr, h1, h2, h3⟩
  · exact .inl h
  · exact .inr ⟨g, cap, cur, fr, h1, by omega, h3⟩
theorem Ows.lt (h : Ows w base e v xs) {k : Nat} (hk : v.ownBlock = some k) : base ≤ k ∧ k < w.heap.size := by
  rcases h with ⟨rfl, _⟩ | ⟨g, cap, cur, fr, rfl, h2, h3, _⟩
  · cases hk
  · obtain rfl : g = k := Option.some.inj hk
    exact ⟨h2, (Array.getElem?_eq_some_iff.1 h3).1⟩
theorem Ows.kept (h : Ows w base e v xs) {r : Option Nat} (hg : w.grownBy w2 r) (hr : ∀ k, v.ownBlock = some k → some k ≠ r) : Ows w2 base e v xs := by
  rcases h with h | ⟨g, cap, cur, fr, rfl, h2, h3, h4⟩
  · exact .inl h
  · exact .inr ⟨g, cap, cur, fr, rfl, h2, (hg.block g (Array.getElem?_eq_some_iff.1 h3).1 (hr g rfl)).trans h3, h4⟩
theorem Ows.below (h : Ows w base e v xs) (hb : Below w.heap.size w w2) : Ows w2 base e v xs := h.kept (grown_of_below hb none) (fun k _ q => by cases q)
theorem Ows.alloc (h : Ows w base e v xs) (o : Obj) : Ows (w.alloc o) base e v xs := h.kept (grown_alloc (grown_refl w none) o) (fun k _ q => by cases q)
/-- It is a slice that reads the cells, all in a block of that type. -/
theorem Ows.form (h : Ows w base e v xs) : ∃ D d, v = .slice D xs.length d ∧ (D = none → d = 0) ∧ xs.length ≤ d ∧ Rv w.heap.size w D xs ∧ ∀ ad, D = some ad → base ≤ ad.block ∧ ∃ cur fr, w.heap[ad.block]? = some (.cells cur e fr) := by
  rcases h with ⟨rfl, rfl⟩ | ⟨g, cap, cur, fr, rfl, h2, h3, h4, h5, h6, h7, h8⟩
  · exact ⟨none, 0, rfl, fun _ => rfl, Nat.le_refl _, Rv.nil, fun ad q => by cases q⟩
  · refine ⟨some ⟨g, 0, none⟩, cap, rfl, (fun q => by cases q), h5, fun k x hx => ⟨_, rfl, (Array.getElem?_eq_some_iff.1 h3).1, ?_⟩, fun ad q => by cases q; exact ⟨h2, cur, fr, h3⟩⟩
    rw [Addr.add_lit, Nat.zero_add, cell_of_row _ _ _ _ _ _ h3]
    have hk := (List.getElem?_eq_some_iff.1 hx).1
    have : (cur.toList.take xs.length)[k]? = some x := by rw [h8]; exact hx
    rw [List.getElem?_take] at this
    rw [if_pos hk] at this
    simpa using this
end
/-- A world in which cells of block g, and new blocks, have turned. -/
theorem grown_cells {W : World} {g o : Nat} : ∀ {cs : List Value}, W.grownBy (W.setCells g o cs) (some g) := by
  intro cs
  induction cs generalizing W o with
  | nil => exact grown_refl _ _
  | cons c cs ih => exact grown_trans (grown_refl _ _) (by
      show W.grownBy ((W.setCell ⟨g, o, none⟩ c).setCells g (o + 1) cs) (some g)
      exact grown_trans (grown_set (grown_refl _ _) _ _) ih)
theorem set_same {W : World} {g k : Nat} {cs : Array Value} {e : TypeId} {fr : Nat × Nat} {v : Value} (h : W.heap[g]? = some (.cells cs e fr)) : (W.setCell ⟨g, k, none⟩ v).heap[g]? = some (.cells (cs.setIfInBounds k v) e fr) := by
  simp [World.setCell, Array.getElem?_modify, h]
theorem sets_same {g : Nat} {e : TypeId} {fr : Nat × Nat} : ∀ (vs : List Value) (o : Nat) (W : World) (cs : Array Value), W.heap[g]? = some (.cells cs e fr) → o + vs.length ≤ cs.size →
    (W.setCells g o vs).heap[g]? = some (.cells (cs.toList.take o ++ vs ++ cs.toList.drop (o + vs.length)).toArray e fr)
  | [], o, W, cs, h, hl => by
    show W.heap[g]? = _
    rw [h]
    simp
  | c :: r, o, W, cs, h, hl => by
    have hl2 : o + (r.length + 1) ≤ cs.size := hl
    have ih := sets_same r (o + 1) (W.setCell ⟨g, o, none⟩ c) (cs.setIfInBounds o c) (set_same h) (by simp; omega)
    show ((W.setCell ⟨g, o, none⟩ c).setCells g (o + 1) r).heap[g]? = _
    rw [ih]
    have ho : o < cs.toList.length := by simp; omega
    have h1 : (cs.setIfInBounds o c).toList.take (o + 1) = cs.toList.take o ++ [c] := by
      rw [Array.toList_setIfInBounds, List.take_add_one, List.getElem?_set_self ho, List.take_set_of_le (Nat.le_refl _)]
      rfl
    have h2 : (cs.setIfInBounds o c).toList.drop (o + 1 + r.length) = cs.toList.drop (o + (c :: r).length) := by
      rw [Array.toList_setIfInBounds, List.drop_set_of_lt (by omega), List.length_cons]
      congr 1; omega
    rw [h1, h2]
    simp
section
variable {P : Program} {w : World}
theorem run_aps {t e : TypeId} {bytes : Nat} (sl : Sl P t e 1 bytes) (ty : TypeId) (base : Nat) (v : Value) (xs : List Value) (hown : Ows w base e v xs)
    {B : Nat} (A : Option Addr) (m c : Nat) (news : List Value) (hnone : A = none → c = 0) (hl : news.length = m) (hr : Rv B w A news) (h1 : ∀ u ∈ news, u.oneCell' = true)
    (h63 : xs.length + m ≤ maxLen) (hbytes : (xs.length + m) * bytes ≤ 140737488355328) (hbase : base ≤ w.heap.size) :
    ∃ v2 w2, (Builtin.append_ #[t, t] ty #[v, .slice A m c]).run P w = .ok v2 w2 ∧ Ows w2 base e v2 (xs ++ news) ∧ w.grownBy w2 v.ownBlock := by
  subst hl
  rcases hown with ⟨rfl, rfl⟩ | ⟨g, cap, cur, fr, rfl, h2, h3, h4, h5, h6, h7, h8⟩
  · obtain ⟨v2, w2, hr2, ho, ha⟩ := run_app sl ty base (.slice none 0 0) 0 [] (World.ownsRow_nil _ _ _ _) A news.length c news hnone (by omega) hr h1 (by simpa using h63) (by simpa using hbytes) hbase
    rw [Nat.zero_add, List.nil_append] at ho
    exact ⟨v2, w2, hr2, Ows.of ho, ha.grown⟩
  · obtain ⟨i, z, hi, hz, hs1, hb, hzs⟩ := sl.parts
    rcases A with _ | ad
    · obtain rfl : news = [] := by
        cases news with
        | nil => rfl
        | cons u r => obtain ⟨ad, q, _⟩ := hr 0 u rfl; cases q
      obtain rfl := hnone rfl
      refine ⟨.slice (some ⟨g, 0, none⟩) xs.length cap, w, by simp [Builtin.append_, run_underlying sl.und, Go.sizeOf, typeInfo, hi, Builtin.lenOf, Builtin.firstCells, h5, storeCells], ?_, grown_refl _ _⟩
      rw [List.append_nil]
      exact .inr ⟨g, cap, cur, fr, rfl, h2, h3, h4, h5, h6, h7, h8⟩
    · have hn : ∀ j u, news[j]? = some u → w.cell? (ad.add j) = some u := fun j u hu => by
        obtain ⟨ad2, q, _, hc⟩ := hr j u hu
        cases q
        exact hc
      by_cases hroom : xs.length + news.length ≤ cap
      · have hcell : ∀ j, j < news.length → (w.cell? ⟨g, 0 + xs.length * i.size + j, none⟩).isSome = true := fun j hj => by
          rw [cell_of_row _ _ _ _ _ _ h3, hs1]
          simp; omega
        have hfz : ∀ j, j < news.length → w.frozen? ⟨g, 0 + xs.length * i.size + j, none⟩ = false := fun j hj => by
          have := h4 (0 + xs.length * 1 + j) (by omega)
          simp only [World.frozen?, h3, hs1]
          simpa using this
        have hrun := run_append_room_cells (P := P) w t ty e i sl.und hi g 0 xs.length cap ad news.length c news (by rw [hs1]; omega) hn h1 hroom hcell hfz
        rw [hs1] at hrun
        refine ⟨_, _, hrun, .inr ⟨g, cap, _, fr, by rw [List.length_append], h2, sets_same news _ w cur h3 (by omega), ?_, by rw [List.length_append]; exact hroom, h6, ?_, ?_⟩, grown_cells⟩
        · intro k hk
          exact h4 k (by simp at hk; omega)
        · simp; omega
        · have e1 : cur.toList.take (0 + xs.length * 1) = xs := by rw [Nat.zero_add, Nat.mul_one]; exact h8
          rw [e1]
          simp only [List.append_assoc, List.length_append]
          rw [← List.append_assoc]
          exact List.take_left' (by simp)
      · obtain ⟨v2, w2, hr2, ho, hg⟩ := run_append_arg_grows (P := P) w t ty e i z 1 bytes sl.und hi hz hs1 hb hzs (by omega) ⟨g, 0, none⟩ xs.length cap xs (by omega) (fun j u hu => by
          have hf := (show Ows w base e (.slice (some ⟨g, 0, none⟩) xs.length cap) xs from .inr ⟨g, cap, cur, fr, rfl, h2, h3, h4, h5, h6, h7, h8⟩).form
          obtain ⟨D, d, q, _, _, hrv, _⟩ := hf
          injection q with q1 _ _
          subst q1
          obtain ⟨ad2, q2, _, hc⟩ := hrv j u hu
          cases q2
          exact hc) ad news.length c news (by omega) hn (by omega) h63 hbytes
        exact ⟨v2, w2, hr2, Ows.less (Ows.of (by rw [List.length_append]; exact ho)) hbase, grown_any hg _⟩
theorem wpList_aps {ops : Array Oper} {rest : List Oper} {o : Oper} {a : Act} {Q : Exit → Act → World → Prop} {t e : TypeId} {bytes : Nat} (sl : Sl P t e 1 bytes) (hgd : o.guard = none) (s x : Operand)
    (ho : o.op = .call { callee := .builtin .append, args := #[s, x], argTypes := #[t, t] }) (base : Nat) (v : Value) (xs : List Value) (hs : a.eval s = v) (hown : Ows w base e v xs)
    {B : Nat} (A : Option Addr) (m c : Nat) (news : List Value) (hx : a.eval x = .slice A m c) (hnone : A = none → c = 0) (hl : news.length = m) (hr : Rv B w A news) (h1 : ∀ u ∈ news, u.oneCell' = true)
    (h63 : xs.length + m ≤ maxLen) (hbytes : (xs.length + m) * bytes ≤ 140737488355328) (hbase : base ≤ w.heap.size)
    (h : ∀ v2 w2, Ows w2 base e v2 (xs ++ news) → w.grownBy w2 v.ownBlock → wpList P ops Q rest (a.put o.dst v2) w2) : wpList P ops Q (o :: rest) a w := by
  refine wpList_plain hgd fun K hK => ?_
  obtain ⟨v2, w2, hr2, h2, h3⟩ := run_aps sl o.type base v xs hown A m c news hnone hl hr h1 h63 hbytes hbase
  unfold Oper.wp execOp
  simp only [ho, resolve, invoke, builtin, Sem.run_bind, Sem.run_pure, Result.andThen_ok, List.map_toArray, List.map_cons, List.map_nil, hs, hx, hr2]
  exact hK _ _ (h v2 w2 h2 h3)
theorem heap_new_fr (W : World) (cs : Array Value) (e : TypeId) (fr : Nat × Nat) : (W.alloc (.cells cs e fr)).heap[W.heap.size]? = some (.cells cs e fr) := heap_alloc_new W _
/-- A string's bytes, as a slice of the call's own. -/
theorem run_bys {src dst e : TypeId} (l : List UInt8) (hm : l.length ≤ 1000000) (hs : P.underlying src = some .string) (hd : P.underlying dst = some (.slice e)) (he : P.underlying e = some (.int .u8)) :
    ∃ v w2, (convert src dst (.string (bs l))).run P w = .ok v w2 ∧ Ows w2 w.heap.size e v (bys l) ∧ w.grownBy w2 none := by
  have h := run_bytes_of_string (P := P) w src dst e (bs l) hs hd he
  have hc := grownCap_ge w (bs l).size 0 e
  have hcm := grownCap_le_maxLen w (bs l).size 0 e (by rw [bs_size]; unfold maxLen; omega)
  rw [bs_size] at h hc hcm
  have hsz : (bytesRow (bs l) (grownCap w l.length 0 e)).size = grownCap w l.length 0 e := by simp [bytesRow, bs, ByteArray.size]; omega
  refine ⟨_, _, h, .inr ⟨w.heap.size, _, _, _, by rw [bys_len], Nat.le_refl _, heap_new_fr w.drew _ e _, ?_, by rw [bys_len]; exact hc, hcm, hsz, ?_⟩, ⟨rfl, rfl, rfl, by simp, fun k hk _ => Below.heap_alloc w.drew _ k hk⟩⟩
  · intro i hi q
    exact absurd q.1 (by omega)
  · refine List.ext_getElem? fun k => ?_
    rw [List.getElem?_take, bys_len]
    by_cases hk : k < l.length
    · rw [if_pos hk]
      have hb := bytesRow_at (bs l) (grownCap w l.length 0 e) k (by simpa [bs] using hk)
      rw [Array.getElem?_toList, hb]
      simp [bys, bs, hk]
    · rw [if_neg hk]
      rw [List.getElem?_eq_none (by rw [bys_len]; omega)]
end
end Go.Proofs.YtbmpidacoohdmaaGreat
namespace Go.Proofs.YtbmpidacoohdmaaGreat
open Go.RowKit

/-- A blob's head, and the whole. -/
def hdB (n : Nat) : List UInt8 := 98 :: 108 :: 111 :: 98 :: 32 :: decB n
def objB (l : List UInt8) : List UInt8 := hdB l.length ++ [0] ++ l
theorem bs_lit (l m : List UInt8) : bs l ++ (⟨m.toArray⟩ : ByteArray) = bs (l ++ m) := bs_append l m
theorem hdB_len {n : Nat} (h : n ≤ 400) : (hdB n).length ≤ 8 := by
  have := decB_len (n := n) (by omega)
  simp only [hdB, List.length_cons]; omega
attribute [local go_sem] bs_append bs_lit bs_size
set_option maxHeartbeats 1000000 in
theorem word1 (w : World) : Calls Tryz.prog 146 #[.int .i64 1] w fun e w2 => e = .returned (.string (bs [98, 108, 111, 98])) ∧ w = w2 := by
  go_enter Tryz.func146, Tryz.ntmps146
  go_wp2_with fail
  go_ret
  exact ⟨rfl, rfl⟩
set_option maxHeartbeats 1000000 in
theorem read1 (w : World) (A : Option Addr) (c n : Nat) (hn : n ≤ 4000) : Calls Tryz.prog 197 #[.int .i64 1, .slice A n c] w fun e w2 => ∃ v, e = .returned (.tuple #[v, .int .i64 0]) ∧ Below w.heap.size w w2 := by
  have ht : (bs [98, 108, 111, 98]).toList.isEmpty = false := by rw [bs_empty]; rfl
  go_enter Tryz.func197, Tryz.ntmps197
  go_wp2_with (go_at_call 146; refine (word1 _).mono ?_; rintro e w2 ⟨rfl, rfl⟩)
  go_ret2
  exact ⟨_, rfl, Below.refl _ _⟩
set_option maxHeartbeats 1000000 in
theorem check1 (w : World) (A : Option Addr) (c n : Nat) (hn : n ≤ 4000) : Calls Tryz.prog 145 #[.int .i64 1, .slice A n c] w fun e w2 => e = .returned (.int .i64 0) ∧ Below w.heap.size w w2 := by
  go_enter Tryz.func145, Tryz.ntmps145
  go_wp2_with (go_at_call 197; refine (read1 _ A c n hn).mono ?_; rintro e w2 ⟨v, rfl, hb⟩; have HB := Lib.hid hb; clear hb)
  go_ret
  exact ⟨rfl, HB.out⟩
set_option maxHeartbeats 1000000 in
theorem fcheck1 (w : World) (A : Option Addr) (c n : Nat) (hn : n ≤ 4000) : Calls Tryz.prog 160 #[.int .i64 1, .slice A n c] w fun e w2 => e = .returned (.int .i64 0) ∧ Below w.heap.size w w2 := by
  go_enter Tryz.func160, Tryz.ntmps160
  go_wp2_with fail
  go_ret
  exact ⟨rfl, Below.refl _ _⟩
set_option maxHeartbeats 1000000 in
theorem obytes_any (w : World) (A : Option Addr) (c : Nat) (body : List UInt8) (h : Rv w.heap.size w A (bys body)) (hn : A = none → c = 0) (hl : body.length ≤ 400) :
    Calls Tryz.prog 89 #[.int .i64 1, .slice A body.length c] w fun e w2 => ∃ u, e = .returned (.tuple #[u, .int .i64 0]) ∧ Ows w2 w.heap.size 5 u (bys (objB body)) ∧ Below w.heap.size w w2 := by
  have H := Lib.hid h
  have HN := Lib.hid hn
  have HCK := Lib.hid (check1 w A c body.length (by omega))
  have hd3 := decB_len (n := body.length) (by omega)
  clear h hn
  go_enter Tryz.func89, Tryz.ntmps89
  go_wp2_with fail
  refine HCK.out.mono ?_
  rintro en w1 ⟨rfl, hb1⟩
  have B1 := Lib.hid hb1
  clear hb1 HCK
  go_wp2_with fail
  refine (word1 _).mono ?_
  rintro en w1b ⟨rfl, rfl⟩
  go_wp2_with fail
  refine (digits_any _ body.length (by omega)).mono ?_
  rintro en w2 ⟨rfl, hb2⟩
  have B2 := Lib.hid (B1.out.trans (hb2.mono B1.out.size))
  clear hb2
  obtain ⟨v3, w3, hrun, ho3, hg3⟩ := run_bys (P := Tryz.prog) (w := w2) (src := 9) (dst := 57) (hdB body.length) (by have := hdB_len hl; omega) Tryz.underlying9 Tryz.underlying57 Tryz.underlying5
  unfold hdB at hrun
  have B3 := Lib.hid (B2.out.trans (below_of_grown hg3 B2.out.size (fun k hk => by cases hk)))
  have O3 := Lib.hid (ho3.less B2.out.size)
  have HL := Lib.hid (hdB_len hl)
  have HOB : Hid (bys (hdB body.length) ++ bys [0] ++ bys body = bys (objB body)) := Lib.hid (by rw [bys_app, bys_app]; rfl)
  have HB := Lib.hid (bys_len (hdB body.length))
  have HB2 := Lib.hid (bys_len body)
  clear ho3 hg3
  go_upto_region 5 with fail
  clear hrun
  have O4 := Lib.hid (O3.out.alloc (.cells #[.int .u8 0] 5))
  have B4 := Lib.hid (B3.out.alloc B3.out.size (.cells #[.int .u8 0] 5))
  have NW := Lib.hid (new_rv w3 (bys [0]) 5 ⟨w3.heap.size, 0, none⟩ rfl)
  go_wp2_with (first | (at_builtin; refine wpList_aps sl22 rfl (.tmp 22) (.tmp 23) rfl w.heap.size v3 (bys (hdB body.length)) rfl O4.out (some ⟨w3.heap.size, 0, none⟩) 1 1 (bys [0]) rfl (fun e => by cases e) rfl NW.out (bys_one _) (by rw [HB.out]; unfold maxLen; have := HL.out; omega) (by rw [HB.out]; have := HL.out; omega) (by have := B4.out.size; omega) ?_; intro v5 w5 ho5 hg5; have B5 := Lib.hid (B4.out.trans (below_of_grown hg5 B4.out.size (fun k hk => (O4.out.lt hk).1))); have O5 := Lib.hid ho5; have H5 := Lib.hid (H.out.low B5.out B5.out.size); clear ho5 hg5) | (at_builtin; refine wpList_aps sl22 rfl (.tmp 24) (.tmp 25) rfl w.heap.size v5 _ rfl O5.out A body.length c (bys body) rfl HN.out HB2.out H5.out (bys_one _) (by rw [List.length_append, HB.out]; unfold maxLen; have := HL.out; simp [bys]; omega) (by rw [List.length_append, HB.out]; have := HL.out; simp [bys]; omega) B5.out.size ?_; intro v6 w6 ho6 hg6; have B6 := Lib.hid (B5.out.trans (below_of_grown hg6 B5.out.size (fun k hk => (O5.out.lt hk).1))); rw [HOB.out] at ho6; have O6 := Lib.hid ho6; clear ho6 hg6))
  go_ret2
  exact ⟨v6, rfl, O6.out, B6.out⟩
def wordsA : Array Value := #[.string (bs [98, 108, 111, 98]), .string (bs [116, 114, 101, 101]), .string (bs [99, 111, 109, 109, 105, 116]), .string (bs [116, 97, 103])]
set_option maxHeartbeats 1000000 in
theorem fwords (w : World) : Calls Tryz.prog 217 #[] w fun e w2 => e = .returned (.slice (some ⟨w.heap.size, 0, none⟩) 4 4) ∧ w.alloc (.cells wordsA 9) = w2 := by
  go_enter Tryz.func217, Tryz.ntmps217
  go_wp2_with fail
  exact bodyPost_ret (v := .slice (some ⟨w.heap.size, 0, none⟩) 4 4) (by simp [results, Tryz.results217, go_sem]) rfl ⟨rfl, rfl⟩
set_option maxHeartbeats 1000000 in
theorem fword1 (w : World) : Calls Tryz.prog 161 #[.int .i64 1] w fun e w2 => e = .returned (.string (bs [98, 108, 111, 98])) ∧ Below w.heap.size w w2 := by
  have hc : (w.alloc (.cells wordsA 9)).cell? ⟨w.heap.size, 0, none⟩ = some (.string (bs [98, 108, 111, 98])) := by
    rw [cell_of_row _ _ _ _ _ _ (heap_alloc_new w _)]; rfl
  have HB := Lib.hid ((Below.refl w.heap.size w).alloc (Nat.le_refl _) (.cells wordsA 9))
  go_enter Tryz.func161, Tryz.ntmps161
  go_wp2_with (go_at_call 217; refine (fwords _).mono ?_; rintro e w2 ⟨rfl, hw2⟩; subst hw2)
  go_ret
  exact ⟨rfl, HB.out⟩
set_option maxHeartbeats 1000000 in
theorem fobytes_any (w : World) (A : Option Addr) (c : Nat) (body : List UInt8) (h : Rv w.heap.size w A (bys body)) (hn : A = none → c = 0) (hl : body.length ≤ 400) :
    Calls Tryz.prog 94 #[.int .i64 1, .slice A body.length c] w fun e w2 => ∃ u, e = .returned (.tuple #[u, .int .i64 0]) ∧ Ows w2 w.heap.size 5 u (bys (objB body)) ∧ Below w.heap.size w w2 := by
  have H := Lib.hid h
  have HN := Lib.hid hn
  have HCK := Lib.hid (fcheck1 w A c body.length (by omega))
  have hd3 := decB_len (n := body.length) (by omega)
  clear h hn
  go_enter Tryz.func94, Tryz.ntmps94
  go_wp2_with fail
  refine HCK.out.mono ?_
  rintro en w1 ⟨rfl, hb1⟩
  have B1 := Lib.hid hb1
  clear hb1 HCK
  go_wp2_with fail
  refine (fword1 _).mono ?_
  rintro en w1b ⟨rfl, hb1b⟩
  have B1b := Lib.hid (B1.out.trans (hb1b.mono B1.out.size))
  clear hb1b
  go_wp2_with fail
  refine (fdigits_any _ body.length (by omega)).mono ?_
  rintro en w2 ⟨rfl, hb2⟩
  have B2 := Lib.hid (B1b.out.trans (hb2.mono B1b.out.size))
  clear hb2
  obtain ⟨v3, w3, hrun, ho3, hg3⟩ := run_bys (P := Tryz.prog) (w := w2) (src := 9) (dst := 57) (hdB body.length) (by have := hdB_len hl; omega) Tryz.underlying9 Tryz.underlying57 Tryz.underlying5
  unfold hdB at hrun
  have B3 := Lib.hid (B2.out.trans (below_of_grown hg3 B2.out.size (fun k hk => by cases hk)))
  have O3 := Lib.hid (ho3.less B2.out.size)
  have HL := Lib.hid (hdB_len hl)
  have HOB : Hid (bys (hdB body.length) ++ bys [0] ++ bys body = bys (objB body)) := Lib.hid (by rw [bys_app, bys_app]; rfl)
  have HB := Lib.hid (bys_len (hdB body.length))
  have HB2 := Lib.hid (bys_len body)
  clear ho3 hg3
  go_upto_region 5 with fail
  clear hrun
  have O4 := Lib.hid (O3.out.alloc (.cells #[.int .u8 0] 5))
  have B4 := Lib.hid (B3.out.alloc B3.out.size (.cells #[.int .u8 0] 5))
  have NW := Lib.hid (new_rv w3 (bys [0]) 5 ⟨w3.heap.size, 0, none⟩ rfl)
  go_wp2_with (first | (at_builtin; refine wpList_aps sl22 rfl (.tmp 22) (.tmp 23) rfl w.heap.size v3 (bys (hdB body.length)) rfl O4.out (some ⟨w3.heap.size, 0, none⟩) 1 1 (bys [0]) rfl (fun e => by cases e) rfl NW.out (bys_one _) (by rw [HB.out]; unfold maxLen; have := HL.out; omega) (by rw [HB.out]; have := HL.out; omega) (by have := B4.out.size; omega) ?_; intro v5 w5 ho5 hg5; have B5 := Lib.hid (B4.out.trans (below_of_grown hg5 B4.out.size (fun k hk => (O4.out.lt hk).1))); have O5 := Lib.hid ho5; have H5 := Lib.hid (H.out.low B5.out B5.out.size); clear ho5 hg5) | (at_builtin; refine wpList_aps sl22 rfl (.tmp 25) (.tmp 26) rfl w.heap.size v5 _ rfl O5.out A body.length c (bys body) rfl HN.out HB2.out H5.out (bys_one _) (by rw [List.length_append, HB.out]; unfold maxLen; have := HL.out; simp [bys]; omega) (by rw [List.length_append, HB.out]; have := HL.out; simp [bys]; omega) B5.out.size ?_; intro v6 w6 ho6 hg6; have B6 := Lib.hid (B5.out.trans (below_of_grown hg6 B5.out.size (fun k hk => (O5.out.lt hk).1))); rw [HOB.out] at ho6; have O6 := Lib.hid ho6; clear ho6 hg6))
  go_ret2
  exact ⟨v6, rfl, O6.out, B6.out⟩
end Go.Proofs.YtbmpidacoohdmaaGreat

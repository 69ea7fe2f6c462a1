/- sleuthref17.Same, by a contract. A row of changes, cell by cell. made: texts put into both stores, and changes whose ids are theirs. made: the loop that gives changes their ids. made: texts put into both stores, changes with their ids: the function. -/
import Derived.Test.YtbmpidacoohdmaaGreatF16
import Derived.Test.YtbmpidacoohdmaaGreatF17
import Derived.Test.YtbmpidacoohdmaaGreatF15
namespace Go.Proofs.YtbmpidacoohdmaaGreat.Rn
open Lib renaming hid → hI
open Go.RowKit

theorem diff_at {a b : List Chg} {k : Nat} (h : a.getD k default ≠ b.getD k default) : a ≠ b := by
  rintro rfl
  exact h rfl
theorem take_step {a b : List Chg} {k : Nat} (hl : a.length = b.length) (hk : k < a.length) (ht : a.take k = b.take k) (h : a.getD k default = b.getD k default) : a.take (k + 1) = b.take (k + 1) := by
  have hk' : k < b.length := by omega
  rw [List.take_succ_eq_append_getElem hk, List.take_succ_eq_append_getElem hk', ht]
  simp only [List.getD_eq_getElem?_getD, List.getElem?_eq_getElem hk, List.getElem?_eq_getElem hk', Option.getD_some] at h
  rw [h]

set_option maxHeartbeats 1000000 in
theorem same_any (w : World) (a b : List Chg) (A D : Option Addr) (c d Ba Bb : Nat) (ha : LReads w Ba A a) (hb : LReads w Bb D b) (oa : ∀ (k : Nat) (x : Chg), a[k]? = some x → x.ok) (ob : ∀ (k : Nat) (x : Chg), b[k]? = some x → x.ok) (hn : a.length ≤ 40) (hm : b.length ≤ 9223372036854775807) :
    Calls Tryz.prog 10 #[.slice A a.length c, .slice D b.length d] w fun e w' => e = .returned (.bool (decide (a = b))) ∧ ∃ m, w' = w.drewN m := by
  have HA := hI (And.intro ha oa)
  have HB := hI (And.intro hb ob)
  clear ha hb oa ob
  go_enter Tryz.func10, Tryz.ntmps10
  by_cases hl : a.length = b.length
  · rw [← hl]
    have HL := hI hl
    clear hl hm
    go_wp2
    go_loopw [5] (fun i wr => ∃ k : Nat, k ≤ a.length ∧ i = .int .i64 k ∧ Hid (a.take k = b.take k) ∧ Hid (∃ m, wr = w.drewN m)) (fun i _ => a.length - (intOf i).toNat)
    case atStart => exact ⟨0, Nat.zero_le _, rfl, rfl, 0, rfl⟩
    case round =>
      obtain ⟨k, hk, rfl, ht, hw⟩ := hrel
      by_cases hkl : k < a.length
      · have hkb : k < b.length := by have := HL.out; omega
        obtain ⟨ad, rfl, _, hca⟩ := HA.out.1 k (a.getD k default) (by simp [hkl])
        obtain ⟨dd, rfl, _, hcb⟩ := HB.out.1 k (b.getD k default) (by simp [hkb])
        have oka : (a.getD k default).ok := HA.out.2 k _ (by simp [hkl])
        have okb : (b.getD k default).ok := HB.out.2 k _ (by simp [hkb])
        have h1 : ∀ w', (∃ n, w' = wr.drewN n) → CellsAt w' (ad.add (k * 70)) (a.getD k default).cells := by
          obtain ⟨m, rfl⟩ := hw.out
          rintro _ ⟨n, rfl⟩
          exact hca
        have h2 : ∀ w', (∃ n, w' = wr.drewN n) → CellsAt w' (dd.add (k * 70)) (b.getD k default).cells := by
          obtain ⟨m, rfl⟩ := hw.out
          rintro _ ⟨n, rfl⟩
          exact hcb
        have l1 : (Tryz.prog.info? 53).map (·.size) = some (a.getD k default).cells.length := by rw [Chg.cells_length _ oka]; exact info46
        have l2 : (Tryz.prog.info? 53).map (·.size) = some (b.getD k default).cells.length := by rw [Chg.cells_length _ okb]; exact info46
        have hq : ∀ W, (Op.equalIn 10000 53 (.agg (a.getD k default).cells.toArray) (.agg (b.getD k default).cells.toArray)).run Tryz.prog W = .ok (decide (a.getD k default = b.getD k default)) W := fun W => run_equalIn_chg _ _ oka okb W
        have H1 := hI h1
        have H2 := hI h2
        have L1 := hI l1
        have L2 := hI l2
        have HD := hI (diff_at (a := a) (b := b) (k := k))
        have HT := hI (take_step HL.out hkl ht.out)
        clear h1 h2 l1 l2 hca hcb oka okb ht
        generalize a.getD k default = x at *
        generalize b.getD k default = y at *
        by_cases hxy : x = y
        · have hd : decide (x = y) = true := by simp [hxy]
          rw [hd] at hq
          have HXY := hI hxy
          clear hxy hd
          go_wp2_with fail
          refine wp_region_quiet_lit (by kernel_rfl) (by kernel_rfl) ?_
          repeat (first
            | (go_big_quiet_want; refine quiet_load_cells 53 _ rfl _ rfl x.cells Tryz.underlying53 rfl L1.out H1.out ?_; simp only [Act.put, List.setIfInBounds_toArray, List.set_cons_succ, List.set_cons_zero]; go_big_quiet_on)
            | (go_big_quiet_want; refine quiet_load_cells 53 _ rfl _ rfl y.cells Tryz.underlying53 rfl L2.out H2.out ?_; simp only [Act.put, List.setIfInBounds_toArray, List.set_cons_succ, List.set_cons_zero]; go_big_quiet_on)
            | go_big_quiet_step (fail))
          refine wpQuiet_nil ?_
          rintro _ ⟨nq, rfl⟩
          go_wp2
          refine ⟨⟨k + 1, by omega, by go_num, HT.out HXY.out, ?_⟩, by simp [intOf]; omega⟩
          obtain ⟨m, rfl⟩ := hw.out
          exact ⟨m + nq, by simp⟩
        · have hd : decide (x = y) = false := by simp [hxy]
          rw [hd] at hq
          have HXY := hI hxy
          clear hxy hd
          go_wp2_with fail
          refine wp_region_quiet_lit (by kernel_rfl) (by kernel_rfl) ?_
          repeat (first
            | (go_big_quiet_want; refine quiet_load_cells 53 _ rfl _ rfl x.cells Tryz.underlying53 rfl L1.out H1.out ?_; simp only [Act.put, List.setIfInBounds_toArray, List.set_cons_succ, List.set_cons_zero]; go_big_quiet_on)
            | (go_big_quiet_want; refine quiet_load_cells 53 _ rfl _ rfl y.cells Tryz.underlying53 rfl L2.out H2.out ?_; simp only [Act.put, List.setIfInBounds_toArray, List.set_cons_succ, List.set_cons_zero]; go_big_quiet_on)
            | go_big_quiet_step (fail))
          refine wpQuiet_nil ?_
          rintro _ ⟨nq, rfl⟩
          go_wp2
          go_ret
          obtain ⟨m, rfl⟩ := hw.out
          exact ⟨ret_bool (by simp [HD.out HXY.out]), m + nq, by simp⟩
      · go_wp2
        go_ret
        obtain rfl : k = a.length := by omega
        have hab : a = b := by
          have h := ht.out
          rw [List.take_length, HL.out, List.take_length] at h
          exact h
        exact ⟨ret_bool (by simp [hab]), hw.out⟩
  · have hne : ((a.length : Int) != (b.length : Int)) = true := by simp; omega
    have hd : decide (a = b) = false := by simp; rintro rfl; exact hl rfl
    rw [hd]
    clear hl hd
    go_wp2
    go_ret
    exact ⟨rfl, 0, rfl⟩
end Go.Proofs.YtbmpidacoohdmaaGreat.Rn
namespace Go.Proofs.YtbmpidacoohdmaaGreat.Rn
open Lib renaming hid → hI
open Go.RowKit

def Oks (l : List Chg) : Prop := ∀ (k : Nat) (x : Chg), l[k]? = some x → x.ok
theorem flat_len (l : List Chg) (h : Oks l) : (l.flatMap Chg.cells).length = l.length * 70 := by
  induction l with
  | nil => rfl
  | cons a l ih =>
    have h0 : a.ok := h 0 a rfl
    have h1 : Oks l := fun k x hx => h (k + 1) x (by simpa using hx)
    rw [List.flatMap_cons, List.length_append, ih h1, Chg.cells_length _ h0, List.length_cons]
    omega
theorem flat_at (l : List Chg) (h : Oks l) : ∀ (k : Nat) (c : Chg) (j : Nat) (v : Value), l[k]? = some c → c.cells[j]? = some v → (l.flatMap Chg.cells)[k * 70 + j]? = some v := by
  induction l with
  | nil => intro k c j v hc; simp at hc
  | cons a l ih =>
    intro k c j v hc hv
    have h0 : a.ok := h 0 a rfl
    have h1 : Oks l := fun k x hx => h (k + 1) x (by simpa using hx)
    rw [List.flatMap_cons]
    rcases k with _ | k
    · simp only [List.getElem?_cons_zero, Option.some.injEq] at hc
      subst hc
      have hj : j < a.cells.length := (List.getElem?_eq_some_iff.1 hv).1
      rw [List.getElem?_append_left (by omega)]
      simpa using hv
    · simp only [List.getElem?_cons_succ] at hc
      rw [List.getElem?_append_right (by rw [Chg.cells_length _ h0]; omega), Chg.cells_length _ h0, show (k + 1) * 70 + j - 70 = k * 70 + j by omega]
      exact ih h1 k c j v hc hv
theorem own_reads {w : World} {B : Nat} {v : Value} {l : List Chg} (h : Oks l) (ho : w.ownsRow B 53 70 v l.length (l.flatMap Chg.cells)) : ∃ A c, v = .slice A l.length c ∧ LReads w w.heap.size A l := by
  rcases ho.2 with ⟨rfl, h0⟩ | ⟨b, cap, cur, rfl, hb, hh, hrest⟩
  · have hl : l = [] := List.eq_nil_of_length_eq_zero h0
    subst hl
    exact ⟨none, 0, rfl, fun k c hc => by simp at hc⟩
  · refine ⟨some ⟨b, 0, none⟩, cap, rfl, fun k c hc => ⟨⟨b, 0, none⟩, rfl, (Array.getElem?_eq_some_iff.1 hh).1, fun j u hu => ?_⟩⟩
    have hk : k < l.length := (List.getElem?_eq_some_iff.1 hc).1
    have hj : j < 70 := by have := (List.getElem?_eq_some_iff.1 hu).1; rwa [Chg.cells_length _ (h k c hc)] at this
    rw [add_add, Addr.add_lit, Nat.zero_add, ho.cellAt (k * 70 + j) (by omega)]
    exact flat_at l h k c j u hc hu
theorem oks_get {l : List Chg} (h : Oks l) {k : Nat} (hk : k < l.length) : (l.getD k default).ok := h k _ (by simp [hk])
theorem out_oks (l : List Chg) (h : Oks l) (s : St) (hfr : ∀ k, 0 < s.kd.getD k 0 → ∃ i : Nat, i < l.length ∧ s.fr.getD k 0 = i) : ∀ k, k ≤ l.length → ∀ x ∈ outTo l s k, x.ok := by
  intro k
  induction k with
  | zero => intro _ x hx; simp [outTo] at hx
  | succ k ih =>
    intro hk x hx
    unfold outTo at hx
    split at hx
    · exact ih (by omega) x hx
    · rcases List.mem_append.1 hx with hx | hx
      · exact ih (by omega) x hx
      · simp only [List.mem_cons, List.not_mem_nil, or_false] at hx
        subst hx
        have hok := oks_get h (k := k) (by omega)
        unfold newChg
        split
        · rename_i hkd
          obtain ⟨i, hi, hfi⟩ := hfr k hkd
          rw [hfi, Int.toNat_natCast]
          have hoki := oks_get h hi
          exact ⟨hoki.oid, hok.nid, hoki.old, hok.new⟩
        · exact hok
theorem oks_of_mem {l : List Chg} (h : ∀ x ∈ l, x.ok) : Oks l := fun _ x hx => h x (List.mem_of_getElem? hx)

def exactL (l : List Chg) : List Chg := outTo l (refTo l l.length) l.length
theorem exactL_oks (l : List Chg) (h : Oks l) : Oks (exactL l) := oks_of_mem (out_oks l h _ (fr_ref l) _ (Nat.le_refl _))
/-- rename.Exact. -/
theorem prog_any {w : World} {l : List Chg} {A : Option Addr} {c : Nat} (hl : LReads w w.heap.size A l) (ok : Oks l) (hn : l.length ≤ 40) :
    Calls Tryz.prog 26 #[.slice A l.length c] w fun e w' => ∃ D d, e = .returned (.slice D (exactL l).length d) ∧ LReads w' w'.heap.size D (exactL l) ∧ Below w.heap.size w w' :=
  (exact_prog hl ok hn (fr_prog l)).mono fun e w' ⟨v, B, he, ho, hb⟩ => by
    rw [same_out] at ho
    obtain ⟨D, d, rfl, hr⟩ := own_reads (exactL_oks l ok) ho
    exact ⟨D, d, he, hr, hb⟩
end Go.Proofs.YtbmpidacoohdmaaGreat.Rn
namespace Go.Proofs.YtbmpidacoohdmaaGreat
open Lib renaming hid → hI
open Go.RowKit Op
open Rn (Chg LReads CellsAt)

theorem Bth.keep {S : Nat → Prop} {w w2 : World} {B b g m gd : Nat} {ov : Value} {ks : List Kpt} {n : Nat} {f : List UInt8 → Option (List UInt8)} (h : Bth w B b g m gd ov ks n f) (hc : Chs S w w2) (hS : ∀ q, S q → ∃ cs fr, w.heap[q]? = some (.cells cs 51 fr)) : Bth w2 B b g m gd ov ks n f := by
  obtain ⟨cl, hb⟩ := h.blk
  obtain ⟨l, kn, t, hp, h1, h2, h3⟩ := h.psp
  obtain ⟨l2, A, c, fr, t2, hr, h4, h5, h6⟩ := h.rsp
  obtain ⟨D, ⟨es, clk, hm, _⟩, _⟩ := hp.map
  have hne : ∀ ty, ty ≠ 51 → Non S w ty := fun ty hty q hq cs fr hh => by
    obtain ⟨cs2, f2, e⟩ := hS q hq
    have := e.symm.trans hh
    injection this with this
    injection this with _ e
    exact hty e.symm
  refine ⟨⟨cl, (hc.block b (Array.getElem?_eq_some_iff.1 hb).1 (fun q => hne _ (by decide) b q _ _ hb)).trans hb⟩, ⟨l, kn, t, hp.far hc (hne _ (by decide)) (fun q => hne _ (by decide) g q _ _ hp.blk) (fun q => by
    obtain ⟨cs2, f2, e⟩ := hS m q
    have := e.symm.trans hm
    injection this with this
    cases this), h1, h2, h3⟩, ⟨l2, A, c, fr, t2, hr.far hc (hne _ (by decide)) (hne _ (by decide)) (fun q => hne _ (by decide) gd q _ _ hr.blk), h4, h5, h6⟩, own_chs h.own hc (fun q e hq => ?_), h.ids, h.few, h.low⟩
  obtain ⟨_, ⟨e1, _⟩ | ⟨g9, cap, cur, e1, _, e3, _⟩⟩ := h.own
  · rw [e1] at e; cases e
  · rw [e1] at e
    obtain rfl : g9 = q := by simpa [Value.ownBlock] using e
    exact hne _ (by decide) g9 hq _ _ e3
theorem Bth.below {w w2 : World} {B b g m gd : Nat} {ov : Value} {ks : List Kpt} {n : Nat} {f : List UInt8 → Option (List UInt8)} (h : Bth w B b g m gd ov ks n f) (hb : Below w.heap.size w w2) : Bth w2 B b g m gd ov ks n f := h.keep (Chs.of_below hb (fun _ => False)) (fun _ hq => hq.elim)
theorem own_typ {w : World} {C size : Nat} {e : TypeId} {v : Value} {n : Nat} {xs : List Value} (h : w.ownsRow C e size v n xs) (q : Nat) (hq : some q = v.ownBlock) : ∃ cs fr, w.heap[q]? = some (.cells cs e fr) := by
  obtain ⟨_, ⟨h1, h2⟩ | ⟨g, cap, cur, h1, h2, h3, h4⟩⟩ := h
  · rw [h1] at hq; cases hq
  · rw [h1] at hq
    obtain rfl : q = g := by simpa [Value.ownBlock] using hq
    exact ⟨_, _, h3⟩
/-- A text's bytes, made. -/
theorem run_by (w : World) (l : List UInt8) : ∃ c w2, (convert 9 57 (.string (bs l))).run Tryz.prog w = .ok (.slice (some ⟨w.heap.size, 0, none⟩) l.length c) w2 ∧ By w2 (.slice (some ⟨w.heap.size, 0, none⟩) l.length c) l ∧ Below w.heap.size w w2 := by
  have h := run_bytes_of_string (P := Tryz.prog) w 9 57 5 (bs l) Tryz.underlying9 Tryz.underlying57 Tryz.underlying5
  have hc := grownCap_ge w (bs l).size 0 5
  rw [bs_size] at h hc
  refine ⟨_, _, h, ⟨w.heap.size, _, rfl, hc, fun k x hx => ⟨_, rfl, by simp, ?_⟩, _, _, heap_alloc_new w.drew _⟩, ⟨rfl, rfl, rfl, by simp, fun k hk => Below.heap_alloc w.drew _ k hk⟩⟩
  have hk : k < l.length := by have := (List.getElem?_eq_some_iff.1 hx).1; rwa [bys_len] at this
  have hb := bytesRow_at (bs l) (grownCap w l.length 0 5) k (by simpa [bs] using hk)
  have hn : (w.drew.alloc (.cells (bytesRow (bs l) (grownCap w l.length 0 5)) 5 ((bytesRow (bs l) (grownCap w l.length 0 5)).size, (bytesRow (bs l) (grownCap w l.length 0 5)).size + 1))).heap[w.heap.size]? = some (.cells (bytesRow (bs l) (grownCap w l.length 0 5)) 5 ((bytesRow (bs l) (grownCap w l.length 0 5)).size, (bytesRow (bs l) (grownCap w l.length 0 5)).size + 1)) := heap_alloc_new w.drew _
  rw [Addr.add_lit, Nat.zero_add, cell_of_row _ _ _ _ _ _ hn, hb, ← hx]
  simp [bys, bs, hk]
/-- The texts that count. -/
def bodB (ts : List (List UInt8)) : List (List UInt8) := (ts.take 8).map (·.take 400)
def ninB : List UInt8 := 9 :: List.replicate 31 0
/-- The ids that changes are made of. -/
def idsB (ts : List (List UInt8)) (k : Nat) : List (List UInt8) := ninB :: ((bodB ts).take k).map (fun b => shaOf (objB b))
def stoF (ts : List (List UInt8)) (k : Nat) : List UInt8 → Option (List UInt8) := ((bodB ts).take k).foldl (fun f b => putF f (shaOf (objB b)) b) (fun _ => none)
theorem bodB_len (ts : List (List UInt8)) : (bodB ts).length = min 8 ts.length := by simp [bodB]
theorem bodB_at {ts : List (List UInt8)} {k : Nat} {t : List UInt8} (hk : k < 8) (h : ts[k]? = some t) : (bodB ts)[k]? = some (t.take 400) := by
  simp [bodB, hk, h]
theorem idsB_succ {ts : List (List UInt8)} {k : Nat} {b : List UInt8} (h : (bodB ts)[k]? = some b) : idsB ts (k + 1) = idsB ts k ++ [shaOf (objB b)] := by
  simp [idsB, List.take_add_one, h]
theorem stoF_succ {ts : List (List UInt8)} {k : Nat} {b : List UInt8} (h : (bodB ts)[k]? = some b) : stoF ts (k + 1) = putF (stoF ts k) (shaOf (objB b)) b := by
  simp [stoF, List.take_add_one, h, List.foldl_append]
theorem idsB_len {ts : List (List UInt8)} {k : Nat} (h : k ≤ (bodB ts).length) : (idsB ts k).length = k + 1 := by simp [idsB]; omega
theorem ninB_len : ninB.length = 32 := by simp [ninB]
theorem idsB_mem {ts : List (List UInt8)} {k : Nat} : ∀ x ∈ idsB ts k, x.length = 32 := by
  intro x hx
  rcases List.mem_cons.1 hx with rfl | hx
  · exact ninB_len
  · obtain ⟨b, _, rfl⟩ := List.mem_map.1 hx
    exact shaOf_len _
theorem below_chs {S : Nat → Prop} {B : Nat} {a w w2 : World} (h : Below B a w) (hc : Chs S w w2) (hB : B ≤ w.heap.size) (hS : ∀ q, S q → B ≤ q) : Below B a w2 :=
  ⟨hc.os.trans h.os, hc.tape.trans h.tape, hc.output.trans h.output, Nat.le_trans h.size hc.size, fun k hk => (hc.block k (Nat.lt_of_lt_of_le hk hB) (fun q => by have := hS k q; omega)).trans (h.block k hk)⟩
theorem Bth.blt {w : World} {B b g m gd : Nat} {ov : Value} {ks : List Kpt} {n : Nat} {f : List UInt8 → Option (List UInt8)} (h : Bth w B b g m gd ov ks n f) : b < w.heap.size := by
  obtain ⟨cl, hb⟩ := h.blk
  exact (Array.getElem?_eq_some_iff.1 hb).1
theorem Bth.bst {w : World} {B b g m gd : Nat} {ov : Value} {ks : List Kpt} {n : Nat} {f : List UInt8 → Option (List UInt8)} (h : Bth w B b g m gd ov ks n f) : ∀ q, Bst b g m gd ov q → B ≤ q := by
  obtain ⟨h1, h2, h3, h4⟩ := h.low
  rintro q (rfl | rfl | rfl | rfl | hq)
  · exact h1
  · exact h2
  · exact h3
  · exact h4
  · exact (h.own.lt q hq.symm).1
attribute [local go_sem] bs_append bs_size
attribute [local go_sem ↓] bsI_eq load42_eq store42_eq new42_eq run_new42
def bldI (ps : Array (Nat × Value)) : Sem Value := Instr.build 51 ps
theorem bldI_eq (ps : Array (Nat × Value)) : Instr.build 51 ps = bldI ps := rfl
theorem run_bldI (W : World) : (bldI #[(0, .int .u8 9)]).run Tryz.prog W = .ok (.agg (bys ninB).toArray) W := run_build W _ _ _ (by kernel_rfl)
attribute [local go_sem ↓] bldI_eq
attribute [local go_sem] run_bldI
end Go.Proofs.YtbmpidacoohdmaaGreat
namespace Go.Proofs.YtbmpidacoohdmaaGreat
open Lib renaming hid → hI
open Go.RowKit Op
open Rn (Chg LReads CellsAt)

/-- A change, its ids out of a list of ids. -/
def chgAt (ids : List (List UInt8)) (ps : List (UInt8 × UInt8)) (L : List Chg) (k : Nat) : Chg := match ps[k]? with
  | some p => { L.getD k default with oid := intsU (ids.getD (p.1.toNat % ids.length) []), nid := intsU (ids.getD (p.2.toNat % ids.length) []) }
  | none => L.getD k default
def chgTo (ids : List (List UInt8)) (ps : List (UInt8 × UInt8)) (L : List Chg) : Nat → List Chg
  | 0 => []
  | k + 1 => chgTo ids ps L k ++ [chgAt ids ps L k]
theorem chgTo_len (ids : List (List UInt8)) (ps : List (UInt8 × UInt8)) (L : List Chg) : ∀ k, (chgTo ids ps L k).length = k
  | 0 => rfl
  | k + 1 => by rw [chgTo, List.length_append, chgTo_len ids ps L k]; rfl
theorem oks_at {L : List Chg} (h : Rn.Oks L) {k : Nat} (hk : k < L.length) : (L.getD k default).ok := h k _ (by simp [hk])
theorem ok_ids {c : Chg} (h : c.ok) {a b : List UInt8} (ha : a.length = 32) (hb : b.length = 32) : ({ c with oid := intsU a, nid := intsU b } : Chg).ok := ⟨by simp [intsU, ha], by simp [intsU, hb], h.old, h.new⟩
theorem splice37 {c : Chg} (h : c.ok) (y : List Int) (hy : y.length = 32) : Rn.splice c.row 37 (Rn.u8s y).toArray = ({ c with nid := y } : Chg).row := by
  unfold Rn.splice Chg.row
  simp only [List.size_toArray, Rn.u8s_length, hy]
  congr 1
  have e1 : c.cells.take 37 = [.int .i64 c.kind, .string c.old, .string c.new, .int .i64 c.om, .int .i64 c.nm] ++ Rn.u8s c.oid := by
    have e : c.cells = ([.int .i64 c.kind, .string c.old, .string c.new, .int .i64 c.om, .int .i64 c.nm] ++ Rn.u8s c.oid) ++ (Rn.u8s c.nid ++ [.int .i64 c.score]) := by simp [Chg.cells]
    rw [e]
    exact List.take_left' (by simp [Rn.u8s_length, h.oid])
  have e2 : c.cells.drop (37 + 32) = [.int .i64 c.score] := by
    have e : c.cells = (([.int .i64 c.kind, .string c.old, .string c.new, .int .i64 c.om, .int .i64 c.nm] ++ Rn.u8s c.oid) ++ Rn.u8s c.nid) ++ [.int .i64 c.score] := by simp [Chg.cells]
    rw [e]
    exact List.drop_left' (by simp [Rn.u8s_length, h.oid, h.nid])
  rw [e1, e2]
  simp [Chg.cells]
theorem prs_at (ps : List (UInt8 × UInt8)) : ∀ {k : Nat} {p : UInt8 × UInt8}, ps[k]? = some p → (ps.flatMap fun p => [Value.int .u8 (p.1.toNat : Int), .int .u8 (p.2.toNat : Int)])[k * 2]? = some (.int .u8 (p.1.toNat : Int)) ∧ (ps.flatMap fun p => [Value.int .u8 (p.1.toNat : Int), .int .u8 (p.2.toNat : Int)])[k * 2 + 1]? = some (.int .u8 (p.2.toNat : Int)) := by
  induction ps with
  | nil => intro k p h; simp at h
  | cons y ps ih =>
    intro k p h
    cases k with
    | zero =>
      obtain rfl : y = p := by simpa using h
      exact ⟨rfl, rfl⟩
    | succ k =>
      have := ih (k := k) (p := p) (by simpa using h)
      rw [show (k + 1) * 2 = k * 2 + 1 + 1 by omega]
      simpa using this
theorem bys_rn (l : List UInt8) : bys l = Rn.u8s (intsU l) := by simp [bys, Rn.u8s, intsU]
theorem st_oid {W : World} {g : Nat} {c : Chg} (h : Ar W g 53 c.cells) (ok : c.ok) {y : List UInt8} (hy : y.length = 32) : (store42 ⟨g, 5, none⟩ (.agg (bys y).toArray)).run Tryz.prog W = .ok () (W.setRow g ({ c with oid := intsU y } : Chg).row) := by
  have e := Rn.run_store44 (W := W) (n := g) 5 (bys y).toArray (by rw [bys_rn]; exact Rn.u8_one _) (by simp [bys, hy]) (Rn.free_of h) (by rw [Rn.row_of h, List.size_toArray, c.cells_length ok]; omega)
  rw [Rn.row_of h, bys_rn, show (c.cells.toArray : Array Value) = c.row from rfl, Rn.Chg.splice5 _ ok (intsU y) (by simp [intsU, hy]), ← bys_rn] at e
  exact e
theorem st_nid {W : World} {g : Nat} {c : Chg} (h : Ar W g 53 c.cells) (ok : c.ok) {y : List UInt8} (hy : y.length = 32) : (store42 ⟨g, 37, none⟩ (.agg (bys y).toArray)).run Tryz.prog W = .ok () (W.setRow g ({ c with nid := intsU y } : Chg).row) := by
  have e := Rn.run_store44 (W := W) (n := g) 37 (bys y).toArray (by rw [bys_rn]; exact Rn.u8_one _) (by simp [bys, hy]) (Rn.free_of h) (by rw [Rn.row_of h, List.size_toArray, c.cells_length ok]; omega)
  rw [Rn.row_of h, bys_rn, show (c.cells.toArray : Array Value) = c.row from rfl, splice37 ok (intsU y) (by simp [intsU, hy]), ← bys_rn] at e
  exact e
theorem ld46 {W : World} {g : Nat} {c : Chg} (h : Ar W g 53 c.cells) (ok : c.ok) : (Rn.load46 ⟨g, 0, none⟩).run Tryz.prog W = .ok (.agg c.row) W := h.load (c.cells_length ok) Tryz.underlying53 rfl Rn.info46
theorem st46 {W : World} {g : Nat} {c d : Chg} (h : Ar W g 53 c.cells) (ok : c.ok) (okd : d.ok) : (Rn.store46 ⟨g, 0, none⟩ (.agg d.row)).run Tryz.prog W = .ok () (W.setRow g d.row) := h.store (c.cells_length ok) (d.cells_length okd) (Rn.Chg.cells_one d) Rn.info46
def zC : Chg := ⟨0, ByteArray.empty, ByteArray.empty, 0, 0, List.replicate 32 0, List.replicate 32 0, 0⟩
theorem zC_ok : zC.ok := ⟨rfl, rfl, Nat.zero_le _, Nat.zero_le _⟩
theorem slC : Sl Tryz.prog 23 53 70 128 := ⟨Tryz.underlying23, by kernel_rfl, by decide⟩
attribute [local go_sem] bs_append bs_size Rn.run_new46
attribute [local go_sem ↓] load42_eq store42_eq Rn.load46_eq Rn.store46_eq Rn.new46_eq Rn.lit22_eq
noncomputable def mad_l_code : Code := ((Tryz.f6.body.map loopsIn).getD []).getD 1 .skip
set_option maxRecDepth 100000 in
set_option maxHeartbeats 1000000 in
theorem mad_l (w : World) (q gi ic cl ci : Nat) (Al Ai : Option Addr) (tv : Value) (o1 o2 : Int) (o3 : Bool) (ids : List (List UInt8)) (L : List Chg) (ps : List (UInt8 × UInt8)) (hq : Ar w q 28 [tv, .slice Al L.length cl, .slice Ai ps.length ci, .int .i64 o1, .int .i64 o2, .bool o3]) (hids : ∀ x ∈ ids, x.length = 32) (h0 : 0 < ids.length) (h9 : ids.length ≤ 9) (_hic : ids.length ≤ ic) (hi : Rv w.heap.size w (some ⟨gi, 0, none⟩) (ids.flatMap bys)) (hl : LReads w w.heap.size Al L) (ok : Rn.Oks L) (hp : Rv w.heap.size w Ai (ps.flatMap fun p => [.int .u8 (p.1.toNat : Int), .int .u8 (p.2.toNat : Int)])) (_hll : L.length ≤ maxLen) (_hpl : ps.length ≤ maxLen) (Q0 : Exit → Act → World → Prop) (z0 z2 z3 z4 z5 z6 z8 z9 z12 z13 z14 z15 z16 z17 z18 z19 z20 z21 z22 z23 z24 z25 z26 z27 z28 z29 z30 z31 z32 z33 z34 z35 z36 z37 z38 z39 z40 z41 z42 z43 z44 z45 z46 z47 z48 z49 z50 z51 z52 z53 z54 z55 z56 z57 z58 z59 z60 z61 z62 z63 z64 z65 z66 z67 z68 z69 z70 z71 z72 z73 z74 z75 z76 z77 z78 z79 z80 z81 z82 z83 z84 z85 z86 z87 z88 z89 z90 z91 z92 z93 z94 z95 z96 z97 z98 z99 z100 z101 z102 z103 z104 z105 z106 z107 : Value)
    (hexit : Hid (∀ (ov : Value) (wr : World) (y12 y51 y52 y53 y54 y55 y56 y57 y58 y59 y60 y61 y62 y63 y64 y65 y66 y67 y68 y69 y70 y71 y72 y73 y74 y75 y76 y77 y78 y79 y80 y81 y82 y83 y84 y85 y86 y87 y88 y89 y90 y91 y92 y93 y94 y95 y96 y97 y98 y99 y100 y101 y102 y103 : Value), Hid (wr.ownsRow w.heap.size 53 70 ov (min 12 L.length) ((chgTo ids ps L (min 12 L.length)).flatMap Chg.cells)) → Hid (Below w.heap.size w wr) → Q0 (.exit 2) ⟨List.toArray (z0::(.pointer (some ⟨q, 0, none⟩))::z2::z3::z4::z5::z6::(.slice (some ⟨gi, 0, none⟩) ids.length ic)::z8::z9::ov::(.int .i64 (min 12 L.length : Nat))::y12::z13::z14::z15::z16::z17::z18::z19::z20::z21::z22::z23::z24::z25::z26::z27::z28::z29::z30::z31::z32::z33::z34::z35::z36::z37::z38::z39::z40::z41::z42::z43::z44::z45::z46::z47::z48::z49::z50::y51::y52::y53::y54::y55::y56::y57::y58::y59::y60::y61::y62::y63::y64::y65::y66::y67::y68::y69::y70::y71::y72::y73::y74::y75::y76::y77::y78::y79::y80::y81::y82::y83::y84::y85::y86::y87::y88::y89::y90::y91::y92::y93::y94::y95::y96::y97::y98::y99::y100::y101::y102::y103::z104::z105::z106::z107::[]), []⟩ wr)) :
    Code.wp Tryz.prog (Code.loop mad_l_code) Q0 ⟨List.toArray (z0::(.pointer (some ⟨q, 0, none⟩))::z2::z3::z4::z5::z6::(.slice (some ⟨gi, 0, none⟩) ids.length ic)::z8::z9::(.slice none 0 0)::(.int .i64 0)::z12::z13::z14::z15::z16::z17::z18::z19::z20::z21::z22::z23::z24::z25::z26::z27::z28::z29::z30::z31::z32::z33::z34::z35::z36::z37::z38::z39::z40::z41::z42::z43::z44::z45::z46::z47::z48::z49::z50::z51::z52::z53::z54::z55::z56::z57::z58::z59::z60::z61::z62::z63::z64::z65::z66::z67::z68::z69::z70::z71::z72::z73::z74::z75::z76::z77::z78::z79::z80::z81::z82::z83::z84::z85::z86::z87::z88::z89::z90::z91::z92::z93::z94::z95::z96::z97::z98::z99::z100::z101::z102::z103::z104::z105::z106::z107::[]), []⟩ w := by
  conv => arg 2; arg 1; whnf
  have HQ := hI hq
  have HI := hI hi
  have HL := hI hl
  have HP := hI hp
  have HO := hI ok
  have HIDS := hI hids
  clear hq hi hl hp ok hids
  go_loopw [10, 11] (fun ov kv wr => ∃ k : Nat, k ≤ min 12 L.length ∧ kv = .int .i64 k ∧ Hid (wr.ownsRow w.heap.size 53 70 ov k ((chgTo ids ps L k).flatMap Chg.cells)) ∧ Hid (Below w.heap.size w wr)) (fun _ kv _ => min 12 L.length - (intOf kv).toNat)
  case atStart => exact ⟨0, Nat.zero_le _, rfl, hI (World.ownsRow_nil _ _ _ _), hI (Below.refl _ _)⟩
  case round =>
    obtain ⟨k, hk, rfl, ho, hb⟩ := hrel
    have QR := hI (HQ.out.below hb.out HQ.out.lt)
    have hq1 := QR.out.cell (k := 1) rfl
    have hq2 := QR.out.cell (k := 2) rfl
    by_cases hlt : k < min 12 L.length
    · have okx := oks_at HO.out (k := k) (by omega)
      obtain ⟨ad, rfl, _, hldx⟩ := Rn.run_load46_old HL.out (Nat.le_refl _) k (by omega) okx
      have hld := hldx wr (Rn.later_of_below hb.out (Nat.le_refl _))
      have HCH : Hid (chgTo ids ps L (k + 1) = chgTo ids ps L k ++ [chgAt ids ps L k]) := hI rfl
      have HCA : Hid (chgAt ids ps L k = match ps[k]? with
        | some p => { L.getD k default with oid := intsU (ids.getD (p.1.toNat % ids.length) []), nid := intsU (ids.getD (p.2.toNat % ids.length) []) }
        | none => L.getD k default) := hI rfl
      generalize L.getD k default = x at *
      have HOK := hI okx
      clear hldx okx
      have Z2 : Hid (Ar (wr.alloc (.cells Rn.zero46 53)) wr.heap.size 53 zC.cells) := hI (Ar.new wr zC.cells 53)
      have hst := st46 Z2.out zC_ok HOK.out
      have X3 := hI (Z2.out.setRow x.cells)
      have B3 := hI (below_row ((Below.refl wr.heap.size wr).alloc (Nat.le_refl _) (.cells Rn.zero46 53)) wr.heap.size x.row (Nat.le_refl _))
      change Hid (Ar ((wr.alloc (.cells Rn.zero46 53)).setRow wr.heap.size x.row) wr.heap.size 53 x.cells) at X3
      generalize hw3 : (wr.alloc (.cells Rn.zero46 53)).setRow wr.heap.size x.row = w3 at *
      have Q3 := hI (QR.out.below B3.out QR.out.lt)
      have O3 := hI (own_below ho.out B3.out)
      have L3 := hI (hb.out.trans (B3.out.mono hb.out.size))
      have hq23 := Q3.out.cell (k := 2) rfl
      obtain ⟨Dv, dv, hvv, _⟩ := own_all O3.out
      subst hvv
      by_cases hkp : k < ps.length
      · obtain ⟨⟨p1, p2⟩, hpk⟩ : ∃ p, ps[k]? = some p := ⟨ps[k], List.getElem?_eq_getElem hkp⟩
        obtain ⟨ad2, rfl, hb2, hcp1⟩ := HP.out.at_ (prs_at ps hpk).1
        obtain ⟨ad3, e3, _, hcp2⟩ := HP.out.at_ (prs_at ps hpk).2
        obtain rfl := Option.some.inj e3
        have g1 : w3.cell? (ad2.add (k * 2)) = some (.int .u8 (p1.toNat : Int)) := (L3.out.cell (by rw [block_add]; exact hb2)).trans hcp1
        have g2 : w3.cell? (ad2.add (k * 2 + 1)) = some (.int .u8 (p2.toNat : Int)) := (L3.out.cell (by rw [block_add]; exact hb2)).trans hcp2
        rw [← add_add] at g2
        have i1 := Nat.mod_lt p1.toNat h0
        have i2 := Nat.mod_lt p2.toNat h0
        have hu1 := p1.toNat_lt
        have hu2 := p2.toNat_lt
        have V3 := hI ((HI.out.below (show Below w.heap.size w w3 from L3.out)).more L3.out.size)
        have hlI1 := ld_row HIDS.out V3.out i1
        have hIL1 := HIDS.out _ (getD_mem i1)
        have hIL2 := HIDS.out _ (getD_mem i2)
        have hA2 := ld_row HIDS.out V3.out i2
        have HCA2 : Hid (chgAt ids ps L k = { x with oid := intsU (ids.getD (p1.toNat % ids.length) []), nid := intsU (ids.getD (p2.toNat % ids.length) []) }) := hI (by rw [HCA.out, hpk])
        clear hcp1 hcp2 e3 hA2 HCA hpk
        have hkn : (ids.getD (p1.toNat % ids.length) []).length = 32 := hIL1
        have V3b := V3
        obtain ⟨n1, hn1⟩ : ∃ n1, p1.toNat % ids.length = n1 := ⟨_, rfl⟩
        obtain ⟨n2, hn2⟩ : ∃ n2, p2.toNat % ids.length = n2 := ⟨_, rfl⟩
        rw [hn1] at HCA2 hlI1 hIL1 i1
        rw [hn2] at HCA2 hIL2 i2
        have hlI2' : ∀ W, Rv W.heap.size W (some ⟨gi, 0, none⟩) (ids.flatMap bys) → (load42 ⟨gi, n2 * 32, none⟩).run Tryz.prog W = .ok (.agg (bys (ids.getD n2 [])).toArray) W := fun W h => ld_row HIDS.out h i2
        have LI2 := hI hlI2'
        clear hlI2' hkn
        generalize ids.getD n1 [] = a1 at *
        generalize ids.getD n2 [] = a2 at *
        have ok4 : ({ x with oid := intsU a1 } : Chg).ok := ⟨by simp [intsU, hIL1], HOK.out.nid, HOK.out.old, HOK.out.new⟩
        have ok5 : ({ x with oid := intsU a1, nid := intsU a2 } : Chg).ok := ok_ids HOK.out hIL1 hIL2
        have hst4 := st_oid X3.out HOK.out hIL1
        have X4 : Hid (Ar (w3.setRow wr.heap.size ({ x with oid := intsU a1 } : Chg).row) wr.heap.size 53 ({ x with oid := intsU a1 } : Chg).cells) := hI (X3.out.setRow _)
        have b4 := below_row B3.out wr.heap.size ({ x with oid := intsU a1 } : Chg).row (Nat.le_refl _)
        generalize hw4 : w3.setRow wr.heap.size ({ x with oid := intsU a1 } : Chg).row = w4 at *
        have B4 := hI b4
        have Q4 := hI (QR.out.below b4 QR.out.lt)
        have L4 := hI (hb.out.trans (b4.mono hb.out.size))
        have hq24 := Q4.out.cell (k := 2) rfl
        have g24 : w4.cell? ⟨(ad2.add (k * 2)).block, (ad2.add (k * 2)).off + 1, none⟩ = some (.int .u8 (p2.toNat : Int)) := by
          have hcc : CellsAt w4 (ad2.add (k * 2)) [.int .u8 (p1.toNat : Int), .int .u8 (p2.toNat : Int)] := fun j v hv => by
            rcases j with _ | _ | j
            · obtain rfl := Option.some.inj hv
              rw [add_add]
              exact ((L4.out.cell (by rw [block_add]; exact hb2)).trans ((L3.out.cell (by rw [block_add]; exact hb2)).symm)).trans g1
            · obtain rfl := Option.some.inj hv
              rw [add_add]
              exact ((L4.out.cell (by rw [block_add]; exact hb2)).trans ((L3.out.cell (by rw [block_add]; exact hb2)).symm)).trans (by rw [← add_add]; exact g2)
            · simp at hv
          exact hcc.succ 0 rfl
        have hlI2 := LI2.out w4 ((HI.out.below (show Below w.heap.size w w4 from L4.out)).more L4.out.size)
        have hst5 := st_nid X4.out ok4 hIL2
        have X5 : Hid (Ar (w4.setRow wr.heap.size ({ x with oid := intsU a1, nid := intsU a2 } : Chg).row) wr.heap.size 53 ({ x with oid := intsU a1, nid := intsU a2 } : Chg).cells) := hI (X4.out.setRow _)
        have b5 := below_row B4.out wr.heap.size ({ x with oid := intsU a1, nid := intsU a2 } : Chg).row (Nat.le_refl _)
        generalize hw5 : w4.setRow wr.heap.size ({ x with oid := intsU a1, nid := intsU a2 } : Chg).row = w5 at *
        have O5 := hI (own_below ho.out b5)
        have L5 := hI (hb.out.trans (b5.mono hb.out.size))
        have HC2 := HCA2.out
        clear b4 b5 HCA2 hIL1 hIL2
        have HCB := hI HC2
        clear HC2 ok4
        have OK5 := hI ok5
        clear ok5
        have hld9 := ld46 X5.out OK5.out
        have hlit := fun W => Rn.run_lit22 W ({ x with oid := intsU a1, nid := intsU a2 } : Chg).row (Rn.Chg.row_size _ OK5.out)
        have b9 := (Below.refl w5.heap.size w5).alloc (Nat.le_refl _) (.cells ({ x with oid := intsU a1, nid := intsU a2 } : Chg).row 53)
        have O9 := hI (own_below O5.out b9)
        have L9 := hI (L5.out.trans (b9.mono L5.out.size))
        have N9 := hI (new_rv w5 ({ x with oid := intsU a1, nid := intsU a2 } : Chg).cells 53 ⟨w5.heap.size, 0, none⟩ rfl)
        have HL9 := hI (show ({ x with oid := intsU a1, nid := intsU a2 } : Chg).cells.length = 1 * 70 by rw [Chg.cells_length _ OK5.out])
        clear b9
        go_wp2_with (at_builtin; refine wpList_app slC rfl (.tmp 100) (.tmp 102) rfl w.heap.size _ k ((chgTo ids ps L k).flatMap Chg.cells) rfl O9.out (some ⟨w5.heap.size, 0, none⟩) 1 1 ({ x with oid := intsU a1, nid := intsU a2 } : Chg).cells rfl (fun q => by cases q) HL9.out N9.out (Rn.Chg.cells_one _) (by unfold maxLen; omega) (by omega) L9.out.size ?_; intro v7 w7 ho7 ha7; have O7 := hI ho7; have A7 := hI ha7.grown; clear ho7 ha7)
        exact ⟨⟨k + 1, by omega, by go_num, hI (by rw [HCH.out, HCB.out, List.flatMap_append, List.flatMap_singleton]; exact O7.out), hI (L9.out.grown A7.out L9.out.size (fun q hq => (O9.out.lt q hq).1))⟩, by simp [intOf]; omega⟩
      · have hpn : ps[k]? = none := List.getElem?_eq_none (by omega)
        have HCB : Hid (chgAt ids ps L k = x) := hI (by rw [HCA.out, hpn])
        clear HCA hpn
        have hld9 := ld46 X3.out HOK.out
        have hlit := fun W => Rn.run_lit22 W x.row (Rn.Chg.row_size _ HOK.out)
        have b9 := (Below.refl w3.heap.size w3).alloc (Nat.le_refl _) (.cells x.row 53)
        have O9 := hI (own_below O3.out b9)
        have L9 := hI (L3.out.trans (b9.mono L3.out.size))
        have N9 := hI (new_rv w3 x.cells 53 ⟨w3.heap.size, 0, none⟩ rfl)
        have HL9 := hI (show x.cells.length = 1 * 70 by rw [Chg.cells_length _ HOK.out])
        clear b9
        go_wp2_with (at_builtin; refine wpList_app slC rfl (.tmp 100) (.tmp 102) rfl w.heap.size _ k ((chgTo ids ps L k).flatMap Chg.cells) rfl O9.out (some ⟨w3.heap.size, 0, none⟩) 1 1 x.cells rfl (fun q => by cases q) HL9.out N9.out (Rn.Chg.cells_one _) (by unfold maxLen; omega) (by omega) L9.out.size ?_; intro v7 w7 ho7 ha7; have O7 := hI ho7; have A7 := hI ha7.grown; clear ho7 ha7)
        exact ⟨⟨k + 1, by omega, by go_num, hI (by rw [HCH.out, HCB.out, List.flatMap_append, List.flatMap_singleton]; exact O7.out), hI (L9.out.grown A7.out L9.out.size (fun q hq => (O9.out.lt q hq).1))⟩, by simp [intOf]; omega⟩
    · have hke : k = min 12 L.length := by omega
      subst hke
      rcases Nat.le_total L.length 12 with h | h
      · have e : min 12 L.length = L.length := by omega
        rw [e] at hexit ho ⊢
        go_wp2_with fail
        exact hexit.out _ _ _ _ _ _ _ _ _ _ _ _ _ _ _ _ _ _ _ _ _ _ _ _ _ _ _ _ _ _ _ _ _ _ _ _ _ _ _ _ _ _ _ _ _ _ _ _ _ _ _ _ _ _ _ _ ho hb
      · have e : min 12 L.length = 12 := by omega
        rw [e] at hexit ho ⊢
        by_cases h12 : L.length = 12
        · have h' : ¬ (12 : Int) < (L.length : Int) := by omega
          go_wp2_with fail
          exact hexit.out _ _ _ _ _ _ _ _ _ _ _ _ _ _ _ _ _ _ _ _ _ _ _ _ _ _ _ _ _ _ _ _ _ _ _ _ _ _ _ _ _ _ _ _ _ _ _ _ _ _ _ _ _ _ _ _ ho hb
        · have h' : (12 : Int) < (L.length : Int) := by omega
          go_wp2_with fail
          exact hexit.out _ _ _ _ _ _ _ _ _ _ _ _ _ _ _ _ _ _ _ _ _ _ _ _ _ _ _ _ _ _ _ _ _ _ _ _ _ _ _ _ _ _ _ _ _ _ _ _ _ _ _ _ _ _ _ _ ho hb
end Go.Proofs.YtbmpidacoohdmaaGreat
namespace Go.Proofs.YtbmpidacoohdmaaGreat
open Lib renaming hid → hI
open Go.RowKit Op
open Rn (Chg LReads CellsAt)

attribute [local go_sem] bs_append bs_size run_bldI
attribute [local go_sem ↓] bsI_eq load42_eq store42_eq new42_eq run_new42 bldI_eq
theorem Bth.less {w : World} {B C b g m gd : Nat} {ov : Value} {ks : List Kpt} {n : Nat} {f : List UInt8 → Option (List UInt8)} (h : Bth w C b g m gd ov ks n f) (hB : B ≤ C) : Bth w B b g m gd ov ks n f :=
  ⟨h.blk, h.psp, h.rsp, own_less h.own hB, h.ids, h.few, ⟨Nat.le_trans hB h.low.1, Nat.le_trans hB h.low.2.1, Nat.le_trans hB h.low.2.2.1, Nat.le_trans hB h.low.2.2.2⟩⟩
set_option maxRecDepth 100000 in
set_option maxHeartbeats 1000000 in
theorem ok_any (w : World) (B b g m gd : Nat) (ov : Value) (ks : List Kpt) (n : Nat) (f : List UInt8 → Option (List UInt8)) (h : Bth w B b g m gd ov ks n f) : Calls Tryz.prog 16 #[.pointer (some ⟨b, 0, none⟩)] w fun e w2 => e = .returned (.bool true) ∧ w = w2 := by
  obtain ⟨cl, hb⟩ := h.blk
  have hc8 : w.cell? ⟨b, 8, none⟩ = some (.bool false) := by rw [cell_of_row w b 8 _ _ _ hb]; rfl
  clear h hb
  go_enter Tryz.func16, Tryz.ntmps16
  go_wp2_with fail
  go_ret
  exact ⟨rfl, rfl⟩
set_option maxRecDepth 100000 in
set_option maxHeartbeats 1000000 in
theorem made_any (w : World) (At Al Ai : Option Addr) (ct cl ci : Nat) (ts : List (List UInt8)) (L0 : List Chg) (ps : List (UInt8 × UInt8)) (o1 o2 : Int) (o3 : Bool)
    (ht : Rv w.heap.size w At (strs (ts.map bs))) (hl : LReads w w.heap.size Al L0) (ok : Rn.Oks L0) (hp : Rv w.heap.size w Ai (ps.flatMap fun p => [.int .u8 (p.1.toNat : Int), .int .u8 (p.2.toNat : Int)])) (_htl : ts.length ≤ maxLen) (hll : L0.length ≤ maxLen) (hpl : ps.length ≤ maxLen) (hts : ∀ t ∈ ts, t.length ≤ maxLen) :
    Calls Tryz.prog 6 #[.agg #[.slice At ts.length ct, .slice Al L0.length cl, .slice Ai ps.length ci, .int .i64 o1, .int .i64 o2, .bool o3]] w fun e w2 => ∃ b g m gd ova ks v, e = .returned (.tuple #[.pointer (some ⟨b, 0, none⟩), v, .bool true]) ∧ Bth w2 w.heap.size b g m gd ova ks (bodB ts).length (stoF ts (bodB ts).length) ∧ w2.ownsRow w.heap.size 53 70 v (min 12 L0.length) ((chgTo (idsB ts (bodB ts).length) ps L0 (min 12 L0.length)).flatMap Chg.cells) ∧ Below w.heap.size w w2 := by
  have B0 := hI ((Below.refl w.heap.size w).alloc (Nat.le_refl _) (.cells #[.slice At ts.length ct, .slice Al L0.length cl, .slice Ai ps.length ci, .int .i64 o1, .int .i64 o2, .bool o3] 28))
  have Q0 := hI (Ar.new w [.slice At ts.length ct, .slice Al L0.length cl, .slice Ai ps.length ci, .int .i64 o1, .int .i64 o2, .bool o3] 28)
  have HT := hI ht
  have HL := hI hl
  have HP := hI hp
  have HO := hI ok
  have HTS := hI hts
  clear ht hl hp ok hts
  have hq0 := Q0.out.cell (k := 0) rfl
  generalize hw0 : w.alloc (.cells #[.slice At ts.length ct, .slice Al L0.length cl, .slice Ai ps.length ci, .int .i64 o1, .int .i64 o2, .bool o3] 28) = w0 at *
  have hsz0 : w.heap.size < w0.heap.size := Q0.out.lt
  go_enter Tryz.func6, Tryz.ntmps6
  go_wp2_with fail
  refine (built_any w0).mono ?_
  rintro e w1 ⟨b, g, m, gd, rfl, hb1, hlo1⟩
  have H1 := hI hb1
  have B1 := hI (B0.out.trans (hlo1.mono B0.out.size))
  have Q1 := hI (Q0.out.below hlo1 Q0.out.lt)
  have b1 := (Below.refl w1.heap.size w1).alloc (Nat.le_refl _) (.cells (bys ninB).toArray 51)
  have H2 := hI (H1.out.below b1)
  have B2 := hI (B1.out.trans (b1.mono B1.out.size))
  have Q2 := hI (Q1.out.below b1 Q1.out.lt)
  have hbs := run_bsI ninB ninB_len
  have hbB : w0.heap.size ≤ w1.heap.size := hlo1.size
  have O2 : Hid ((w1.alloc (.cells (bys ninB).toArray 51)).ownsRow w0.heap.size 51 32 (.slice (some ⟨w1.heap.size, 0, none⟩) 1 1) (0 + 1) ((idsB ts 0).flatMap bys)) :=
    hI ⟨by simp [idsB, bys_len, ninB_len], .inr ⟨w1.heap.size, 1, (bys ninB).toArray, rfl, hbB, heap_alloc_new w1 _, Nat.le_refl _, by unfold maxLen; omega, by simp [bys_len, ninB_len], by simp [idsB]; rw [List.take_of_length_le (by rw [bys_len, ninB_len]; omega)]⟩⟩
  clear hb1 hlo1 b1
  go_wp2_with fail
  go_loopw [7, 8] (fun ov kv wr => ∃ (k : Nat) (ova : Value) (ks : List Kpt), k ≤ (bodB ts).length ∧ kv = .int .i64 k ∧ Hid (Bth wr w0.heap.size b g m gd ova ks k (stoF ts k)) ∧ Hid (wr.ownsRow w0.heap.size 51 32 ov (k + 1) ((idsB ts k).flatMap bys)) ∧ Hid (Ar wr w.heap.size 28 [.slice At ts.length ct, .slice Al L0.length cl, .slice Ai ps.length ci, .int .i64 o1, .int .i64 o2, .bool o3]) ∧ Hid (Below w.heap.size w wr)) (fun _ kv _ => (bodB ts).length - (intOf kv).toNat)
  case atStart => exact ⟨0, .slice none 0 0, [], Nat.zero_le _, rfl, H2, O2, Q2, B2⟩
  case round =>
    obtain ⟨k, ova, ks, hk, rfl, hb, ho, hq, hlo⟩ := hrel
    have hq0 := hq.out.cell (k := 0) rfl
    have hbl := bodB_len ts
    by_cases hlt : k < (bodB ts).length
    · obtain ⟨t, htk⟩ : ∃ t, ts[k]? = some t := ⟨ts[k]'(by omega), List.getElem?_eq_getElem (by omega)⟩
      obtain ⟨ad, rfl, hadb, hcell⟩ := HT.out.at_ (k := k) (x := .string (bs t)) (by simp [strs, htk])
      have hcs : wr.cell? (ad.add k) = some (.string (bs t)) := (hlo.out.cell (by rw [block_add]; exact hadb)).trans hcell
      have htsz : (bs t).size ≤ maxLen := by rw [bs_size]; exact HTS.out t (List.mem_of_getElem? htk)
      have HBK := hI (bodB_at (by omega) htk)
      clear hcell
      obtain ⟨bd, hbde⟩ : ∃ bd, t.take 400 = bd := ⟨_, rfl⟩
      rw [hbde] at HBK
      have hbd : bd.length ≤ 400 := by rw [← hbde, List.length_take]; omega
      obtain ⟨cc, wc, hrun, hby, hbe⟩ := run_by wr bd
      have BY := hI hby
      have HC := hI (hb.out.below hbe)
      have OC := hI (own_below ho.out hbe)
      have QC := hI (hq.out.below hbe hq.out.lt)
      have LC := hI (hlo.out.trans (hbe.mono hlo.out.size))
      have hBc : w0.heap.size ≤ wc.heap.size := Nat.le_trans HC.out.low.1 (Nat.le_of_lt HC.out.blt)
      obtain ⟨Dv, dv, hvv, _⟩ := own_all OC.out
      subst hvv
      clear hb ho hq hby hbe
      by_cases h4 : 400 < t.length
      · have hex : (bs t).extract 0 400 = bs bd := by rw [bs_ext, ← hbde]; simp
        clear hbde
        go_wp2_with fail
        refine (bput_any wc w0.heap.size b g m gd ova ks k (stoF ts k) HC.out (by omega) bd hbd wr.heap.size cc BY.out hBc).mono ?_
        rintro e w5 ⟨rfl, ova2, hb5, hc5⟩
        have hi := shaOf_len (objB bd)
        have HSX := hI (stoF_succ HBK.out)
        have HIX := hI (idsB_succ HBK.out)
        rw [← HSX.out] at hb5
        generalize shaOf (objB bd) = id at *
        have H5 := hI hb5
        have NI : Hid (Non (Bst b g m gd ova) wc 51) := hI (HC.out.non (by decide) (by decide) (by decide) (by decide))
        have NA : Hid (Non (Bst b g m gd ova) wc 28) := hI (HC.out.non (by decide) (by decide) (by decide) (by decide))
        have O5 := hI (own_chs OC.out hc5 (fun q e hS => by
          obtain ⟨cs, fr, hh⟩ := own_typ OC.out q e.symm
          exact NI.out q hS cs fr hh))
        have Q5 := hI (QC.out.chs hc5 NA.out)
        have B5 := hI (below_chs LC.out hc5 (Nat.le_trans (Nat.le_of_lt hsz0) hBc) (fun q hq => Nat.le_trans (Nat.le_of_lt hsz0) (HC.out.bst q hq)))
        have hs5 := hc5.size
        have hbs := run_bsI id hi
        have b6 := (Below.refl w5.heap.size w5).alloc (Nat.le_refl _) (.cells (bys id).toArray 51)
        have H6 := hI (H5.out.below b6)
        have O6 := hI (own_below O5.out b6)
        have Q6 := hI (Q5.out.below b6 Q5.out.lt)
        have B6 := hI (B5.out.trans (b6.mono B5.out.size))
        have NW := hI (new_rv w5 (bys id) 51 ⟨w5.heap.size, 0, none⟩ rfl)
        have HI2 := hI (show (bys id).length = 1 * 32 by rw [bys_len, hi])
        have hB6 : w0.heap.size ≤ (w5.alloc (.cells (bys id).toArray 51)).heap.size := Nat.le_trans hBc (Nat.le_trans hs5 b6.size)
        clear hb5 hc5 b6 hrun
        go_wp2_with (at_builtin; refine wpList_app slI rfl (.tmp 44) (.tmp 49) rfl w0.heap.size _ (k + 1) ((idsB ts k).flatMap bys) rfl O6.out (some ⟨w5.heap.size, 0, none⟩) 1 1 (bys id) rfl (fun q => by cases q) HI2.out NW.out (bys_one id) (by unfold maxLen; omega) (by omega) hB6 ?_; intro v7 w7 ho7 ha7; have O7 := hI ho7; have A7 := hI ha7.grown; clear ho7 ha7)
        have C7 := hI (Chs.of_row A7.out)
        refine ⟨⟨k + 1, ova2, _, by omega, by go_num, hI (H6.out.keep C7.out (fun q hq => own_typ O6.out q hq)), hI (by rw [HIX.out, List.flatMap_append, List.flatMap_singleton]; exact O7.out), hI (Q6.out.chs C7.out (fun q hq cs fr hh => by
          obtain ⟨cs2, f2, h2⟩ := own_typ O6.out q hq
          have := h2.symm.trans hh
          injection this with this
          injection this with _ e
          revert e; decide)), hI (B6.out.grown A7.out B6.out.size (fun q hq => Nat.le_trans (Nat.le_of_lt hsz0) (O6.out.lt q hq).1))⟩, by simp [intOf]; omega⟩
      · have htb : bd = t := by rw [← hbde, List.take_of_length_le (by omega)]
        subst htb
        clear hbde
        go_wp2_with fail
        refine (bput_any wc w0.heap.size b g m gd ova ks k (stoF ts k) HC.out (by omega) bd hbd wr.heap.size cc BY.out hBc).mono ?_
        rintro e w5 ⟨rfl, ova2, hb5, hc5⟩
        have hi := shaOf_len (objB bd)
        have HSX := hI (stoF_succ HBK.out)
        have HIX := hI (idsB_succ HBK.out)
        rw [← HSX.out] at hb5
        generalize shaOf (objB bd) = id at *
        have H5 := hI hb5
        have NI : Hid (Non (Bst b g m gd ova) wc 51) := hI (HC.out.non (by decide) (by decide) (by decide) (by decide))
        have NA : Hid (Non (Bst b g m gd ova) wc 28) := hI (HC.out.non (by decide) (by decide) (by decide) (by decide))
        have O5 := hI (own_chs OC.out hc5 (fun q e hS => by
          obtain ⟨cs, fr, hh⟩ := own_typ OC.out q e.symm
          exact NI.out q hS cs fr hh))
        have Q5 := hI (QC.out.chs hc5 NA.out)
        have B5 := hI (below_chs LC.out hc5 (Nat.le_trans (Nat.le_of_lt hsz0) hBc) (fun q hq => Nat.le_trans (Nat.le_of_lt hsz0) (HC.out.bst q hq)))
        have hs5 := hc5.size
        have hbs := run_bsI id hi
        have b6 := (Below.refl w5.heap.size w5).alloc (Nat.le_refl _) (.cells (bys id).toArray 51)
        have H6 := hI (H5.out.below b6)
        have O6 := hI (own_below O5.out b6)
        have Q6 := hI (Q5.out.below b6 Q5.out.lt)
        have B6 := hI (B5.out.trans (b6.mono B5.out.size))
        have NW := hI (new_rv w5 (bys id) 51 ⟨w5.heap.size, 0, none⟩ rfl)
        have HI2 := hI (show (bys id).length = 1 * 32 by rw [bys_len, hi])
        have hB6 : w0.heap.size ≤ (w5.alloc (.cells (bys id).toArray 51)).heap.size := Nat.le_trans hBc (Nat.le_trans hs5 b6.size)
        clear hb5 hc5 b6 hrun
        go_wp2_with (at_builtin; refine wpList_app slI rfl (.tmp 44) (.tmp 49) rfl w0.heap.size _ (k + 1) ((idsB ts k).flatMap bys) rfl O6.out (some ⟨w5.heap.size, 0, none⟩) 1 1 (bys id) rfl (fun q => by cases q) HI2.out NW.out (bys_one id) (by unfold maxLen; omega) (by omega) hB6 ?_; intro v7 w7 ho7 ha7; have O7 := hI ho7; have A7 := hI ha7.grown; clear ho7 ha7)
        have C7 := hI (Chs.of_row A7.out)
        refine ⟨⟨k + 1, ova2, _, by omega, by go_num, hI (H6.out.keep C7.out (fun q hq => own_typ O6.out q hq)), hI (by rw [HIX.out, List.flatMap_append, List.flatMap_singleton]; exact O7.out), hI (Q6.out.chs C7.out (fun q hq cs fr hh => by
          obtain ⟨cs2, f2, h2⟩ := own_typ O6.out q hq
          have := h2.symm.trans hh
          injection this with this
          injection this with _ e
          revert e; decide)), hI (B6.out.grown A7.out B6.out.size (fun q hq => Nat.le_trans (Nat.le_of_lt hsz0) (O6.out.lt q hq).1))⟩, by simp [intOf]; omega⟩
    · have hke : k = (bodB ts).length := by omega
      subst hke
      have HLI := hI (idsB_len (ts := ts) (k := (bodB ts).length) (Nat.le_refl _))
      obtain ⟨gi, ic, csi, hvi, _, hcap, _, hrv⟩ := own_formk ho.out (by omega)
      subst hvi
      have VI := hI hrv
      have LR := hI ((HL.out.keep fun p hp => hlo.out.cell hp).more hlo.out.size)
      have PR := hI ((HP.out.below hlo.out).more hlo.out.size)
      have hq1 := hq.out.cell (k := 1) rfl
      rw [← HLI.out]
      clear hrv
      rcases Nat.lt_or_ge 8 ts.length with h8 | h8
      · have e8 : ((bodB ts).length : Int) < (ts.length : Int) := by omega
        have e9 : ¬ ((bodB ts).length : Int) < 8 := by omega
        have hm8 : (bodB ts).length ≤ 8 := by omega
        clear hbl
        go_wp2_with fail
        refine mad_l wr w.heap.size gi ic cl ci Al Ai _ o1 o2 o3 (idsB ts (bodB ts).length) L0 ps hq.out (fun x hx => idsB_mem x hx) (by rw [HLI.out]; omega) (by rw [HLI.out]; omega) (by rw [HLI.out]; omega) VI.out LR.out HO.out PR.out hll hpl _ _ _ _ _ _ _ _ _ _ _ _ _ _ _ _ _ _ _ _ _ _ _ _ _ _ _ _ _ _ _ _ _ _ _ _ _ _ _ _ _ _ _ _ _ _ _ _ _ _ _ _ _ _ _ _ _ _ _ _ _ _ _ _ _ _ _ _ _ _ _ _ _ _ _ _ _ _ _ _ _ _ _ _ _ _ _ _ _ _ _ _ _ _ _ _ _ _ _ _ _ _ _ _ _ ?_
        refine hI ?_
        intro ov w9
        intros
        rename_i ho9 hb9
        obtain ⟨D9, d9, hv9, _⟩ := own_all ho9.out
        subst hv9
        have H9 := hI (hb.out.below hb9.out)
        have B9 := hI (hlo.out.trans (hb9.out.mono hlo.out.size))
        go_wp2_with fail
        refine (ok_any w9 _ b g m gd _ _ _ _ H9.out).mono ?_
        rintro e w10 ⟨rfl, rfl⟩
        go_wp2_with fail
        go_ret3
        exact ⟨b, g, m, gd, _, _, _, rfl, H9.out.less (Nat.le_of_lt hsz0), own_less ho9.out hlo.out.size, B9.out⟩
      · have e8 : ¬ ((bodB ts).length : Int) < (ts.length : Int) := by omega
        have hm8 : (bodB ts).length ≤ 8 := by omega
        clear hbl
        go_wp2_with fail
        refine mad_l wr w.heap.size gi ic cl ci Al Ai _ o1 o2 o3 (idsB ts (bodB ts).length) L0 ps hq.out (fun x hx => idsB_mem x hx) (by rw [HLI.out]; omega) (by rw [HLI.out]; omega) (by rw [HLI.out]; omega) VI.out LR.out HO.out PR.out hll hpl _ _ _ _ _ _ _ _ _ _ _ _ _ _ _ _ _ _ _ _ _ _ _ _ _ _ _ _ _ _ _ _ _ _ _ _ _ _ _ _ _ _ _ _ _ _ _ _ _ _ _ _ _ _ _ _ _ _ _ _ _ _ _ _ _ _ _ _ _ _ _ _ _ _ _ _ _ _ _ _ _ _ _ _ _ _ _ _ _ _ _ _ _ _ _ _ _ _ _ _ _ _ _ _ _ ?_
        refine hI ?_
        intro ov w9
        intros
        rename_i ho9 hb9
        obtain ⟨D9, d9, hv9, _⟩ := own_all ho9.out
        subst hv9
        have H9 := hI (hb.out.below hb9.out)
        have B9 := hI (hlo.out.trans (hb9.out.mono hlo.out.size))
        go_wp2_with fail
        refine (ok_any w9 _ b g m gd _ _ _ _ H9.out).mono ?_
        rintro e w10 ⟨rfl, rfl⟩
        go_wp2_with fail
        go_ret3
        exact ⟨b, g, m, gd, _, _, _, rfl, H9.out.less (Nat.le_of_lt hsz0), own_less ho9.out hlo.out.size, B9.out⟩
end Go.Proofs.YtbmpidacoohdmaaGreat

/- Arrays of 32 bytes (api.ID) whole; sleuthref02.Of by a contract. -/
import Derived.Test.YtbmpidacoohdmaaGreatGro
namespace Go.Proofs.YtbmpidacoohdmaaGreat
open Go.RowKit

theorem inf42 : (Tryz.prog.info? 51).map (·.size) = some 32 := by kernel_rfl
def z42 : Array Value := (bys (List.replicate 32 0)).toArray
theorem z42_info : (Tryz.prog.info? 51).map (·.zero) = some (some (.agg z42)) := by kernel_rfl
def new42 : Sem Value := Instr.alloc 51 true (.tuple #[])
def load42 (a : Addr) : Sem Value := loadVar 51 a
def store42 (a : Addr) (v : Value) : Sem Unit := storeVar 51 a v
theorem new42_eq : Instr.alloc 51 true (.tuple #[]) = new42 := rfl
theorem load42_eq (a : Addr) : loadVar 51 a = load42 a := rfl
theorem store42_eq (a : Addr) (v : Value) : storeVar 51 a v = store42 a v := rfl
theorem run_new42 (W : World) : new42.run Tryz.prog W = .ok (.pointer (some ⟨W.heap.size, 0, none⟩)) (W.alloc (.cells z42 51)) := by
  obtain ⟨i, hi, hz⟩ := Option.map_eq_some_iff.1 z42_info
  simp [new42, Instr.alloc, zeroValue, typeInfo, hi, hz, newVar, newRow, Value.cells]
section
variable {W : World} {g : Nat} {t : TypeId} {l m : List UInt8}
theorem ld42 (h : Ar W g t (bys l)) (hl : l.length = 32) : (load42 ⟨g, 0, none⟩).run Tryz.prog W = .ok (.agg (bys l).toArray) W := h.load (by rw [bys_len, hl]) Tryz.underlying51 rfl inf42
theorem st42 (h : Ar W g t (bys l)) (hl : l.length = 32) (hm : m.length = 32) : (store42 ⟨g, 0, none⟩ (.agg (bys m).toArray)).run Tryz.prog W = .ok () (W.setRow g (bys m).toArray) := h.store (by rw [bys_len, hl]) (by rw [bys_len, hm]) (bys_one m) inf42
end
attribute [local go_sem ↓] new42_eq load42_eq store42_eq run_new42
attribute [local go_sem ↓] new8_eq load8_eq store8_eq run_new8
theorem grown_row (W : World) (g : Nat) (cs : Array Value) : W.grownBy (W.setRow g cs) (some g) := ⟨rfl, rfl, rfl, by simp, fun k _ hne => setRow_other W g k cs (fun e => hne (by rw [e]))⟩
theorem own_row {W : World} {base : Nat} {e : TypeId} {size : Nat} {v : Value} {n : Nat} {xs : List Value} (h : W.ownsRow base e size v n xs) (g : Nat) (cs : Array Value) (hg : v.ownBlock ≠ some g) : (W.setRow g cs).ownsRow base e size v n xs := h.kept (grown_row W g cs) (.inr hg)
theorem own_below {W V : World} {base : Nat} {e : TypeId} {size : Nat} {v : Value} {n : Nat} {xs : List Value} (h : W.ownsRow base e size v n xs) (hb : Below W.heap.size W V) : V.ownsRow base e size v n xs :=
  h.kept (row := none) ⟨hb.os, hb.tape, hb.output, hb.size, fun q hq _ => hb.block q hq⟩ (by cases v.ownBlock <;> simp)
/-- A part of the bytes, as a slice expression makes it. -/
theorem rv_cut {B : Nat} {w : World} {A : Option Addr} {l : List UInt8} {c : Nat} (h : Rv B w A (bys l)) (hc : l.length ≤ c) (i n : Nat) (hi : i + n ≤ l.length) : Rv B w (if c = i then A else A.map (·.add i)) (bys ((l.drop i).take n)) := by
  rcases Nat.eq_zero_or_pos n with h0 | h0
  · subst h0
    intro j x hx
    simp [bys] at hx
  · obtain ⟨ad, rfl, _, _⟩ := h.some_ (by rw [bys_len]; omega)
    rw [if_neg (by omega), ← bys_part]
    exact h.part i rfl n
/-- The sum of a text. -/
def shaOf (m : List UInt8) : List UInt8 := outB (absorb H256 (m ++ padW m.length))
theorem outB_len (st : List UInt32) : (outB st).length = 4 * st.length := by
  induction st with
  | nil => rfl
  | cons x st ih => simp only [outB, List.flatMap_cons, List.length_append, List.length_cons, List.length_nil] at *; omega
theorem pad_mod (m : List UInt8) : (m ++ padW m.length).length % 64 = 0 := by
  rw [List.length_append, padW_len]; unfold gapN; omega
theorem shaOf_len (m : List UInt8) : (shaOf m).length = 32 := by
  rw [shaOf, outB_len, absorb_len _ _ _ (Nat.le_refl _) rfl]
theorem absorb_step (st : List UInt32) (l : List UInt8) (k : Nat) (h : k * 64 + 64 ≤ l.length) : absorb st (l.take (k * 64 + 64)) = mixS (absorb st (l.take (k * 64))) ((l.drop (k * 64)).take 64) := by
  have e : l.take (k * 64 + 64) = l.take (k * 64) ++ (l.drop (k * 64)).take 64 := by rw [List.take_add]
  have h1 : (l.take (k * 64)).length = k * 64 := by rw [List.length_take]; omega
  have h2 : ((l.drop (k * 64)).take 64).length = 64 := by rw [List.length_take, List.length_drop]; omega
  rw [e, absorb_app _ _ _ _ (Nat.le_refl _) (by omega)]
  generalize (l.drop (k * 64)).take 64 = b at *
  have h3 : b.take 64 = b := List.take_of_length_le (by omega)
  rw [absorb_more (by omega), absorb_small (by rw [List.length_drop]; omega), h3]
theorem outB_step (st : List UInt32) : ∀ i, i < st.length → (outB st).take (4 * (i + 1)) = (outB st).take (4 * i) ++ be4 (st.getD i 0).toNat := by
  induction st with
  | nil => intro i h; simp at h
  | cons x st ih =>
    intro i h
    have e : outB (x :: st) = be4 x.toNat ++ outB st := rfl
    have hl : (be4 x.toNat).length = 4 := rfl
    rw [e]
    rcases i with _ | i
    · rw [List.take_append_of_le_length (by rw [hl]; omega), Nat.mul_zero, List.take_zero, List.take_of_length_le (by rw [hl]; omega)]
      rfl
    · have h1 := ih i (by simpa using h)
      have ea : (be4 x.toNat ++ outB st).take (4 * (i + 1 + 1)) = be4 x.toNat ++ (outB st).take (4 * (i + 1)) := by
        rw [List.take_append, List.take_of_length_le (by rw [hl]; omega), hl, show 4 * (i + 1 + 1) - 4 = 4 * (i + 1) by omega]
      have eb : (be4 x.toNat ++ outB st).take (4 * (i + 1)) = be4 x.toNat ++ (outB st).take (4 * i) := by
        rw [List.take_append, List.take_of_length_le (by rw [hl]; omega), hl, show 4 * (i + 1) - 4 = 4 * i by omega]
      rw [ea, eb, h1, List.append_assoc]
      rfl
theorem set_mid (P T Z : List UInt8) (k : Nat) (x : UInt8) (n : Nat) (hn : n = P.length + k) (hk : k < T.length) : (P ++ (T ++ Z)).set n x = P ++ (T.set k x ++ Z) := by
  subst hn
  rw [List.set_append_right _ _ (by omega), Nat.add_sub_cancel_left, List.set_append_left _ _ hk]
/-- Four bytes, of which the last j stand. -/
def last4 (n j : Nat) : List UInt8 := List.replicate (4 - j) 0 ++ (be4 n).drop (4 - j)
theorem last4_len (n j : Nat) (h : j ≤ 4) : (last4 n j).length = 4 := by simp only [last4, be4, List.length_append, List.length_replicate, List.length_drop, List.length_cons, List.length_nil]; omega
theorem last4_set (n j : Nat) (h : j < 4) : (last4 n j).set (3 - j) (by8 (n / 256 ^ j)) = last4 n (j + 1) := by
  have h4 : j = 0 ∨ j = 1 ∨ j = 2 ∨ j = 3 := by omega
  rcases h4 with rfl | rfl | rfl | rfl <;> simp [last4, be4, List.replicate]
set_option maxRecDepth 100000 in
set_option maxHeartbeats 2000000 in
theorem fof_any {C : Nat} (w : World) (A : Option Addr) (c : Nat) (m : List UInt8) (h : Rv C w A (bys m)) (hC : C ≤ w.heap.size) (hn : A = none → c = 0) (hm : m.length ≤ 100000000) :
    Calls Tryz.prog 95 #[.slice A m.length c] w fun e w2 => e = .returned (.agg (bys (shaOf m)).toArray) ∧ Below w.heap.size w w2 := by
  have H := Lib.hid h
  have HN := Lib.hid hn
  have HML := Lib.hid (bys_len m)
  have r0 : Ar (w.alloc (.cells z42 51)) w.heap.size 51 (bys (List.replicate 32 0)) := Ar.new w (bys (List.replicate 32 0)) 51
  have R0 := Lib.hid r0
  have B0 := Lib.hid ((Below.refl w.heap.size w).alloc (Nat.le_refl _) (.cells z42 51))
  have hs0 : (w.alloc (.cells z42 51)).heap.size = w.heap.size + 1 := World.size_alloc _ _
  have HS0 := Lib.hid hs0
  have hg64 : gapN m.length < 64 := by unfold gapN; omega
  have hSL := shaOf_len m
  generalize hS : shaOf m = S at *
  have HSH : Hid (outB (absorb H256 (m ++ padW m.length)) = S) := Lib.hid hS
  clear h hn r0 hs0 hS
  go_enter Tryz.func95, Tryz.ntmps95
  go_wp2_with (at_builtin; refine wpList_app sl22 rfl (.tmp 10) (.tmp 11) rfl (w.heap.size + 1) (.slice none 0 0) 0 [] rfl (World.ownsRow_nil _ _ _ _) A m.length c (bys m) rfl HN.out (by rw [HML.out, Nat.mul_one]) (H.out.below (B0.out.mono hC)) (bys_one _) (by unfold maxLen; omega) (by omega) (by rw [HS0.out]; exact Nat.le_refl _) ?_; intro v1 w1 ho ha; rw [Nat.zero_add, List.nil_append] at ho; have O1 := Lib.hid ho; have B1 := Lib.hid (B0.out.trans (below_of_grown ha.grown (by rw [HS0.out]; omega) (fun k hk => by cases hk))); have R1 := Lib.hid (R0.out.later ha.grown (by intro e; cases e)); clear ho ha R0 B0)
  refine (fpad_any _ m.length (by omega)).mono ?_
  rintro e w2 ⟨u, rfl, ho, hb⟩
  have hsp := hb.size
  have hb1s := R1.out.lt
  obtain ⟨D, d, hv, hD, hd, hrv, hfar⟩ := own_all ho
  subst hv
  have HRV := Lib.hid hrv
  have HDN := Lib.hid hD
  have HPL := Lib.hid (bys_len (padW m.length))
  have hpl : (padW m.length).length ≤ 80 := by rw [padW_len]; omega
  have O1 := Lib.hid (O1.out.kept (row := none) ⟨hb.os, hb.tape, hb.output, hb.size, fun q hq _ => hb.block q hq⟩ (by cases v1.ownBlock <;> simp))
  have R1 := Lib.hid (R1.out.below hb hb1s)
  have B1 := Lib.hid (B1.out.trans (hb.mono B1.out.size))
  clear ho hb hrv hD hfar
  go_wp2_with (at_builtin; refine wpList_app sl22 rfl (.tmp 13) (.tmp 17) rfl (w.heap.size + 1) v1 m.length (bys m) rfl O1.out D (padW m.length).length d (bys (padW m.length)) rfl HDN.out (by rw [HPL.out, Nat.mul_one]) HRV.out (bys_one _) (by unfold maxLen; omega) (by omega) (by omega) ?_; intro v3 w3 ho ha; rw [bys_app, ← List.length_append] at ho; have O3 := Lib.hid ho; have B3 := Lib.hid (B1.out.trans (below_of_grown ha.grown (by omega) (fun k hk => by have := (O1.out.lt k hk).1; omega))); have R3 := Lib.hid (R1.out.later ha.grown (own_far O1.out (by omega))); have hs3 := ha.grown.size; clear ho ha R1 B1 O1)
  have hmod := pad_mod m
  have hall : (m ++ padW m.length).length ≤ 100000100 := by rw [List.length_append]; omega
  generalize m ++ padW m.length = all at *
  refine (fstart_any _).mono ?_
  rintro e w4 ⟨rfl, hb⟩
  have hs4 := hb.size
  have hz : Ar (w4.alloc (.cells z8 267)) w4.heap.size 267 (us (List.replicate 8 0)) := Ar.new w4 (us (List.replicate 8 0)) 267
  have hst := st8 (m := H256) hz rfl rfl
  have S4 := Lib.hid (hz.setRow (us H256))
  have R4 := Lib.hid (((R3.out.below hb R3.out.lt).alloc (.cells z8 267)).past w4.heap.size (us H256).toArray (by omega))
  have B4 := Lib.hid (below_row ((B3.out.trans (hb.mono B3.out.size)).alloc (by omega) (.cells z8 267)) w4.heap.size (us H256).toArray (by omega))
  have O4 := Lib.hid (own_below O3.out hb)
  have O4 := Lib.hid (own_row (O4.out.alloc (.cells z8 267)) w4.heap.size (us H256).toArray (fun e => by have := (O4.out.lt _ e).2; omega))
  have hsz5 : ((w4.alloc (.cells z8 267)).setRow w4.heap.size (us H256).toArray).heap.size = w4.heap.size + 1 := by simp
  have hw4 : w.heap.size + 1 ≤ w4.heap.size := by omega
  obtain ⟨D3, d3, hv3, hD3, hd3, _, hfar3⟩ := own_all O3.out
  have HFAR := Lib.hid (fun q e => (by have := (O3.out.lt q e).2; omega : q < w4.heap.size))
  subst hv3
  have HD3 := Lib.hid hD3
  clear hb hz hD3 hfar3 hs3 hs4
  go_wp2_with fail
  generalize (w4.alloc (.cells z8 267)).setRow w4.heap.size (us H256).toArray = w5 at *
  go_loopw [5] (fun av wr => ∃ k : Nat, 64 * k ≤ all.length ∧ av = .int .i64 (64 * (k : Int)) ∧ Ar wr w4.heap.size 267 (us (absorb H256 (all.take (k * 64)))) ∧ Ar wr w.heap.size 51 (bys (List.replicate 32 0)) ∧ Hid (wr.ownsRow (w.heap.size + 1) 5 1 (.slice D3 all.length d3) all.length (bys all)) ∧ Hid (Below w.heap.size w wr)) (fun av _ => all.length - (intOf av).toNat)
  case atStart => exact ⟨0, by omega, by go_num, by rw [show absorb H256 (all.take (0 * 64)) = H256 by rw [Nat.zero_mul, List.take_zero, absorb_small (by simp)]]; exact S4.out, R4.out, O4.out, B4.out⟩
  case round =>
    clear S4 R4 O4 B4 hst hsz5
    obtain ⟨k, hk, rfl, s4, r4, o4, b4⟩ := hrel
    have hws := s4.lt
    by_cases hlt : 64 * k + 64 ≤ all.length
    · have hsl := absorb_len _ (all.take (k * 64)) H256 (Nat.le_refl _) rfl
      have HST := Lib.hid (absorb_step H256 all k (by omega))
      obtain ⟨D, d, hv, _, _, hrv, _⟩ := own_all o4.out
      injection hv with e1 e2 e3
      subst e1 e3
      have hcut := rv_cut hrv hd3 (64 * k) 64 (by omega)
      obtain ⟨E, hE⟩ : ∃ E, (if d3 = 64 * k then D3 else D3.map (·.add (64 * k))) = E := ⟨_, rfl⟩
      rw [hE] at hcut
      have hbl : ((all.drop (64 * k)).take 64).length = 64 := by rw [List.length_take, List.length_drop]; omega
      rw [Nat.mul_comm k 64] at HST hsl s4
      generalize absorb H256 (all.take (64 * k)) = st at *
      generalize (all.drop (64 * k)).take 64 = blk at *
      have HE := Lib.hid hE
      have HCUT := Lib.hid hcut
      have HBL := Lib.hid hbl
      have HSL := Lib.hid hsl
      have S4 := Lib.hid s4
      have R4 := Lib.hid r4
      clear hcut hrv hbl hsl s4 r4
      have hl8 := ld8 (W := wr.drew) S4.out HSL.out
      have q1 : IntKind.i64.wrap (64 * (k : Int) + 64) = 64 * (k : Int) + 64 := IntWalk.i64_in _ (by omega)
      have q2 : (0 : Int) ≤ 64 * (k : Int) ∧ 64 * (k : Int) ≤ 64 * (k : Int) + 64 ∧ 64 * (k : Int) + 64 ≤ (d3 : Int) := by omega
      have q3 : (64 * (k : Int)).toNat = 64 * k := by omega
      have q4 : (64 * (k : Int) + 64).toNat = 64 * k + 64 := by omega
      have q5 : 64 * k + 64 - 64 * k = 64 := by omega
      go_wp2_with fail
      go_still_tail 6, (by kernel_rfl)
      clear q1 q2 q3 q4 q5
      change wpList _ _ _ _ _ wr.drew
      have S4 : Hid (Ar wr.drew w4.heap.size 267 (us st)) := S4
      have R4 : Hid (Ar wr.drew w.heap.size 51 (bys (List.replicate 32 0))) := R4
      have o4 : Hid (wr.drew.ownsRow (w.heap.size + 1) 5 1 (.slice D3 all.length d3) all.length (bys all)) := o4
      have b4 : Hid (Below w.heap.size w wr.drew) := b4.out.drew
      have HCUT : Hid (Rv wr.drew.heap.size wr.drew E (bys blk)) := HCUT
      have hws : w4.heap.size < wr.drew.heap.size := hws
      clear hl8
      generalize wr.drew = w6 at *
      go_wp2_with fail
      refine (block_any w6 E _ st blk HSL.out HBL.out HCUT.out (Nat.le_refl _)).mono ?_
      rintro e w7 ⟨rfl, hb⟩
      have hst := st8 (m := mixS st blk) (S4.out.below hb hws) HSL.out (mixS_len st blk HSL.out)
      have s7 : Ar (w7.setRow w4.heap.size (us (mixS st blk)).toArray) w4.heap.size 267 (us (absorb H256 (all.take ((k + 1) * 64)))) := by
        rw [show (k + 1) * 64 = 64 * k + 64 by omega, HST.out]
        exact (S4.out.below hb hws).setRow (us (mixS st blk))
      have S7 := Lib.hid s7
      have hsz7 := hb.size
      have R7 := Lib.hid ((R4.out.below hb (by omega)).past w4.heap.size (us (mixS st blk)).toArray (by omega))
      have O7 := Lib.hid (own_row (own_below o4.out hb) w4.heap.size (us (mixS st blk)).toArray (fun e => by have := HFAR.out _ e; omega))
      have B7 := Lib.hid (below_row (b4.out.trans (hb.mono b4.out.size)) w4.heap.size (us (mixS st blk)).toArray (by omega))
      clear hb s7
      go_wp2
      go_roundw
      case rel => exact ⟨k + 1, by omega, by go_num, S7.out, R7.out, O7.out, B7.out⟩
      case measure => simp [intOf]; omega
    · have hke : k * 64 = all.length := by omega
      rw [hke, List.take_length] at s4
      have hsl := absorb_len _ all H256 (Nat.le_refl _) rfl
      generalize absorb H256 all = st at *
      clear hke
      have HOB := Lib.hid (outB_len st)
      have n0 : Ar (wr.alloc (.cells z42 51)) wr.heap.size 51 (bys (List.replicate 32 0)) := Ar.new wr (bys (List.replicate 32 0)) 51
      have N0 := Lib.hid n0
      have S4 := Lib.hid (s4.alloc (.cells z42 51))
      have R4 := Lib.hid (r4.alloc (.cells z42 51))
      have hbz := b4.out.size
      have B4 := Lib.hid (b4.out.alloc hbz (.cells z42 51))
      have hrw : w.heap.size < wr.heap.size := r4.lt
      have HSL := Lib.hid hsl
      clear n0 s4 r4 b4 o4 hsl
      obtain ⟨ww, hww⟩ : ∃ ww, ww = wr := ⟨_, rfl⟩
      rw [← hww] at N0 S4 R4 B4 hrw hws hbz ⊢
      clear hww
      go_wp2_with fail
      generalize ww.alloc (.cells z42 51) = w6 at *
      go_loopw [7] (fun iv wr => ∃ i : Nat, i ≤ 8 ∧ iv = .int .i64 i ∧ Ar wr w4.heap.size 267 (us st) ∧ Ar wr w.heap.size 51 (bys (List.replicate 32 0)) ∧ Ar wr ww.heap.size 51 (bys ((outB st).take (4 * i) ++ List.replicate (32 - 4 * i) 0)) ∧ Hid (Below w.heap.size w wr)) (fun iv _ => 8 - (intOf iv).toNat)
      case atStart => exact ⟨0, by omega, rfl, S4.out, R4.out, N0.out, B4.out⟩
      case round =>
        clear S4 R4 N0 B4
        obtain ⟨i, hi, rfl, s4, r4, n4, b4⟩ := hrel
        by_cases hli : i < 8
        · have hc : wr.cell? ⟨w4.heap.size, i, none⟩ = some (.int .u32 ((st.getD i 0).toNat : Int)) := s4.cell (us_at (by rw [HSL.out]; exact hli))
          have HSTP := Lib.hid (outB_step st i (by rw [HSL.out]; exact hli))
          have hx := (st.getD i 0).toNat_lt
          generalize (st.getD i 0).toNat = x at *
          have hsplit : (outB st).take (4 * i) ++ List.replicate (32 - 4 * i) 0 = (outB st).take (4 * i) ++ (last4 x 0 ++ List.replicate (28 - 4 * i) 0) := by
            congr 1
            rw [show 32 - 4 * i = 4 + (28 - 4 * i) by omega, ← List.replicate_append_replicate]
            simp [last4, be4]
          have hpl : ((outB st).take (4 * i)).length = 4 * i := by rw [List.length_take, HOB.out, HSL.out]; omega
          rw [hsplit] at n4
          generalize (outB st).take (4 * i) = Pr at *
          have HPL := Lib.hid hpl
          have S4 := Lib.hid s4
          have R4 := Lib.hid r4
          have N4 := Lib.hid n4
          clear hpl hsplit s4 r4 n4
          obtain ⟨wv, hwv⟩ : ∃ wv, wv = wr := ⟨_, rfl⟩
          rw [← hwv] at S4 R4 N4 b4 hc ⊢
          clear hwv
          go_wp2_with fail
          go_loopw [8, 9] (fun xv jv wr => ∃ j : Nat, j ≤ 4 ∧ jv = .int .i64 (3 - (j : Int)) ∧ xv = .int .u32 ((x / 256 ^ j : Nat) : Int) ∧ Ar wr w4.heap.size 267 (us st) ∧ Ar wr w.heap.size 51 (bys (List.replicate 32 0)) ∧ Ar wr ww.heap.size 51 (bys (Pr ++ (last4 x j ++ List.replicate (28 - 4 * i) 0))) ∧ Hid (Below w.heap.size w wr)) (fun _ jv _ => (intOf jv + 1).toNat)
          case atStart => exact ⟨0, by omega, by go_num, by simp, S4.out, R4.out, N4.out, b4⟩
          case round =>
            clear S4 R4 N4 b4 hc
            obtain ⟨j, hj, rfl, rfl, s4, r4, n4, b4⟩ := hrel
            have hll := last4_len x j hj
            by_cases hlj : j < 4
            · have hset := set_mid Pr (last4 x j) (List.replicate (28 - 4 * i) 0) (3 - j) (by8 (x / 256 ^ j)) (4 * i + (3 - j)) (by rw [HPL.out]) (by omega)
              rw [last4_set x j hlj] at hset
              have hlen : (Pr ++ (last4 x j ++ List.replicate (28 - 4 * i) 0)).length = 32 := by simp [HPL.out, hll]; omega
              have hco : wr.cell? ⟨ww.heap.size, 4 * i + (3 - j), none⟩ = some (.int .u8 (((Pr ++ (last4 x j ++ List.replicate (28 - 4 * i) 0)).getD (4 * i + (3 - j)) 0).toNat : Int)) := n4.cell (bys_at (by omega))
              have hfz := n4.frozen (4 * i + (3 - j))
              have e2 := n4.set (4 * i + (3 - j)) (.int .u8 ((by8 (x / 256 ^ j)).toNat : Int))
              have ev : ((x / 256 ^ j % 256 : Nat) : Int) = ((x / 256 ^ j : Nat) : Int) % 256 := by omega
              rw [bys_set, hset, by8_nat, ev] at e2
              have N5 := Lib.hid e2
              have S5 := Lib.hid (s4.other ⟨ww.heap.size, 4 * i + (3 - j), none⟩ (.int .u8 (((x / 256 ^ j : Nat) : Int) % 256)) (by simp; omega))
              have R5 := Lib.hid (r4.other ⟨ww.heap.size, 4 * i + (3 - j), none⟩ (.int .u8 (((x / 256 ^ j : Nat) : Int) % 256)) (by simp; omega))
              have B5 := Lib.hid (b4.out.setCell (p := ⟨ww.heap.size, 4 * i + (3 - j), none⟩) (by show w.heap.size ≤ ww.heap.size; omega) (.int .u8 (((x / 256 ^ j : Nat) : Int) % 256)))
              generalize ((Pr ++ (last4 x j ++ List.replicate (28 - 4 * i) 0)).getD (4 * i + (3 - j)) 0) = old at *
              have hxj : x / 256 ^ j < 4294967296 := Nat.lt_of_le_of_lt (Nat.div_le_self _ _) hx
              have HNX := Lib.hid (by rw [Nat.pow_succ, ← Nat.div_div_eq_div_mul] : x / 256 ^ (j + 1) = x / 256 ^ j / 256)
              generalize x / 256 ^ j = y at *
              have hj3 : (j : Int) ≤ 3 := by omega
              clear e2 hset hlen s4 r4 n4 b4 ev
              go_wp2_with fail
              exact ⟨⟨j + 1, by omega, by go_num, by rw [HNX.out]; rfl, S5.out, R5.out, N5.out, B5⟩, by simp [intOf]; omega⟩
            · have hj4 : j = 4 := by omega
              subst hj4
              have el : last4 x 4 = be4 x := rfl
              rw [el, ← List.append_assoc, ← HSTP.out, show 28 - 4 * i = 32 - 4 * (i + 1) by omega] at n4
              have N5 := Lib.hid n4
              have S5 := Lib.hid s4
              have R5 := Lib.hid r4
              clear n4 s4 r4 el hll hj
              have ht : ((3 : Int) - ((4 : Nat) : Int)) = -1 := rfl
              go_wp2_with fail
              go_goals
              exact ⟨⟨i + 1, by omega, by go_num, S5.out, R5.out, N5.out, b4⟩, by simp [intOf]; omega⟩
        · have hi8 : i = 8 := by omega
          subst hi8
          have e8 : (outB st).take (4 * 8) ++ List.replicate (32 - 4 * 8) 0 = S := by
            rw [HSH.out, List.take_of_length_le (by rw [hSL]; omega)]
            exact List.append_nil _
          rw [e8] at n4
          have hl := ld42 n4 hSL
          have hst2 := st42 (m := S) r4 (by simp) hSL
          have R9 := Lib.hid (r4.setRow (bys S))
          have B9 := Lib.hid (below_row b4.out w.heap.size (bys S).toArray (Nat.le_refl _))
          have N4 := Lib.hid n4
          clear n4 r4 s4 e8
          go_wp2_with fail
          refine bodyPost_ret (results_cell_row rfl _ _ w.heap.size 51 _ (0, 0) (.array 32 5) rfl R9.out Tryz.underlying51 rfl (by rw [List.size_toArray, bys_len, hSL]; exact inf42)) rfl ?_
          exact ⟨rfl, B9.out⟩
def box42 (v : Value) : Sem Value := Instr.box 51 v
theorem box42_eq (v : Value) : Instr.box 51 v = box42 v := rfl
theorem run_box42 (W : World) (cs : Array Value) : (box42 (.agg cs)).run Tryz.prog W = .ok (.pointer (some ⟨W.heap.size, 0, none⟩)) (W.alloc (.cells cs 51)) := by
  simp [box42, Instr.box, newVar, newRow, Value.cells]
theorem run_idx42 (l : List UInt8) (hl : l.length = 32) (i : Nat) (hi : i < 32) (W : World) : (Instr.index 51 (.agg (bys l).toArray) (.int .i64 (i : Int))).run Tryz.prog W = .ok (.int .u8 ((l.getD i 0).toNat : Int)) W := by
  obtain ⟨ii, hii, hz⟩ := Option.map_eq_some_iff.1 (show (Tryz.prog.info? 5).map (·.size) = some 1 by kernel_rfl)
  have hp := run_part_one (P := Tryz.prog) (w := W) Tryz.underlying5 rfl (bys l) i (bys_at (by omega))
  simp [Instr.index, asIntOf, run_underlying Tryz.underlying51, sizeOf, typeInfo, hii, hz, hp]
  exact fun h => absurd hi (by omega)
end Go.Proofs.YtbmpidacoohdmaaGreat

/- sha.Hash as a row of cells; Write by a contract. -/
import Derived.Test.YtbmpidacoohdmaaGreatIdd
import Derived.Laws.CopyOwn
import Derived.StillTailTactics
import Derived.Deep.RegionWith
namespace Go.Proofs.YtbmpidacoohdmaaGreat
open Go.RowKit

theorem inf121 : (Tryz.prog.info? 315).map (·.size) = some 74 := by kernel_rfl
/-- The cells of a hash: how many bytes came, the state, the rest's 64 bytes. -/
def hC (n : Nat) (st : List UInt32) (r : List UInt8) : List Value := .bool true :: .int .u64 (n : Int) :: (us st ++ bys r)
section
variable {n : Nat} {st su : List UInt32} {r : List UInt8}
theorem hC_len (hs : st.length = 8) (hr : r.length = 64) : (hC n st r).length = 74 := by simp [hC, us_len, bys_len, hs, hr]
theorem hC_state (hs : st.length = 8) : (hC n st r).toArray.extract 2 10 = (us st).toArray := by
  apply Array.ext'
  simp [hC, us_len, hs]
theorem hC_put (hs : st.length = 8) (hu : su.length = 8) : splice (hC n st r).toArray 2 (us su).toArray = (hC n su r).toArray := by
  simp [splice, hC, us_len, hu, hs]
theorem hC_set (m : Nat) : (hC n st r).set 1 (.int .u64 (m : Int)) = hC m st r := rfl
theorem hC_rest (hs : st.length = 8) (k : Nat) (l : List UInt8) : Go.splice (hC n st r) (10 + k) (bys l) = hC n st (r.take k ++ (l ++ r.drop (k + l.length))) := by
  have e : hC n st r = (.bool true :: .int .u64 (n : Int) :: us st) ++ bys r := rfl
  have hl : (Value.bool true :: .int .u64 (n : Int) :: us st).length = 10 := by simp [us_len, hs]
  rw [e, Go.splice, List.take_append, List.drop_append, List.take_of_length_le (by rw [hl]; omega), List.drop_eq_nil_of_le (by rw [hl, bys_len]; omega), hl, bys_len]
  rw [show 10 + k - 10 = k by omega, show 10 + k + l.length - 10 = k + l.length by omega]
  simp [hC, bys, List.map_take, List.map_drop]
theorem hC_one : ∀ u ∈ hC n st r, u.oneCell' = true := by
  intro u hu
  simp only [hC, List.mem_cons, List.mem_append] at hu
  rcases hu with rfl | rfl | hu | hu
  · rfl
  · rfl
  · exact us_one2 _ u hu
  · exact bys_one _ u hu
end
def load121 (a : Addr) : Sem Value := loadVar 315 a
theorem load121_eq (a : Addr) : loadVar 315 a = load121 a := rfl
section
variable {W : World} {g : Nat} {t : TypeId} {n : Nat} {st su : List UInt32} {r : List UInt8} {l : List Value}
theorem Ar.free (h : Ar W g t l) : free W g = true := free_of h
theorem Ar.row (h : Ar W g t l) : row W g = l.toArray := row_of h
theorem ldS (h : Ar W g t (hC n st r)) (hs : st.length = 8) (hr : r.length = 64) : (load8 ⟨g, 2, none⟩).run Tryz.prog W = .ok (.agg (us st).toArray) W := by
  have e := run_load_row W g Tryz.underlying267 rfl inf8 2 h.free (by rw [h.row, List.size_toArray, hC_len hs hr]; omega)
  rw [h.row, hC_state hs] at e
  exact e
theorem stS (h : Ar W g t (hC n st r)) (hs : st.length = 8) (hu : su.length = 8) (hr : r.length = 64) : (store8 ⟨g, 2, none⟩ (.agg (us su).toArray)).run Tryz.prog W = .ok () (W.setRow g (hC n su r).toArray) := by
  have e := run_store_row W g inf8 2 (us su).toArray (us_one su) (by simp [us_len, hu]) h.free (by rw [h.row, List.size_toArray, hC_len hs hr]; omega)
  rw [h.row, hC_put hs hu] at e
  exact e
end
/-- A slice that reads, and none of whose cells lies in the block g. -/
structure Rx (W : World) (g : Nat) (X : Option Addr) (c : Nat) (l : List UInt8) : Prop where
  rv : Rv W.heap.size W X (bys l)
  ne : ∀ ad, X = some ad → 0 < l.length → ad.block ≠ g
  cap : l.length ≤ c
theorem Rx.keep {W V : World} {g : Nat} {X : Option Addr} {c : Nat} {l : List UInt8} (h : Rx W g X c l) (hg : W.grownBy V (some g)) : Rx V g X c l :=
  ⟨fun k x hx => by
    obtain ⟨ad, e, hb, hc⟩ := h.rv k x hx
    refine ⟨ad, e, Nat.lt_of_lt_of_le hb hg.size, ?_⟩
    rw [← hc]
    refine cell_heap ?_
    rw [block_add]
    exact hg.block _ hb (fun q => h.ne ad e (by have := (List.getElem?_eq_some_iff.1 hx).1; rw [bys_len] at this; omega) (Option.some.inj q)), h.ne, h.cap⟩
theorem Rx.cut {W : World} {g : Nat} {X : Option Addr} {c : Nat} {l : List UInt8} (h : Rx W g X c l) (i : Nat) (hi : i ≤ l.length) : Rx W g (if c = i then X else X.map (·.add i)) (c - i) (l.drop i) :=
  ⟨by have := rv_cut h.rv h.cap i (l.length - i) (by omega)
      rwa [List.take_of_length_le (by rw [List.length_drop]; omega)] at this, fun ad e hp => by
    rw [List.length_drop] at hp
    split at e
    · exact h.ne ad e (by omega)
    · cases X with
      | none => cases e
      | some a => cases e; rw [block_add]; exact h.ne a rfl (by omega), by have := h.cap; rw [List.length_drop]; omega⟩
theorem below_grown {W V : World} (h : Below W.heap.size W V) (r : Option Nat) : W.grownBy V r := ⟨h.os, h.tape, h.output, h.size, fun k hk _ => h.block k hk⟩
theorem grown_cell (W : World) (g k : Nat) (v : Value) : W.grownBy (W.setCell ⟨g, k, none⟩ v) (some g) := ⟨rfl, rfl, rfl, by simp, fun q _ hne => Below.heap_setCell W _ v q (fun e => hne (by rw [e]))⟩
/-- copy into a row, whatever it copies from. -/
theorem wpList_copy_row {P : Program} {w : World} {ops : Array Oper} {rest : List Oper} {o : Oper} {a : Act} {Q : Exit → Act → World → Prop} (hgd : o.guard = none) (d s : Operand) (dT sT : TypeId)
    (ho : o.op = .call { callee := .builtin .copy, args := #[d, s], argTypes := #[dT, sT] }) (elem : TypeId) (hu : P.underlying dT = some (.slice elem)) (hsz : (P.info? elem).map (·.size) = some 1)
    (dp sp : Option Addr) (dLen dCap sLen sCap : Nat) (hd : a.eval d = .slice dp dLen dCap) (hs : a.eval s = .slice sp sLen sCap)
    (g off : Nat) (cur : List Value) (t : TypeId) (hg : Ar w g t cur) (cs : List Value) (hn : cs.length = Nat.min sLen dLen) (C : Nat) (hrv : Rv C w sp cs)
    (hpos : 0 < cs.length → dp = some ⟨g, off, none⟩) (hfit : off + cs.length ≤ cur.length) (h1 : ∀ v ∈ cs, v.oneCell' = true)
    (h : ∀ w', Ar w' g t (Go.splice cur off cs) → w.grownBy w' (some g) → wpList P ops Q rest (a.put o.dst (goInt cs.length)) w') :
    wpList P ops Q (o :: rest) a w := by
  by_cases h0 : cs.length = 0
  · obtain rfl : cs = [] := List.eq_nil_of_length_eq_zero h0
    refine wpList_copy_nothing hgd d s dT sT ho elem hu hsz dp sp dLen dCap sLen sCap hd hs (by simpa using hn.symm) ?_
    exact h w (show w.heap[g]? = _ by rw [show Go.splice cur off [] = cur by simp [Go.splice]]; exact hg) (grown_refl _ _)
  · obtain ⟨ad, rfl, _, hsrc⟩ := hrv.some_ (by omega)
    obtain rfl := hpos (by omega)
    refine wpList_copy_own hgd d s dT sT ho elem hu hsz g off dLen dCap ad sLen sCap hd hs cur.toArray t hg cs hn (fun j v hv => hsrc j v hv) (by simpa using hfit) h1 ?_
    exact h _ (show _ = _ by simpa [Go.splice] using setRow_heap w g _ _ t _ hg) (grown_row w g _)
/-- The hash at g has taken the bytes m. -/
def Hs (W : World) (g : Nat) (m : List UInt8) : Prop := ∃ A T Z : List UInt8, m = A ++ T ∧ A.length % 64 = 0 ∧ T.length + Z.length = 64 ∧ 0 < Z.length ∧ Ar W g 315 (hC m.length (absorb H256 A) (T ++ Z))
theorem restRv {W : World} {g : Nat} {t : TypeId} {n : Nat} {st : List UInt32} {r : List UInt8} (h : Ar W g t (hC n st r)) (hs : st.length = 8) : Rv W.heap.size W (some ⟨g, 10, none⟩) (bys r) := fun k x hx => by
  refine ⟨_, rfl, h.lt, ?_⟩
  rw [Addr.add_lit]
  refine h.cell ?_
  have e : hC n st r = (.bool true :: .int .u64 (n : Int) :: us st) ++ bys r := rfl
  rw [e, List.getElem?_append_right (by simp [us_len, hs]), ← hx]
  congr 1
  simp [us_len, hs]
theorem drop_past (T Z : List UInt8) (n : Nat) : (T ++ Z).drop (T.length + n) = Z.drop n := by rw [← List.drop_drop, List.drop_left]
def slLen : Value → Nat
  | .slice _ n _ => n
  | _ => 0
theorem Rv.front {B : Nat} {w : World} {A : Option Addr} {l : List UInt8} (h : Rv B w A (bys l)) (n : Nat) : Rv B w A (bys (l.take n)) := fun k x hx => h k x (by
  rw [show bys (l.take n) = (bys l).take n by simp [bys, List.map_take], List.getElem?_take] at hx
  split at hx
  · exact hx
  · cases hx)
theorem absorb_blk (a b : List UInt8) (ha : a.length % 64 = 0) (hb : b.length = 64) : absorb H256 (a ++ b) = mixS (absorb H256 a) b := by
  rw [absorb_app _ _ _ _ (Nat.le_refl _) ha, absorb_more (by omega), absorb_small (by rw [List.length_drop]; omega), List.take_of_length_le (by omega)]
theorem absorb_h8 (a : List UInt8) : (absorb H256 a).length = 8 := absorb_len _ _ _ (Nat.le_refl _) rfl
theorem absorb_tail (a b : List UInt8) (ha : a.length % 64 = 0) (hb : b.length < 64) : absorb H256 (a ++ b) = absorb H256 a := by
  rw [absorb_app _ _ _ _ (Nat.le_refl _) ha, absorb_small hb]
theorem len119 : Tryz.prog.arrayLen 313 = 64 := by kernel_rfl
theorem und119 : Tryz.prog.underlying 313 = some (.array (Tryz.prog.arrayLen 313) (Tryz.prog.elem 313)) := by kernel_rfl
theorem siz119 (W : World) : (sizeOf (Tryz.prog.elem 313)).run Tryz.prog W = .ok 1 W := by
  have e : (Tryz.prog.info? (Tryz.prog.elem 313)).map (·.size) = some 1 := by kernel_rfl
  obtain ⟨i, hi, hz⟩ := Option.map_eq_some_iff.1 e
  simp [sizeOf, typeInfo, hi, hz]
theorem cut119 (W : World) (g o k : Nat) (hk : k < 64) : (Instr.sliceAt 313 (.pointer (some ⟨g, o, none⟩)) (some (.int .i64 (k : Int))) none none).run Tryz.prog W = .ok (.slice (some ⟨g, o + k, none⟩) (64 - k) (64 - k)) W := by
  rw [run_sliceAt_array_l W _ _ und119 _ _ (by omega) (by rw [len119]; omega), siz119, len119]
  simp only [Result.andThen_ok, slicedAt]
  rw [if_neg (by omega), Int.toNat_natCast, Nat.mul_one, Addr.add_lit]
theorem all119 (W : World) (a : Addr) : (Instr.sliceAt 313 (.pointer (some a)) none none none).run Tryz.prog W = .ok (.slice (some a) 64 64) W := by
  rw [run_sliceAt_array_all W _ _ und119, siz119, len119]
  simp [slicedAt, Addr.add]
attribute [local go_sem ↓] load8_eq store8_eq all119
set_option maxRecDepth 100000 in
set_option maxHeartbeats 2000000 in
theorem hwrite_any (w : World) (g : Nat) (m p : List UInt8) (X : Option Addr) (c : Nat) (h : Hs w g m) (hx : Rx w g X c p) (hm : m.length + p.length ≤ 1000000000) :
    Calls Tryz.prog 148 #[.pointer (some ⟨g, 0, none⟩), .slice X p.length c] w fun e w2 => e = .returned (.tuple #[]) ∧ Hs w2 g (m ++ p) ∧ w.grownBy w2 (some g) := by
  obtain ⟨A, T, Z, rfl, hA, hTZ, hZ, har⟩ := h
  have H := Lib.hid har
  have HX := Lib.hid hx
  have hlt := har.lt
  have hl0 : (hC (A ++ T).length (absorb H256 A) (T ++ Z)).length = 74 := hC_len (absorb_h8 A) (by rw [List.length_append, hTZ])
  have hc0 : w.cell? ⟨g, 0, none⟩ = some (.bool true) := har.cell rfl
  have hc1 : w.cell? ⟨g, 1, none⟩ = some (.int .u64 ((A ++ T).length : Int)) := har.cell rfl
  have hf1 := har.frozen 1
  have e1 := har.set 1 (.int .u64 (((A ++ T).length + p.length : Nat) : Int))
  rw [hC_set, Int.natCast_add] at e1
  have E1 := Lib.hid e1
  have G1 := Lib.hid (grown_cell w g 1 (.int .u64 (((A ++ T).length : Int) + (p.length : Int))))
  have hmod : (A ++ T).length % 64 = T.length := by rw [List.length_append]; omega
  have hmodI : ((A ++ T).length : Int) % 64 = (T.length : Int) := by omega
  generalize hN : (A ++ T).length = N at *
  have hw1 : IntKind.u64.wrap ((N : Int) + (p.length : Int)) = (N : Int) + (p.length : Int) := wraps_u64 _ (by omega) (by omega)
  have hsl := fun W => cut119 W g 10 T.length (by omega)
  have HL := Lib.hid (bys_len p)
  clear har e1 hx
  by_cases hT : 0 < T.length
  by_cases hp : p.length < Z.length
  · go_enter Tryz.func148, Tryz.ntmps148
    go_wp2_with (refine wpList_copy_row rfl (.tmp 37) (.tmp 38) 57 57 rfl 5 (by kernel_rfl) (by kernel_rfl) _ _ _ _ _ _ rfl rfl g (10 + T.length) _ _ E1.out (bys p) (by rw [HL.out]; show _ = min _ _; omega) _ (HX.out.keep G1.out).rv (fun _ => rfl) (by rw [HL.out, hC_len (absorb_h8 A) (by rw [List.length_append, hTZ])]; omega) (bys_one p) ?_; intro w2 ha hg; rw [hC_rest (absorb_h8 A)] at ha; rw [HL.out]; have E2 := Lib.hid ha; have G2 := Lib.hid (grown_trans G1.out hg); clear ha hg)
    all_goals
      refine bodyPost_ret (results_none rfl _ _ _) rfl ?_
      have hlm : (A ++ (T ++ p)).length = N + p.length := by rw [← List.append_assoc, List.length_append, hN]
      rw [List.take_left, drop_past] at E2
      refine ⟨rfl, ⟨A, T ++ p, Z.drop p.length, rfl, hA, by rw [List.length_append, List.length_drop]; omega, by rw [List.length_drop]; omega, ?_⟩, G2.out⟩
      rw [hlm, List.append_assoc]
      exact E2.out
  focus
    obtain ⟨E, hE⟩ : ∃ E, (if c = Z.length then X else X.map (·.add Z.length)) = E := ⟨_, rfl⟩
    have HE := Lib.hid hE
    have HXE := Lib.hid (HX.out.cut Z.length (by omega))
    rw [hE] at HXE
    have HT1 := Lib.hid (bys_len (p.take Z.length))
    have ht1 : (p.take Z.length).length = Z.length := by rw [List.length_take]; omega
    have ht2 : (p.drop Z.length).length = p.length - Z.length := List.length_drop
    have HR2 : Hid (((T ++ Z).take T.length ++ (p.take Z.length ++ (T ++ Z).drop (T.length + (p.take Z.length).length))) = T ++ p.take Z.length) := Lib.hid (by rw [List.take_left, List.drop_eq_nil_of_le (by rw [List.length_append, ht1]; omega), List.append_nil])
    have hzl : ¬ ((T.length : Int) + (Z.length : Int) < 64) := by omega
    go_enter Tryz.func148, Tryz.ntmps148
    go_wp2_with (refine wpList_copy_row rfl (.tmp 37) (.tmp 38) 57 57 rfl 5 (by kernel_rfl) (by kernel_rfl) _ _ _ _ _ _ rfl rfl g (10 + T.length) _ _ E1.out (bys (p.take Z.length)) (by rw [HT1.out, ht1]; show _ = min _ _; omega) _ ((HX.out.keep G1.out).rv.front Z.length) (fun _ => rfl) (by rw [HT1.out, ht1, hC_len (absorb_h8 A) (by rw [List.length_append, hTZ])]; omega) (bys_one _) ?_; intro w2 ha hg; rw [hC_rest (absorb_h8 A), HR2.out] at ha; rw [HT1.out, ht1]; have E2 := Lib.hid ha; have G2 := Lib.hid (grown_trans G1.out hg); clear ha hg)
    have hl8 := ldS (W := w2.drew) E2.out (absorb_h8 A) (by rw [List.length_append, ht1]; exact hTZ)
    have HRV := Lib.hid (restRv E2.out (absorb_h8 A))
    have HML : Hid ((T ++ p.take Z.length).length = 64) := Lib.hid (by rw [List.length_append, ht1]; exact hTZ)
    have E2 : Hid (Ar w2.drew g 315 (hC (N + p.length) (absorb H256 A) (T ++ p.take Z.length))) := E2
    have HRV : Hid (Rv w2.drew.heap.size w2.drew (some ⟨g, 10, none⟩) (bys (T ++ p.take Z.length))) := HRV
    have G2 : Hid (w.grownBy w2.drew (some g)) := Lib.hid (grown_drew G2.out)
    go_region_with (go_at_call 199; refine (mix_any _ _ _ _ _ (absorb_h8 A) HML.out HRV.out (Nat.le_refl _)).mono ?_; rintro e w7 ⟨rfl, hb⟩; have hst := stS (E2.out.below hb E2.out.lt) (absorb_h8 A) (mixS_len _ (T ++ p.take Z.length) (absorb_h8 A)) HML.out; have E7 := Lib.hid ((E2.out.below hb E2.out.lt).setRow (hC (N + p.length) (mixS (absorb H256 A) (T ++ p.take Z.length)) (T ++ p.take Z.length))); have G7 := Lib.hid (grown_trans (grown_trans G2.out (below_grown hb (some g))) (grown_row w7 g (hC (N + p.length) (mixS (absorb H256 A) (T ++ p.take Z.length)) (T ++ p.take Z.length)).toArray)); clear hb)
    go_wp2_with fail
    clear hl8 hst
    generalize (w7.setRow g (hC (N + p.length) (mixS (absorb H256 A) (T ++ p.take Z.length)) (T ++ p.take Z.length)).toArray) = W1 at *
    have hB0 : (A ++ (T ++ p.take Z.length)).length % 64 = 0 := by rw [List.length_append, HML.out]; omega
    rw [← absorb_blk A _ hA HML.out] at E7
    have hR : (T ++ p.take Z.length).length = 64 := HML.out
    have hmp : A ++ (T ++ p) = (A ++ (T ++ p.take Z.length)) ++ p.drop Z.length := by
      rw [List.append_assoc, List.append_assoc, List.take_append_drop]
    have HX7 := Lib.hid (HXE.out.keep G7.out)
    rw [show p.length - Z.length = (p.drop Z.length).length from ht2.symm]
    clear E2 G2 HRV HML HR2 HT1 HXE HE hE G1 E1 HX HL ht1 ht2 hzl hsl
    generalize A ++ (T ++ p.take Z.length) = B0 at *
    generalize T ++ p.take Z.length = R at *
    generalize p.drop Z.length = q at *
    generalize c - Z.length = cq at *
    have HMP := Lib.hid hmp
    clear hmp
  rotate_left
  focus
    have hTn : T = [] := List.eq_nil_of_length_eq_zero (by omega)
    have E7 : Hid (Ar (w.setCell ⟨g, 1, none⟩ (.int .u64 ((N : Int) + (p.length : Int)))) g 315 (hC (N + p.length) (absorb H256 A) Z)) := by have := E1; rw [hTn] at this; exact this
    have HX7 := Lib.hid (HX.out.keep G1.out)
    have G7 := G1
    have hR : Z.length = 64 := by rw [hTn] at hTZ; simpa using hTZ
    have hB0 := hA
    have HTN := Lib.hid hTn
    clear hTn
    go_enter Tryz.func148, Tryz.ntmps148
    go_wp2_with fail
    generalize (w.setCell ⟨g, 1, none⟩ (.int .u64 ((N : Int) + (p.length : Int)))) = W1 at *
    clear G1 E1 HX HL hsl
    obtain ⟨B0, hBA⟩ : ∃ B0, A = B0 := ⟨_, rfl⟩
    have HMP : Hid (A ++ (T ++ p) = B0 ++ p) := Lib.hid (by rw [HTN.out, ← hBA]; rfl)
    rw [hBA] at E7 hB0
    clear hBA
    generalize Z = R at *
  all_goals
    have hlm : (A ++ (T ++ p)).length = N + p.length := by rw [← List.append_assoc, List.length_append, hN]
    have HLM := Lib.hid hlm
    have HR := Lib.hid hR
    clear hlm hR hc0 hc1 hf1 hl0 H hN hmod hmodI hw1
    go_loopw [1] (fun pv wr => ∃ (a b : List UInt8) (X : Option Addr) (c : Nat), A ++ (T ++ p) = B0 ++ (a ++ b) ∧ a.length % 64 = 0 ∧ pv = .slice X b.length c ∧ Hid (Rx wr g X c b) ∧ Hid (Ar wr g 315 (hC (N + p.length) (absorb H256 (B0 ++ a)) R)) ∧ Hid (w.grownBy wr (some g))) (fun pv _ => slLen pv)
    case atStart => exact ⟨[], _, _, _, HMP.out, rfl, rfl, HX7, by rw [List.append_nil]; exact E7, G7⟩
    case round =>
      obtain ⟨a, b, X, c, hab, ha, rfl, hx, e7, g7⟩ := hrel
      have HAB := Lib.hid hab
      clear hab
      by_cases hb : 64 ≤ b.length
      · obtain ⟨E, hE⟩ : ∃ E, (if c = 64 then X else X.map (·.add 64)) = E := ⟨_, rfl⟩
        have HE := Lib.hid hE
        have HXE := Lib.hid (hx.out.cut 64 hb)
        rw [hE] at HXE
        have hca := hx.out.cap
        have hl8 := ldS (W := wr.drew) e7.out (absorb_h8 _) HR.out
        have HRV : Hid (Rv wr.drew.heap.size wr.drew X (bys (b.take 64))) := Lib.hid (hx.out.rv.front 64)
        have e7 : Hid (Ar wr.drew g 315 (hC (N + p.length) (absorb H256 (B0 ++ a)) R)) := e7
        have g7 : Hid (w.grownBy wr.drew (some g)) := Lib.hid (grown_drew g7.out)
        have HXE : Hid (Rx wr.drew g E (c - 64) (b.drop 64)) := Lib.hid ⟨HXE.out.rv, HXE.out.ne, HXE.out.cap⟩
        have HT : Hid ((b.take 64).length = 64) := Lib.hid (by rw [List.length_take]; omega)
        clear hx
        go_wp2_with fail
        go_region_with (go_at_call 199; refine (mix_any _ _ _ _ _ (absorb_h8 (B0 ++ a)) HT.out HRV.out (Nat.le_refl _)).mono ?_; rintro e w7 ⟨rfl, hb⟩; have hst := stS (e7.out.below hb e7.out.lt) (absorb_h8 (B0 ++ a)) (mixS_len _ (b.take 64) (absorb_h8 (B0 ++ a))) HR.out; have E8 := Lib.hid ((e7.out.below hb e7.out.lt).setRow (hC (N + p.length) (mixS (absorb H256 (B0 ++ a)) (b.take 64)) R)); have G8 := Lib.hid (grown_trans (grown_trans g7.out (below_grown hb (some g))) (grown_row w7 g (hC (N + p.length) (mixS (absorb H256 (B0 ++ a)) (b.take 64)) R).toArray)); have X8 := Lib.hid (HXE.out.keep (grown_trans (below_grown hb (some g)) (grown_row w7 g (hC (N + p.length) (mixS (absorb H256 (B0 ++ a)) (b.take 64)) R).toArray))); clear hb)
        clear hl8 hst
        go_wp2_with fail
        all_goals
          refine ⟨⟨a ++ b.take 64, b.drop 64, E, c - 64, by rw [List.append_assoc, List.take_append_drop]; exact HAB.out, by rw [List.length_append, HT.out]; omega, ?_, X8, ?_, G8⟩, ?_⟩
          · rw [List.length_drop, ← HE.out]; rfl
          · rw [← List.append_assoc, absorb_blk _ _ (by rw [List.length_append]; omega) HT.out]
            exact E8
          · show b.length - 64 < b.length
            omega
      · have HL := Lib.hid (bys_len b)
        have hca := hx.out.cap
        go_wp2_with (refine wpList_copy_row rfl (.tmp 77) (.tmp 78) 57 57 rfl 5 (by kernel_rfl) (by kernel_rfl) _ _ _ _ _ _ rfl rfl g (10 + 0) _ _ e7.out (bys b) (by rw [HL.out]; show _ = min _ _; omega) _ hx.out.rv (fun _ => rfl) (by rw [HL.out, hC_len (absorb_h8 _) HR.out]; omega) (bys_one b) ?_; intro w2 hb2 hg; rw [hC_rest (absorb_h8 _)] at hb2; rw [HL.out]; have E2 := Lib.hid hb2; have G2 := Lib.hid (grown_trans g7.out hg); clear hb2 hg)
        go_end0
        refine ⟨rfl, ⟨B0 ++ a, b, R.drop b.length, by rw [HAB.out, List.append_assoc], by rw [List.length_append]; omega, by rw [List.length_drop, HR.out]; omega, by rw [List.length_drop, HR.out]; omega, ?_⟩, G2.out⟩
        rw [HLM.out]
        rw [List.take_zero, List.nil_append, Nat.zero_add] at E2
        exact E2.out
end Go.Proofs.YtbmpidacoohdmaaGreat

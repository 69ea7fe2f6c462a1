/- sha.Hash as a row of cells; Write by a contract. sha.New, sha.Hash.Sum, sha.Of by contracts. -/
import Derived.Test.YtbmpidacoohdmaaGreatF03
import Derived.Laws.CopyOwn
import Derived.StillTailTactics
import Derived.Deep.RegionWith
namespace Go.Proofs.YtbmpidacoohdmaaGreat
open Lib renaming hid → hI
open Go.RowKit

theorem inf121 : (Tryz.prog.info? 315).map (·.size) = some 74 := by kernel_rfl
/-- The cells of a hash: how many bytes came, the state, the rest's 64 bytes. -/
def hC (n : Nat) (st : List UInt32) (r : List UInt8) : List Value := .bool true :: .int .u64 (n : Int) :: (us st ++ bys r)
section
variable {n : Nat} {st su : List UInt32} {r : List UInt8}
theorem hC_len (hs : st.length = 8) (hr : r.length = 64) : (hC n st r).length = 74 := by simp [hC, us_len, bys_len, hs, hr]
theorem hC_state (hs : st.length = 8) : (hC n st r).toArray.extract 2 10 = (us st).toArray := by
  apply Array.ext'
  simp [hC, us_len, hs]
theorem hC_put (hs : st.length = 8) (hu : su.length = 8) : splice (hC n st r).toArray 2 (us su).toArray = (hC n su r).toArray := by
  simp [splice, hC, us_len, hu, hs]
theorem hC_set (m : Nat) : (hC n st r).set 1 (.int .u64 (m : Int)) = hC m st r := rfl
theorem hC_rest (hs : st.length = 8) (k : Nat) (l : List UInt8) : Go.splice (hC n st r) (10 + k) (bys l) = hC n st (r.take k ++ (l ++ r.drop (k + l.length))) := by
  have e : hC n st r = (.bool true :: .int .u64 (n : Int) :: us st) ++ bys r := rfl
  have hl : (Value.bool true :: .int .u64 (n : Int) :: us st).length = 10 := by simp [us_len, hs]
  rw [e, Go.splice, List.take_append, List.drop_append, List.take_of_length_le (by rw [hl]; omega), List.drop_eq_nil_of_le (by rw [hl, bys_len]; omega), hl, bys_len]
  rw [show 10 + k - 10 = k by omega, show 10 + k + l.length - 10 = k + l.length by omega]
  simp [hC, bys, List.map_take, List.map_drop]
theorem hC_one : ∀ u ∈ hC n st r, u.oneCell' = true := by
  intro u hu
  simp only [hC, List.mem_cons, List.mem_append] at hu
  rcases hu with rfl | rfl | hu | hu
  · rfl
  · rfl
  · exact us_one2 _ u hu
  · exact bys_one _ u hu
end
def load121 (a : Addr) : Sem Value := loadVar 315 a
theorem load121_eq (a : Addr) : loadVar 315 a = load121 a := rfl
section
variable {W : World} {g : Nat} {t : TypeId} {n : Nat} {st su : List UInt32} {r : List UInt8} {l : List Value}
theorem Ar.free (h : Ar W g t l) : free W g = true := free_of h
theorem Ar.row (h : Ar W g t l) : row W g = l.toArray := row_of h
theorem ldS (h : Ar W g t (hC n st r)) (hs : st.length = 8) (hr : r.length = 64) : (load8 ⟨g, 2, none⟩).run Tryz.prog W = .ok (.agg (us st).toArray) W := by
  have e := run_load_row W g Tryz.underlying267 rfl inf8 2 h.free (by rw [h.row, List.size_toArray, hC_len hs hr]; omega)
  rw [h.row, hC_state hs] at e
  exact e
theorem stS (h : Ar W g t (hC n st r)) (hs : st.length = 8) (hu : su.length = 8) (hr : r.length = 64) : (store8 ⟨g, 2, none⟩ (.agg (us su).toArray)).run Tryz.prog W = .ok () (W.setRow g (hC n su r).toArray) := by
  have e := run_store_row W g inf8 2 (us su).toArray (us_one su) (by simp [us_len, hu]) h.free (by rw [h.row, List.size_toArray, hC_len hs hr]; omega)
  rw [h.row, hC_put hs hu] at e
  exact e
end
/-- A slice that reads, and none of whose cells lies in the block g. -/
structure Rx (W : World) (g : Nat) (X : Option Addr) (c : Nat) (l : List UInt8) : Prop where
  rv : Rv W.heap.size W X (bys l)
  ne : ∀ ad, X = some ad → 0 < l.length → ad.block ≠ g
  cap : l.length ≤ c
theorem Rx.keep {W V : World} {g : Nat} {X : Option Addr} {c : Nat} {l : List UInt8} (h : Rx W g X c l) (hg : W.grownBy V (some g)) : Rx V g X c l :=
  ⟨fun k x hx => by
    obtain ⟨ad, e, hb, hc⟩ := h.rv k x hx
    refine ⟨ad, e, Nat.lt_of_lt_of_le hb hg.size, ?_⟩
    rw [← hc]
    refine cell_heap ?_
    rw [block_add]
    exact hg.block _ hb (fun q => h.ne ad e (by have := (List.getElem?_eq_some_iff.1 hx).1; rw [bys_len] at this; omega) (Option.some.inj q)), h.ne, h.cap⟩
theorem Rx.cut {W : World} {g : Nat} {X : Option Addr} {c : Nat} {l : List UInt8} (h : Rx W g X c l) (i : Nat) (hi : i ≤ l.length) : Rx W g (if c = i then X else X.map (·.add i)) (c - i) (l.drop i) :=
  ⟨by have := rv_cut h.rv h.cap i (l.length - i) (by omega)
      rwa [List.take_of_length_le (by rw [List.length_drop]; omega)] at this, fun ad e hp => by
    rw [List.length_drop] at hp
    split at e
    · exact h.ne ad e (by omega)
    · cases X with
      | none => cases e
      | some a => cases e; rw [block_add]; exact h.ne a rfl (by omega), by have := h.cap; rw [List.length_drop]; omega⟩
theorem below_grown {W V : World} (h : Below W.heap.size W V) (r : Option Nat) : W.grownBy V r := ⟨h.os, h.tape, h.output, h.size, fun k hk _ => h.block k hk⟩
theorem grown_cell (W : World) (g k : Nat) (v : Value) : W.grownBy (W.setCell ⟨g, k, none⟩ v) (some g) := ⟨rfl, rfl, rfl, by simp, fun q _ hne => Below.heap_setCell W _ v q (fun e => hne (by rw [e]))⟩
/-- copy into a row, whatever it copies from. -/
theorem wpList_copy_row {P : Program} {w : World} {ops : Array Oper} {rest : List Oper} {o : Oper} {a : Act} {Q : Exit → Act → World → Prop} (hgd : o.guard = none) (d s : Operand) (dT sT : TypeId)
    (ho : o.op = .call { callee := .builtin .copy, args := #[d, s], argTypes := #[dT, sT] }) (elem : TypeId) (hu : P.underlying dT = some (.slice elem)) (hsz : (P.info? elem).map (·.size) = some 1)
    (dp sp : Option Addr) (dLen dCap sLen sCap : Nat) (hd : a.eval d = .slice dp dLen dCap) (hs : a.eval s = .slice sp sLen sCap)
    (g off : Nat) (cur : List Value) (t : TypeId) (hg : Ar w g t cur) (cs : List Value) (hn : cs.length = Nat.min sLen dLen) (C : Nat) (hrv : Rv C w sp cs)
    (hpos : 0 < cs.length → dp = some ⟨g, off, none⟩) (hfit : off + cs.length ≤ cur.length) (h1 : ∀ v ∈ cs, v.oneCell' = true)
    (h : ∀ w', Ar w' g t (Go.splice cur off cs) → w.grownBy w' (some g) → wpList P ops Q rest (a.put o.dst (goInt cs.length)) w') :
    wpList P ops Q (o :: rest) a w := by
  by_cases h0 : cs.length = 0
  · obtain rfl : cs = [] := List.eq_nil_of_length_eq_zero h0
    refine wpList_copy_nothing hgd d s dT sT ho elem hu hsz dp sp dLen dCap sLen sCap hd hs (by simpa using hn.symm) ?_
    exact h w (show w.heap[g]? = _ by rw [show Go.splice cur off [] = cur by simp [Go.splice]]; exact hg) (grown_refl _ _)
  · obtain ⟨ad, rfl, _, hsrc⟩ := hrv.some_ (by omega)
    obtain rfl := hpos (by omega)
    refine wpList_copy_own hgd d s dT sT ho elem hu hsz g off dLen dCap ad sLen sCap hd hs cur.toArray t hg cs hn (fun j v hv => hsrc j v hv) (by simpa using hfit) h1 ?_
    exact h _ (show _ = _ by simpa [Go.splice] using setRow_heap w g _ _ t _ hg) (grown_row w g _)
/-- The hash at g has taken the bytes m. -/
def Hs (W : World) (g : Nat) (m : List UInt8) : Prop := ∃ A T Z : List UInt8, m = A ++ T ∧ A.length % 64 = 0 ∧ T.length + Z.length = 64 ∧ 0 < Z.length ∧ Ar W g 315 (hC m.length (absorb H256 A) (T ++ Z))
theorem restRv {W : World} {g : Nat} {t : TypeId} {n : Nat} {st : List UInt32} {r : List UInt8} (h : Ar W g t (hC n st r)) (hs : st.length = 8) : Rv W.heap.size W (some ⟨g, 10, none⟩) (bys r) := fun k x hx => by
  refine ⟨_, rfl, h.lt, ?_⟩
  rw [Addr.add_lit]
  refine h.cell ?_
  have e : hC n st r = (.bool true :: .int .u64 (n : Int) :: us st) ++ bys r := rfl
  rw [e, List.getElem?_append_right (by simp [us_len, hs]), ← hx]
  congr 1
  simp [us_len, hs]
theorem drop_past (T Z : List UInt8) (n : Nat) : (T ++ Z).drop (T.length + n) = Z.drop n := by rw [← List.drop_drop, List.drop_left]
def slLen : Value → Nat
  | .slice _ n _ => n
  | _ => 0
theorem Rv.front {B : Nat} {w : World} {A : Option Addr} {l : List UInt8} (h : Rv B w A (bys l)) (n : Nat) : Rv B w A (bys (l.take n)) := fun k x hx => h k x (by
  rw [show bys (l.take n) = (bys l).take n by simp [bys, List.map_take], List.getElem?_take] at hx
  split at hx
  · exact hx
  · cases hx)
theorem absorb_blk (a b : List UInt8) (ha : a.length % 64 = 0) (hb : b.length = 64) : absorb H256 (a ++ b) = mixS (absorb H256 a) b := by
  rw [absorb_app _ _ _ _ (Nat.le_refl _) ha, absorb_more (by omega), absorb_small (by rw [List.length_drop]; omega), List.take_of_length_le (by omega)]
theorem absorb_h8 (a : List UInt8) : (absorb H256 a).length = 8 := absorb_len _ _ _ (Nat.le_refl _) rfl
theorem len119 : Tryz.prog.arrayLen 313 = 64 := by kernel_rfl
theorem und119 : Tryz.prog.underlying 313 = some (.array (Tryz.prog.arrayLen 313) (Tryz.prog.elem 313)) := by kernel_rfl
theorem siz119 (W : World) : (sizeOf (Tryz.prog.elem 313)).run Tryz.prog W = .ok 1 W := by
  have e : (Tryz.prog.info? (Tryz.prog.elem 313)).map (·.size) = some 1 := by kernel_rfl
  obtain ⟨i, hi, hz⟩ := Option.map_eq_some_iff.1 e
  simp [sizeOf, typeInfo, hi, hz]
theorem cut119 (W : World) (g o k : Nat) (hk : k < 64) : (Instr.sliceAt 313 (.pointer (some ⟨g, o, none⟩)) (some (.int .i64 (k : Int))) none none).run Tryz.prog W = .ok (.slice (some ⟨g, o + k, none⟩) (64 - k) (64 - k)) W := by
  rw [run_sliceAt_array_l W _ _ und119 _ _ (by omega) (by rw [len119]; omega), siz119, len119]
  simp only [Result.andThen_ok, slicedAt]
  rw [if_neg (by omega), Int.toNat_natCast, Nat.mul_one, Addr.add_lit]
theorem all119 (W : World) (a : Addr) : (Instr.sliceAt 313 (.pointer (some a)) none none none).run Tryz.prog W = .ok (.slice (some a) 64 64) W := by
  rw [run_sliceAt_array_all W _ _ und119, siz119, len119]
  simp [slicedAt, Addr.add]
attribute [local go_sem ↓] load8_eq store8_eq all119
set_option maxRecDepth 100000 in
set_option maxHeartbeats 2000000 in
theorem hwrite_any (w : World) (g : Nat) (m p : List UInt8) (X : Option Addr) (c : Nat) (h : Hs w g m) (hx : Rx w g X c p) (hm : m.length + p.length ≤ 1000000000) :
    Calls Tryz.prog 148 #[.pointer (some ⟨g, 0, none⟩), .slice X p.length c] w fun e w2 => e = .returned (.tuple #[]) ∧ Hs w2 g (m ++ p) ∧ w.grownBy w2 (some g) := by
  obtain ⟨A, T, Z, rfl, hA, hTZ, hZ, har⟩ := h
  have H := hI har
  have HX := hI hx
  have hlt := har.lt
  have hl0 : (hC (A ++ T).length (absorb H256 A) (T ++ Z)).length = 74 := hC_len (absorb_h8 A) (by rw [List.length_append, hTZ])
  have hc0 : w.cell? ⟨g, 0, none⟩ = some (.bool true) := har.cell rfl
  have hc1 : w.cell? ⟨g, 1, none⟩ = some (.int .u64 ((A ++ T).length : Int)) := har.cell rfl
  have hf1 := har.frozen 1
  have e1 := har.set 1 (.int .u64 (((A ++ T).length + p.length : Nat) : Int))
  rw [hC_set, Int.natCast_add] at e1
  have E1 := hI e1
  have G1 := hI (grown_cell w g 1 (.int .u64 (((A ++ T).length : Int) + (p.length : Int))))
  have hmod : (A ++ T).length % 64 = T.length := by rw [List.length_append]; omega
  have hmodI : ((A ++ T).length : Int) % 64 = (T.length : Int) := by omega
  generalize hN : (A ++ T).length = N at *
  have hw1 : IntKind.u64.wrap ((N : Int) + (p.length : Int)) = (N : Int) + (p.length : Int) := wraps_u64 _ (by omega) (by omega)
  have hsl := fun W => cut119 W g 10 T.length (by omega)
  have HL := hI (bys_len p)
  clear har e1 hx
  by_cases hT : 0 < T.length
  by_cases hp : p.length < Z.length
  · go_enter Tryz.func148, Tryz.ntmps148
    go_wp2_with (refine wpList_copy_row rfl (.tmp 37) (.tmp 38) 57 57 rfl 5 (by kernel_rfl) (by kernel_rfl) _ _ _ _ _ _ rfl rfl g (10 + T.length) _ _ E1.out (bys p) (by rw [HL.out]; show _ = min _ _; omega) _ (HX.out.keep G1.out).rv (fun _ => rfl) (by rw [HL.out, hC_len (absorb_h8 A) (by rw [List.length_append, hTZ])]; omega) (bys_one p) ?_; intro w2 ha hg; rw [hC_rest (absorb_h8 A)] at ha; rw [HL.out]; have E2 := hI ha; have G2 := hI (grown_trans G1.out hg); clear ha hg)
    all_goals
      refine bodyPost_ret (results_none rfl _ _ _) rfl ?_
      have hlm : (A ++ (T ++ p)).length = N + p.length := by rw [← List.append_assoc, List.length_append, hN]
      rw [List.take_left, drop_past] at E2
      refine ⟨rfl, ⟨A, T ++ p, Z.drop p.length, rfl, hA, by rw [List.length_append, List.length_drop]; omega, by rw [List.length_drop]; omega, ?_⟩, G2.out⟩
      rw [hlm, List.append_assoc]
      exact E2.out
  focus
    obtain ⟨E, hE⟩ : ∃ E, (if c = Z.length then X else X.map (·.add Z.length)) = E := ⟨_, rfl⟩
    have HE := hI hE
    have HXE := hI (HX.out.cut Z.length (by omega))
    rw [hE] at HXE
    have HT1 := hI (bys_len (p.take Z.length))
    have ht1 : (p.take Z.length).length = Z.length := by rw [List.length_take]; omega
    have ht2 : (p.drop Z.length).length = p.length - Z.length := List.length_drop
    have HR2 : Hid (((T ++ Z).take T.length ++ (p.take Z.length ++ (T ++ Z).drop (T.length + (p.take Z.length).length))) = T ++ p.take Z.length) := hI (by rw [List.take_left, List.drop_eq_nil_of_le (by rw [List.length_append, ht1]; omega), List.append_nil])
    have hzl : ¬ ((T.length : Int) + (Z.length : Int) < 64) := by omega
    go_enter Tryz.func148, Tryz.ntmps148
    go_wp2_with (refine wpList_copy_row rfl (.tmp 37) (.tmp 38) 57 57 rfl 5 (by kernel_rfl) (by kernel_rfl) _ _ _ _ _ _ rfl rfl g (10 + T.length) _ _ E1.out (bys (p.take Z.length)) (by rw [HT1.out, ht1]; show _ = min _ _; omega) _ ((HX.out.keep G1.out).rv.front Z.length) (fun _ => rfl) (by rw [HT1.out, ht1, hC_len (absorb_h8 A) (by rw [List.length_append, hTZ])]; omega) (bys_one _) ?_; intro w2 ha hg; rw [hC_rest (absorb_h8 A), HR2.out] at ha; rw [HT1.out, ht1]; have E2 := hI ha; have G2 := hI (grown_trans G1.out hg); clear ha hg)
    have hl8 := ldS (W := w2.drew) E2.out (absorb_h8 A) (by rw [List.length_append, ht1]; exact hTZ)
    have HRV := hI (restRv E2.out (absorb_h8 A))
    have HML : Hid ((T ++ p.take Z.length).length = 64) := hI (by rw [List.length_append, ht1]; exact hTZ)
    have E2 : Hid (Ar w2.drew g 315 (hC (N + p.length) (absorb H256 A) (T ++ p.take Z.length))) := E2
    have HRV : Hid (Rv w2.drew.heap.size w2.drew (some ⟨g, 10, none⟩) (bys (T ++ p.take Z.length))) := HRV
    have G2 : Hid (w.grownBy w2.drew (some g)) := hI (grown_drew G2.out)
    go_region_with (go_at_call 199; refine (mix_any _ _ _ _ _ (absorb_h8 A) HML.out HRV.out (Nat.le_refl _)).mono ?_; rintro e w7 ⟨rfl, hb⟩; have hst := stS (E2.out.below hb E2.out.lt) (absorb_h8 A) (mixS_len _ (T ++ p.take Z.length) (absorb_h8 A)) HML.out; have E7 := hI ((E2.out.below hb E2.out.lt).setRow (hC (N + p.length) (mixS (absorb H256 A) (T ++ p.take Z.length)) (T ++ p.take Z.length))); have G7 := hI (grown_trans (grown_trans G2.out (below_grown hb (some g))) (grown_row w7 g (hC (N + p.length) (mixS (absorb H256 A) (T ++ p.take Z.length)) (T ++ p.take Z.length)).toArray)); clear hb)
    go_wp2_with fail
    clear hl8 hst
    generalize (w7.setRow g (hC (N + p.length) (mixS (absorb H256 A) (T ++ p.take Z.length)) (T ++ p.take Z.length)).toArray) = W1 at *
    have hB0 : (A ++ (T ++ p.take Z.length)).length % 64 = 0 := by rw [List.length_append, HML.out]; omega
    rw [← absorb_blk A _ hA HML.out] at E7
    have hR : (T ++ p.take Z.length).length = 64 := HML.out
    have hmp : A ++ (T ++ p) = (A ++ (T ++ p.take Z.length)) ++ p.drop Z.length := by
      rw [List.append_assoc, List.append_assoc, List.take_append_drop]
    have HX7 := hI (HXE.out.keep G7.out)
    rw [show p.length - Z.length = (p.drop Z.length).length from ht2.symm]
    clear E2 G2 HRV HML HR2 HT1 HXE HE hE G1 E1 HX HL ht1 ht2 hzl hsl
    generalize A ++ (T ++ p.take Z.length) = B0 at *
    generalize T ++ p.take Z.length = R at *
    generalize p.drop Z.length = q at *
    generalize c - Z.length = cq at *
    have HMP := hI hmp
    clear hmp
  rotate_left
  focus
    have hTn : T = [] := List.eq_nil_of_length_eq_zero (by omega)
    have E7 : Hid (Ar (w.setCell ⟨g, 1, none⟩ (.int .u64 ((N : Int) + (p.length : Int)))) g 315 (hC (N + p.length) (absorb H256 A) Z)) := by have := E1; rw [hTn] at this; exact this
    have HX7 := hI (HX.out.keep G1.out)
    have G7 := G1
    have hR : Z.length = 64 := by rw [hTn] at hTZ; simpa using hTZ
    have hB0 := hA
    have HTN := hI hTn
    clear hTn
    go_enter Tryz.func148, Tryz.ntmps148
    go_wp2_with fail
    generalize (w.setCell ⟨g, 1, none⟩ (.int .u64 ((N : Int) + (p.length : Int)))) = W1 at *
    clear G1 E1 HX HL hsl
    obtain ⟨B0, hBA⟩ : ∃ B0, A = B0 := ⟨_, rfl⟩
    have HMP : Hid (A ++ (T ++ p) = B0 ++ p) := hI (by rw [HTN.out, ← hBA]; rfl)
    rw [hBA] at E7 hB0
    clear hBA
    generalize Z = R at *
  all_goals
    have hlm : (A ++ (T ++ p)).length = N + p.length := by rw [← List.append_assoc, List.length_append, hN]
    have HLM := hI hlm
    have HR := hI hR
    clear hlm hR hc0 hc1 hf1 hl0 H hN hmod hmodI hw1
    go_loopw [1] (fun pv wr => ∃ (a b : List UInt8) (X : Option Addr) (c : Nat), A ++ (T ++ p) = B0 ++ (a ++ b) ∧ a.length % 64 = 0 ∧ pv = .slice X b.length c ∧ Hid (Rx wr g X c b) ∧ Hid (Ar wr g 315 (hC (N + p.length) (absorb H256 (B0 ++ a)) R)) ∧ Hid (w.grownBy wr (some g))) (fun pv _ => slLen pv)
    case atStart => exact ⟨[], _, _, _, HMP.out, rfl, rfl, HX7, by rw [List.append_nil]; exact E7, G7⟩
    case round =>
      obtain ⟨a, b, X, c, hab, ha, rfl, hx, e7, g7⟩ := hrel
      have HAB := hI hab
      clear hab
      by_cases hb : 64 ≤ b.length
      · obtain ⟨E, hE⟩ : ∃ E, (if c = 64 then X else X.map (·.add 64)) = E := ⟨_, rfl⟩
        have HE := hI hE
        have HXE := hI (hx.out.cut 64 hb)
        rw [hE] at HXE
        have hca := hx.out.cap
        have hl8 := ldS (W := wr.drew) e7.out (absorb_h8 _) HR.out
        have HRV : Hid (Rv wr.drew.heap.size wr.drew X (bys (b.take 64))) := hI (hx.out.rv.front 64)
        have e7 : Hid (Ar wr.drew g 315 (hC (N + p.length) (absorb H256 (B0 ++ a)) R)) := e7
        have g7 : Hid (w.grownBy wr.drew (some g)) := hI (grown_drew g7.out)
        have HXE : Hid (Rx wr.drew g E (c - 64) (b.drop 64)) := hI ⟨HXE.out.rv, HXE.out.ne, HXE.out.cap⟩
        have HT : Hid ((b.take 64).length = 64) := hI (by rw [List.length_take]; omega)
        clear hx
        go_wp2_with fail
        go_region_with (go_at_call 199; refine (mix_any _ _ _ _ _ (absorb_h8 (B0 ++ a)) HT.out HRV.out (Nat.le_refl _)).mono ?_; rintro e w7 ⟨rfl, hb⟩; have hst := stS (e7.out.below hb e7.out.lt) (absorb_h8 (B0 ++ a)) (mixS_len _ (b.take 64) (absorb_h8 (B0 ++ a))) HR.out; have E8 := hI ((e7.out.below hb e7.out.lt).setRow (hC (N + p.length) (mixS (absorb H256 (B0 ++ a)) (b.take 64)) R)); have G8 := hI (grown_trans (grown_trans g7.out (below_grown hb (some g))) (grown_row w7 g (hC (N + p.length) (mixS (absorb H256 (B0 ++ a)) (b.take 64)) R).toArray)); have X8 := hI (HXE.out.keep (grown_trans (below_grown hb (some g)) (grown_row w7 g (hC (N + p.length) (mixS (absorb H256 (B0 ++ a)) (b.take 64)) R).toArray))); clear hb)
        clear hl8 hst
        go_wp2_with fail
        all_goals
          refine ⟨⟨a ++ b.take 64, b.drop 64, E, c - 64, by rw [List.append_assoc, List.take_append_drop]; exact HAB.out, by rw [List.length_append, HT.out]; omega, ?_, X8, ?_, G8⟩, ?_⟩
          · rw [List.length_drop, ← HE.out]; rfl
          · rw [← List.append_assoc, absorb_blk _ _ (by rw [List.length_append]; omega) HT.out]
            exact E8
          · show b.length - 64 < b.length
            omega
      · have HL := hI (bys_len b)
        have hca := hx.out.cap
        go_wp2_with (refine wpList_copy_row rfl (.tmp 77) (.tmp 78) 57 57 rfl 5 (by kernel_rfl) (by kernel_rfl) _ _ _ _ _ _ rfl rfl g (10 + 0) _ _ e7.out (bys b) (by rw [HL.out]; show _ = min _ _; omega) _ hx.out.rv (fun _ => rfl) (by rw [HL.out, hC_len (absorb_h8 _) HR.out]; omega) (bys_one b) ?_; intro w2 hb2 hg; rw [hC_rest (absorb_h8 _)] at hb2; rw [HL.out]; have E2 := hI hb2; have G2 := hI (grown_trans g7.out hg); clear hb2 hg)
        go_end0
        refine ⟨rfl, ⟨B0 ++ a, b, R.drop b.length, by rw [HAB.out, List.append_assoc], by rw [List.length_append]; omega, by rw [List.length_drop, HR.out]; omega, by rw [List.length_drop, HR.out]; omega, ?_⟩, G2.out⟩
        rw [HLM.out]
        rw [List.take_zero, List.nil_append, Nat.zero_add] at E2
        exact E2.out
end Go.Proofs.YtbmpidacoohdmaaGreat
namespace Go.Proofs.YtbmpidacoohdmaaGreat
open Lib renaming hid → hI
open Go.RowKit

def sh24 (x : UInt32) : UInt32 := x >>> UInt32.ofNat 24
def sh16 (x : UInt32) : UInt32 := x >>> UInt32.ofNat 16
def sh08 (x : UInt32) : UInt32 := x >>> UInt32.ofNat 8
def c8 (x : UInt32) : UInt8 := by8 x.toNat
/-- A block of zeros. -/
def zR : List UInt8 := List.replicate 64 0
theorem zR_len : zR.length = 64 := List.length_replicate
def z121 : Array Value := (.bool false :: .int .u64 0 :: (us (List.replicate 8 0) ++ bys (List.replicate 64 0))).toArray
theorem z121_info : (Tryz.prog.info? 315).map (·.zero) = some (some (.agg z121)) := by kernel_rfl
def new121 : Sem Value := Instr.alloc 315 true (.tuple #[])
def store121 (a : Addr) (v : Value) : Sem Unit := storeVar 315 a v
def buildH (ps : Array (Nat × Value)) : Sem Value := Instr.build 315 ps
def boxH (v : Value) : Sem Value := Instr.box 315 v
theorem new121_eq : Instr.alloc 315 true (.tuple #[]) = new121 := rfl
theorem store121_eq (a : Addr) (v : Value) : storeVar 315 a v = store121 a v := rfl
theorem buildH_eq (ps : Array (Nat × Value)) : Instr.build 315 ps = buildH ps := rfl
theorem boxH_eq (v : Value) : Instr.box 315 v = boxH v := rfl
theorem run_new121 (W : World) : new121.run Tryz.prog W = .ok (.pointer (some ⟨W.heap.size, 0, none⟩)) (W.alloc (.cells z121 315)) := by
  obtain ⟨i, hi, hz⟩ := Option.map_eq_some_iff.1 z121_info
  simp [new121, Instr.alloc, zeroValue, typeInfo, hi, hz, newVar, newRow, Value.cells]
theorem run_buildH (W : World) : (buildH #[(0, .bool true), (2, .agg (us H256).toArray)]).run Tryz.prog W = .ok (.agg (hC 0 H256 zR).toArray) W := by
  kernel_rfl
theorem run_boxH (W : World) (cs : Array Value) : (boxH (.agg cs)).run Tryz.prog W = .ok (.pointer (some ⟨W.heap.size, 0, none⟩)) (W.alloc (.cells cs 315)) := by
  simp [boxH, Instr.box, newVar, newRow, Value.cells]
section
variable {W : World} {g : Nat} {t : TypeId} {l m : List Value}
theorem ld121 (h : Ar W g t l) (hl : l.length = 74) : (load121 ⟨g, 0, none⟩).run Tryz.prog W = .ok (.agg l.toArray) W := h.load hl Tryz.underlying315 rfl inf121
theorem st121 (h : Ar W g t l) (hl : l.length = 74) (hm : m.length = 74) (h1 : ∀ u ∈ m, u.oneCell' = true) : (store121 ⟨g, 0, none⟩ (.agg m.toArray)).run Tryz.prog W = .ok () (W.setRow g m.toArray) := h.store hl hm h1 inf121
end
attribute [local go_sem ↓] load121_eq store121_eq new121_eq buildH_eq boxH_eq run_new121
attribute [local go_sem] run_buildH run_boxH
set_option maxRecDepth 100000 in
set_option maxHeartbeats 2000000 in
theorem hnew_any (w : World) :
    Calls Tryz.prog 147 #[] w fun e w2 => ∃ g, e = .returned (.pointer (some ⟨g, 0, none⟩)) ∧ w.heap.size ≤ g ∧ Hs w2 g [] ∧ Below w.heap.size w w2 := by
  go_enter Tryz.func147, Tryz.ntmps147
  go_wp2_with fail
  refine (start_any _).mono ?_
  rintro e w4 ⟨rfl, hb⟩
  have hn : Ar (w4.alloc (.cells (hC 0 H256 zR).toArray 315)) w4.heap.size 315 (hC 0 H256 zR) := Ar.new w4 _ _
  have HN := hI hn
  have HB := hI (hb.alloc (by have := hb.size; omega) (.cells (hC 0 H256 zR).toArray 315))
  have hs := hb.size
  clear hn hb
  go_wp2_with fail
  go_ret
  exact ⟨_, rfl, hs, ⟨[], [], zR, rfl, rfl, zR_len, by rw [zR_len]; omega, by rw [absorb_small (by simp)]; exact HN.out⟩, HB.out⟩
theorem run_idx8 (st : List UInt32) (hs : st.length = 8) (i : Nat) (hi : i < 8) (W : World) : (Instr.index 267 (.agg (us st).toArray) (.int .i64 (i : Int))).run Tryz.prog W = .ok (U (st.getD i 0)) W := by
  obtain ⟨ii, hii, hz⟩ := Option.map_eq_some_iff.1 inf56
  have hp := run_part_one (P := Tryz.prog) (w := W) Tryz.underlying217 rfl (us st) i (us_at (by omega))
  simp [Instr.index, asIntOf, run_underlying Tryz.underlying267, sizeOf, typeInfo, hii, hz, hp]
  exact fun h => absurd hi (by omega)
theorem run_cut8 (y : UInt32) (W : World) : (convert 217 5 (U y)).run Tryz.prog W = .ok (.int .u8 ((c8 y).toNat : Int)) W := by
  have hd : Tryz.prog.underlying 5 = some (.int (Tryz.prog.intKind 5)) := by kernel_rfl
  have hk : Tryz.prog.intKind 5 = .u8 := by kernel_rfl
  rw [U, run_convert_int W _ _ _ _ (by kernel_rfl) hd, hk, c8, by8_nat]
  simp [IntKind.wrap_u8]
theorem shr_nat (x : UInt32) (n : Nat) (hn : n < 32) : (x >>> UInt32.ofNat n).toNat = x.toNat / 2 ^ n := by
  rw [UInt32.toNat_shiftRight, Nat.shiftRight_eq_div_pow]
  simp [Nat.mod_eq_of_lt (show n < 4294967296 by omega), Nat.mod_eq_of_lt hn]
theorem run_sh24 (x : UInt32) (W : World) : (binOp .shr 217 (U x) (.int .u64 24)).run Tryz.prog W = .ok (U (sh24 x)) W := run_shrU W _ x 24 (by omega)
theorem run_sh16 (x : UInt32) (W : World) : (binOp .shr 217 (U x) (.int .u64 16)).run Tryz.prog W = .ok (U (sh16 x)) W := run_shrU W _ x 16 (by omega)
theorem run_sh08 (x : UInt32) (W : World) : (binOp .shr 217 (U x) (.int .u64 8)).run Tryz.prog W = .ok (U (sh08 x)) W := run_shrU W _ x 8 (by omega)
theorem be4_c8 (x : UInt32) : be4 x.toNat = [c8 (sh24 x), c8 (sh16 x), c8 (sh08 x), c8 x] := by
  rw [c8, c8, c8, c8, sh24, sh16, sh08, shr_nat _ _ (by omega), shr_nat _ _ (by omega), shr_nat _ _ (by omega)]
  rfl
attribute [local go_sem ↓] run_sh24 run_sh16 run_sh08 run_cut8
/-- A whole number of blocks leaves the state behind all bytes. -/
theorem Hs.whole {W : World} {g : Nat} {m : List UInt8} (h : Hs W g m) (hm : m.length % 64 = 0) : ∃ r, r.length = 64 ∧ Ar W g 315 (hC m.length (absorb H256 m) r) := by
  obtain ⟨A, T, Z, e, hA, hTZ, hZ, har⟩ := h
  have hT : T = [] := List.eq_nil_of_length_eq_zero (by rw [e, List.length_append] at hm; omega)
  subst hT
  rw [List.append_nil] at e
  subst e
  exact ⟨Z, by simpa using hTZ, har⟩
attribute [local go_sem ↓] load8_eq store8_eq load42_eq store42_eq new42_eq run_new42
set_option maxRecDepth 100000 in
set_option maxHeartbeats 2000000 in
theorem hsum_any (w : World) (g : Nat) (m : List UInt8) (h : Hs w g m) (hm : m.length ≤ 100000000) :
    Calls Tryz.prog 149 #[.pointer (some ⟨g, 0, none⟩)] w fun e w2 => e = .returned (.agg (bys (shaOf m)).toArray) ∧ Below w.heap.size w w2 := by
  have hSL := shaOf_len m
  generalize hS : shaOf m = S at *
  have HSH : Hid (outB (absorb H256 (m ++ padW m.length)) = S) := hI hS
  obtain ⟨A, T, Z, e, hA, hTZ, hZ, har⟩ := h
  have hlt := har.lt
  have HE := hI e
  have hlen : (hC m.length (absorb H256 A) (T ++ Z)).length = 74 := hC_len (absorb_h8 A) (by rw [List.length_append, hTZ])
  generalize hN : m.length = N at *
  have h1 := har.alloc (.cells z42 51)
  have hc0 : (w.alloc (.cells z42 51)).cell? ⟨g, 0, none⟩ = some (.bool true) := h1.cell rfl
  have hl := ld121 h1 hlen
  have n1 : Ar ((w.alloc (.cells z42 51)).alloc (.cells z121 315)) (w.heap.size + 1) 315 (.bool false :: .int .u64 0 :: (us (List.replicate 8 0) ++ bys (List.replicate 64 0))) := by
    have := Ar.new (w.alloc (.cells z42 51)) (.bool false :: .int .u64 0 :: (us (List.replicate 8 0) ++ bys (List.replicate 64 0))) 315
    rw [World.size_alloc] at this
    exact this
  have hst := st121 n1 (by simp [us_len, bys_len]) hlen hC_one
  have n2 := n1.setRow (hC N (absorb H256 A) (T ++ Z))
  have g2 := (h1.alloc (.cells z121 315)).past (w.heap.size + 1) (hC N (absorb H256 A) (T ++ Z)).toArray (by omega)
  have r0 : Ar (w.alloc (.cells z42 51)) w.heap.size 51 (bys (List.replicate 32 0)) := Ar.new w (bys (List.replicate 32 0)) 51
  have r2 := (r0.alloc (.cells z121 315)).past (w.heap.size + 1) (hC N (absorb H256 A) (T ++ Z)).toArray (by omega)
  have b2 := below_row (((Below.refl w.heap.size w).alloc (Nat.le_refl _) (.cells z42 51)).alloc (by simp) (.cells z121 315)) (w.heap.size + 1) (hC N (absorb H256 A) (T ++ Z)).toArray (by omega)
  have hs2 : (((w.alloc (.cells z42 51)).alloc (.cells z121 315)).setRow (w.heap.size + 1) (hC N (absorb H256 A) (T ++ Z)).toArray).heap.size = w.heap.size + 2 := by simp
  have hc1 := g2.cell (k := 1) (v := .int .u64 (N : Int)) rfl
  have N2 := hI n2
  have R2 := hI r2
  have B2 := hI b2
  have hsw : (w.alloc (.cells z42 51)).heap.size = w.heap.size + 1 := World.size_alloc _ _
  clear har h1 r0 n1 n2 g2 r2 b2 e hS
  go_enter Tryz.func149, Tryz.ntmps149
  go_wp2_with fail
  generalize (((w.alloc (.cells z42 51)).alloc (.cells z121 315)).setRow (w.heap.size + 1) (hC N (absorb H256 A) (T ++ Z)).toArray) = w2 at *
  refine (pad_any w2 N (by omega)).mono ?_
  rintro e w3 ⟨u, rfl, ho, hb⟩
  obtain ⟨D, d, hv, hD, hd, hrv, hfar⟩ := own_all ho
  subst hv
  have hs3 := hb.size
  have hx : Rx w3 (w.heap.size + 1) D d (padW N) := ⟨hrv, fun ad e _ => by have := (hfar ad e).1; omega, hd⟩
  have hh : Hs w3 (w.heap.size + 1) m := ⟨A, T, Z, HE.out, hA, hTZ, hZ, by rw [hN]; exact N2.out.below hb (by omega)⟩
  have hpl : (padW N).length ≤ 80 := by rw [padW_len]; unfold gapN; omega
  have HX := hI hx
  have HH := hI hh
  have R3 := hI (R2.out.below hb (by omega))
  have B3 := hI (B2.out.trans (hb.mono (by omega)))
  clear ho hb hrv hfar hx hh N2 R2 B2 hl hst
  go_wp2_with fail
  refine (hwrite_any w3 (w.heap.size + 1) m (padW N) D d HH.out HX.out (by omega)).mono ?_
  rintro e w4 ⟨rfl, h4, hg⟩
  have hs4 := hg.size
  have hpm := pad_mod m
  rw [hN] at hpm
  obtain ⟨r, hr, h4⟩ := h4.whole hpm
  generalize m ++ padW N = all at *
  have hal := absorb_h8 all
  generalize absorb H256 all = st at *
  have HOB := hI (outB_len st)
  have h5 := h4.alloc (.cells z42 51)
  have hl8 := ldS h5 hal hr
  have N5 := hI (Ar.new w4 (bys (List.replicate 32 0)) 51)
  have N5 : Hid (Ar (w4.alloc (.cells z42 51)) w4.heap.size 51 (bys (List.replicate 32 0))) := N5
  have R5 := hI ((R3.out.later hg (by intro e; have := Option.some.inj e; omega)).alloc (.cells z42 51))
  have B5 := hI ((B3.out.trans (below_of_grown hg (B := w.heap.size) (by omega) (fun k hk => by have := Option.some.inj hk; omega))).alloc (by omega) (.cells z42 51))
  clear h4 h5 hg HX HH R3 B3
  go_wp2_with fail
  have hgr : w.heap.size < w4.heap.size := by omega
  clear hl8
  generalize w4.alloc (.cells z42 51) = w6 at *
  go_loopw [28] (fun iv wr => ∃ i : Nat, i ≤ 8 ∧ iv = .int .i64 i ∧ Ar wr w.heap.size 51 (bys (List.replicate 32 0)) ∧ Ar wr w4.heap.size 51 (bys ((outB st).take (4 * i) ++ List.replicate (32 - 4 * i) 0)) ∧ Hid (Below w.heap.size w wr)) (fun iv _ => 8 - (intOf iv).toNat)
  case atStart => exact ⟨0, by omega, rfl, R5.out, N5.out, B5⟩
  case round =>
    clear R5 N5 B5
    obtain ⟨i, hi, rfl, r4, n4, b4⟩ := hrel
    by_cases hli : i < 8
    · have HSTP := hI (outB_step st i (by rw [hal]; exact hli))
      have hix := run_idx8 st hal i hli
      generalize st.getD i 0 = y3 at *
      rw [be4_c8] at HSTP
      have hsplit : (outB st).take (4 * i) ++ List.replicate (32 - 4 * i) 0 = (outB st).take (4 * i) ++ ([0, 0, 0, 0] ++ List.replicate (28 - 4 * i) 0) := by
        congr 1
        rw [show 32 - 4 * i = 4 + (28 - 4 * i) by omega, ← List.replicate_append_replicate]
        rfl
      have hpl : ((outB st).take (4 * i)).length = 4 * i := by rw [List.length_take, HOB.out, hal]; omega
      rw [hsplit] at n4
      generalize (outB st).take (4 * i) = Pr at *
      have hlen : (Pr ++ ([0, 0, 0, 0] ++ List.replicate (28 - 4 * i) 0)).length = 32 := by simp [hpl]; omega
      have f0 := n4.frozen (4 * i)
      have f1 := n4.frozen (4 * i + 1)
      have f2 := n4.frozen (4 * i + 2)
      have f3 := n4.frozen (4 * i + 3)
      have k0 := n4.cell (bys_at (k := 4 * i) (by omega))
      have k1 := n4.cell (bys_at (k := 4 * i + 1) (by omega))
      have k2 := n4.cell (bys_at (k := 4 * i + 2) (by omega))
      have k3 := n4.cell (bys_at (k := 4 * i + 3) (by omega))
      have n5 := (((n4.set (4 * i) (.int .u8 ((c8 (sh24 y3)).toNat : Int))).set (4 * i + 1) (.int .u8 ((c8 (sh16 y3)).toNat : Int))).set (4 * i + 2) (.int .u8 ((c8 (sh08 y3)).toNat : Int))).set (4 * i + 3) (.int .u8 ((c8 y3).toNat : Int))
      rw [bys_set, set_mid Pr _ _ 0 (c8 (sh24 y3)) (4 * i) (by omega) (by simp), bys_set, set_mid Pr _ _ 1 (c8 (sh16 y3)) (4 * i + 1) (by omega) (by simp), bys_set, set_mid Pr _ _ 2 (c8 (sh08 y3)) (4 * i + 2) (by omega) (by simp), bys_set, set_mid Pr _ _ 3 (c8 y3) (4 * i + 3) (by omega) (by simp)] at n5
      have hfin : Pr ++ ((((([0, 0, 0, 0] : List UInt8).set 0 (c8 (sh24 y3))).set 1 (c8 (sh16 y3))).set 2 (c8 (sh08 y3))).set 3 (c8 y3) ++ List.replicate (28 - 4 * i) 0) = (outB st).take (4 * (i + 1)) ++ List.replicate (32 - 4 * (i + 1)) 0 := by
        rw [HSTP.out, List.append_assoc, show 32 - 4 * (i + 1) = 28 - 4 * i by omega]
        rfl
      rw [hfin] at n5
      have r5 := (((r4.other ⟨w4.heap.size, 4 * i, none⟩ (.int .u8 ((c8 (sh24 y3)).toNat : Int)) (by simp; omega)).other ⟨w4.heap.size, 4 * i + 1, none⟩ (.int .u8 ((c8 (sh16 y3)).toNat : Int)) (by simp; omega)).other ⟨w4.heap.size, 4 * i + 2, none⟩ (.int .u8 ((c8 (sh08 y3)).toNat : Int)) (by simp; omega)).other ⟨w4.heap.size, 4 * i + 3, none⟩ (.int .u8 ((c8 y3).toNat : Int)) (by simp; omega)
      have b5 := (((b4.out.setCell (p := ⟨w4.heap.size, 4 * i, none⟩) (by show w.heap.size ≤ w4.heap.size; omega) (.int .u8 ((c8 (sh24 y3)).toNat : Int))).setCell (p := ⟨w4.heap.size, 4 * i + 1, none⟩) (by show w.heap.size ≤ w4.heap.size; omega) (.int .u8 ((c8 (sh16 y3)).toNat : Int))).setCell (p := ⟨w4.heap.size, 4 * i + 2, none⟩) (by show w.heap.size ≤ w4.heap.size; omega) (.int .u8 ((c8 (sh08 y3)).toNat : Int))).setCell (p := ⟨w4.heap.size, 4 * i + 3, none⟩) (by show w.heap.size ≤ w4.heap.size; omega) (.int .u8 ((c8 y3).toNat : Int))
      have N5 := hI n5
      have R5 := hI r5
      have B5 := hI b5
      clear n5 r5 b5 n4 r4 b4 hfin hsplit hlen
      generalize ((Pr ++ ([0, 0, 0, 0] ++ List.replicate (28 - 4 * i) 0)).getD (4 * i) 0) = o0 at *
      generalize ((Pr ++ ([0, 0, 0, 0] ++ List.replicate (28 - 4 * i) 0)).getD (4 * i + 1) 0) = o1 at *
      generalize ((Pr ++ ([0, 0, 0, 0] ++ List.replicate (28 - 4 * i) 0)).getD (4 * i + 2) 0) = o2 at *
      generalize ((Pr ++ ([0, 0, 0, 0] ++ List.replicate (28 - 4 * i) 0)).getD (4 * i + 3) 0) = o3 at *
      go_wp2_with fail
      exact ⟨⟨i + 1, by omega, by go_num, R5.out, N5.out, B5⟩, by simp [intOf]; omega⟩
    · have hi8 : i = 8 := by omega
      subst hi8
      have e8 : (outB st).take (4 * 8) ++ List.replicate (32 - 4 * 8) 0 = S := by
        rw [HSH.out, List.take_of_length_le (by rw [hSL]; omega)]
        exact List.append_nil _
      rw [e8] at n4
      have hl := ld42 n4 hSL
      have hst2 := st42 (m := S) r4 (by simp) hSL
      have R9 := hI (r4.setRow (bys S))
      have B9 := hI (below_row b4.out w.heap.size (bys S).toArray (Nat.le_refl _))
      clear n4 r4 e8
      go_wp2_with fail
      refine bodyPost_ret (results_cell_row rfl _ _ w.heap.size 51 _ (0, 0) (.array 32 5) rfl R9.out Tryz.underlying51 rfl (by rw [List.size_toArray, bys_len, hSL]; exact inf42)) rfl ?_
      exact ⟨rfl, B9.out⟩
set_option maxRecDepth 100000 in
set_option maxHeartbeats 2000000 in
theorem of_any (w : World) (ad : Addr) (cap : Nat) (m : List UInt8) (X : Option Addr) (c : Nat) (hc : w.cell? ad = some (.slice X m.length c)) (had : ad.block < w.heap.size) (hx : Rv w.heap.size w X (bys m)) (hmc : m.length ≤ c) (hm : m.length ≤ 100000000) :
    Calls Tryz.prog 90 #[.slice (some ad) 1 cap] w fun e w2 => e = .returned (.agg (bys (shaOf m)).toArray) ∧ Below w.heap.size w w2 := by
  have hSL := shaOf_len m
  obtain ⟨S, hS⟩ : ∃ S, S = shaOf m := ⟨_, rfl⟩
  rw [← hS] at hSL ⊢
  have HS := hI hS
  clear hS
  have HX := hI hx
  have R0 := hI (Ar.new w (bys (List.replicate 32 0)) 51)
  have R0 : Hid (Ar (w.alloc (.cells z42 51)) w.heap.size 51 (bys (List.replicate 32 0))) := R0
  have B0 := hI ((Below.refl w.heap.size w).alloc (Nat.le_refl _) (.cells z42 51))
  have hs0 : (w.alloc (.cells z42 51)).heap.size = w.heap.size + 1 := World.size_alloc _ _
  clear hx
  go_enter Tryz.func90, Tryz.ntmps90
  go_wp2_with fail
  refine (hnew_any _).mono ?_
  rintro e w2 ⟨g, rfl, hg, hh, hb⟩
  have HH := hI hh
  have hs2 := hb.size
  have R2 := hI (R0.out.below hb (by omega))
  have B2 := hI (B0.out.trans (hb.mono (by omega)))
  have hg2 : g < w2.heap.size := by obtain ⟨_, _, _, _, _, _, _, h⟩ := hh; exact h.lt
  clear hb hh R0 B0
  go_wp2_with fail
  go_loopw [9] (fun iv wr => ∃ i : Nat, i ≤ 1 ∧ iv = .int .i64 i ∧ Hid (Hs wr g (if i = 0 then [] else m)) ∧ Hid (Ar wr w.heap.size 51 (bys (List.replicate 32 0))) ∧ Hid (Below w.heap.size w wr)) (fun iv _ => 1 - (intOf iv).toNat)
  case atStart => exact ⟨0, by omega, rfl, HH, R2, B2⟩
  case round =>
    clear HH R2 B2
    obtain ⟨i, hi, rfl, hh, r4, b4⟩ := hrel
    have hi2 : i = 0 ∨ i = 1 := by omega
    rcases hi2 with rfl | rfl
    · have hc2 : wr.cell? ad = some (.slice X m.length c) := by rw [b4.out.cell had]; exact hc
      have hws := b4.out.size
      have hrx : Rx wr g X c m := ⟨(HX.out.below b4.out).more hws, fun a e hp => by obtain ⟨a2, e2, hb2, _⟩ := HX.out.some_ (by rw [bys_len]; exact hp); rw [e] at e2; cases e2; omega, hmc⟩
      have HRX := hI hrx
      have hh0 : Hid (Hs wr g []) := hh
      have hrl := r4.out.lt
      clear hrx hh
      go_wp2_with fail
      refine (hwrite_any wr g [] m X c hh0.out HRX.out (by rw [List.length_nil]; omega)).mono ?_
      rintro e w4 ⟨rfl, h4, hg4⟩
      have H4 : Hid (Hs w4 g m) := hI h4
      have R4 := hI (r4.out.later hg4 (by intro e; have := Option.some.inj e; omega))
      have B4 := hI (b4.out.trans (below_of_grown hg4 (B := w.heap.size) hws (fun k hk => by have := Option.some.inj hk; omega)))
      clear h4 hg4 r4 b4
      go_wp2_with fail
      exact ⟨⟨1, by omega, by go_num, H4, R4, B4⟩, by simp [intOf]⟩
    · have hh1 : Hid (Hs wr g m) := hh
      have hws := b4.out.size
      have hrl := r4.out.lt
      clear hh
      go_wp2_with fail
      refine (hsum_any wr g m hh1.out hm).mono ?_
      rintro e w4 ⟨rfl, hb⟩
      rw [← HS.out]
      have r5 := r4.out.below hb hrl
      have hst2 := st42 (m := S) r5 (by simp) hSL
      have R9 := hI (r5.setRow (bys S))
      have B9 := hI (below_row (b4.out.trans (hb.mono hws)) w.heap.size (bys S).toArray (Nat.le_refl _))
      clear hb r5 r4 b4
      go_wp2_with fail
      refine bodyPost_ret (results_cell_row rfl _ _ w.heap.size 51 _ (0, 0) (.array 32 5) rfl R9.out Tryz.underlying51 rfl (by rw [List.size_toArray, bys_len, hSL]; exact inf42)) rfl ?_
      exact ⟨rfl, B9.out⟩
end Go.Proofs.YtbmpidacoohdmaaGreat

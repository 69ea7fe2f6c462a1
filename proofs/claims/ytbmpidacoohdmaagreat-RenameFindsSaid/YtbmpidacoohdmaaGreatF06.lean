/- Ids as hexadecimal digits: oid.Hex and sleuthref04.Hex by contracts. A slice of one-cell elements that the call owns, whatever mark its block bears (that of a converted string too). Plain. A blob as an object's bytes: object.Bytes and sleuthref08.Bytes at kind 1, by contracts. -/
import Derived.Test.YtbmpidacoohdmaaGreatF05
import Derived.Deep.Cut
import Derived.Test.YtbmpidacoohdmaaGreatF03
import Derived.ArgAppend
namespace Go.Proofs.YtbmpidacoohdmaaGreat
open Lib renaming hid → hI
open Go.RowKit

def hexC : List UInt8 := [48, 49, 50, 51, 52, 53, 54, 55, 56, 57, 97, 98, 99, 100, 101, 102]
def hexD (n : Nat) : UInt8 := hexC.getD n 0
def hexB (l : List UInt8) : List UInt8 := l.flatMap fun b => [hexD (b.toNat / 16), hexD (b.toNat % 16)]
theorem hexB_next (l : List UInt8) (k : Nat) (h : k < l.length) : hexB (l.take (k + 1)) = hexB (l.take k) ++ [hexD ((l.getD k 0).toNat / 16), hexD ((l.getD k 0).toNat % 16)] := by
  unfold hexB
  rw [List.take_add_one, List.flatMap_append, List.getElem?_eq_getElem h]
  simp [h]
theorem hexB_len (l : List UInt8) : (hexB l).length = 2 * l.length := by
  induction l with
  | nil => rfl
  | cons c l ih => simp only [hexB, List.flatMap_cons, List.length_append, List.length_cons, List.length_nil] at *; omega
theorem and15 : ∀ c : Fin 256, bits BinOp.and IntKind.u8 (c.val : Int) 15 = (c.val : Int) % 16 := by decide +kernel
def idxH (v : Value) : Sem Value := Instr.index 9 (.string ⟨#[48, 49, 50, 51, 52, 53, 54, 55, 56, 57, 97, 98, 99, 100, 101, 102]⟩) v
theorem idxH_eq (v : Value) : Instr.index 9 (.string ⟨#[48, 49, 50, 51, 52, 53, 54, 55, 56, 57, 97, 98, 99, 100, 101, 102]⟩) v = idxH v := rfl
theorem run_hexat (n : Nat) (hn : n < 16) (W : World) : (idxH (.int .u8 (n : Int))).run Tryz.prog W = .ok (.int .u8 ((hexD n).toNat : Int)) W := by
  unfold idxH
  go_simp
  rw [dif_pos (by omega)]
  exact congrArg (fun x : UInt8 => (Result.ok (Value.int IntKind.u8 (x.toNat : Int)) W : Result Value)) (bs_at (p := hexC) (k := n) (by rw [bs_size]; exact hn))
attribute [local go_sem ↓] load42_eq box42_eq run_box42 idxH_eq
set_option maxRecDepth 100000 in
set_option maxHeartbeats 1000000 in
theorem hex_any (w : World) (l : List UInt8) (hl : l.length = 32) :
    Calls Tryz.prog 93 #[.agg (bys l).toArray] w fun e w2 => e = .returned (.string (bs (hexB l))) ∧ Below w.heap.size w w2 := by
  have R0 := Ar.new w (bys l) 51
  have hld := ld42 (R0.alloc (.cells (List.replicate 64 (Value.int .u8 0)).toArray 5)) hl
  have hmk : ∀ W : World, (Instr.makeSlice 57 (.int .i64 0) (.int .i64 64)).run Tryz.prog W = .ok (.slice (some ⟨W.heap.size, 0, none⟩) 0 64) (W.alloc (.cells (List.replicate 64 (Value.int .u8 0)).toArray 5)) := fun W => make22 0 64 (by omega) (by omega) W
  have B0 := hI (((Below.refl w.heap.size w).alloc (Nat.le_refl _) (.cells (bys l).toArray 51)).alloc (by simp) (.cells (List.replicate 64 (Value.int .u8 0)).toArray 5))
  have O0 := hI (World.ownsRow_made (e := 5) (size := 1) (base := w.heap.size) (w.alloc (.cells (bys l).toArray 51)) (List.replicate 64 (Value.int .u8 0)).toArray 64 (by simp) (by unfold maxLen; omega) (by simp))
  clear R0
  generalize hz : (List.replicate 64 (Value.int .u8 0)).toArray = zs at *
  clear hz
  go_enter Tryz.func93, Tryz.ntmps93
  go_wp2_with fail
  rw [World.size_alloc] at O0
  clear hld hmk
  go_loopw [3, 8] (fun sv kv wr => ∃ k : Nat, k ≤ 32 ∧ kv = .int .i64 k ∧ Hid (wr.ownsRow w.heap.size 5 1 sv (hexB (l.take k)).length (bys (hexB (l.take k)))) ∧ Hid (Below w.heap.size w wr)) (fun _ kv _ => 32 - (intOf kv).toNat)
  case atStart => exact ⟨0, by omega, rfl, O0, B0⟩
  case round =>
    clear O0 B0
    obtain ⟨k, hk, rfl, ho, hb⟩ := hrel
    have hbs := hb.out.size
    by_cases hlt : k < 32
    · have hix := fun W => run_idx42 l hl k hlt W
      have HN := hI (hexB_next l k (by omega))
      have hln : (hexB (l.take k)).length ≤ 64 := by rw [hexB_len, List.length_take]; omega
      generalize l.getD k 0 = c at *
      generalize hexB (l.take k) = pre at *
      have hc := c.toNat_lt
      have x1 : ∀ W, (idxH (.int .u8 ((c.toNat : Int) / 16))).run Tryz.prog W = .ok (.int .u8 ((hexD (c.toNat / 16)).toNat : Int)) W := fun W => by rw [show (c.toNat : Int) / 16 = ((c.toNat / 16 : Nat) : Int) by omega]; exact run_hexat (c.toNat / 16) (by omega) W
      have x2 : ∀ W, (idxH (.int .u8 ((c.toNat : Int) % 16))).run Tryz.prog W = .ok (.int .u8 ((hexD (c.toNat % 16)).toNat : Int)) W := fun W => by rw [show (c.toNat : Int) % 16 = ((c.toNat % 16 : Nat) : Int) by omega]; exact run_hexat (c.toNat % 16) (by omega) W
      have x3 : bits BinOp.and IntKind.u8 (c.toNat : Int) 15 = (c.toNat : Int) % 16 := and15 ⟨c.toNat, hc⟩
      generalize hexD (c.toNat / 16) = h1 at *
      generalize hexD (c.toNat % 16) = h2 at *
      obtain ⟨D, d, hv, hDn, _⟩ := own_all ho.out
      subst hv
      go_upto_region 5 with fail
      clear hix
      have HC0 := hI (Below.refl wr.heap.size wr).drew
      refine region_of (fun W => Below w.heap.size w W) (by kernel_rfl) ?_
      have O0 := hI (own_below ho.out HC0.out)
      have B0 := hI (hb.out.trans (HC0.out.mono hbs))
      generalize wr.drew = w1 at *
      refine anyC_take 0 (v := ?_) B0.out rfl (by kernel_rfl) (by kernel_rfl) (by kernel_rfl) (fun _ _ _ h => h) rfl (fun W hW => ?_) ?_
      rotate_left
      · go_simp
        try rfl
      simp only [Act.put]
      refine anyC_take 1 (v := ?_) B0.out rfl (by kernel_rfl) (by kernel_rfl) (by kernel_rfl) (fun _ _ _ h => h) rfl (fun W hW => ?_) ?_
      rotate_left
      · go_simp
        try rfl
      simp only [Act.put]
      refine anyC_take 2 (v := ?_) B0.out rfl (by kernel_rfl) (by kernel_rfl) (by kernel_rfl) (fun _ _ _ h => h) rfl (fun W hW => ?_) ?_
      rotate_left
      · go_simp
        try rfl
      simp only [Act.put]
      refine anyC_take 3 (v := ?_) B0.out rfl (by kernel_rfl) (by kernel_rfl) (by kernel_rfl) (fun _ _ _ h => h) rfl (fun W hW => ?_) ?_
      rotate_left
      · go_simp
        try rfl
      simp only [Act.put]
      refine anyC_take 4 (v := ?_) B0.out rfl (by kernel_rfl) (by kernel_rfl) (by kernel_rfl) (fun _ _ _ h => h) rfl (fun W hW => ?_) ?_
      rotate_left
      · go_simp
        try rfl
      simp only [Act.put]
      refine anyC_take 5 (v := ?_) B0.out rfl (by kernel_rfl) (by kernel_rfl) (by kernel_rfl) (fun _ _ _ h => h) rfl (fun W hW => ?_) ?_
      rotate_left
      · go_simp
        try rfl
      simp only [Act.put]
      refine anyC_take 6 (v := ?_) B0.out rfl (by kernel_rfl) (by kernel_rfl) (by kernel_rfl) (fun _ _ _ h => h) rfl (fun W hW => ?_) ?_
      rotate_left
      · go_simp
        try rfl
      simp only [Act.put]
      have NW := hI (new_rv w1 (bys [h1, h2]) 5 ⟨w1.heap.size, 0, none⟩ rfl)
      have O1 := hI (O0.out.alloc (.cells #[.int .u8 (h1.toNat : Int), .int .u8 (h2.toNat : Int)] 5))
      have B1 := hI (B0.out.alloc B0.out.size (.cells #[.int .u8 (h1.toNat : Int), .int .u8 (h2.toNat : Int)] 5))
      have hs1 : (w1.alloc (.cells #[.int .u8 (h1.toNat : Int), .int .u8 (h2.toNat : Int)] 5)).heap.size = w1.heap.size + 1 := World.size_alloc _ _
      have HS1 := hI hs1
      have hb0 := B0.out.size
      clear hs1 x1 x2 x3
      refine anyC_one 7 B0.out (by kernel_rfl) rfl ?_
      go_wp2_with fail
      refine anyC_one 8 B1.out (by kernel_rfl) rfl ?_
      refine wpList_app sl22 rfl (.tmp 11) (.tmp 18) rfl w.heap.size (.slice D pre.length d) pre.length (bys pre) rfl O1.out (some ⟨w1.heap.size, 0, none⟩) 2 2 (bys [h1, h2]) rfl (fun e => by cases e) rfl NW.out (bys_one _) (by unfold maxLen; omega) (by omega) (by rw [HS1.out]; omega) ?_
      intro v2 w2 ho2 ha
      rw [bys_app] at ho2
      have O2 := hI ho2
      have B2 := hI (B1.out.trans (below_of_grown ha.grown (by rw [HS1.out]; omega) (fun q hq => (O1.out.lt q hq).1)))
      clear ho2 ha
      go_wp2_with fail
      refine anyC_one 9 B2.out (by kernel_rfl) rfl ?_
      go_wp2_with fail
      refine anyC_done B2.out (by kernel_rfl) ?_ _
      go_wp2_with fail
      exact ⟨⟨k + 1, by omega, by go_num, by rw [HN.out, List.length_append]; exact O2, B2⟩, by simp [intOf]; omega⟩
    · have hke : k = 32 := by omega
      subst hke
      rw [List.take_of_length_le (by omega)] at ho
      obtain ⟨D, d, hv, _, _, hr, _⟩ := own_all ho.out
      subst hv
      have hcv := conv22 d hr
      go_wp2_with fail
      go_ret
      exact ⟨rfl, hb.out⟩
theorem sl48 : Sl Tryz.prog 48 3 1 8 := ⟨Tryz.underlying48, by kernel_rfl, by decide⟩
/-- The digits of bytes. -/
def nibs (l : List UInt8) : List Nat := l.flatMap fun b => [b.toNat / 16, b.toNat % 16]
def ntI (l : List Nat) : List Value := l.map fun (n : Nat) => Value.int .i64 (n : Int)
theorem ntI_app (a b : List Nat) : ntI a ++ ntI b = ntI (a ++ b) := by simp [ntI]
theorem ntI_one (l : List Nat) : ∀ u ∈ ntI l, u.oneCell' = true := by simp [ntI, Value.oneCell']
theorem ntI_at {l : List Nat} {k : Nat} (h : k < l.length) : (ntI l)[k]? = some (.int .i64 ((l.getD k 0 : Nat) : Int)) := by simp [ntI, h]
theorem nibs_next (l : List UInt8) (k : Nat) (h : k < l.length) : nibs (l.take (k + 1)) = nibs (l.take k) ++ [(l.getD k 0).toNat / 16] ++ [(l.getD k 0).toNat % 16] := by
  unfold nibs
  rw [List.take_add_one, List.flatMap_append, List.getElem?_eq_getElem h]
  simp [h]
theorem nibs_len (l : List UInt8) : (nibs l).length = 2 * l.length := by
  induction l with
  | nil => rfl
  | cons c l ih => simp only [nibs, List.flatMap_cons, List.length_append, List.length_cons, List.length_nil] at *; omega
theorem nibs_lt (l : List UInt8) : ∀ n ∈ nibs l, n < 16 := by
  intro n hn
  obtain ⟨b, _, hb⟩ := List.mem_flatMap.1 hn
  have := b.toNat_lt
  simp only [List.mem_cons, List.not_mem_nil, or_false] at hb
  rcases hb with rfl | rfl <;> omega
theorem hexB_nibs (l : List UInt8) : hexB l = (nibs l).map hexD := by
  simp [hexB, nibs, List.map_flatMap]
set_option maxRecDepth 100000 in
set_option maxHeartbeats 1000000 in
theorem nibs_any (w : World) (l : List UInt8) (hl : l.length = 32) :
    Calls Tryz.prog 112 #[.agg (bys l).toArray] w fun e w2 => ∃ u, e = .returned u ∧ w2.ownsRow w.heap.size 3 1 u 64 (ntI (nibs l)) ∧ Below w.heap.size w w2 := by
  have R0 := hI (Ar.new w (bys l) 51)
  have B0 := hI ((Below.refl w.heap.size w).alloc (Nat.le_refl _) (.cells (bys l).toArray 51))
  have hs0 : (w.alloc (.cells (bys l).toArray 51)).heap.size = w.heap.size + 1 := World.size_alloc _ _
  go_enter Tryz.func112, Tryz.ntmps112
  go_wp2_with fail
  generalize w.alloc (.cells (bys l).toArray 51) = w1 at *
  go_loopw [3, 4] (fun sv kv wr => ∃ k : Nat, k ≤ 32 ∧ kv = .int .i64 k ∧ Hid (Ar wr w.heap.size 51 (bys l)) ∧ Hid (wr.ownsRow (w.heap.size + 1) 3 1 sv (nibs (l.take k)).length (ntI (nibs (l.take k)))) ∧ Hid (Below w.heap.size w wr) ∧ w.heap.size + 1 ≤ wr.heap.size) (fun _ kv _ => 32 - (intOf kv).toNat)
  case atStart => exact ⟨0, by omega, rfl, R0, World.ownsRow_nil _ _ _ _, B0, by omega⟩
  case round =>
    clear R0 B0 hs0
    obtain ⟨k, hk, rfl, r4, ho, hb, hsz⟩ := hrel
    by_cases hlt : k < 32
    · have hc := r4.out.cell (bys_at (l := l) (k := k) (by omega))
      have HN := hI (nibs_next l k (by omega))
      have hln : (nibs (l.take k)).length ≤ 64 := by rw [nibs_len, List.length_take]; omega
      generalize l.getD k 0 = c at *
      generalize nibs (l.take k) = pre at *
      obtain ⟨D, d, hv, hDn, _⟩ := own_all ho.out
      subst hv
      have hc8 := c.toNat_lt
      have e1 : (c.toNat : Int) / 16 = ((c.toNat / 16 : Nat) : Int) := by omega
      have e2 : (c.toNat : Int) % 16 = ((c.toNat % 16 : Nat) : Int) := by omega
      generalize c.toNat / 16 = p at *
      generalize c.toNat % 16 = q at *
      have O1 := hI (ho.out.alloc (.cells #[.int .i64 (p : Int)] 3))
      have R1 := hI (r4.out.alloc (.cells #[.int .i64 (p : Int)] 3))
      have B1 := hI (hb.out.alloc hb.out.size (.cells #[.int .i64 (p : Int)] 3))
      have NW := hI (new_rv wr (ntI [p]) 3 ⟨wr.heap.size, 0, none⟩ rfl)
      have hs1 : (wr.alloc (.cells #[.int .i64 (p : Int)] 3)).heap.size = wr.heap.size + 1 := World.size_alloc _ _
      have HS1 := hI hs1
      clear hs1
      go_upto_region 6 with (at_builtin; refine wpList_app sl48 rfl (.tmp 9) (.tmp 15) rfl (w.heap.size + 1) (.slice D pre.length d) pre.length (ntI pre) rfl O1.out (some ⟨wr.heap.size, 0, none⟩) 1 1 (ntI [p]) rfl (fun e => by cases e) rfl NW.out (ntI_one _) (by unfold maxLen; omega) (by omega) (by rw [HS1.out]; omega) ?_; intro v2 w2 ho2 ha; rw [ntI_app] at ho2; have O2 := hI ho2; have G2 := hI ha.grown; have B2 := hI (B1.out.trans (below_of_grown ha.grown (by rw [HS1.out]; omega) (fun q hq => by have := (O1.out.lt q hq).1; omega))); have R2 := hI (R1.out.later ha.grown (own_far O1.out (by omega))); clear ho2 ha)
      have hs2 : w.heap.size + 1 ≤ w2.heap.size := by have := G2.out.size; rw [HS1.out] at this; omega
      obtain ⟨D2, d2, hv2, hDn2, _⟩ := own_all O2.out
      subst hv2
      have hc2 : w2.cell? ⟨w.heap.size, k, none⟩ = some (.int .u8 (c.toNat : Int)) := by
        rw [← hc]
        exact World.cell?_of_block (show w2.heap[w.heap.size]? = wr.heap[w.heap.size]? from R2.out.trans r4.out.symm)
      clear hc
      have O3 := hI (O2.out.alloc (.cells #[.int .i64 (q : Int)] 3))
      have R3 := hI (R2.out.alloc (.cells #[.int .i64 (q : Int)] 3))
      have B3 := hI (B2.out.alloc B2.out.size (.cells #[.int .i64 (q : Int)] 3))
      have NW2 := hI (new_rv w2 (ntI [q]) 3 ⟨w2.heap.size, 0, none⟩ rfl)
      have hs3 : (w2.alloc (.cells #[.int .i64 (q : Int)] 3)).heap.size = w2.heap.size + 1 := World.size_alloc _ _
      have HS3 := hI hs3
      clear hs3
      go_wp2_with (at_builtin; refine wpList_app sl48 rfl (.tmp 17) (.tmp 23) rfl (w.heap.size + 1) (.slice D2 (pre.length + 1) d2) (pre.length + 1) (ntI (pre ++ [p])) rfl O3.out (some ⟨w2.heap.size, 0, none⟩) 1 1 (ntI [q]) rfl (fun e => by cases e) rfl NW2.out (ntI_one _) (by unfold maxLen; omega) (by omega) (by rw [HS3.out]; omega) ?_; intro v4 w4 ho4 ha4; rw [ntI_app] at ho4; have O4 := hI ho4; have G4 := hI ha4.grown; have B4 := hI (B3.out.trans (below_of_grown ha4.grown (by rw [HS3.out]; omega) (fun q hq => by have := (O3.out.lt q hq).1; omega))); have R4 := hI (R3.out.later ha4.grown (own_far O3.out (by omega))); clear ho4 ha4)
      exact ⟨⟨k + 1, by omega, by go_num, R4, by rw [HN.out]; simp only [List.length_append, List.length_cons, List.length_nil]; exact O4, B4, by have := G4.out.size; rw [HS3.out] at this; omega⟩, by simp [intOf]; omega⟩
    · have hke : k = 32 := by omega
      subst hke
      rw [List.take_of_length_le (by omega), nibs_len, hl] at ho
      go_wp2_with fail
      go_ret
      exact ⟨_, rfl, own_less ho.out (by omega), hb.out⟩
theorem hexCut (d : Nat) (h : d < 16) : (⟨#[48, 49, 50, 51, 52, 53, 54, 55, 56, 57, 97, 98, 99, 100, 101, 102]⟩ : ByteArray).extract d (d + 1) = bs [hexD d] := by
  have : d = 0 ∨ d = 1 ∨ d = 2 ∨ d = 3 ∨ d = 4 ∨ d = 5 ∨ d = 6 ∨ d = 7 ∨ d = 8 ∨ d = 9 ∨ d = 10 ∨ d = 11 ∨ d = 12 ∨ d = 13 ∨ d = 14 ∨ d = 15 := by omega
  rcases this with rfl | rfl | rfl | rfl | rfl | rfl | rfl | rfl | rfl | rfl | rfl | rfl | rfl | rfl | rfl | rfl <;> rfl
attribute [local go_sem] bs_append
set_option maxRecDepth 100000 in
set_option maxHeartbeats 1000000 in
theorem fhex_any (w : World) (l : List UInt8) (hl : l.length = 32) :
    Calls Tryz.prog 67 #[.agg (bys l).toArray] w fun e w2 => e = .returned (.string (bs (hexB l))) ∧ Below w.heap.size w w2 := by
  have hld := ld42 (Ar.new w (bys l) 51) hl
  have B0 := hI ((Below.refl w.heap.size w).alloc (Nat.le_refl _) (.cells (bys l).toArray 51))
  have HNB := hI (nibs_any (w.alloc (.cells (bys l).toArray 51)) l hl)
  go_enter Tryz.func67, Tryz.ntmps67
  go_wp2_with fail
  refine HNB.out.mono ?_
  rintro en w1 ⟨u, rfl, ho, hb⟩
  obtain ⟨D, d, hv, hDn, hd, hr, _⟩ := own_all ho
  subst hv
  have B1 := hI (B0.out.trans (hb.mono B0.out.size))
  have HR := hI hr
  have hnl : (nibs l).length = 64 := by rw [nibs_len, hl]
  have HX := hI (hexB_nibs l)
  have HLT := hI (nibs_lt l)
  clear ho hb hr hld HNB B0
  generalize nibs l = ns at *
  go_wp2_with fail
  go_loopw [4, 5] (fun sv kv wr => ∃ k : Nat, k ≤ 64 ∧ kv = .int .i64 k ∧ sv = .string (bs ((ns.take k).map hexD)) ∧ Hid (Below w1.heap.size w1 wr)) (fun _ kv _ => 64 - (intOf kv).toNat)
  case atStart => exact ⟨0, by omega, rfl, rfl, hI (Below.refl _ _)⟩
  case round =>
    obtain ⟨k, hk, rfl, rfl, hb⟩ := hrel
    by_cases hlt : k < 64
    · obtain ⟨ad, rfl, had, hc⟩ := (HR.out.low hb.out hb.out.size).at_ (ntI_at (l := ns) (k := k) (by omega))
      have hn : ns.getD k 0 < 16 := HLT.out _ (by rw [List.getD_eq_getElem?_getD, List.getElem?_eq_getElem (by omega)]; simp)
      have HN := hI (show (ns.take (k + 1)).map hexD = (ns.take k).map hexD ++ [hexD (ns.getD k 0)] by
        rw [List.take_add_one, List.map_append, List.getElem?_eq_getElem (by omega)]; simp [show k < ns.length by omega])
      have hsz : (bs ((ns.take k).map hexD)).size ≤ 64 := by rw [bs_size, List.length_map, List.length_take]; omega
      generalize ns.getD k 0 = x at *
      generalize (ns.take k).map hexD = pre at *
      have hx1 := hexCut x hn
      have hs1 : (bs [hexD x]).size = 1 := rfl
      have y1 : IntKind.i64.wrap ((x : Int) + 1) = (x : Int) + 1 := IntWalk.i64_in _ (by omega)
      have y2 : (0 : Int) ≤ (x : Int) + 1 := by omega
      have y3 : (x : Int) + 1 ≤ 16 := by omega
      have y5 : (x : Int) ≤ (x : Int) + 1 := by omega
      have y4 : ((x : Int) + 1).toNat = x + 1 := by omega
      have y6 : ¬ 9223372036854775807 < (bs pre).size + 1 := by omega
      have HC0 := hI (Below.refl wr.heap.size wr).drew
      have BW := hI (hb.out.trans (HC0.out.mono hb.out.size))
      have r1 : ∀ W, Below wr.heap.size wr W → W.cell? (ad.add k) = some (.int .i64 (x : Int)) := fun W hW => (hW.cell (by rw [block_add]; exact had)).trans hc
      go_upto_region 6 with fail
      refine region_of (fun W => Below wr.heap.size wr W) (by kernel_rfl) ?_
      refine anyC_take 0 (v := ?_) HC0.out rfl (by kernel_rfl) (by kernel_rfl) (by kernel_rfl) (fun _ _ _ h => h) rfl (fun W hW => ?_) ?_
      rotate_left
      · go_simp
        try rfl
      simp only [Act.put]
      refine anyC_take 1 (v := ?_) HC0.out rfl (by kernel_rfl) (by kernel_rfl) (by kernel_rfl) (fun _ _ _ h => h) rfl (fun W hW => ?_) ?_
      rotate_left
      · go_simp
        try rfl
      simp only [Act.put]
      refine anyC_take 2 (v := ?_) HC0.out rfl (by kernel_rfl) (by kernel_rfl) (by kernel_rfl) (fun _ _ _ h => h) rfl (fun W hW => ?_) ?_
      rotate_left
      · go_simp
        try rfl
      simp only [Act.put]
      refine anyC_take 3 (v := ?_) HC0.out rfl (by kernel_rfl) (by kernel_rfl) (by kernel_rfl) (fun _ _ _ h => h) rfl (fun W hW => ?_) ?_
      rotate_left
      · go_simp
        try rfl
      simp only [Act.put]
      refine anyC_take 4 (v := ?_) HC0.out rfl (by kernel_rfl) (by kernel_rfl) (by kernel_rfl) (fun _ _ _ h => h) rfl (fun W hW => ?_) ?_
      rotate_left
      · go_simp
        try rfl
      simp only [Act.put]
      refine anyC_take 5 (v := ?_) HC0.out rfl (by kernel_rfl) (by kernel_rfl) (by kernel_rfl) (fun _ _ _ h => h) rfl (fun W hW => ?_) ?_
      rotate_left
      · go_simp
        try rfl
      simp only [Act.put]
      refine anyC_take 6 (v := ?_) HC0.out rfl (by kernel_rfl) (by kernel_rfl) (by kernel_rfl) (fun _ _ _ h => h) rfl (fun W hW => ?_) ?_
      rotate_left
      · go_simp
        try rfl
      simp only [Act.put]
      refine anyC_take 7 (v := ?_) HC0.out rfl (by kernel_rfl) (by kernel_rfl) (by kernel_rfl) (fun _ _ _ h => h) rfl (fun W hW => ?_) ?_
      rotate_left
      · go_simp
        try rfl
      simp only [Act.put]
      refine anyC_take 8 (v := ?_) HC0.out rfl (by kernel_rfl) (by kernel_rfl) (by kernel_rfl) (fun _ _ _ h => h) rfl (fun W hW => ?_) ?_
      rotate_left
      · go_simp
        try rfl
      simp only [Act.put]
      refine anyC_take 9 (v := ?_) HC0.out rfl (by kernel_rfl) (by kernel_rfl) (by kernel_rfl) (fun _ _ _ h => h) rfl (fun W hW => ?_) ?_
      rotate_left
      · go_simp
        try rfl
      simp only [Act.put]
      refine anyC_take 10 (v := ?_) HC0.out rfl (by kernel_rfl) (by kernel_rfl) (by kernel_rfl) (fun _ _ _ h => h) rfl (fun W hW => ?_) ?_
      rotate_left
      · go_simp
        try rfl
      simp only [Act.put]
      refine anyC_take 11 (v := ?_) HC0.out rfl (by kernel_rfl) (by kernel_rfl) (by kernel_rfl) (fun _ _ _ h => h) rfl (fun W hW => ?_) ?_
      rotate_left
      · go_simp
        try rfl
      simp only [Act.put]
      refine anyC_one 12 HC0.out (by kernel_rfl) rfl ?_
      go_wp2_with fail
      refine anyC_done HC0.out (by kernel_rfl) ?_ _
      go_wp2_with fail
      exact ⟨⟨k + 1, by omega, by go_num, by rw [HN.out], BW⟩, by simp [intOf]; omega⟩
    · have hke : k = 64 := by omega
      subst hke
      have HE : Hid (ns.take 64 = ns) := hI (List.take_of_length_le (by omega))
      rw [HE.out]
      go_wp2_with fail
      go_ret
      exact ⟨by rw [HX.out]; rfl, B1.out.trans (hb.out.mono B1.out.size)⟩
end Go.Proofs.YtbmpidacoohdmaaGreat
namespace Go.Proofs.YtbmpidacoohdmaaGreat
open Lib renaming hid → hI
open Go.RowKit

/-- The value v owns the cells xs, in a block from base on, of elements e. -/
def Ows (w : World) (base : Nat) (e : TypeId) (v : Value) (xs : List Value) : Prop :=
  (v = .slice none 0 0 ∧ xs = []) ∨
  ∃ g cap cur fr, v = .slice (some ⟨g, 0, none⟩) xs.length cap ∧ base ≤ g ∧ w.heap[g]? = some (.cells cur e fr) ∧ (∀ i, i < cur.size → ¬ (fr.1 ≤ i ∧ i < fr.2)) ∧ xs.length ≤ cap ∧ cap ≤ maxLen ∧ cur.size = cap ∧ cur.toList.take xs.length = xs
section
variable {w w2 : World} {base : Nat} {e : TypeId} {v : Value} {xs : List Value}
theorem Ows.of (h : w.ownsRow base e 1 v xs.length xs) : Ows w base e v xs := by
  obtain ⟨_, ⟨h1, h2⟩ | ⟨g, cap, cur, h1, h2, h3, h4, h5, h6, h7⟩⟩ := h
  · exact .inl ⟨h1, List.eq_nil_of_length_eq_zero h2⟩
  · exact .inr ⟨g, cap, cur, (0, 0), h1, h2, h3, fun i _ q => by simp at q, h4, h5, by omega, by rwa [Nat.mul_one] at h7⟩
theorem Ows.less (h : Ows w base e v xs) {b : Nat} (hb : b ≤ base) : Ows w b e v xs := by
  rcases h with h | ⟨g, cap, cur, fr, h1, h2, h3⟩
  · exact .inl h
  · exact .inr ⟨g, cap, cur, fr, h1, by omega, h3⟩
theorem Ows.lt (h : Ows w base e v xs) {k : Nat} (hk : v.ownBlock = some k) : base ≤ k ∧ k < w.heap.size := by
  rcases h with ⟨rfl, _⟩ | ⟨g, cap, cur, fr, rfl, h2, h3, _⟩
  · cases hk
  · obtain rfl : g = k := Option.some.inj hk
    exact ⟨h2, (Array.getElem?_eq_some_iff.1 h3).1⟩
theorem Ows.kept (h : Ows w base e v xs) {r : Option Nat} (hg : w.grownBy w2 r) (hr : ∀ k, v.ownBlock = some k → some k ≠ r) : Ows w2 base e v xs := by
  rcases h with h | ⟨g, cap, cur, fr, rfl, h2, h3, h4⟩
  · exact .inl h
  · exact .inr ⟨g, cap, cur, fr, rfl, h2, (hg.block g (Array.getElem?_eq_some_iff.1 h3).1 (hr g rfl)).trans h3, h4⟩
theorem Ows.below (h : Ows w base e v xs) (hb : Below w.heap.size w w2) : Ows w2 base e v xs := h.kept (grown_of_below hb none) (fun k _ q => by cases q)
theorem Ows.alloc (h : Ows w base e v xs) (o : Obj) : Ows (w.alloc o) base e v xs := h.kept (grown_alloc (grown_refl w none) o) (fun k _ q => by cases q)
/-- It is a slice that reads the cells, all in a block of that type. -/
theorem Ows.form (h : Ows w base e v xs) : ∃ D d, v = .slice D xs.length d ∧ (D = none → d = 0) ∧ xs.length ≤ d ∧ Rv w.heap.size w D xs ∧ ∀ ad, D = some ad → base ≤ ad.block ∧ ∃ cur fr, w.heap[ad.block]? = some (.cells cur e fr) := by
  rcases h with ⟨rfl, rfl⟩ | ⟨g, cap, cur, fr, rfl, h2, h3, h4, h5, h6, h7, h8⟩
  · exact ⟨none, 0, rfl, fun _ => rfl, Nat.le_refl _, Rv.nil, fun ad q => by cases q⟩
  · refine ⟨some ⟨g, 0, none⟩, cap, rfl, (fun q => by cases q), h5, fun k x hx => ⟨_, rfl, (Array.getElem?_eq_some_iff.1 h3).1, ?_⟩, fun ad q => by cases q; exact ⟨h2, cur, fr, h3⟩⟩
    rw [Addr.add_lit, Nat.zero_add, cell_of_row _ _ _ _ _ _ h3]
    have hk := (List.getElem?_eq_some_iff.1 hx).1
    have : (cur.toList.take xs.length)[k]? = some x := by rw [h8]; exact hx
    rw [List.getElem?_take] at this
    rw [if_pos hk] at this
    simpa using this
end
/-- A world in which cells of block g, and new blocks, have turned. -/
theorem grown_cells {W : World} {g o : Nat} : ∀ {cs : List Value}, W.grownBy (W.setCells g o cs) (some g) := by
  intro cs
  induction cs generalizing W o with
  | nil => exact grown_refl _ _
  | cons c cs ih => exact grown_trans (grown_refl _ _) (by
      show W.grownBy ((W.setCell ⟨g, o, none⟩ c).setCells g (o + 1) cs) (some g)
      exact grown_trans (grown_set (grown_refl _ _) _ _) ih)
theorem set_same {W : World} {g k : Nat} {cs : Array Value} {e : TypeId} {fr : Nat × Nat} {v : Value} (h : W.heap[g]? = some (.cells cs e fr)) : (W.setCell ⟨g, k, none⟩ v).heap[g]? = some (.cells (cs.setIfInBounds k v) e fr) := by
  simp [World.setCell, Array.getElem?_modify, h]
theorem sets_same {g : Nat} {e : TypeId} {fr : Nat × Nat} : ∀ (vs : List Value) (o : Nat) (W : World) (cs : Array Value), W.heap[g]? = some (.cells cs e fr) → o + vs.length ≤ cs.size →
    (W.setCells g o vs).heap[g]? = some (.cells (cs.toList.take o ++ vs ++ cs.toList.drop (o + vs.length)).toArray e fr)
  | [], o, W, cs, h, hl => by
    show W.heap[g]? = _
    rw [h]
    simp
  | c :: r, o, W, cs, h, hl => by
    have hl2 : o + (r.length + 1) ≤ cs.size := hl
    have ih := sets_same r (o + 1) (W.setCell ⟨g, o, none⟩ c) (cs.setIfInBounds o c) (set_same h) (by simp; omega)
    show ((W.setCell ⟨g, o, none⟩ c).setCells g (o + 1) r).heap[g]? = _
    rw [ih]
    have ho : o < cs.toList.length := by simp; omega
    have h1 : (cs.setIfInBounds o c).toList.take (o + 1) = cs.toList.take o ++ [c] := by
      rw [Array.toList_setIfInBounds, List.take_add_one, List.getElem?_set_self ho, List.take_set_of_le (Nat.le_refl _)]
      rfl
    have h2 : (cs.setIfInBounds o c).toList.drop (o + 1 + r.length) = cs.toList.drop (o + (c :: r).length) := by
      rw [Array.toList_setIfInBounds, List.drop_set_of_lt (by omega), List.length_cons]
      congr 1; omega
    rw [h1, h2]
    simp
section
variable {P : Program} {w : World}
theorem run_aps {t e : TypeId} {bytes : Nat} (sl : Sl P t e 1 bytes) (ty : TypeId) (base : Nat) (v : Value) (xs : List Value) (hown : Ows w base e v xs)
    {B : Nat} (A : Option Addr) (m c : Nat) (news : List Value) (hnone : A = none → c = 0) (hl : news.length = m) (hr : Rv B w A news) (h1 : ∀ u ∈ news, u.oneCell' = true)
    (h63 : xs.length + m ≤ maxLen) (hbytes : (xs.length + m) * bytes ≤ 140737488355328) (hbase : base ≤ w.heap.size) :
    ∃ v2 w2, (Builtin.append_ #[t, t] ty #[v, .slice A m c]).run P w = .ok v2 w2 ∧ Ows w2 base e v2 (xs ++ news) ∧ w.grownBy w2 v.ownBlock := by
  subst hl
  rcases hown with ⟨rfl, rfl⟩ | ⟨g, cap, cur, fr, rfl, h2, h3, h4, h5, h6, h7, h8⟩
  · obtain ⟨v2, w2, hr2, ho, ha⟩ := run_app sl ty base (.slice none 0 0) 0 [] (World.ownsRow_nil _ _ _ _) A news.length c news hnone (by omega) hr h1 (by simpa using h63) (by simpa using hbytes) hbase
    rw [Nat.zero_add, List.nil_append] at ho
    exact ⟨v2, w2, hr2, Ows.of ho, ha.grown⟩
  · obtain ⟨i, z, hi, hz, hs1, hb, hzs⟩ := sl.parts
    rcases A with _ | ad
    · obtain rfl : news = [] := by
        cases news with
        | nil => rfl
        | cons u r => obtain ⟨ad, q, _⟩ := hr 0 u rfl; cases q
      obtain rfl := hnone rfl
      refine ⟨.slice (some ⟨g, 0, none⟩) xs.length cap, w, by simp [Builtin.append_, run_underlying sl.und, Go.sizeOf, typeInfo, hi, Builtin.lenOf, Builtin.firstCells, h5, storeCells], ?_, grown_refl _ _⟩
      rw [List.append_nil]
      exact .inr ⟨g, cap, cur, fr, rfl, h2, h3, h4, h5, h6, h7, h8⟩
    · have hn : ∀ j u, news[j]? = some u → w.cell? (ad.add j) = some u := fun j u hu => by
        obtain ⟨ad2, q, _, hc⟩ := hr j u hu
        cases q
        exact hc
      by_cases hroom : xs.length + news.length ≤ cap
      · have hcell : ∀ j, j < news.length → (w.cell? ⟨g, 0 + xs.length * i.size + j, none⟩).isSome = true := fun j hj => by
          rw [cell_of_row _ _ _ _ _ _ h3, hs1]
          simp; omega
        have hfz : ∀ j, j < news.length → w.frozen? ⟨g, 0 + xs.length * i.size + j, none⟩ = false := fun j hj => by
          have := h4 (0 + xs.length * 1 + j) (by omega)
          simp only [World.frozen?, h3, hs1]
          simpa using this
        have hrun := run_append_room_cells (P := P) w t ty e i sl.und hi g 0 xs.length cap ad news.length c news (by rw [hs1]; omega) hn h1 hroom hcell hfz
        rw [hs1] at hrun
        refine ⟨_, _, hrun, .inr ⟨g, cap, _, fr, by rw [List.length_append], h2, sets_same news _ w cur h3 (by omega), ?_, by rw [List.length_append]; exact hroom, h6, ?_, ?_⟩, grown_cells⟩
        · intro k hk
          exact h4 k (by simp at hk; omega)
        · simp; omega
        · have e1 : cur.toList.take (0 + xs.length * 1) = xs := by rw [Nat.zero_add, Nat.mul_one]; exact h8
          rw [e1]
          simp only [List.append_assoc, List.length_append]
          rw [← List.append_assoc]
          exact List.take_left' (by simp)
      · obtain ⟨v2, w2, hr2, ho, hg⟩ := run_append_arg_grows (P := P) w t ty e i z 1 bytes sl.und hi hz hs1 hb hzs (by omega) ⟨g, 0, none⟩ xs.length cap xs (by omega) (fun j u hu => by
          have hf := (show Ows w base e (.slice (some ⟨g, 0, none⟩) xs.length cap) xs from .inr ⟨g, cap, cur, fr, rfl, h2, h3, h4, h5, h6, h7, h8⟩).form
          obtain ⟨D, d, q, _, _, hrv, _⟩ := hf
          injection q with q1 _ _
          subst q1
          obtain ⟨ad2, q2, _, hc⟩ := hrv j u hu
          cases q2
          exact hc) ad news.length c news (by omega) hn (by omega) h63 hbytes
        exact ⟨v2, w2, hr2, Ows.less (Ows.of (by rw [List.length_append]; exact ho)) hbase, grown_any hg _⟩
theorem wpList_aps {ops : Array Oper} {rest : List Oper} {o : Oper} {a : Act} {Q : Exit → Act → World → Prop} {t e : TypeId} {bytes : Nat} (sl : Sl P t e 1 bytes) (hgd : o.guard = none) (s x : Operand)
    (ho : o.op = .call { callee := .builtin .append, args := #[s, x], argTypes := #[t, t] }) (base : Nat) (v : Value) (xs : List Value) (hs : a.eval s = v) (hown : Ows w base e v xs)
    {B : Nat} (A : Option Addr) (m c : Nat) (news : List Value) (hx : a.eval x = .slice A m c) (hnone : A = none → c = 0) (hl : news.length = m) (hr : Rv B w A news) (h1 : ∀ u ∈ news, u.oneCell' = true)
    (h63 : xs.length + m ≤ maxLen) (hbytes : (xs.length + m) * bytes ≤ 140737488355328) (hbase : base ≤ w.heap.size)
    (h : ∀ v2 w2, Ows w2 base e v2 (xs ++ news) → w.grownBy w2 v.ownBlock → wpList P ops Q rest (a.put o.dst v2) w2) : wpList P ops Q (o :: rest) a w := by
  refine wpList_plain hgd fun K hK => ?_
  obtain ⟨v2, w2, hr2, h2, h3⟩ := run_aps sl o.type base v xs hown A m c news hnone hl hr h1 h63 hbytes hbase
  unfold Oper.wp execOp
  simp only [ho, resolve, invoke, builtin, Sem.run_bind, Sem.run_pure, Result.andThen_ok, List.map_toArray, List.map_cons, List.map_nil, hs, hx, hr2]
  exact hK _ _ (h v2 w2 h2 h3)
theorem heap_new_fr (W : World) (cs : Array Value) (e : TypeId) (fr : Nat × Nat) : (W.alloc (.cells cs e fr)).heap[W.heap.size]? = some (.cells cs e fr) := heap_alloc_new W _
/-- A string's bytes, as a slice of the call's own. -/
theorem run_bys {src dst e : TypeId} (l : List UInt8) (hm : l.length ≤ 1000000) (hs : P.underlying src = some .string) (hd : P.underlying dst = some (.slice e)) (he : P.underlying e = some (.int .u8)) :
    ∃ v w2, (convert src dst (.string (bs l))).run P w = .ok v w2 ∧ Ows w2 w.heap.size e v (bys l) ∧ w.grownBy w2 none := by
  have h := run_bytes_of_string (P := P) w src dst e (bs l) hs hd he
  have hc := grownCap_ge w (bs l).size 0 e
  have hcm := grownCap_le_maxLen w (bs l).size 0 e (by rw [bs_size]; unfold maxLen; omega)
  rw [bs_size] at h hc hcm
  have hsz : (bytesRow (bs l) (grownCap w l.length 0 e)).size = grownCap w l.length 0 e := by simp [bytesRow, bs, ByteArray.size]; omega
  refine ⟨_, _, h, .inr ⟨w.heap.size, _, _, _, by rw [bys_len], Nat.le_refl _, heap_new_fr w.drew _ e _, ?_, by rw [bys_len]; exact hc, hcm, hsz, ?_⟩, ⟨rfl, rfl, rfl, by simp, fun k hk _ => Below.heap_alloc w.drew _ k hk⟩⟩
  · intro i hi q
    exact absurd q.1 (by omega)
  · refine List.ext_getElem? fun k => ?_
    rw [List.getElem?_take, bys_len]
    by_cases hk : k < l.length
    · rw [if_pos hk]
      have hb := bytesRow_at (bs l) (grownCap w l.length 0 e) k (by simpa [bs] using hk)
      rw [Array.getElem?_toList, hb]
      simp [bys, bs, hk]
    · rw [if_neg hk]
      rw [List.getElem?_eq_none (by rw [bys_len]; omega)]
end
end Go.Proofs.YtbmpidacoohdmaaGreat
namespace Go.Proofs.YtbmpidacoohdmaaGreat
open Lib renaming hid → hI
open Go.RowKit

/-- A blob's head, and the whole. -/
def hdB (n : Nat) : List UInt8 := 98 :: 108 :: 111 :: 98 :: 32 :: decB n
def objB (l : List UInt8) : List UInt8 := hdB l.length ++ [0] ++ l
theorem bs_lit (l m : List UInt8) : bs l ++ (⟨m.toArray⟩ : ByteArray) = bs (l ++ m) := bs_append l m
theorem hdB_len {n : Nat} (h : n ≤ 400) : (hdB n).length ≤ 8 := by
  have := decB_len (n := n) (by omega)
  simp only [hdB, List.length_cons]; omega
attribute [local go_sem] bs_append bs_lit bs_size
set_option maxHeartbeats 1000000 in
theorem word1 (w : World) : Calls Tryz.prog 146 #[.int .i64 1] w fun e w2 => e = .returned (.string (bs [98, 108, 111, 98])) ∧ w = w2 := by
  go_enter Tryz.func146, Tryz.ntmps146
  go_wp2_with fail
  go_ret
  exact ⟨rfl, rfl⟩
set_option maxHeartbeats 1000000 in
theorem read1 (w : World) (A : Option Addr) (c n : Nat) (hn : n ≤ 4000) : Calls Tryz.prog 197 #[.int .i64 1, .slice A n c] w fun e w2 => ∃ v, e = .returned (.tuple #[v, .int .i64 0]) ∧ Below w.heap.size w w2 := by
  have ht : (bs [98, 108, 111, 98]).toList.isEmpty = false := by rw [bs_empty]; rfl
  go_enter Tryz.func197, Tryz.ntmps197
  go_wp2_with (go_at_call 146; refine (word1 _).mono ?_; rintro e w2 ⟨rfl, rfl⟩)
  go_ret2
  exact ⟨_, rfl, Below.refl _ _⟩
set_option maxHeartbeats 1000000 in
theorem check1 (w : World) (A : Option Addr) (c n : Nat) (hn : n ≤ 4000) : Calls Tryz.prog 145 #[.int .i64 1, .slice A n c] w fun e w2 => e = .returned (.int .i64 0) ∧ Below w.heap.size w w2 := by
  go_enter Tryz.func145, Tryz.ntmps145
  go_wp2_with (go_at_call 197; refine (read1 _ A c n hn).mono ?_; rintro e w2 ⟨v, rfl, hb⟩; have HB := hI hb; clear hb)
  go_ret
  exact ⟨rfl, HB.out⟩
set_option maxHeartbeats 1000000 in
theorem fcheck1 (w : World) (A : Option Addr) (c n : Nat) (hn : n ≤ 4000) : Calls Tryz.prog 160 #[.int .i64 1, .slice A n c] w fun e w2 => e = .returned (.int .i64 0) ∧ Below w.heap.size w w2 := by
  go_enter Tryz.func160, Tryz.ntmps160
  go_wp2_with fail
  go_ret
  exact ⟨rfl, Below.refl _ _⟩
set_option maxHeartbeats 1000000 in
theorem obytes_any (w : World) (A : Option Addr) (c : Nat) (body : List UInt8) (h : Rv w.heap.size w A (bys body)) (hn : A = none → c = 0) (hl : body.length ≤ 400) :
    Calls Tryz.prog 89 #[.int .i64 1, .slice A body.length c] w fun e w2 => ∃ u, e = .returned (.tuple #[u, .int .i64 0]) ∧ Ows w2 w.heap.size 5 u (bys (objB body)) ∧ Below w.heap.size w w2 := by
  have H := hI h
  have HN := hI hn
  have HCK := hI (check1 w A c body.length (by omega))
  have hd3 := decB_len (n := body.length) (by omega)
  clear h hn
  go_enter Tryz.func89, Tryz.ntmps89
  go_wp2_with fail
  refine HCK.out.mono ?_
  rintro en w1 ⟨rfl, hb1⟩
  have B1 := hI hb1
  clear hb1 HCK
  go_wp2_with fail
  refine (word1 _).mono ?_
  rintro en w1b ⟨rfl, rfl⟩
  go_wp2_with fail
  refine (digits_any _ body.length (by omega)).mono ?_
  rintro en w2 ⟨rfl, hb2⟩
  have B2 := hI (B1.out.trans (hb2.mono B1.out.size))
  clear hb2
  obtain ⟨v3, w3, hrun, ho3, hg3⟩ := run_bys (P := Tryz.prog) (w := w2) (src := 9) (dst := 57) (hdB body.length) (by have := hdB_len hl; omega) Tryz.underlying9 Tryz.underlying57 Tryz.underlying5
  unfold hdB at hrun
  have B3 := hI (B2.out.trans (below_of_grown hg3 B2.out.size (fun k hk => by cases hk)))
  have O3 := hI (ho3.less B2.out.size)
  have HL := hI (hdB_len hl)
  have HOB : Hid (bys (hdB body.length) ++ bys [0] ++ bys body = bys (objB body)) := hI (by rw [bys_app, bys_app]; rfl)
  have HB := hI (bys_len (hdB body.length))
  have HB2 := hI (bys_len body)
  clear ho3 hg3
  go_upto_region 5 with fail
  clear hrun
  have O4 := hI (O3.out.alloc (.cells #[.int .u8 0] 5))
  have B4 := hI (B3.out.alloc B3.out.size (.cells #[.int .u8 0] 5))
  have NW := hI (new_rv w3 (bys [0]) 5 ⟨w3.heap.size, 0, none⟩ rfl)
  go_wp2_with (first | (at_builtin; refine wpList_aps sl22 rfl (.tmp 22) (.tmp 23) rfl w.heap.size v3 (bys (hdB body.length)) rfl O4.out (some ⟨w3.heap.size, 0, none⟩) 1 1 (bys [0]) rfl (fun e => by cases e) rfl NW.out (bys_one _) (by rw [HB.out]; unfold maxLen; have := HL.out; omega) (by rw [HB.out]; have := HL.out; omega) (by have := B4.out.size; omega) ?_; intro v5 w5 ho5 hg5; have B5 := hI (B4.out.trans (below_of_grown hg5 B4.out.size (fun k hk => (O4.out.lt hk).1))); have O5 := hI ho5; have H5 := hI (H.out.low B5.out B5.out.size); clear ho5 hg5) | (at_builtin; refine wpList_aps sl22 rfl (.tmp 24) (.tmp 25) rfl w.heap.size v5 _ rfl O5.out A body.length c (bys body) rfl HN.out HB2.out H5.out (bys_one _) (by rw [List.length_append, HB.out]; unfold maxLen; have := HL.out; simp [bys]; omega) (by rw [List.length_append, HB.out]; have := HL.out; simp [bys]; omega) B5.out.size ?_; intro v6 w6 ho6 hg6; have B6 := hI (B5.out.trans (below_of_grown hg6 B5.out.size (fun k hk => (O5.out.lt hk).1))); rw [HOB.out] at ho6; have O6 := hI ho6; clear ho6 hg6))
  go_ret2
  exact ⟨v6, rfl, O6.out, B6.out⟩
def wordsA : Array Value := #[.string (bs [98, 108, 111, 98]), .string (bs [116, 114, 101, 101]), .string (bs [99, 111, 109, 109, 105, 116]), .string (bs [116, 97, 103])]
set_option maxHeartbeats 1000000 in
theorem fwords (w : World) : Calls Tryz.prog 217 #[] w fun e w2 => e = .returned (.slice (some ⟨w.heap.size, 0, none⟩) 4 4) ∧ w.alloc (.cells wordsA 9) = w2 := by
  go_enter Tryz.func217, Tryz.ntmps217
  go_wp2_with fail
  exact bodyPost_ret (v := .slice (some ⟨w.heap.size, 0, none⟩) 4 4) (by simp [results, Tryz.results217, go_sem]) rfl ⟨rfl, rfl⟩
set_option maxHeartbeats 1000000 in
theorem fword1 (w : World) : Calls Tryz.prog 161 #[.int .i64 1] w fun e w2 => e = .returned (.string (bs [98, 108, 111, 98])) ∧ Below w.heap.size w w2 := by
  have hc : (w.alloc (.cells wordsA 9)).cell? ⟨w.heap.size, 0, none⟩ = some (.string (bs [98, 108, 111, 98])) := by
    rw [cell_of_row _ _ _ _ _ _ (heap_alloc_new w _)]; rfl
  have HB := hI ((Below.refl w.heap.size w).alloc (Nat.le_refl _) (.cells wordsA 9))
  go_enter Tryz.func161, Tryz.ntmps161
  go_wp2_with (go_at_call 217; refine (fwords _).mono ?_; rintro e w2 ⟨rfl, hw2⟩; subst hw2)
  go_ret
  exact ⟨rfl, HB.out⟩
set_option maxHeartbeats 1000000 in
theorem fobytes_any (w : World) (A : Option Addr) (c : Nat) (body : List UInt8) (h : Rv w.heap.size w A (bys body)) (hn : A = none → c = 0) (hl : body.length ≤ 400) :
    Calls Tryz.prog 94 #[.int .i64 1, .slice A body.length c] w fun e w2 => ∃ u, e = .returned (.tuple #[u, .int .i64 0]) ∧ Ows w2 w.heap.size 5 u (bys (objB body)) ∧ Below w.heap.size w w2 := by
  have H := hI h
  have HN := hI hn
  have HCK := hI (fcheck1 w A c body.length (by omega))
  have hd3 := decB_len (n := body.length) (by omega)
  clear h hn
  go_enter Tryz.func94, Tryz.ntmps94
  go_wp2_with fail
  refine HCK.out.mono ?_
  rintro en w1 ⟨rfl, hb1⟩
  have B1 := hI hb1
  clear hb1 HCK
  go_wp2_with fail
  refine (fword1 _).mono ?_
  rintro en w1b ⟨rfl, hb1b⟩
  have B1b := hI (B1.out.trans (hb1b.mono B1.out.size))
  clear hb1b
  go_wp2_with fail
  refine (fdigits_any _ body.length (by omega)).mono ?_
  rintro en w2 ⟨rfl, hb2⟩
  have B2 := hI (B1b.out.trans (hb2.mono B1b.out.size))
  clear hb2
  obtain ⟨v3, w3, hrun, ho3, hg3⟩ := run_bys (P := Tryz.prog) (w := w2) (src := 9) (dst := 57) (hdB body.length) (by have := hdB_len hl; omega) Tryz.underlying9 Tryz.underlying57 Tryz.underlying5
  unfold hdB at hrun
  have B3 := hI (B2.out.trans (below_of_grown hg3 B2.out.size (fun k hk => by cases hk)))
  have O3 := hI (ho3.less B2.out.size)
  have HL := hI (hdB_len hl)
  have HOB : Hid (bys (hdB body.length) ++ bys [0] ++ bys body = bys (objB body)) := hI (by rw [bys_app, bys_app]; rfl)
  have HB := hI (bys_len (hdB body.length))
  have HB2 := hI (bys_len body)
  clear ho3 hg3
  go_upto_region 5 with fail
  clear hrun
  have O4 := hI (O3.out.alloc (.cells #[.int .u8 0] 5))
  have B4 := hI (B3.out.alloc B3.out.size (.cells #[.int .u8 0] 5))
  have NW := hI (new_rv w3 (bys [0]) 5 ⟨w3.heap.size, 0, none⟩ rfl)
  go_wp2_with (first | (at_builtin; refine wpList_aps sl22 rfl (.tmp 22) (.tmp 23) rfl w.heap.size v3 (bys (hdB body.length)) rfl O4.out (some ⟨w3.heap.size, 0, none⟩) 1 1 (bys [0]) rfl (fun e => by cases e) rfl NW.out (bys_one _) (by rw [HB.out]; unfold maxLen; have := HL.out; omega) (by rw [HB.out]; have := HL.out; omega) (by have := B4.out.size; omega) ?_; intro v5 w5 ho5 hg5; have B5 := hI (B4.out.trans (below_of_grown hg5 B4.out.size (fun k hk => (O4.out.lt hk).1))); have O5 := hI ho5; have H5 := hI (H.out.low B5.out B5.out.size); clear ho5 hg5) | (at_builtin; refine wpList_aps sl22 rfl (.tmp 25) (.tmp 26) rfl w.heap.size v5 _ rfl O5.out A body.length c (bys body) rfl HN.out HB2.out H5.out (bys_one _) (by rw [List.length_append, HB.out]; unfold maxLen; have := HL.out; simp [bys]; omega) (by rw [List.length_append, HB.out]; have := HL.out; simp [bys]; omega) B5.out.size ?_; intro v6 w6 ho6 hg6; have B6 := hI (B5.out.trans (below_of_grown hg6 B5.out.size (fun k hk => (O5.out.lt hk).1))); rw [HOB.out] at ho6; have O6 := hI ho6; clear ho6 hg6))
  go_ret2
  exact ⟨v6, rfl, O6.out, B6.out⟩
end Go.Proofs.YtbmpidacoohdmaaGreat

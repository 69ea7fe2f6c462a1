/- Ids as hexadecimal digits: oid.Hex and sleuthref04.Hex by contracts. -/
import Derived.Test.YtbmpidacoohdmaaGreatDec
import Derived.Test.YtbmpidacoohdmaaGreatOrd
import Derived.Deep.Cut
namespace Go.Proofs.YtbmpidacoohdmaaGreat
open Go.RowKit

def hexC : List UInt8 := [48, 49, 50, 51, 52, 53, 54, 55, 56, 57, 97, 98, 99, 100, 101, 102]
def hexD (n : Nat) : UInt8 := hexC.getD n 0
def hexB (l : List UInt8) : List UInt8 := l.flatMap fun b => [hexD (b.toNat / 16), hexD (b.toNat % 16)]
theorem hexB_next (l : List UInt8) (k : Nat) (h : k < l.length) : hexB (l.take (k + 1)) = hexB (l.take k) ++ [hexD ((l.getD k 0).toNat / 16), hexD ((l.getD k 0).toNat % 16)] := by
  unfold hexB
  rw [List.take_add_one, List.flatMap_append, List.getElem?_eq_getElem h]
  simp [h]
theorem hexB_len (l : List UInt8) : (hexB l).length = 2 * l.length := by
  induction l with
  | nil => rfl
  | cons c l ih => simp only [hexB, List.flatMap_cons, List.length_append, List.length_cons, List.length_nil] at *; omega
theorem and15 : ∀ c : Fin 256, bits BinOp.and IntKind.u8 (c.val : Int) 15 = (c.val : Int) % 16 := by decide +kernel
def idxH (v : Value) : Sem Value := Instr.index 9 (.string ⟨#[48, 49, 50, 51, 52, 53, 54, 55, 56, 57, 97, 98, 99, 100, 101, 102]⟩) v
theorem idxH_eq (v : Value) : Instr.index 9 (.string ⟨#[48, 49, 50, 51, 52, 53, 54, 55, 56, 57, 97, 98, 99, 100, 101, 102]⟩) v = idxH v := rfl
theorem run_hexat (n : Nat) (hn : n < 16) (W : World) : (idxH (.int .u8 (n : Int))).run Tryz.prog W = .ok (.int .u8 ((hexD n).toNat : Int)) W := by
  unfold idxH
  go_simp
  rw [dif_pos (by omega)]
  exact congrArg (fun x : UInt8 => (Result.ok (Value.int IntKind.u8 (x.toNat : Int)) W : Result Value)) (bs_at (p := hexC) (k := n) (by rw [bs_size]; exact hn))
attribute [local go_sem ↓] load42_eq box42_eq run_box42 idxH_eq
set_option maxRecDepth 100000 in
set_option maxHeartbeats 1000000 in
theorem hex_any (w : World) (l : List UInt8) (hl : l.length = 32) :
    Calls Tryz.prog 93 #[.agg (bys l).toArray] w fun e w2 => e = .returned (.string (bs (hexB l))) ∧ Below w.heap.size w w2 := by
  have R0 := Ar.new w (bys l) 51
  have hld := ld42 (R0.alloc (.cells (List.replicate 64 (Value.int .u8 0)).toArray 5)) hl
  have hmk : ∀ W : World, (Instr.makeSlice 57 (.int .i64 0) (.int .i64 64)).run Tryz.prog W = .ok (.slice (some ⟨W.heap.size, 0, none⟩) 0 64) (W.alloc (.cells (List.replicate 64 (Value.int .u8 0)).toArray 5)) := fun W => make22 0 64 (by omega) (by omega) W
  have B0 := Lib.hid (((Below.refl w.heap.size w).alloc (Nat.le_refl _) (.cells (bys l).toArray 51)).alloc (by simp) (.cells (List.replicate 64 (Value.int .u8 0)).toArray 5))
  have O0 := Lib.hid (World.ownsRow_made (e := 5) (size := 1) (base := w.heap.size) (w.alloc (.cells (bys l).toArray 51)) (List.replicate 64 (Value.int .u8 0)).toArray 64 (by simp) (by unfold maxLen; omega) (by simp))
  clear R0
  generalize hz : (List.replicate 64 (Value.int .u8 0)).toArray = zs at *
  clear hz
  go_enter Tryz.func93, Tryz.ntmps93
  go_wp2_with fail
  rw [World.size_alloc] at O0
  clear hld hmk
  go_loopw [3, 8] (fun sv kv wr => ∃ k : Nat, k ≤ 32 ∧ kv = .int .i64 k ∧ Hid (wr.ownsRow w.heap.size 5 1 sv (hexB (l.take k)).length (bys (hexB (l.take k)))) ∧ Hid (Below w.heap.size w wr)) (fun _ kv _ => 32 - (intOf kv).toNat)
  case atStart => exact ⟨0, by omega, rfl, O0, B0⟩
  case round =>
    clear O0 B0
    obtain ⟨k, hk, rfl, ho, hb⟩ := hrel
    have hbs := hb.out.size
    by_cases hlt : k < 32
    · have hix := fun W => run_idx42 l hl k hlt W
      have HN := Lib.hid (hexB_next l k (by omega))
      have hln : (hexB (l.take k)).length ≤ 64 := by rw [hexB_len, List.length_take]; omega
      generalize l.getD k 0 = c at *
      generalize hexB (l.take k) = pre at *
      have hc := c.toNat_lt
      have x1 : ∀ W, (idxH (.int .u8 ((c.toNat : Int) / 16))).run Tryz.prog W = .ok (.int .u8 ((hexD (c.toNat / 16)).toNat : Int)) W := fun W => by rw [show (c.toNat : Int) / 16 = ((c.toNat / 16 : Nat) : Int) by omega]; exact run_hexat (c.toNat / 16) (by omega) W
      have x2 : ∀ W, (idxH (.int .u8 ((c.toNat : Int) % 16))).run Tryz.prog W = .ok (.int .u8 ((hexD (c.toNat % 16)).toNat : Int)) W := fun W => by rw [show (c.toNat : Int) % 16 = ((c.toNat % 16 : Nat) : Int) by omega]; exact run_hexat (c.toNat % 16) (by omega) W
      have x3 : bits BinOp.and IntKind.u8 (c.toNat : Int) 15 = (c.toNat : Int) % 16 := and15 ⟨c.toNat, hc⟩
      generalize hexD (c.toNat / 16) = h1 at *
      generalize hexD (c.toNat % 16) = h2 at *
      obtain ⟨D, d, hv, hDn, _⟩ := own_all ho.out
      subst hv
      go_upto_region 5 with fail
      clear hix
      have HC0 := Lib.hid (Below.refl wr.heap.size wr).drew
      refine region_of (fun W => Below w.heap.size w W) (by kernel_rfl) ?_
      have O0 := Lib.hid (own_below ho.out HC0.out)
      have B0 := Lib.hid (hb.out.trans (HC0.out.mono hbs))
      generalize wr.drew = w1 at *
      refine anyC_take 0 (v := ?_) B0.out rfl (by kernel_rfl) (by kernel_rfl) (by kernel_rfl) (fun _ _ _ h => h) rfl (fun W hW => ?_) ?_
      rotate_left
      · go_simp
        try rfl
      simp only [Act.put]
      refine anyC_take 1 (v := ?_) B0.out rfl (by kernel_rfl) (by kernel_rfl) (by kernel_rfl) (fun _ _ _ h => h) rfl (fun W hW => ?_) ?_
      rotate_left
      · go_simp
        try rfl
      simp only [Act.put]
      refine anyC_take 2 (v := ?_) B0.out rfl (by kernel_rfl) (by kernel_rfl) (by kernel_rfl) (fun _ _ _ h => h) rfl (fun W hW => ?_) ?_
      rotate_left
      · go_simp
        try rfl
      simp only [Act.put]
      refine anyC_take 3 (v := ?_) B0.out rfl (by kernel_rfl) (by kernel_rfl) (by kernel_rfl) (fun _ _ _ h => h) rfl (fun W hW => ?_) ?_
      rotate_left
      · go_simp
        try rfl
      simp only [Act.put]
      refine anyC_take 4 (v := ?_) B0.out rfl (by kernel_rfl) (by kernel_rfl) (by kernel_rfl) (fun _ _ _ h => h) rfl (fun W hW => ?_) ?_
      rotate_left
      · go_simp
        try rfl
      simp only [Act.put]
      refine anyC_take 5 (v := ?_) B0.out rfl (by kernel_rfl) (by kernel_rfl) (by kernel_rfl) (fun _ _ _ h => h) rfl (fun W hW => ?_) ?_
      rotate_left
      · go_simp
        try rfl
      simp only [Act.put]
      refine anyC_take 6 (v := ?_) B0.out rfl (by kernel_rfl) (by kernel_rfl) (by kernel_rfl) (fun _ _ _ h => h) rfl (fun W hW => ?_) ?_
      rotate_left
      · go_simp
        try rfl
      simp only [Act.put]
      have NW := Lib.hid (new_rv w1 (bys [h1, h2]) 5 ⟨w1.heap.size, 0, none⟩ rfl)
      have O1 := Lib.hid (O0.out.alloc (.cells #[.int .u8 (h1.toNat : Int), .int .u8 (h2.toNat : Int)] 5))
      have B1 := Lib.hid (B0.out.alloc B0.out.size (.cells #[.int .u8 (h1.toNat : Int), .int .u8 (h2.toNat : Int)] 5))
      have hs1 : (w1.alloc (.cells #[.int .u8 (h1.toNat : Int), .int .u8 (h2.toNat : Int)] 5)).heap.size = w1.heap.size + 1 := World.size_alloc _ _
      have HS1 := Lib.hid hs1
      have hb0 := B0.out.size
      clear hs1 x1 x2 x3
      refine anyC_one 7 B0.out (by kernel_rfl) rfl ?_
      go_wp2_with fail
      refine anyC_one 8 B1.out (by kernel_rfl) rfl ?_
      refine wpList_app sl22 rfl (.tmp 11) (.tmp 18) rfl w.heap.size (.slice D pre.length d) pre.length (bys pre) rfl O1.out (some ⟨w1.heap.size, 0, none⟩) 2 2 (bys [h1, h2]) rfl (fun e => by cases e) rfl NW.out (bys_one _) (by unfold maxLen; omega) (by omega) (by rw [HS1.out]; omega) ?_
      intro v2 w2 ho2 ha
      rw [bys_app] at ho2
      have O2 := Lib.hid ho2
      have B2 := Lib.hid (B1.out.trans (below_of_grown ha.grown (by rw [HS1.out]; omega) (fun q hq => (O1.out.lt q hq).1)))
      clear ho2 ha
      go_wp2_with fail
      refine anyC_one 9 B2.out (by kernel_rfl) rfl ?_
      go_wp2_with fail
      refine anyC_done B2.out (by kernel_rfl) ?_ _
      go_wp2_with fail
      exact ⟨⟨k + 1, by omega, by go_num, by rw [HN.out, List.length_append]; exact O2, B2⟩, by simp [intOf]; omega⟩
    · have hke : k = 32 := by omega
      subst hke
      rw [List.take_of_length_le (by omega)] at ho
      obtain ⟨D, d, hv, _, _, hr, _⟩ := own_all ho.out
      subst hv
      have hcv := conv22 d hr
      go_wp2_with fail
      go_ret
      exact ⟨rfl, hb.out⟩
theorem sl48 : Sl Tryz.prog 48 3 1 8 := ⟨Tryz.underlying48, by kernel_rfl, by decide⟩
/-- The digits of bytes. -/
def nibs (l : List UInt8) : List Nat := l.flatMap fun b => [b.toNat / 16, b.toNat % 16]
def ntI (l : List Nat) : List Value := l.map fun (n : Nat) => Value.int .i64 (n : Int)
theorem ntI_app (a b : List Nat) : ntI a ++ ntI b = ntI (a ++ b) := by simp [ntI]
theorem ntI_one (l : List Nat) : ∀ u ∈ ntI l, u.oneCell' = true := by simp [ntI, Value.oneCell']
theorem ntI_at {l : List Nat} {k : Nat} (h : k < l.length) : (ntI l)[k]? = some (.int .i64 ((l.getD k 0 : Nat) : Int)) := by simp [ntI, h]
theorem ntI_len (l : List Nat) : (ntI l).length = l.length := by simp [ntI]
theorem nibs_next (l : List UInt8) (k : Nat) (h : k < l.length) : nibs (l.take (k + 1)) = nibs (l.take k) ++ [(l.getD k 0).toNat / 16] ++ [(l.getD k 0).toNat % 16] := by
  unfold nibs
  rw [List.take_add_one, List.flatMap_append, List.getElem?_eq_getElem h]
  simp [h]
theorem nibs_len (l : List UInt8) : (nibs l).length = 2 * l.length := by
  induction l with
  | nil => rfl
  | cons c l ih => simp only [nibs, List.flatMap_cons, List.length_append, List.length_cons, List.length_nil] at *; omega
theorem nibs_lt (l : List UInt8) : ∀ n ∈ nibs l, n < 16 := by
  intro n hn
  obtain ⟨b, _, hb⟩ := List.mem_flatMap.1 hn
  have := b.toNat_lt
  simp only [List.mem_cons, List.not_mem_nil, or_false] at hb
  rcases hb with rfl | rfl <;> omega
theorem hexB_nibs (l : List UInt8) : hexB l = (nibs l).map hexD := by
  simp [hexB, nibs, List.map_flatMap]
set_option maxRecDepth 100000 in
set_option maxHeartbeats 1000000 in
theorem nibs_any (w : World) (l : List UInt8) (hl : l.length = 32) :
    Calls Tryz.prog 112 #[.agg (bys l).toArray] w fun e w2 => ∃ u, e = .returned u ∧ w2.ownsRow w.heap.size 3 1 u 64 (ntI (nibs l)) ∧ Below w.heap.size w w2 := by
  have R0 := Lib.hid (Ar.new w (bys l) 51)
  have B0 := Lib.hid ((Below.refl w.heap.size w).alloc (Nat.le_refl _) (.cells (bys l).toArray 51))
  have hs0 : (w.alloc (.cells (bys l).toArray 51)).heap.size = w.heap.size + 1 := World.size_alloc _ _
  go_enter Tryz.func112, Tryz.ntmps112
  go_wp2_with fail
  generalize w.alloc (.cells (bys l).toArray 51) = w1 at *
  go_loopw [3, 4] (fun sv kv wr => ∃ k : Nat, k ≤ 32 ∧ kv = .int .i64 k ∧ Hid (Ar wr w.heap.size 51 (bys l)) ∧ Hid (wr.ownsRow (w.heap.size + 1) 3 1 sv (nibs (l.take k)).length (ntI (nibs (l.take k)))) ∧ Hid (Below w.heap.size w wr) ∧ w.heap.size + 1 ≤ wr.heap.size) (fun _ kv _ => 32 - (intOf kv).toNat)
  case atStart => exact ⟨0, by omega, rfl, R0, World.ownsRow_nil _ _ _ _, B0, by omega⟩
  case round =>
    clear R0 B0 hs0
    obtain ⟨k, hk, rfl, r4, ho, hb, hsz⟩ := hrel
    by_cases hlt : k < 32
    · have hc := r4.out.cell (bys_at (l := l) (k := k) (by omega))
      have HN := Lib.hid (nibs_next l k (by omega))
      have hln : (nibs (l.take k)).length ≤ 64 := by rw [nibs_len, List.length_take]; omega
      generalize l.getD k 0 = c at *
      generalize nibs (l.take k) = pre at *
      obtain ⟨D, d, hv, hDn, _⟩ := own_all ho.out
      subst hv
      have hc8 := c.toNat_lt
      have e1 : (c.toNat : Int) / 16 = ((c.toNat / 16 : Nat) : Int) := by omega
      have e2 : (c.toNat : Int) % 16 = ((c.toNat % 16 : Nat) : Int) := by omega
      generalize c.toNat / 16 = p at *
      generalize c.toNat % 16 = q at *
      have O1 := Lib.hid (ho.out.alloc (.cells #[.int .i64 (p : Int)] 3))
      have R1 := Lib.hid (r4.out.alloc (.cells #[.int .i64 (p : Int)] 3))
      have B1 := Lib.hid (hb.out.alloc hb.out.size (.cells #[.int .i64 (p : Int)] 3))
      have NW := Lib.hid (new_rv wr (ntI [p]) 3 ⟨wr.heap.size, 0, none⟩ rfl)
      have hs1 : (wr.alloc (.cells #[.int .i64 (p : Int)] 3)).heap.size = wr.heap.size + 1 := World.size_alloc _ _
      have HS1 := Lib.hid hs1
      clear hs1
      go_upto_region 6 with (at_builtin; refine wpList_app sl48 rfl (.tmp 9) (.tmp 15) rfl (w.heap.size + 1) (.slice D pre.length d) pre.length (ntI pre) rfl O1.out (some ⟨wr.heap.size, 0, none⟩) 1 1 (ntI [p]) rfl (fun e => by cases e) rfl NW.out (ntI_one _) (by unfold maxLen; omega) (by omega) (by rw [HS1.out]; omega) ?_; intro v2 w2 ho2 ha; rw [ntI_app] at ho2; have O2 := Lib.hid ho2; have G2 := Lib.hid ha.grown; have B2 := Lib.hid (B1.out.trans (below_of_grown ha.grown (by rw [HS1.out]; omega) (fun q hq => by have := (O1.out.lt q hq).1; omega))); have R2 := Lib.hid (R1.out.later ha.grown (own_far O1.out (by omega))); clear ho2 ha)
      have hs2 : w.heap.size + 1 ≤ w2.heap.size := by have := G2.out.size; rw [HS1.out] at this; omega
      obtain ⟨D2, d2, hv2, hDn2, _⟩ := own_all O2.out
      subst hv2
      have hc2 : w2.cell? ⟨w.heap.size, k, none⟩ = some (.int .u8 (c.toNat : Int)) := by
        rw [← hc]
        exact World.cell?_of_block (show w2.heap[w.heap.size]? = wr.heap[w.heap.size]? from R2.out.trans r4.out.symm)
      clear hc
      have O3 := Lib.hid (O2.out.alloc (.cells #[.int .i64 (q : Int)] 3))
      have R3 := Lib.hid (R2.out.alloc (.cells #[.int .i64 (q : Int)] 3))
      have B3 := Lib.hid (B2.out.alloc B2.out.size (.cells #[.int .i64 (q : Int)] 3))
      have NW2 := Lib.hid (new_rv w2 (ntI [q]) 3 ⟨w2.heap.size, 0, none⟩ rfl)
      have hs3 : (w2.alloc (.cells #[.int .i64 (q : Int)] 3)).heap.size = w2.heap.size + 1 := World.size_alloc _ _
      have HS3 := Lib.hid hs3
      clear hs3
      go_wp2_with (at_builtin; refine wpList_app sl48 rfl (.tmp 17) (.tmp 23) rfl (w.heap.size + 1) (.slice D2 (pre.length + 1) d2) (pre.length + 1) (ntI (pre ++ [p])) rfl O3.out (some ⟨w2.heap.size, 0, none⟩) 1 1 (ntI [q]) rfl (fun e => by cases e) rfl NW2.out (ntI_one _) (by unfold maxLen; omega) (by omega) (by rw [HS3.out]; omega) ?_; intro v4 w4 ho4 ha4; rw [ntI_app] at ho4; have O4 := Lib.hid ho4; have G4 := Lib.hid ha4.grown; have B4 := Lib.hid (B3.out.trans (below_of_grown ha4.grown (by rw [HS3.out]; omega) (fun q hq => by have := (O3.out.lt q hq).1; omega))); have R4 := Lib.hid (R3.out.later ha4.grown (own_far O3.out (by omega))); clear ho4 ha4)
      exact ⟨⟨k + 1, by omega, by go_num, R4, by rw [HN.out]; simp only [List.length_append, List.length_cons, List.length_nil]; exact O4, B4, by have := G4.out.size; rw [HS3.out] at this; omega⟩, by simp [intOf]; omega⟩
    · have hke : k = 32 := by omega
      subst hke
      rw [List.take_of_length_le (by omega), nibs_len, hl] at ho
      go_wp2_with fail
      go_ret
      exact ⟨_, rfl, own_less ho.out (by omega), hb.out⟩
theorem hexCut (d : Nat) (h : d < 16) : (⟨#[48, 49, 50, 51, 52, 53, 54, 55, 56, 57, 97, 98, 99, 100, 101, 102]⟩ : ByteArray).extract d (d + 1) = bs [hexD d] := by
  have : d = 0 ∨ d = 1 ∨ d = 2 ∨ d = 3 ∨ d = 4 ∨ d = 5 ∨ d = 6 ∨ d = 7 ∨ d = 8 ∨ d = 9 ∨ d = 10 ∨ d = 11 ∨ d = 12 ∨ d = 13 ∨ d = 14 ∨ d = 15 := by omega
  rcases this with rfl | rfl | rfl | rfl | rfl | rfl | rfl | rfl | rfl | rfl | rfl | rfl | rfl | rfl | rfl | rfl <;> rfl
attribute [local go_sem] bs_append
set_option maxRecDepth 100000 in
set_option maxHeartbeats 1000000 in
theorem fhex_any (w : World) (l : List UInt8) (hl : l.length = 32) :
    Calls Tryz.prog 67 #[.agg (bys l).toArray] w fun e w2 => e = .returned (.string (bs (hexB l))) ∧ Below w.heap.size w w2 := by
  have hld := ld42 (Ar.new w (bys l) 51) hl
  have B0 := Lib.hid ((Below.refl w.heap.size w).alloc (Nat.le_refl _) (.cells (bys l).toArray 51))
  have HNB := Lib.hid (nibs_any (w.alloc (.cells (bys l).toArray 51)) l hl)
  go_enter Tryz.func67, Tryz.ntmps67
  go_wp2_with fail
  refine HNB.out.mono ?_
  rintro en w1 ⟨u, rfl, ho, hb⟩
  obtain ⟨D, d, hv, hDn, hd, hr, _⟩ := own_all ho
  subst hv
  have B1 := Lib.hid (B0.out.trans (hb.mono B0.out.size))
  have HR := Lib.hid hr
  have hnl : (nibs l).length = 64 := by rw [nibs_len, hl]
  have HX := Lib.hid (hexB_nibs l)
  have HLT := Lib.hid (nibs_lt l)
  clear ho hb hr hld HNB B0
  generalize nibs l = ns at *
  go_wp2_with fail
  go_loopw [4, 5] (fun sv kv wr => ∃ k : Nat, k ≤ 64 ∧ kv = .int .i64 k ∧ sv = .string (bs ((ns.take k).map hexD)) ∧ Hid (Below w1.heap.size w1 wr)) (fun _ kv _ => 64 - (intOf kv).toNat)
  case atStart => exact ⟨0, by omega, rfl, rfl, Lib.hid (Below.refl _ _)⟩
  case round =>
    obtain ⟨k, hk, rfl, rfl, hb⟩ := hrel
    by_cases hlt : k < 64
    · obtain ⟨ad, rfl, had, hc⟩ := (HR.out.low hb.out hb.out.size).at_ (ntI_at (l := ns) (k := k) (by omega))
      have hn : ns.getD k 0 < 16 := HLT.out _ (by rw [List.getD_eq_getElem?_getD, List.getElem?_eq_getElem (by omega)]; simp)
      have HN := Lib.hid (show (ns.take (k + 1)).map hexD = (ns.take k).map hexD ++ [hexD (ns.getD k 0)] by
        rw [List.take_add_one, List.map_append, List.getElem?_eq_getElem (by omega)]; simp [show k < ns.length by omega])
      have hsz : (bs ((ns.take k).map hexD)).size ≤ 64 := by rw [bs_size, List.length_map, List.length_take]; omega
      generalize ns.getD k 0 = x at *
      generalize (ns.take k).map hexD = pre at *
      have hx1 := hexCut x hn
      have hs1 : (bs [hexD x]).size = 1 := rfl
      have y1 : IntKind.i64.wrap ((x : Int) + 1) = (x : Int) + 1 := IntWalk.i64_in _ (by omega)
      have y2 : (0 : Int) ≤ (x : Int) + 1 := by omega
      have y3 : (x : Int) + 1 ≤ 16 := by omega
      have y5 : (x : Int) ≤ (x : Int) + 1 := by omega
      have y4 : ((x : Int) + 1).toNat = x + 1 := by omega
      have y6 : ¬ 9223372036854775807 < (bs pre).size + 1 := by omega
      have HC0 := Lib.hid (Below.refl wr.heap.size wr).drew
      have BW := Lib.hid (hb.out.trans (HC0.out.mono hb.out.size))
      have r1 : ∀ W, Below wr.heap.size wr W → W.cell? (ad.add k) = some (.int .i64 (x : Int)) := fun W hW => (hW.cell (by rw [block_add]; exact had)).trans hc
      go_upto_region 6 with fail
      refine region_of (fun W => Below wr.heap.size wr W) (by kernel_rfl) ?_
      refine anyC_take 0 (v := ?_) HC0.out rfl (by kernel_rfl) (by kernel_rfl) (by kernel_rfl) (fun _ _ _ h => h) rfl (fun W hW => ?_) ?_
      rotate_left
      · go_simp
        try rfl
      simp only [Act.put]
      refine anyC_take 1 (v := ?_) HC0.out rfl (by kernel_rfl) (by kernel_rfl) (by kernel_rfl) (fun _ _ _ h => h) rfl (fun W hW => ?_) ?_
      rotate_left
      · go_simp
        try rfl
      simp only [Act.put]
      refine anyC_take 2 (v := ?_) HC0.out rfl (by kernel_rfl) (by kernel_rfl) (by kernel_rfl) (fun _ _ _ h => h) rfl (fun W hW => ?_) ?_
      rotate_left
      · go_simp
        try rfl
      simp only [Act.put]
      refine anyC_take 3 (v := ?_) HC0.out rfl (by kernel_rfl) (by kernel_rfl) (by kernel_rfl) (fun _ _ _ h => h) rfl (fun W hW => ?_) ?_
      rotate_left
      · go_simp
        try rfl
      simp only [Act.put]
      refine anyC_take 4 (v := ?_) HC0.out rfl (by kernel_rfl) (by kernel_rfl) (by kernel_rfl) (fun _ _ _ h => h) rfl (fun W hW => ?_) ?_
      rotate_left
      · go_simp
        try rfl
      simp only [Act.put]
      refine anyC_take 5 (v := ?_) HC0.out rfl (by kernel_rfl) (by kernel_rfl) (by kernel_rfl) (fun _ _ _ h => h) rfl (fun W hW => ?_) ?_
      rotate_left
      · go_simp
        try rfl
      simp only [Act.put]
      refine anyC_take 6 (v := ?_) HC0.out rfl (by kernel_rfl) (by kernel_rfl) (by kernel_rfl) (fun _ _ _ h => h) rfl (fun W hW => ?_) ?_
      rotate_left
      · go_simp
        try rfl
      simp only [Act.put]
      refine anyC_take 7 (v := ?_) HC0.out rfl (by kernel_rfl) (by kernel_rfl) (by kernel_rfl) (fun _ _ _ h => h) rfl (fun W hW => ?_) ?_
      rotate_left
      · go_simp
        try rfl
      simp only [Act.put]
      refine anyC_take 8 (v := ?_) HC0.out rfl (by kernel_rfl) (by kernel_rfl) (by kernel_rfl) (fun _ _ _ h => h) rfl (fun W hW => ?_) ?_
      rotate_left
      · go_simp
        try rfl
      simp only [Act.put]
      refine anyC_take 9 (v := ?_) HC0.out rfl (by kernel_rfl) (by kernel_rfl) (by kernel_rfl) (fun _ _ _ h => h) rfl (fun W hW => ?_) ?_
      rotate_left
      · go_simp
        try rfl
      simp only [Act.put]
      refine anyC_take 10 (v := ?_) HC0.out rfl (by kernel_rfl) (by kernel_rfl) (by kernel_rfl) (fun _ _ _ h => h) rfl (fun W hW => ?_) ?_
      rotate_left
      · go_simp
        try rfl
      simp only [Act.put]
      refine anyC_take 11 (v := ?_) HC0.out rfl (by kernel_rfl) (by kernel_rfl) (by kernel_rfl) (fun _ _ _ h => h) rfl (fun W hW => ?_) ?_
      rotate_left
      · go_simp
        try rfl
      simp only [Act.put]
      refine anyC_one 12 HC0.out (by kernel_rfl) rfl ?_
      go_wp2_with fail
      refine anyC_done HC0.out (by kernel_rfl) ?_ _
      go_wp2_with fail
      exact ⟨⟨k + 1, by omega, by go_num, by rw [HN.out], BW⟩, by simp [intOf]; omega⟩
    · have hke : k = 64 := by omega
      subst hke
      have HE : Hid (ns.take 64 = ns) := Lib.hid (List.take_of_length_le (by omega))
      rw [HE.out]
      go_wp2_with fail
      go_ret
      exact ⟨by rw [HX.out]; rfl, B1.out.trans (hb.out.mono B1.out.size)⟩
end Go.Proofs.YtbmpidacoohdmaaGreat

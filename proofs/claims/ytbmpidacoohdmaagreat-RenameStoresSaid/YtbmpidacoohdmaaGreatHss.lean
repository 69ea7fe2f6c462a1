/- sha.New, sha.Hash.Sum, sha.Of by contracts. -/
import Derived.Test.YtbmpidacoohdmaaGreatHsh
namespace Go.Proofs.YtbmpidacoohdmaaGreat
open Go.RowKit

def sh24 (x : UInt32) : UInt32 := x >>> UInt32.ofNat 24
def sh16 (x : UInt32) : UInt32 := x >>> UInt32.ofNat 16
def sh08 (x : UInt32) : UInt32 := x >>> UInt32.ofNat 8
def c8 (x : UInt32) : UInt8 := by8 x.toNat
/-- A block of zeros. -/
def zR : List UInt8 := List.replicate 64 0
theorem zR_len : zR.length = 64 := List.length_replicate
def z121 : Array Value := (.bool false :: .int .u64 0 :: (us (List.replicate 8 0) ++ bys (List.replicate 64 0))).toArray
theorem z121_info : (Tryz.prog.info? 315).map (·.zero) = some (some (.agg z121)) := by kernel_rfl
def new121 : Sem Value := Instr.alloc 315 true (.tuple #[])
def store121 (a : Addr) (v : Value) : Sem Unit := storeVar 315 a v
def buildH (ps : Array (Nat × Value)) : Sem Value := Instr.build 315 ps
def boxH (v : Value) : Sem Value := Instr.box 315 v
theorem new121_eq : Instr.alloc 315 true (.tuple #[]) = new121 := rfl
theorem store121_eq (a : Addr) (v : Value) : storeVar 315 a v = store121 a v := rfl
theorem buildH_eq (ps : Array (Nat × Value)) : Instr.build 315 ps = buildH ps := rfl
theorem boxH_eq (v : Value) : Instr.box 315 v = boxH v := rfl
theorem run_new121 (W : World) : new121.run Tryz.prog W = .ok (.pointer (some ⟨W.heap.size, 0, none⟩)) (W.alloc (.cells z121 315)) := by
  obtain ⟨i, hi, hz⟩ := Option.map_eq_some_iff.1 z121_info
  simp [new121, Instr.alloc, zeroValue, typeInfo, hi, hz, newVar, newRow, Value.cells]
theorem run_buildH (W : World) : (buildH #[(0, .bool true), (2, .agg (us H256).toArray)]).run Tryz.prog W = .ok (.agg (hC 0 H256 zR).toArray) W := by
  kernel_rfl
theorem run_boxH (W : World) (cs : Array Value) : (boxH (.agg cs)).run Tryz.prog W = .ok (.pointer (some ⟨W.heap.size, 0, none⟩)) (W.alloc (.cells cs 315)) := by
  simp [boxH, Instr.box, newVar, newRow, Value.cells]
section
variable {W : World} {g : Nat} {t : TypeId} {l m : List Value}
theorem ld121 (h : Ar W g t l) (hl : l.length = 74) : (load121 ⟨g, 0, none⟩).run Tryz.prog W = .ok (.agg l.toArray) W := h.load hl Tryz.underlying315 rfl inf121
theorem st121 (h : Ar W g t l) (hl : l.length = 74) (hm : m.length = 74) (h1 : ∀ u ∈ m, u.oneCell' = true) : (store121 ⟨g, 0, none⟩ (.agg m.toArray)).run Tryz.prog W = .ok () (W.setRow g m.toArray) := h.store hl hm h1 inf121
end
attribute [local go_sem ↓] load121_eq store121_eq new121_eq buildH_eq boxH_eq run_new121
attribute [local go_sem] run_buildH run_boxH
set_option maxRecDepth 100000 in
set_option maxHeartbeats 2000000 in
theorem hnew_any (w : World) :
    Calls Tryz.prog 147 #[] w fun e w2 => ∃ g, e = .returned (.pointer (some ⟨g, 0, none⟩)) ∧ w.heap.size ≤ g ∧ Hs w2 g [] ∧ Below w.heap.size w w2 := by
  go_enter Tryz.func147, Tryz.ntmps147
  go_wp2_with fail
  refine (start_any _).mono ?_
  rintro e w4 ⟨rfl, hb⟩
  have hn : Ar (w4.alloc (.cells (hC 0 H256 zR).toArray 315)) w4.heap.size 315 (hC 0 H256 zR) := Ar.new w4 _ _
  have HN := Lib.hid hn
  have HB := Lib.hid (hb.alloc (by have := hb.size; omega) (.cells (hC 0 H256 zR).toArray 315))
  have hs := hb.size
  clear hn hb
  go_wp2_with fail
  go_ret
  exact ⟨_, rfl, hs, ⟨[], [], zR, rfl, rfl, zR_len, by rw [zR_len]; omega, by rw [absorb_small (by simp)]; exact HN.out⟩, HB.out⟩
theorem run_idx8 (st : List UInt32) (hs : st.length = 8) (i : Nat) (hi : i < 8) (W : World) : (Instr.index 267 (.agg (us st).toArray) (.int .i64 (i : Int))).run Tryz.prog W = .ok (U (st.getD i 0)) W := by
  obtain ⟨ii, hii, hz⟩ := Option.map_eq_some_iff.1 inf56
  have hp := run_part_one (P := Tryz.prog) (w := W) Tryz.underlying217 rfl (us st) i (us_at (by omega))
  simp [Instr.index, asIntOf, run_underlying Tryz.underlying267, sizeOf, typeInfo, hii, hz, hp]
  exact fun h => absurd hi (by omega)
theorem run_cut8 (y : UInt32) (W : World) : (convert 217 5 (U y)).run Tryz.prog W = .ok (.int .u8 ((c8 y).toNat : Int)) W := by
  have hd : Tryz.prog.underlying 5 = some (.int (Tryz.prog.intKind 5)) := by kernel_rfl
  have hk : Tryz.prog.intKind 5 = .u8 := by kernel_rfl
  rw [U, run_convert_int W _ _ _ _ (by kernel_rfl) hd, hk, c8, by8_nat]
  simp [IntKind.wrap_u8]
theorem shr_nat (x : UInt32) (n : Nat) (hn : n < 32) : (x >>> UInt32.ofNat n).toNat = x.toNat / 2 ^ n := by
  rw [UInt32.toNat_shiftRight, Nat.shiftRight_eq_div_pow]
  simp [Nat.mod_eq_of_lt (show n < 4294967296 by omega), Nat.mod_eq_of_lt hn]
theorem run_sh24 (x : UInt32) (W : World) : (binOp .shr 217 (U x) (.int .u64 24)).run Tryz.prog W = .ok (U (sh24 x)) W := run_shrU W _ x 24 (by omega)
theorem run_sh16 (x : UInt32) (W : World) : (binOp .shr 217 (U x) (.int .u64 16)).run Tryz.prog W = .ok (U (sh16 x)) W := run_shrU W _ x 16 (by omega)
theorem run_sh08 (x : UInt32) (W : World) : (binOp .shr 217 (U x) (.int .u64 8)).run Tryz.prog W = .ok (U (sh08 x)) W := run_shrU W _ x 8 (by omega)
theorem be4_c8 (x : UInt32) : be4 x.toNat = [c8 (sh24 x), c8 (sh16 x), c8 (sh08 x), c8 x] := by
  rw [c8, c8, c8, c8, sh24, sh16, sh08, shr_nat _ _ (by omega), shr_nat _ _ (by omega), shr_nat _ _ (by omega)]
  rfl
attribute [local go_sem ↓] run_sh24 run_sh16 run_sh08 run_cut8
theorem zero121 : (z121 : Array Value) = (.bool false :: .int .u64 0 :: (us (List.replicate 8 0) ++ bys (List.replicate 64 0)) : List Value).toArray := rfl
/-- A whole number of blocks leaves the state behind all bytes. -/
theorem Hs.whole {W : World} {g : Nat} {m : List UInt8} (h : Hs W g m) (hm : m.length % 64 = 0) : ∃ r, r.length = 64 ∧ Ar W g 315 (hC m.length (absorb H256 m) r) := by
  obtain ⟨A, T, Z, e, hA, hTZ, hZ, har⟩ := h
  have hT : T = [] := List.eq_nil_of_length_eq_zero (by rw [e, List.length_append] at hm; omega)
  subst hT
  rw [List.append_nil] at e
  subst e
  exact ⟨Z, by simpa using hTZ, har⟩
attribute [local go_sem ↓] load8_eq store8_eq load42_eq store42_eq new42_eq run_new42
set_option maxRecDepth 100000 in
set_option maxHeartbeats 2000000 in
theorem hsum_any (w : World) (g : Nat) (m : List UInt8) (h : Hs w g m) (hm : m.length ≤ 100000000) :
    Calls Tryz.prog 149 #[.pointer (some ⟨g, 0, none⟩)] w fun e w2 => e = .returned (.agg (bys (shaOf m)).toArray) ∧ Below w.heap.size w w2 := by
  have hSL := shaOf_len m
  generalize hS : shaOf m = S at *
  have HSH : Hid (outB (absorb H256 (m ++ padW m.length)) = S) := Lib.hid hS
  obtain ⟨A, T, Z, e, hA, hTZ, hZ, har⟩ := h
  have hlt := har.lt
  have HE := Lib.hid e
  have hlen : (hC m.length (absorb H256 A) (T ++ Z)).length = 74 := hC_len (absorb_h8 A) (by rw [List.length_append, hTZ])
  generalize hN : m.length = N at *
  have h1 := har.alloc (.cells z42 51)
  have hc0 : (w.alloc (.cells z42 51)).cell? ⟨g, 0, none⟩ = some (.bool true) := h1.cell rfl
  have hl := ld121 h1 hlen
  have n1 : Ar ((w.alloc (.cells z42 51)).alloc (.cells z121 315)) (w.heap.size + 1) 315 (.bool false :: .int .u64 0 :: (us (List.replicate 8 0) ++ bys (List.replicate 64 0))) := by
    have := Ar.new (w.alloc (.cells z42 51)) (.bool false :: .int .u64 0 :: (us (List.replicate 8 0) ++ bys (List.replicate 64 0))) 315
    rw [World.size_alloc] at this
    exact this
  have hst := st121 n1 (by simp [us_len, bys_len]) hlen hC_one
  have n2 := n1.setRow (hC N (absorb H256 A) (T ++ Z))
  have g2 := (h1.alloc (.cells z121 315)).past (w.heap.size + 1) (hC N (absorb H256 A) (T ++ Z)).toArray (by omega)
  have r0 : Ar (w.alloc (.cells z42 51)) w.heap.size 51 (bys (List.replicate 32 0)) := Ar.new w (bys (List.replicate 32 0)) 51
  have r2 := (r0.alloc (.cells z121 315)).past (w.heap.size + 1) (hC N (absorb H256 A) (T ++ Z)).toArray (by omega)
  have b2 := below_row (((Below.refl w.heap.size w).alloc (Nat.le_refl _) (.cells z42 51)).alloc (by simp) (.cells z121 315)) (w.heap.size + 1) (hC N (absorb H256 A) (T ++ Z)).toArray (by omega)
  have hs2 : (((w.alloc (.cells z42 51)).alloc (.cells z121 315)).setRow (w.heap.size + 1) (hC N (absorb H256 A) (T ++ Z)).toArray).heap.size = w.heap.size + 2 := by simp
  have hc1 := g2.cell (k := 1) (v := .int .u64 (N : Int)) rfl
  have N2 := Lib.hid n2
  have R2 := Lib.hid r2
  have B2 := Lib.hid b2
  have hsw : (w.alloc (.cells z42 51)).heap.size = w.heap.size + 1 := World.size_alloc _ _
  clear har h1 r0 n1 n2 g2 r2 b2 e hS
  go_enter Tryz.func149, Tryz.ntmps149
  go_wp2_with fail
  generalize (((w.alloc (.cells z42 51)).alloc (.cells z121 315)).setRow (w.heap.size + 1) (hC N (absorb H256 A) (T ++ Z)).toArray) = w2 at *
  refine (pad_any w2 N (by omega)).mono ?_
  rintro e w3 ⟨u, rfl, ho, hb⟩
  obtain ⟨D, d, hv, hD, hd, hrv, hfar⟩ := own_all ho
  subst hv
  have hs3 := hb.size
  have hx : Rx w3 (w.heap.size + 1) D d (padW N) := ⟨hrv, fun ad e _ => by have := (hfar ad e).1; omega, hd⟩
  have hh : Hs w3 (w.heap.size + 1) m := ⟨A, T, Z, HE.out, hA, hTZ, hZ, by rw [hN]; exact N2.out.below hb (by omega)⟩
  have hpl : (padW N).length ≤ 80 := by rw [padW_len]; unfold gapN; omega
  have HX := Lib.hid hx
  have HH := Lib.hid hh
  have R3 := Lib.hid (R2.out.below hb (by omega))
  have B3 := Lib.hid (B2.out.trans (hb.mono (by omega)))
  clear ho hb hrv hfar hx hh N2 R2 B2 hl hst
  go_wp2_with fail
  refine (hwrite_any w3 (w.heap.size + 1) m (padW N) D d HH.out HX.out (by omega)).mono ?_
  rintro e w4 ⟨rfl, h4, hg⟩
  have hs4 := hg.size
  have hpm := pad_mod m
  rw [hN] at hpm
  obtain ⟨r, hr, h4⟩ := h4.whole hpm
  generalize m ++ padW N = all at *
  have hal := absorb_h8 all
  generalize absorb H256 all = st at *
  have HOB := Lib.hid (outB_len st)
  have h5 := h4.alloc (.cells z42 51)
  have hl8 := ldS h5 hal hr
  have N5 := Lib.hid (Ar.new w4 (bys (List.replicate 32 0)) 51)
  have N5 : Hid (Ar (w4.alloc (.cells z42 51)) w4.heap.size 51 (bys (List.replicate 32 0))) := N5
  have R5 := Lib.hid ((R3.out.later hg (by intro e; have := Option.some.inj e; omega)).alloc (.cells z42 51))
  have B5 := Lib.hid ((B3.out.trans (below_of_grown hg (B := w.heap.size) (by omega) (fun k hk => by have := Option.some.inj hk; omega))).alloc (by omega) (.cells z42 51))
  clear h4 h5 hg HX HH R3 B3
  go_wp2_with fail
  have hgr : w.heap.size < w4.heap.size := by omega
  clear hl8
  generalize w4.alloc (.cells z42 51) = w6 at *
  go_loopw [28] (fun iv wr => ∃ i : Nat, i ≤ 8 ∧ iv = .int .i64 i ∧ Ar wr w.heap.size 51 (bys (List.replicate 32 0)) ∧ Ar wr w4.heap.size 51 (bys ((outB st).take (4 * i) ++ List.replicate (32 - 4 * i) 0)) ∧ Hid (Below w.heap.size w wr)) (fun iv _ => 8 - (intOf iv).toNat)
  case atStart => exact ⟨0, by omega, rfl, R5.out, N5.out, B5⟩
  case round =>
    clear R5 N5 B5
    obtain ⟨i, hi, rfl, r4, n4, b4⟩ := hrel
    by_cases hli : i < 8
    · have HSTP := Lib.hid (outB_step st i (by rw [hal]; exact hli))
      have hix := run_idx8 st hal i hli
      generalize st.getD i 0 = y3 at *
      rw [be4_c8] at HSTP
      have hsplit : (outB st).take (4 * i) ++ List.replicate (32 - 4 * i) 0 = (outB st).take (4 * i) ++ ([0, 0, 0, 0] ++ List.replicate (28 - 4 * i) 0) := by
        congr 1
        rw [show 32 - 4 * i = 4 + (28 - 4 * i) by omega, ← List.replicate_append_replicate]
        rfl
      have hpl : ((outB st).take (4 * i)).length = 4 * i := by rw [List.length_take, HOB.out, hal]; omega
      rw [hsplit] at n4
      generalize (outB st).take (4 * i) = Pr at *
      have hlen : (Pr ++ ([0, 0, 0, 0] ++ List.replicate (28 - 4 * i) 0)).length = 32 := by simp [hpl]; omega
      have f0 := n4.frozen (4 * i)
      have f1 := n4.frozen (4 * i + 1)
      have f2 := n4.frozen (4 * i + 2)
      have f3 := n4.frozen (4 * i + 3)
      have k0 := n4.cell (bys_at (k := 4 * i) (by omega))
      have k1 := n4.cell (bys_at (k := 4 * i + 1) (by omega))
      have k2 := n4.cell (bys_at (k := 4 * i + 2) (by omega))
      have k3 := n4.cell (bys_at (k := 4 * i + 3) (by omega))
      have n5 := (((n4.set (4 * i) (.int .u8 ((c8 (sh24 y3)).toNat : Int))).set (4 * i + 1) (.int .u8 ((c8 (sh16 y3)).toNat : Int))).set (4 * i + 2) (.int .u8 ((c8 (sh08 y3)).toNat : Int))).set (4 * i + 3) (.int .u8 ((c8 y3).toNat : Int))
      rw [bys_set, set_mid Pr _ _ 0 (c8 (sh24 y3)) (4 * i) (by omega) (by simp), bys_set, set_mid Pr _ _ 1 (c8 (sh16 y3)) (4 * i + 1) (by omega) (by simp), bys_set, set_mid Pr _ _ 2 (c8 (sh08 y3)) (4 * i + 2) (by omega) (by simp), bys_set, set_mid Pr _ _ 3 (c8 y3) (4 * i + 3) (by omega) (by simp)] at n5
      have hfin : Pr ++ ((((([0, 0, 0, 0] : List UInt8).set 0 (c8 (sh24 y3))).set 1 (c8 (sh16 y3))).set 2 (c8 (sh08 y3))).set 3 (c8 y3) ++ List.replicate (28 - 4 * i) 0) = (outB st).take (4 * (i + 1)) ++ List.replicate (32 - 4 * (i + 1)) 0 := by
        rw [HSTP.out, List.append_assoc, show 32 - 4 * (i + 1) = 28 - 4 * i by omega]
        rfl
      rw [hfin] at n5
      have r5 := (((r4.other ⟨w4.heap.size, 4 * i, none⟩ (.int .u8 ((c8 (sh24 y3)).toNat : Int)) (by simp; omega)).other ⟨w4.heap.size, 4 * i + 1, none⟩ (.int .u8 ((c8 (sh16 y3)).toNat : Int)) (by simp; omega)).other ⟨w4.heap.size, 4 * i + 2, none⟩ (.int .u8 ((c8 (sh08 y3)).toNat : Int)) (by simp; omega)).other ⟨w4.heap.size, 4 * i + 3, none⟩ (.int .u8 ((c8 y3).toNat : Int)) (by simp; omega)
      have b5 := (((b4.out.setCell (p := ⟨w4.heap.size, 4 * i, none⟩) (by show w.heap.size ≤ w4.heap.size; omega) (.int .u8 ((c8 (sh24 y3)).toNat : Int))).setCell (p := ⟨w4.heap.size, 4 * i + 1, none⟩) (by show w.heap.size ≤ w4.heap.size; omega) (.int .u8 ((c8 (sh16 y3)).toNat : Int))).setCell (p := ⟨w4.heap.size, 4 * i + 2, none⟩) (by show w.heap.size ≤ w4.heap.size; omega) (.int .u8 ((c8 (sh08 y3)).toNat : Int))).setCell (p := ⟨w4.heap.size, 4 * i + 3, none⟩) (by show w.heap.size ≤ w4.heap.size; omega) (.int .u8 ((c8 y3).toNat : Int))
      have N5 := Lib.hid n5
      have R5 := Lib.hid r5
      have B5 := Lib.hid b5
      clear n5 r5 b5 n4 r4 b4 hfin hsplit hlen
      generalize ((Pr ++ ([0, 0, 0, 0] ++ List.replicate (28 - 4 * i) 0)).getD (4 * i) 0) = o0 at *
      generalize ((Pr ++ ([0, 0, 0, 0] ++ List.replicate (28 - 4 * i) 0)).getD (4 * i + 1) 0) = o1 at *
      generalize ((Pr ++ ([0, 0, 0, 0] ++ List.replicate (28 - 4 * i) 0)).getD (4 * i + 2) 0) = o2 at *
      generalize ((Pr ++ ([0, 0, 0, 0] ++ List.replicate (28 - 4 * i) 0)).getD (4 * i + 3) 0) = o3 at *
      go_wp2_with fail
      exact ⟨⟨i + 1, by omega, by go_num, R5.out, N5.out, B5⟩, by simp [intOf]; omega⟩
    · have hi8 : i = 8 := by omega
      subst hi8
      have e8 : (outB st).take (4 * 8) ++ List.replicate (32 - 4 * 8) 0 = S := by
        rw [HSH.out, List.take_of_length_le (by rw [hSL]; omega)]
        exact List.append_nil _
      rw [e8] at n4
      have hl := ld42 n4 hSL
      have hst2 := st42 (m := S) r4 (by simp) hSL
      have R9 := Lib.hid (r4.setRow (bys S))
      have B9 := Lib.hid (below_row b4.out w.heap.size (bys S).toArray (Nat.le_refl _))
      clear n4 r4 e8
      go_wp2_with fail
      refine bodyPost_ret (results_cell_row rfl _ _ w.heap.size 51 _ (0, 0) (.array 32 5) rfl R9.out Tryz.underlying51 rfl (by rw [List.size_toArray, bys_len, hSL]; exact inf42)) rfl ?_
      exact ⟨rfl, B9.out⟩
set_option maxRecDepth 100000 in
set_option maxHeartbeats 2000000 in
theorem of_any (w : World) (ad : Addr) (cap : Nat) (m : List UInt8) (X : Option Addr) (c : Nat) (hc : w.cell? ad = some (.slice X m.length c)) (had : ad.block < w.heap.size) (hx : Rv w.heap.size w X (bys m)) (hmc : m.length ≤ c) (hm : m.length ≤ 100000000) :
    Calls Tryz.prog 90 #[.slice (some ad) 1 cap] w fun e w2 => e = .returned (.agg (bys (shaOf m)).toArray) ∧ Below w.heap.size w w2 := by
  have hSL := shaOf_len m
  obtain ⟨S, hS⟩ : ∃ S, S = shaOf m := ⟨_, rfl⟩
  rw [← hS] at hSL ⊢
  have HS := Lib.hid hS
  clear hS
  have HX := Lib.hid hx
  have R0 := Lib.hid (Ar.new w (bys (List.replicate 32 0)) 51)
  have R0 : Hid (Ar (w.alloc (.cells z42 51)) w.heap.size 51 (bys (List.replicate 32 0))) := R0
  have B0 := Lib.hid ((Below.refl w.heap.size w).alloc (Nat.le_refl _) (.cells z42 51))
  have hs0 : (w.alloc (.cells z42 51)).heap.size = w.heap.size + 1 := World.size_alloc _ _
  clear hx
  go_enter Tryz.func90, Tryz.ntmps90
  go_wp2_with fail
  refine (hnew_any _).mono ?_
  rintro e w2 ⟨g, rfl, hg, hh, hb⟩
  have HH := Lib.hid hh
  have hs2 := hb.size
  have R2 := Lib.hid (R0.out.below hb (by omega))
  have B2 := Lib.hid (B0.out.trans (hb.mono (by omega)))
  have hg2 : g < w2.heap.size := by obtain ⟨_, _, _, _, _, _, _, h⟩ := hh; exact h.lt
  clear hb hh R0 B0
  go_wp2_with fail
  go_loopw [9] (fun iv wr => ∃ i : Nat, i ≤ 1 ∧ iv = .int .i64 i ∧ Hid (Hs wr g (if i = 0 then [] else m)) ∧ Hid (Ar wr w.heap.size 51 (bys (List.replicate 32 0))) ∧ Hid (Below w.heap.size w wr)) (fun iv _ => 1 - (intOf iv).toNat)
  case atStart => exact ⟨0, by omega, rfl, HH, R2, B2⟩
  case round =>
    clear HH R2 B2
    obtain ⟨i, hi, rfl, hh, r4, b4⟩ := hrel
    have hi2 : i = 0 ∨ i = 1 := by omega
    rcases hi2 with rfl | rfl
    · have hc2 : wr.cell? ad = some (.slice X m.length c) := by rw [b4.out.cell had]; exact hc
      have hws := b4.out.size
      have hrx : Rx wr g X c m := ⟨(HX.out.below b4.out).more hws, fun a e hp => by obtain ⟨a2, e2, hb2, _⟩ := HX.out.some_ (by rw [bys_len]; exact hp); rw [e] at e2; cases e2; omega, hmc⟩
      have HRX := Lib.hid hrx
      have hh0 : Hid (Hs wr g []) := hh
      have hrl := r4.out.lt
      clear hrx hh
      go_wp2_with fail
      refine (hwrite_any wr g [] m X c hh0.out HRX.out (by rw [List.length_nil]; omega)).mono ?_
      rintro e w4 ⟨rfl, h4, hg4⟩
      have H4 : Hid (Hs w4 g m) := Lib.hid h4
      have R4 := Lib.hid (r4.out.later hg4 (by intro e; have := Option.some.inj e; omega))
      have B4 := Lib.hid (b4.out.trans (below_of_grown hg4 (B := w.heap.size) hws (fun k hk => by have := Option.some.inj hk; omega)))
      clear h4 hg4 r4 b4
      go_wp2_with fail
      exact ⟨⟨1, by omega, by go_num, H4, R4, B4⟩, by simp [intOf]⟩
    · have hh1 : Hid (Hs wr g m) := hh
      have hws := b4.out.size
      have hrl := r4.out.lt
      clear hh
      go_wp2_with fail
      refine (hsum_any wr g m hh1.out hm).mono ?_
      rintro e w4 ⟨rfl, hb⟩
      rw [← HS.out]
      have r5 := r4.out.below hb hrl
      have hst2 := st42 (m := S) r5 (by simp) hSL
      have R9 := Lib.hid (r5.setRow (bys S))
      have B9 := Lib.hid (below_row (b4.out.trans (hb.mono hws)) w.heap.size (bys S).toArray (Nat.le_refl _))
      clear hb r5 r4 b4
      go_wp2_with fail
      refine bodyPost_ret (results_cell_row rfl _ _ w.heap.size 51 _ (0, 0) (.array 32 5) rfl R9.out Tryz.underlying51 rfl (by rw [List.size_toArray, bys_len, hSL]; exact inf42)) rfl ?_
      exact ⟨rfl, B9.out⟩
end Go.Proofs.YtbmpidacoohdmaaGreat

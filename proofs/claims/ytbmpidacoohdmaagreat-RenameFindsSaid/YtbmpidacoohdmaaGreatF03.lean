/- Plain: worlds that have grown; bytes of numbers; bytes as a string. Both Pads, by contracts. Arrays of 32 bytes (api.ID) whole; sleuthref02.Of by a contract. -/
import Derived.Test.YtbmpidacoohdmaaGreatF00
import Derived.Test.YtbmpidacoohdmaaGreatChecked
import Derived.Test.YtbmpidacoohdmaaGreatF02
namespace Go.Proofs.YtbmpidacoohdmaaGreat
open Lib renaming hid → hI
open Go.RowKit

theorem grown_refl (w : World) (r : Option Nat) : w.grownBy w r := ⟨rfl, rfl, rfl, Nat.le_refl _, fun _ _ _ => rfl⟩
theorem grown_trans {w w2 w3 : World} {r : Option Nat} (h : w.grownBy w2 r) (k : w2.grownBy w3 r) : w.grownBy w3 r :=
  ⟨k.os.trans h.os, k.tape.trans h.tape, k.output.trans h.output, Nat.le_trans h.size k.size, fun j hj hne => (k.block j (Nat.lt_of_lt_of_le hj h.size) hne).trans (h.block j hj hne)⟩
theorem grown_drew {w w2 : World} {r : Option Nat} (h : w.grownBy w2 r) : w.grownBy w2.drew r := ⟨h.os, h.tape, h.output, h.size, h.block⟩
theorem grown_alloc {w w2 : World} {r : Option Nat} (h : w.grownBy w2 r) (o : Obj) : w.grownBy (w2.alloc o) r :=
  ⟨h.os, h.tape, h.output, by have := h.size; simp; omega, fun j hj hne => (Below.heap_alloc w2 o j (Nat.lt_of_lt_of_le hj h.size)).trans (h.block j hj hne)⟩
theorem grown_set {w w2 : World} {g : Nat} (h : w.grownBy w2 (some g)) (i : Nat) (v : Value) : w.grownBy (w2.setCell ⟨g, i, none⟩ v) (some g) :=
  ⟨h.os, h.tape, h.output, by have := h.size; simpa using this, fun j hj hne => (Below.heap_setCell w2 ⟨g, i, none⟩ v j (fun e => hne (by rw [e]))).trans (h.block j hj hne)⟩
theorem grown_any {w w2 : World} (h : w.grownBy w2 none) (r : Option Nat) : w.grownBy w2 r := ⟨h.os, h.tape, h.output, h.size, fun k hk _ => h.block k hk (by simp)⟩
theorem grown_of_below {w w2 : World} (h : Below w.heap.size w w2) (r : Option Nat) : w.grownBy w2 r := ⟨h.os, h.tape, h.output, h.size, fun k hk _ => h.block k hk⟩
/-- The last s bytes of n, the highest first. -/
def beN : Nat → Nat → List UInt8
  | 0, _ => []
  | s + 1, n => beN s (n / 256) ++ [by8 n]
theorem beN_len (s : Nat) : ∀ n, (beN s n).length = s := by
  induction s with
  | zero => intro n; rfl
  | succ s ih => intro n; simp [beN, ih]
/-- Four bytes, the highest first. -/
def be4 (n : Nat) : List UInt8 := [by8 (n / 16777216), by8 (n / 65536), by8 (n / 256), by8 n]
theorem bys_set (l : List UInt8) (i : Nat) (x : UInt8) : (bys l).set i (.int .u8 (x.toNat : Int)) = bys (l.set i x) := by simp [bys, List.map_set]
theorem bys_zeros (n : Nat) : List.replicate n (Value.int .u8 0) = bys (List.replicate n 0) := by simp [bys]
theorem conv22 {B : Nat} {w : World} {D : Option Addr} {l : List UInt8} (d : Nat) (h : Rv B w D (bys l)) : (convert 57 9 (.slice D l.length d)).run Tryz.prog w = .ok (.string (bs l)) w :=
  conv_rv Tryz.underlying57 Tryz.underlying5 Tryz.underlying9 d h
theorem sl22 : Sl Tryz.prog 57 5 1 1 := ⟨Tryz.underlying57, by kernel_rfl, by decide⟩
theorem bs_list (l : List UInt8) : (bs l).data.toList = l := by simp [bs]
theorem bs_toList (l : List UInt8) : (bs l).toList = l := by
  rw [ByteArray.toList_eq]
  exact bs_list l
theorem make22 (lo n : Nat) (hlo : lo ≤ n) (hb : n ≤ 1000000000) (W : World) : (Instr.makeSlice 57 (.int .i64 lo) (.int .i64 n)).run Tryz.prog W = .ok (.slice (some ⟨W.heap.size, 0, none⟩) lo n) (W.alloc (.cells (List.replicate n (Value.int .u8 0)).toArray 5)) :=
  make_zero sl22 (by kernel_rfl) rfl lo n hlo (by omega) (by omega) W
theorem Rv.low {w w2 : World} {A : Option Addr} {xs : List Value} {B : Nat} (h : Rv B w A xs) (hb : Below B w w2) {C : Nat} (hC : B ≤ C) : Rv C w2 A xs := (h.below hb).more hC
end Go.Proofs.YtbmpidacoohdmaaGreat
namespace Go.Proofs.YtbmpidacoohdmaaGreat
open Lib renaming hid → hI
open Go.RowKit

theorem beN_get (s : Nat) : ∀ n i, i < s → (beN s n).getD i 0 = by8 (n / 256 ^ (s - 1 - i)) := by
  induction s with
  | zero => intro n i h; omega
  | succ s ih =>
    intro n i h
    have hl := beN_len s (n / 256)
    rcases Nat.lt_or_ge i s with h1 | h1
    · have e : (beN s (n / 256) ++ [by8 n]).getD i 0 = (beN s (n / 256)).getD i 0 := by simp [List.getElem?_append, hl, h1]
      rw [beN, e, ih _ _ h1, Nat.div_div_eq_div_mul, ← Nat.pow_succ']
      congr 3
      omega
    · obtain rfl : i = s := by omega
      simp [beN, hl]
/-- A head, the first i of a tail, zeros. -/
def grow (P T : List UInt8) (i : Nat) : List UInt8 := P ++ (T.take i ++ List.replicate (T.length - i) 0)
theorem grow_len (P T : List UInt8) (i : Nat) (hi : i ≤ T.length) : (grow P T i).length = P.length + T.length := by simp [grow]; omega
theorem grow_set (P T : List UInt8) (i : Nat) (hi : i < T.length) : (grow P T i).set (P.length + i) (T.getD i 0) = grow P T (i + 1) := by
  unfold grow
  rw [List.set_append_right _ _ (by omega), Nat.add_sub_cancel_left, List.set_append_right _ _ (by simp; omega)]
  rw [show i - (T.take i).length = 0 by simp; omega, show T.length - i = (T.length - (i + 1)) + 1 by omega, List.replicate_succ, List.set_cons_zero]
  rw [List.take_succ_eq_append_getElem hi, List.append_assoc]
  simp [hi]
theorem grow_full (P T : List UInt8) : grow P T T.length = P ++ T := by simp [grow]
def gapN (n : Nat) : Nat := (64 - (n + 9) % 64) % 64
def padW (n : Nat) : List UInt8 := padB n ++ beN 8 (n * 8)
theorem padB_len (n : Nat) : (padB n).length = 1 + gapN n := by simp [padB, gapN]; omega
theorem padW_len (n : Nat) : (padW n).length = 9 + gapN n := by simp [padW, padB_len, beN_len]; omega
set_option maxRecDepth 100000 in
set_option maxHeartbeats 1000000 in
theorem pad_any (w : World) (n : Nat) (hn : n ≤ 1000000000) :
    Calls Tryz.prog 200 #[.int .u64 n] w fun e w2 => ∃ u, e = .returned u ∧ w2.ownsRow w.heap.size 5 1 u (padW n).length (bys (padW n)) ∧ Below w.heap.size w w2 := by
  obtain ⟨g, hg⟩ : ∃ g, g = gapN n := ⟨_, rfl⟩
  have hg64 : g < 64 := by rw [hg]; unfold gapN; omega
  have HG := hI hg
  have q1 : (64 - ((n : Int) + 9) % 64) % 64 = (g : Int) := by rw [hg]; unfold gapN; omega
  have hmk : ∀ W : World, (Instr.makeSlice 57 (.int .u64 ((1 : Int) + (g : Int) + 8)) (.int .u64 ((1 : Int) + (g : Int) + 8))).run Tryz.prog W = .ok (.slice (some ⟨W.heap.size, 0, none⟩) (9 + g) (9 + g)) (W.alloc (.cells (bys (List.replicate (9 + g) 0)).toArray 5)) := by
    intro W
    obtain ⟨i, z2, hi, hz2, hs1, hb2, hzs⟩ := sl22.parts
    have hz : z2 = .int .u8 0 := by have h : (Tryz.prog.info? 5).bind (·.zero) = some (.int .u8 0) := by kernel_rfl
                                    simpa [hi, hz2] using h
    subst hz
    have h := run_make (P := Tryz.prog) W 57 5 i (.int .u8 0) sl22.und hi hz2 .u64 .u64 ((1 : Int) + (g : Int) + 8) ((1 : Int) + (g : Int) + 8) (by omega) (by omega) (by rw [hb2]; omega) (by omega)
    have hn9 : ((1 : Int) + (g : Int) + 8).toNat = 9 + g := by omega
    rw [h, hs1, hn9]
    have e : (madeCells (Value.int .u8 0).cells ((9 + g) * 1)) = (bys (List.replicate (9 + g) 0)).toArray := by
      apply Array.ext'
      rw [Nat.mul_one, show (Value.int .u8 0).cells = #[Value.int .u8 0] from rfl, toList_madeCells_one, bys_zeros]
    rw [e]
  have hc0 : (w.alloc (.cells (bys (List.replicate (9 + g) 0)).toArray 5)).cell? ⟨w.heap.size, 0, none⟩ = some (.int .u8 0) := (Ar.new w (bys (List.replicate (9 + g) 0)) 5).cell (by simp [bys, List.getElem?_replicate])
  have hf0 : (w.alloc (.cells (bys (List.replicate (9 + g) 0)).toArray 5)).frozen? ⟨w.heap.size, 0, none⟩ = false := (Ar.new w (bys (List.replicate (9 + g) 0)) 5).frozen 0
  have e1 : (bys (List.replicate (9 + g) 0)).set 0 (.int .u8 128) = bys (grow (padB n) (beN 8 (n * 8)) 0) := by
    have h0 : grow (padB n) (beN 8 (n * 8)) 0 = 128 :: List.replicate (8 + g) 0 := by
      simp only [grow, padB, beN_len, List.take_zero, List.nil_append, List.cons_append, Nat.sub_zero]
      rw [show (64 - (n + 9) % 64) % 64 = g by rw [hg]; rfl, List.replicate_append_replicate, Nat.add_comm g 8]
    rw [h0, show 9 + g = (8 + g) + 1 by omega]
    rfl
  have ze : (bys (List.replicate (9 + g) 0)).toArray.setIfInBounds 0 (.int .u8 128) = (bys (grow (padB n) (beN 8 (n * 8)) 0)).toArray := by rw [List.setIfInBounds_toArray, e1]
  have A1 := hI (Ar.new w (bys (grow (padB n) (beN 8 (n * 8)) 0)) 5)
  have HB := hI ((Below.refl w.heap.size w).alloc (Nat.le_refl _) (.cells (bys (grow (padB n) (beN 8 (n * 8)) 0)).toArray 5))
  clear e1 hg
  obtain ⟨Z, hZ⟩ : ∃ Z, Z = (bys (List.replicate (9 + g) 0)).toArray := ⟨_, rfl⟩
  rw [← hZ] at hmk hc0 hf0 ze
  have ZE := hI ze
  clear hZ ze
  have hpl := padB_len n
  rw [← HG.out] at hpl
  have HPL := hI hpl
  have HTL := hI (beN_len 8 (n * 8))
  clear hpl
  go_enter Tryz.func200, Tryz.ntmps200
  go_wp2_with fail
  rw [ZE.out]
  generalize w.alloc (.cells (bys (grow (padB n) (beN 8 (n * 8)) 0)).toArray 5) = w0 at *
  go_loopw [17] (fun iv wr => ∃ i : Nat, i ≤ 8 ∧ iv = .int .i64 i ∧ Ar wr w.heap.size 5 (bys (grow (padB n) (beN 8 (n * 8)) i)) ∧ Hid (Below w.heap.size w wr)) (fun iv _ => 8 - (intOf iv).toNat)
  case atStart => exact ⟨0, by omega, rfl, A1.out, HB.out⟩
  case round =>
    clear A1 HB hc0 hf0 hmk
    obtain ⟨i, hi, rfl, ar, hb⟩ := hrel
    have hgl := grow_len (padB n) (beN 8 (n * 8)) i (by rw [HTL.out]; exact hi)
    rw [HPL.out, HTL.out] at hgl
    by_cases hlt : i < 8
    · have hset := grow_set (padB n) (beN 8 (n * 8)) i (by rw [HTL.out]; exact hlt)
      rw [HPL.out, beN_get 8 (n * 8) i hlt] at hset
      have hco : wr.cell? ⟨w.heap.size, 1 + g + i, none⟩ = some (.int .u8 (((grow (padB n) (beN 8 (n * 8)) i).getD (1 + g + i) 0).toNat : Int)) := ar.cell (bys_at (by omega))
      have hfz := ar.frozen (1 + g + i)
      have e2 := ar.set (1 + g + i) (.int .u8 ((by8 (n * 8 / 256 ^ (8 - 1 - i))).toNat : Int))
      rw [bys_set, hset] at e2
      have E2 := hI e2
      generalize ((grow (padB n) (beN 8 (n * 8)) i).getD (1 + g + i) 0) = old at *
      clear hset e2 hgl
      have HV : Hid ((n : Int) * 8 / 2 ^ (56 - 8 * i) % 256 = ((by8 (n * 8 / 256 ^ (8 - 1 - i))).toNat : Int)) := by
        rw [by8_nat, show (256 : Nat) ^ (8 - 1 - i) = 2 ^ (56 - 8 * i) by rw [show (256 : Nat) = 2 ^ 8 from rfl, ← Nat.pow_mul]; congr 1; omega]
        show (n : Int) * 8 / 2 ^ (56 - 8 * i) % 256 = _
        simp
      go_wp2
      rw [HV.out]
      exact ⟨⟨i + 1, by omega, by go_num, E2.out, hb.out.setCell (p := ⟨w.heap.size, _, none⟩) (Nat.le_refl _) _⟩, by simp [intOf]; omega⟩
    · have h8 : i = 8 := by omega
      subst h8
      have hfull : grow (padB n) (beN 8 (n * 8)) 8 = padW n := by have := grow_full (padB n) (beN 8 (n * 8)); rw [HTL.out] at this; exact this
      rw [hfull] at ar
      go_wp2
      go_ret
      have hl := padW_len n
      rw [← HG.out] at hl
      rw [hl]
      refine ⟨_, rfl, ⟨by rw [bys_len, hl, Nat.mul_one], .inr ⟨_, 9 + g, _, rfl, Nat.le_refl _, ar, Nat.le_refl _, by unfold maxLen; omega, by simp [bys_len, hl], ?_⟩⟩, hb.out⟩
      simp only [Nat.mul_one]
      rw [List.take_of_length_le (by rw [bys_len, hl]; omega)]

theorem own_lit (W : World) (l : List UInt8) (h : l.length ≤ 1000000) : (W.alloc (.cells (bys l).toArray 5)).ownsRow W.heap.size 5 1 (.slice (some ⟨W.heap.size, 0, none⟩) l.length l.length) l.length (bys l) :=
  ⟨by simp [bys_len], .inr ⟨_, l.length, _, rfl, Nat.le_refl _, heap_alloc_new W _, Nat.le_refl _, by unfold maxLen; omega, by simp [bys_len], by rw [Nat.mul_one, List.take_of_length_le (by simp [bys_len])]⟩⟩
def pad0 (j : Nat) : List UInt8 := 128 :: List.replicate j 0
theorem pad0_snoc (j : Nat) : pad0 j ++ [0] = pad0 (j + 1) := by simp [pad0, List.replicate_succ']
theorem pad0_len (j : Nat) : (pad0 j).length = j + 1 := by simp [pad0]
set_option maxRecDepth 100000 in
set_option maxHeartbeats 1000000 in
theorem fpad_any (w : World) (n : Nat) (hn : n ≤ 1000000000) :
    Calls Tryz.prog 162 #[.int .u64 n] w fun e w2 => ∃ u, e = .returned u ∧ w2.ownsRow w.heap.size 5 1 u (padW n).length (bys (padW n)) ∧ Below w.heap.size w w2 := by
  have O0 := hI (own_lit w [128] (by simp))
  have B0 := hI ((Below.refl w.heap.size w).alloc (Nat.le_refl _) (.cells (bys [128]).toArray 5))
  have e0 : (bys [128]).toArray = #[.int .u8 128] := rfl
  rw [e0] at O0 B0
  clear e0
  go_enter Tryz.func162, Tryz.ntmps162
  go_wp2_with fail
  generalize w.alloc (.cells #[.int .u8 128] 5) = w0 at *
  go_loopw [3] (fun v wr => ∃ j : Nat, j ≤ gapN n ∧ (∃ A c, v = .slice A (j + 1) c) ∧ Hid (wr.ownsRow w.heap.size 5 1 v (j + 1) (bys (pad0 j))) ∧ Hid (Below w.heap.size w wr)) (fun v _ => gapN n + 1 - (match v with | .slice _ k _ => k | _ => 0))
  case atStart => exact ⟨0, Nat.zero_le _, ⟨_, _, rfl⟩, O0.out, B0.out⟩
  case round =>
    clear O0 B0
    obtain ⟨j, hj, ⟨A, c, rfl⟩, ho, hb⟩ := hrel
    have hbs := hb.out.size
    have hg64 : gapN n < 64 := by unfold gapN; omega
    have hg : gapN n = (64 - (n + 9) % 64) % 64 := rfl
    by_cases hlt : j < gapN n
    · have q1 : (((n : Int) % 64 + ((j : Int) + 1) + 8) % 64 != 0) = true := by rw [bne_iff_ne]; omega
      have q2 : IntKind.u64.wrap ((j : Int) + 1) = (j : Int) + 1 := Go.wraps_u64 _ (by omega) (by omega)
      have HJ := hI hg
      clear hg
      go_wp2_with (at_builtin; refine wpList_app sl22 rfl (.tmp 17) (.tmp 18) rfl w.heap.size (.slice A (j + 1) c) (j + 1) (bys (pad0 j)) rfl (ho.out.alloc _) (some ⟨wr.heap.size, 0, none⟩) 1 1 (bys [0]) rfl (fun e => by cases e) rfl (B := wr.heap.size + 1) (new_rv wr (bys [0]) 5 _ rfl) (bys_one _) (by unfold maxLen; omega) (by omega) (by simp; omega) ?_; intro v2 w2 ho2 ha; rw [bys_app, pad0_snoc] at ho2; have HO := hI ho2; have HA := hI ha.grown; clear ho2 ha)
      obtain ⟨D, d, hv, _⟩ := own_all HO.out
      subst hv
      go_roundw
      case rel => exact ⟨j + 1, by omega, ⟨_, _, rfl⟩, HO.out, (hb.out.alloc hbs _).trans (below_of_grown HA.out (by simp; omega) (fun k hk => (ho.out.lt k hk).1))⟩
      case measure => simp; omega
    · have hjg : j = gapN n := by omega
      have q1 : (((n : Int) % 64 + ((j : Int) + 1) + 8) % 64 != 0) = false := by simp; omega
      have q2 : IntKind.u64.wrap ((j : Int) + 1) = (j : Int) + 1 := Go.wraps_u64 _ (by omega) (by omega)
      have hpp : pad0 j = padB n := by rw [hjg]; rfl
      rw [hpp] at ho
      have HPL := hI (by rw [← hpp, pad0_len] : (padB n).length = j + 1)
      clear hpp hg hjg
      go_wp2_with fail
      clear q1 q2
      obtain ⟨wo, hwo⟩ : ∃ wo, wo = wr := ⟨_, rfl⟩
      rw [← hwo] at ho hb hbs ⊢
      clear hwo
      go_loopw [4, 5, 6] (fun bv v kv wq => ∃ (k x : Nat) (t : List UInt8), k ≤ 8 ∧ t.length = k ∧ x < 18446744073709551616 ∧ kv = .int .i64 k ∧ bv = .int .u64 x ∧ Hid (beN (8 - k) x ++ t = beN 8 (n * 8)) ∧ Hid (wq.ownsRow wo.heap.size 5 1 v k (bys t)) ∧ Hid (Below wo.heap.size wo wq)) (fun _ _ kv _ => 8 - (intOf kv).toNat)
      case atStart => exact ⟨0, n * 8, [], by omega, rfl, by omega, rfl, by go_num, by simp [Hid], World.ownsRow_nil _ _ _ _, Below.refl _ _⟩
      case round =>
        obtain ⟨k, x, t, hk, ht, hx, rfl, rfl, hbt, ho2, hb2⟩ := hrel
        have hs2 := hb2.out.size
        obtain ⟨D, d, hv, hD, hd, hrv, hfar⟩ := own_all ho2.out
        subst hv
        have HRV := hI hrv
        have HDN := hI hD
        have HTL := hI (by rw [bys_len, ht] : (bys t).length = k)
        clear hrv hD hfar
        by_cases hlt2 : k < 8
        · have ex : (x : Int) % 256 = ((by8 x).toNat : Int) := by rw [by8_nat]; omega
          have hl1 := own_less (own_lit wr [by8 x] (by simp)) hs2
          have el : (bys [by8 x]).toArray = #[.int .u8 ((by8 x).toNat : Int)] := rfl
          have HL1 := hI hl1
          have HB := hI (by have e := hbt.out; rw [show 8 - k = (8 - (k + 1)) + 1 by omega, beN, List.append_assoc] at e; exact e : beN (8 - (k + 1)) (x / 256) ++ (by8 x :: t) = beN 8 (n * 8))
          have HR2 := hI (HRV.out.below ((Below.refl wr.heap.size wr).alloc (Nat.le_refl _) (.cells (bys [by8 x]).toArray 5)))
          rw [el] at HL1 HR2
          rw [← ex] at HL1 HR2
          have EX := hI ex
          clear hl1 el ex
          go_wp2_with (at_builtin; refine wpList_app sl22 rfl (.tmp 29) (.tmp 30) rfl wo.heap.size (.slice (some ⟨wr.heap.size, 0, none⟩) 1 1) 1 (bys [by8 x]) rfl HL1.out D k d (bys t) rfl HDN.out (by rw [HTL.out, Nat.mul_one]) HR2.out (bys_one _) (by unfold maxLen; omega) (by omega) (by simp; omega) ?_; intro v2 w2 ho3 ha; rw [bys_app] at ho3; have HO := hI ho3; have HA := hI ha.grown; clear ho3 ha)
          go_roundw
          case rel => exact ⟨k + 1, x / 256, by8 x :: t, by omega, by simp [ht], by omega, by go_num, by go_num, HB.out, by rw [Nat.add_comm k 1]; exact HO.out, (hb2.out.alloc hs2 _).trans (below_of_grown HA.out (by simp; omega) (fun q hq => by have e : some wr.heap.size = some q := hq; injection e with e; omega))⟩
          case measure => simp [intOf]; omega
        · have hk8 : k = 8 := by omega
          subst hk8
          have ht8 : t = beN 8 (n * 8) := by have e := hbt.out; simpa [beN] using e
          have hpw : bys (padB n) ++ bys t = bys (padW n) := by rw [bys_app, ht8]; rfl
          have HPW := hI hpw
          have hpwl := hI (by rw [padW, List.length_append, HPL.out, beN_len] : (padW n).length = j + 1 + 8)
          have HO1 := hI (ho.out.kept (row := none) ⟨hb2.out.os, hb2.out.tape, hb2.out.output, hb2.out.size, fun q hq _ => hb2.out.block q hq⟩ (by cases Value.ownBlock (.slice A (j + 1) c) <;> simp))
          clear hpw ht8
          go_wp2_with (at_builtin; refine wpList_app sl22 rfl (.tmp 34) (.tmp 35) rfl w.heap.size (.slice A (j + 1) c) (j + 1) (bys (padB n)) rfl HO1.out D 8 d (bys t) rfl HDN.out (by rw [HTL.out]) HRV.out (bys_one _) (by unfold maxLen; omega) (by omega) (by omega) ?_; intro v2 w2 ho3 ha; rw [HPW.out] at ho3; have HO := hI ho3; have HA := hI ha.grown; clear ho3 ha)
          go_ret
          rw [hpwl.out]
          exact ⟨_, rfl, HO.out, (hb.out.trans (hb2.out.mono hbs)).trans (below_of_grown HA.out (by omega) (fun k hk => (HO1.out.lt k hk).1))⟩
end Go.Proofs.YtbmpidacoohdmaaGreat
namespace Go.Proofs.YtbmpidacoohdmaaGreat
open Lib renaming hid → hI
open Go.RowKit

theorem inf42 : (Tryz.prog.info? 51).map (·.size) = some 32 := by kernel_rfl
def z42 : Array Value := (bys (List.replicate 32 0)).toArray
theorem z42_info : (Tryz.prog.info? 51).map (·.zero) = some (some (.agg z42)) := by kernel_rfl
def new42 : Sem Value := Instr.alloc 51 true (.tuple #[])
def load42 (a : Addr) : Sem Value := loadVar 51 a
def store42 (a : Addr) (v : Value) : Sem Unit := storeVar 51 a v
theorem new42_eq : Instr.alloc 51 true (.tuple #[]) = new42 := rfl
theorem load42_eq (a : Addr) : loadVar 51 a = load42 a := rfl
theorem store42_eq (a : Addr) (v : Value) : storeVar 51 a v = store42 a v := rfl
theorem run_new42 (W : World) : new42.run Tryz.prog W = .ok (.pointer (some ⟨W.heap.size, 0, none⟩)) (W.alloc (.cells z42 51)) := by
  obtain ⟨i, hi, hz⟩ := Option.map_eq_some_iff.1 z42_info
  simp [new42, Instr.alloc, zeroValue, typeInfo, hi, hz, newVar, newRow, Value.cells]
section
variable {W : World} {g : Nat} {t : TypeId} {l m : List UInt8}
theorem ld42 (h : Ar W g t (bys l)) (hl : l.length = 32) : (load42 ⟨g, 0, none⟩).run Tryz.prog W = .ok (.agg (bys l).toArray) W := h.load (by rw [bys_len, hl]) Tryz.underlying51 rfl inf42
theorem st42 (h : Ar W g t (bys l)) (hl : l.length = 32) (hm : m.length = 32) : (store42 ⟨g, 0, none⟩ (.agg (bys m).toArray)).run Tryz.prog W = .ok () (W.setRow g (bys m).toArray) := h.store (by rw [bys_len, hl]) (by rw [bys_len, hm]) (bys_one m) inf42
end
attribute [local go_sem ↓] new42_eq load42_eq store42_eq run_new42
attribute [local go_sem ↓] new8_eq load8_eq store8_eq run_new8
theorem grown_row (W : World) (g : Nat) (cs : Array Value) : W.grownBy (W.setRow g cs) (some g) := ⟨rfl, rfl, rfl, by simp, fun k _ hne => setRow_other W g k cs (fun e => hne (by rw [e]))⟩
theorem own_row {W : World} {base : Nat} {e : TypeId} {size : Nat} {v : Value} {n : Nat} {xs : List Value} (h : W.ownsRow base e size v n xs) (g : Nat) (cs : Array Value) (hg : v.ownBlock ≠ some g) : (W.setRow g cs).ownsRow base e size v n xs := h.kept (grown_row W g cs) (.inr hg)
theorem own_below {W V : World} {base : Nat} {e : TypeId} {size : Nat} {v : Value} {n : Nat} {xs : List Value} (h : W.ownsRow base e size v n xs) (hb : Below W.heap.size W V) : V.ownsRow base e size v n xs :=
  h.kept (row := none) ⟨hb.os, hb.tape, hb.output, hb.size, fun q hq _ => hb.block q hq⟩ (by cases v.ownBlock <;> simp)
/-- A part of the bytes, as a slice expression makes it. -/
theorem rv_cut {B : Nat} {w : World} {A : Option Addr} {l : List UInt8} {c : Nat} (h : Rv B w A (bys l)) (hc : l.length ≤ c) (i n : Nat) (hi : i + n ≤ l.length) : Rv B w (if c = i then A else A.map (·.add i)) (bys ((l.drop i).take n)) := by
  rcases Nat.eq_zero_or_pos n with h0 | h0
  · subst h0
    intro j x hx
    simp [bys] at hx
  · obtain ⟨ad, rfl, _, _⟩ := h.some_ (by rw [bys_len]; omega)
    rw [if_neg (by omega), ← bys_part]
    exact h.part i rfl n
/-- The sum of a text. -/
def shaOf (m : List UInt8) : List UInt8 := outB (absorb H256 (m ++ padW m.length))
theorem outB_len (st : List UInt32) : (outB st).length = 4 * st.length := by
  induction st with
  | nil => rfl
  | cons x st ih => simp only [outB, List.flatMap_cons, List.length_append, List.length_cons, List.length_nil] at *; omega
theorem pad_mod (m : List UInt8) : (m ++ padW m.length).length % 64 = 0 := by
  rw [List.length_append, padW_len]; unfold gapN; omega
theorem shaOf_len (m : List UInt8) : (shaOf m).length = 32 := by
  rw [shaOf, outB_len, absorb_len _ _ _ (Nat.le_refl _) rfl]
theorem absorb_step (st : List UInt32) (l : List UInt8) (k : Nat) (h : k * 64 + 64 ≤ l.length) : absorb st (l.take (k * 64 + 64)) = mixS (absorb st (l.take (k * 64))) ((l.drop (k * 64)).take 64) := by
  have e : l.take (k * 64 + 64) = l.take (k * 64) ++ (l.drop (k * 64)).take 64 := by rw [List.take_add]
  have h1 : (l.take (k * 64)).length = k * 64 := by rw [List.length_take]; omega
  have h2 : ((l.drop (k * 64)).take 64).length = 64 := by rw [List.length_take, List.length_drop]; omega
  rw [e, absorb_app _ _ _ _ (Nat.le_refl _) (by omega)]
  generalize (l.drop (k * 64)).take 64 = b at *
  have h3 : b.take 64 = b := List.take_of_length_le (by omega)
  rw [absorb_more (by omega), absorb_small (by rw [List.length_drop]; omega), h3]
theorem outB_step (st : List UInt32) : ∀ i, i < st.length → (outB st).take (4 * (i + 1)) = (outB st).take (4 * i) ++ be4 (st.getD i 0).toNat := by
  induction st with
  | nil => intro i h; simp at h
  | cons x st ih =>
    intro i h
    have e : outB (x :: st) = be4 x.toNat ++ outB st := rfl
    have hl : (be4 x.toNat).length = 4 := rfl
    rw [e]
    rcases i with _ | i
    · rw [List.take_append_of_le_length (by rw [hl]; omega), Nat.mul_zero, List.take_zero, List.take_of_length_le (by rw [hl]; omega)]
      rfl
    · have h1 := ih i (by simpa using h)
      have ea : (be4 x.toNat ++ outB st).take (4 * (i + 1 + 1)) = be4 x.toNat ++ (outB st).take (4 * (i + 1)) := by
        rw [List.take_append, List.take_of_length_le (by rw [hl]; omega), hl, show 4 * (i + 1 + 1) - 4 = 4 * (i + 1) by omega]
      have eb : (be4 x.toNat ++ outB st).take (4 * (i + 1)) = be4 x.toNat ++ (outB st).take (4 * i) := by
        rw [List.take_append, List.take_of_length_le (by rw [hl]; omega), hl, show 4 * (i + 1) - 4 = 4 * i by omega]
      rw [ea, eb, h1, List.append_assoc]
      rfl
theorem set_mid (P T Z : List UInt8) (k : Nat) (x : UInt8) (n : Nat) (hn : n = P.length + k) (hk : k < T.length) : (P ++ (T ++ Z)).set n x = P ++ (T.set k x ++ Z) := by
  subst hn
  rw [List.set_append_right _ _ (by omega), Nat.add_sub_cancel_left, List.set_append_left _ _ hk]
/-- Four bytes, of which the last j stand. -/
def last4 (n j : Nat) : List UInt8 := List.replicate (4 - j) 0 ++ (be4 n).drop (4 - j)
theorem last4_len (n j : Nat) (h : j ≤ 4) : (last4 n j).length = 4 := by simp only [last4, be4, List.length_append, List.length_replicate, List.length_drop, List.length_cons, List.length_nil]; omega
theorem last4_set (n j : Nat) (h : j < 4) : (last4 n j).set (3 - j) (by8 (n / 256 ^ j)) = last4 n (j + 1) := by
  have h4 : j = 0 ∨ j = 1 ∨ j = 2 ∨ j = 3 := by omega
  rcases h4 with rfl | rfl | rfl | rfl <;> simp [last4, be4, List.replicate]
set_option maxRecDepth 100000 in
set_option maxHeartbeats 2000000 in
theorem fof_any {C : Nat} (w : World) (A : Option Addr) (c : Nat) (m : List UInt8) (h : Rv C w A (bys m)) (hC : C ≤ w.heap.size) (hn : A = none → c = 0) (hm : m.length ≤ 100000000) :
    Calls Tryz.prog 95 #[.slice A m.length c] w fun e w2 => e = .returned (.agg (bys (shaOf m)).toArray) ∧ Below w.heap.size w w2 := by
  have H := hI h
  have HN := hI hn
  have HML := hI (bys_len m)
  have r0 : Ar (w.alloc (.cells z42 51)) w.heap.size 51 (bys (List.replicate 32 0)) := Ar.new w (bys (List.replicate 32 0)) 51
  have R0 := hI r0
  have B0 := hI ((Below.refl w.heap.size w).alloc (Nat.le_refl _) (.cells z42 51))
  have hs0 : (w.alloc (.cells z42 51)).heap.size = w.heap.size + 1 := World.size_alloc _ _
  have HS0 := hI hs0
  have hg64 : gapN m.length < 64 := by unfold gapN; omega
  have hSL := shaOf_len m
  generalize hS : shaOf m = S at *
  have HSH : Hid (outB (absorb H256 (m ++ padW m.length)) = S) := hI hS
  clear h hn r0 hs0 hS
  go_enter Tryz.func95, Tryz.ntmps95
  go_wp2_with (at_builtin; refine wpList_app sl22 rfl (.tmp 10) (.tmp 11) rfl (w.heap.size + 1) (.slice none 0 0) 0 [] rfl (World.ownsRow_nil _ _ _ _) A m.length c (bys m) rfl HN.out (by rw [HML.out, Nat.mul_one]) (H.out.below (B0.out.mono hC)) (bys_one _) (by unfold maxLen; omega) (by omega) (by rw [HS0.out]; exact Nat.le_refl _) ?_; intro v1 w1 ho ha; rw [Nat.zero_add, List.nil_append] at ho; have O1 := hI ho; have B1 := hI (B0.out.trans (below_of_grown ha.grown (by rw [HS0.out]; omega) (fun k hk => by cases hk))); have R1 := hI (R0.out.later ha.grown (by intro e; cases e)); clear ho ha R0 B0)
  refine (fpad_any _ m.length (by omega)).mono ?_
  rintro e w2 ⟨u, rfl, ho, hb⟩
  have hsp := hb.size
  have hb1s := R1.out.lt
  obtain ⟨D, d, hv, hD, hd, hrv, hfar⟩ := own_all ho
  subst hv
  have HRV := hI hrv
  have HDN := hI hD
  have HPL := hI (bys_len (padW m.length))
  have hpl : (padW m.length).length ≤ 80 := by rw [padW_len]; omega
  have O1 := hI (O1.out.kept (row := none) ⟨hb.os, hb.tape, hb.output, hb.size, fun q hq _ => hb.block q hq⟩ (by cases v1.ownBlock <;> simp))
  have R1 := hI (R1.out.below hb hb1s)
  have B1 := hI (B1.out.trans (hb.mono B1.out.size))
  clear ho hb hrv hD hfar
  go_wp2_with (at_builtin; refine wpList_app sl22 rfl (.tmp 13) (.tmp 17) rfl (w.heap.size + 1) v1 m.length (bys m) rfl O1.out D (padW m.length).length d (bys (padW m.length)) rfl HDN.out (by rw [HPL.out, Nat.mul_one]) HRV.out (bys_one _) (by unfold maxLen; omega) (by omega) (by omega) ?_; intro v3 w3 ho ha; rw [bys_app, ← List.length_append] at ho; have O3 := hI ho; have B3 := hI (B1.out.trans (below_of_grown ha.grown (by omega) (fun k hk => by have := (O1.out.lt k hk).1; omega))); have R3 := hI (R1.out.later ha.grown (own_far O1.out (by omega))); have hs3 := ha.grown.size; clear ho ha R1 B1 O1)
  have hmod := pad_mod m
  have hall : (m ++ padW m.length).length ≤ 100000100 := by rw [List.length_append]; omega
  generalize m ++ padW m.length = all at *
  refine (fstart_any _).mono ?_
  rintro e w4 ⟨rfl, hb⟩
  have hs4 := hb.size
  have hz : Ar (w4.alloc (.cells z8 267)) w4.heap.size 267 (us (List.replicate 8 0)) := Ar.new w4 (us (List.replicate 8 0)) 267
  have hst := st8 (m := H256) hz rfl rfl
  have S4 := hI (hz.setRow (us H256))
  have R4 := hI (((R3.out.below hb R3.out.lt).alloc (.cells z8 267)).past w4.heap.size (us H256).toArray (by omega))
  have B4 := hI (below_row ((B3.out.trans (hb.mono B3.out.size)).alloc (by omega) (.cells z8 267)) w4.heap.size (us H256).toArray (by omega))
  have O4 := hI (own_below O3.out hb)
  have O4 := hI (own_row (O4.out.alloc (.cells z8 267)) w4.heap.size (us H256).toArray (fun e => by have := (O4.out.lt _ e).2; omega))
  have hsz5 : ((w4.alloc (.cells z8 267)).setRow w4.heap.size (us H256).toArray).heap.size = w4.heap.size + 1 := by simp
  have hw4 : w.heap.size + 1 ≤ w4.heap.size := by omega
  obtain ⟨D3, d3, hv3, hD3, hd3, _, hfar3⟩ := own_all O3.out
  have HFAR := hI (fun q e => (by have := (O3.out.lt q e).2; omega : q < w4.heap.size))
  subst hv3
  have HD3 := hI hD3
  clear hb hz hD3 hfar3 hs3 hs4
  go_wp2_with fail
  generalize (w4.alloc (.cells z8 267)).setRow w4.heap.size (us H256).toArray = w5 at *
  go_loopw [5] (fun av wr => ∃ k : Nat, 64 * k ≤ all.length ∧ av = .int .i64 (64 * (k : Int)) ∧ Ar wr w4.heap.size 267 (us (absorb H256 (all.take (k * 64)))) ∧ Ar wr w.heap.size 51 (bys (List.replicate 32 0)) ∧ Hid (wr.ownsRow (w.heap.size + 1) 5 1 (.slice D3 all.length d3) all.length (bys all)) ∧ Hid (Below w.heap.size w wr)) (fun av _ => all.length - (intOf av).toNat)
  case atStart => exact ⟨0, by omega, by go_num, by rw [show absorb H256 (all.take (0 * 64)) = H256 by rw [Nat.zero_mul, List.take_zero, absorb_small (by simp)]]; exact S4.out, R4.out, O4.out, B4.out⟩
  case round =>
    clear S4 R4 O4 B4 hst hsz5
    obtain ⟨k, hk, rfl, s4, r4, o4, b4⟩ := hrel
    have hws := s4.lt
    by_cases hlt : 64 * k + 64 ≤ all.length
    · have hsl := absorb_len _ (all.take (k * 64)) H256 (Nat.le_refl _) rfl
      have HST := hI (absorb_step H256 all k (by omega))
      obtain ⟨D, d, hv, _, _, hrv, _⟩ := own_all o4.out
      injection hv with e1 e2 e3
      subst e1 e3
      have hcut := rv_cut hrv hd3 (64 * k) 64 (by omega)
      obtain ⟨E, hE⟩ : ∃ E, (if d3 = 64 * k then D3 else D3.map (·.add (64 * k))) = E := ⟨_, rfl⟩
      rw [hE] at hcut
      have hbl : ((all.drop (64 * k)).take 64).length = 64 := by rw [List.length_take, List.length_drop]; omega
      rw [Nat.mul_comm k 64] at HST hsl s4
      generalize absorb H256 (all.take (64 * k)) = st at *
      generalize (all.drop (64 * k)).take 64 = blk at *
      have HE := hI hE
      have HCUT := hI hcut
      have HBL := hI hbl
      have HSL := hI hsl
      have S4 := hI s4
      have R4 := hI r4
      clear hcut hrv hbl hsl s4 r4
      have hl8 := ld8 (W := wr.drew) S4.out HSL.out
      have q1 : IntKind.i64.wrap (64 * (k : Int) + 64) = 64 * (k : Int) + 64 := IntWalk.i64_in _ (by omega)
      have q2 : (0 : Int) ≤ 64 * (k : Int) ∧ 64 * (k : Int) ≤ 64 * (k : Int) + 64 ∧ 64 * (k : Int) + 64 ≤ (d3 : Int) := by omega
      have q3 : (64 * (k : Int)).toNat = 64 * k := by omega
      have q4 : (64 * (k : Int) + 64).toNat = 64 * k + 64 := by omega
      have q5 : 64 * k + 64 - 64 * k = 64 := by omega
      go_wp2_with fail
      go_still_tail 6, (by kernel_rfl)
      clear q1 q2 q3 q4 q5
      change wpList _ _ _ _ _ wr.drew
      have S4 : Hid (Ar wr.drew w4.heap.size 267 (us st)) := S4
      have R4 : Hid (Ar wr.drew w.heap.size 51 (bys (List.replicate 32 0))) := R4
      have o4 : Hid (wr.drew.ownsRow (w.heap.size + 1) 5 1 (.slice D3 all.length d3) all.length (bys all)) := o4
      have b4 : Hid (Below w.heap.size w wr.drew) := b4.out.drew
      have HCUT : Hid (Rv wr.drew.heap.size wr.drew E (bys blk)) := HCUT
      have hws : w4.heap.size < wr.drew.heap.size := hws
      clear hl8
      generalize wr.drew = w6 at *
      go_wp2_with fail
      refine (block_any w6 E _ st blk HSL.out HBL.out HCUT.out (Nat.le_refl _)).mono ?_
      rintro e w7 ⟨rfl, hb⟩
      have hst := st8 (m := mixS st blk) (S4.out.below hb hws) HSL.out (mixS_len st blk HSL.out)
      have s7 : Ar (w7.setRow w4.heap.size (us (mixS st blk)).toArray) w4.heap.size 267 (us (absorb H256 (all.take ((k + 1) * 64)))) := by
        rw [show (k + 1) * 64 = 64 * k + 64 by omega, HST.out]
        exact (S4.out.below hb hws).setRow (us (mixS st blk))
      have S7 := hI s7
      have hsz7 := hb.size
      have R7 := hI ((R4.out.below hb (by omega)).past w4.heap.size (us (mixS st blk)).toArray (by omega))
      have O7 := hI (own_row (own_below o4.out hb) w4.heap.size (us (mixS st blk)).toArray (fun e => by have := HFAR.out _ e; omega))
      have B7 := hI (below_row (b4.out.trans (hb.mono b4.out.size)) w4.heap.size (us (mixS st blk)).toArray (by omega))
      clear hb s7
      go_wp2
      go_roundw
      case rel => exact ⟨k + 1, by omega, by go_num, S7.out, R7.out, O7.out, B7.out⟩
      case measure => simp [intOf]; omega
    · have hke : k * 64 = all.length := by omega
      rw [hke, List.take_length] at s4
      have hsl := absorb_len _ all H256 (Nat.le_refl _) rfl
      generalize absorb H256 all = st at *
      clear hke
      have HOB := hI (outB_len st)
      have n0 : Ar (wr.alloc (.cells z42 51)) wr.heap.size 51 (bys (List.replicate 32 0)) := Ar.new wr (bys (List.replicate 32 0)) 51
      have N0 := hI n0
      have S4 := hI (s4.alloc (.cells z42 51))
      have R4 := hI (r4.alloc (.cells z42 51))
      have hbz := b4.out.size
      have B4 := hI (b4.out.alloc hbz (.cells z42 51))
      have hrw : w.heap.size < wr.heap.size := r4.lt
      have HSL := hI hsl
      clear n0 s4 r4 b4 o4 hsl
      obtain ⟨ww, hww⟩ : ∃ ww, ww = wr := ⟨_, rfl⟩
      rw [← hww] at N0 S4 R4 B4 hrw hws hbz ⊢
      clear hww
      go_wp2_with fail
      generalize ww.alloc (.cells z42 51) = w6 at *
      go_loopw [7] (fun iv wr => ∃ i : Nat, i ≤ 8 ∧ iv = .int .i64 i ∧ Ar wr w4.heap.size 267 (us st) ∧ Ar wr w.heap.size 51 (bys (List.replicate 32 0)) ∧ Ar wr ww.heap.size 51 (bys ((outB st).take (4 * i) ++ List.replicate (32 - 4 * i) 0)) ∧ Hid (Below w.heap.size w wr)) (fun iv _ => 8 - (intOf iv).toNat)
      case atStart => exact ⟨0, by omega, rfl, S4.out, R4.out, N0.out, B4.out⟩
      case round =>
        clear S4 R4 N0 B4
        obtain ⟨i, hi, rfl, s4, r4, n4, b4⟩ := hrel
        by_cases hli : i < 8
        · have hc : wr.cell? ⟨w4.heap.size, i, none⟩ = some (.int .u32 ((st.getD i 0).toNat : Int)) := s4.cell (us_at (by rw [HSL.out]; exact hli))
          have HSTP := hI (outB_step st i (by rw [HSL.out]; exact hli))
          have hx := (st.getD i 0).toNat_lt
          generalize (st.getD i 0).toNat = x at *
          have hsplit : (outB st).take (4 * i) ++ List.replicate (32 - 4 * i) 0 = (outB st).take (4 * i) ++ (last4 x 0 ++ List.replicate (28 - 4 * i) 0) := by
            congr 1
            rw [show 32 - 4 * i = 4 + (28 - 4 * i) by omega, ← List.replicate_append_replicate]
            simp [last4, be4]
          have hpl : ((outB st).take (4 * i)).length = 4 * i := by rw [List.length_take, HOB.out, HSL.out]; omega
          rw [hsplit] at n4
          generalize (outB st).take (4 * i) = Pr at *
          have HPL := hI hpl
          have S4 := hI s4
          have R4 := hI r4
          have N4 := hI n4
          clear hpl hsplit s4 r4 n4
          obtain ⟨wv, hwv⟩ : ∃ wv, wv = wr := ⟨_, rfl⟩
          rw [← hwv] at S4 R4 N4 b4 hc ⊢
          clear hwv
          go_wp2_with fail
          go_loopw [8, 9] (fun xv jv wr => ∃ j : Nat, j ≤ 4 ∧ jv = .int .i64 (3 - (j : Int)) ∧ xv = .int .u32 ((x / 256 ^ j : Nat) : Int) ∧ Ar wr w4.heap.size 267 (us st) ∧ Ar wr w.heap.size 51 (bys (List.replicate 32 0)) ∧ Ar wr ww.heap.size 51 (bys (Pr ++ (last4 x j ++ List.replicate (28 - 4 * i) 0))) ∧ Hid (Below w.heap.size w wr)) (fun _ jv _ => (intOf jv + 1).toNat)
          case atStart => exact ⟨0, by omega, by go_num, by simp, S4.out, R4.out, N4.out, b4⟩
          case round =>
            clear S4 R4 N4 b4 hc
            obtain ⟨j, hj, rfl, rfl, s4, r4, n4, b4⟩ := hrel
            have hll := last4_len x j hj
            by_cases hlj : j < 4
            · have hset := set_mid Pr (last4 x j) (List.replicate (28 - 4 * i) 0) (3 - j) (by8 (x / 256 ^ j)) (4 * i + (3 - j)) (by rw [HPL.out]) (by omega)
              rw [last4_set x j hlj] at hset
              have hlen : (Pr ++ (last4 x j ++ List.replicate (28 - 4 * i) 0)).length = 32 := by simp [HPL.out, hll]; omega
              have hco : wr.cell? ⟨ww.heap.size, 4 * i + (3 - j), none⟩ = some (.int .u8 (((Pr ++ (last4 x j ++ List.replicate (28 - 4 * i) 0)).getD (4 * i + (3 - j)) 0).toNat : Int)) := n4.cell (bys_at (by omega))
              have hfz := n4.frozen (4 * i + (3 - j))
              have e2 := n4.set (4 * i + (3 - j)) (.int .u8 ((by8 (x / 256 ^ j)).toNat : Int))
              have ev : ((x / 256 ^ j % 256 : Nat) : Int) = ((x / 256 ^ j : Nat) : Int) % 256 := by omega
              rw [bys_set, hset, by8_nat, ev] at e2
              have N5 := hI e2
              have S5 := hI (s4.other ⟨ww.heap.size, 4 * i + (3 - j), none⟩ (.int .u8 (((x / 256 ^ j : Nat) : Int) % 256)) (by simp; omega))
              have R5 := hI (r4.other ⟨ww.heap.size, 4 * i + (3 - j), none⟩ (.int .u8 (((x / 256 ^ j : Nat) : Int) % 256)) (by simp; omega))
              have B5 := hI (b4.out.setCell (p := ⟨ww.heap.size, 4 * i + (3 - j), none⟩) (by show w.heap.size ≤ ww.heap.size; omega) (.int .u8 (((x / 256 ^ j : Nat) : Int) % 256)))
              generalize ((Pr ++ (last4 x j ++ List.replicate (28 - 4 * i) 0)).getD (4 * i + (3 - j)) 0) = old at *
              have hxj : x / 256 ^ j < 4294967296 := Nat.lt_of_le_of_lt (Nat.div_le_self _ _) hx
              have HNX := hI (by rw [Nat.pow_succ, ← Nat.div_div_eq_div_mul] : x / 256 ^ (j + 1) = x / 256 ^ j / 256)
              generalize x / 256 ^ j = y at *
              have hj3 : (j : Int) ≤ 3 := by omega
              clear e2 hset hlen s4 r4 n4 b4 ev
              go_wp2_with fail
              exact ⟨⟨j + 1, by omega, by go_num, by rw [HNX.out]; rfl, S5.out, R5.out, N5.out, B5⟩, by simp [intOf]; omega⟩
            · have hj4 : j = 4 := by omega
              subst hj4
              have el : last4 x 4 = be4 x := rfl
              rw [el, ← List.append_assoc, ← HSTP.out, show 28 - 4 * i = 32 - 4 * (i + 1) by omega] at n4
              have N5 := hI n4
              have S5 := hI s4
              have R5 := hI r4
              clear n4 s4 r4 el hll hj
              have ht : ((3 : Int) - ((4 : Nat) : Int)) = -1 := rfl
              go_wp2_with fail
              go_goals
              exact ⟨⟨i + 1, by omega, by go_num, S5.out, R5.out, N5.out, b4⟩, by simp [intOf]; omega⟩
        · have hi8 : i = 8 := by omega
          subst hi8
          have e8 : (outB st).take (4 * 8) ++ List.replicate (32 - 4 * 8) 0 = S := by
            rw [HSH.out, List.take_of_length_le (by rw [hSL]; omega)]
            exact List.append_nil _
          rw [e8] at n4
          have hl := ld42 n4 hSL
          have hst2 := st42 (m := S) r4 (by simp) hSL
          have R9 := hI (r4.setRow (bys S))
          have B9 := hI (below_row b4.out w.heap.size (bys S).toArray (Nat.le_refl _))
          have N4 := hI n4
          clear n4 r4 s4 e8
          go_wp2_with fail
          refine bodyPost_ret (results_cell_row rfl _ _ w.heap.size 51 _ (0, 0) (.array 32 5) rfl R9.out Tryz.underlying51 rfl (by rw [List.size_toArray, bys_len, hSL]; exact inf42)) rfl ?_
          exact ⟨rfl, B9.out⟩
def box42 (v : Value) : Sem Value := Instr.box 51 v
theorem box42_eq (v : Value) : Instr.box 51 v = box42 v := rfl
theorem run_box42 (W : World) (cs : Array Value) : (box42 (.agg cs)).run Tryz.prog W = .ok (.pointer (some ⟨W.heap.size, 0, none⟩)) (W.alloc (.cells cs 51)) := by
  simp [box42, Instr.box, newVar, newRow, Value.cells]
theorem run_idx42 (l : List UInt8) (hl : l.length = 32) (i : Nat) (hi : i < 32) (W : World) : (Instr.index 51 (.agg (bys l).toArray) (.int .i64 (i : Int))).run Tryz.prog W = .ok (.int .u8 ((l.getD i 0).toNat : Int)) W := by
  obtain ⟨ii, hii, hz⟩ := Option.map_eq_some_iff.1 (show (Tryz.prog.info? 5).map (·.size) = some 1 by kernel_rfl)
  have hp := run_part_one (P := Tryz.prog) (w := W) Tryz.underlying5 rfl (bys l) i (bys_at (by omega))
  simp [Instr.index, asIntOf, run_underlying Tryz.underlying51, sizeOf, typeInfo, hii, hz, hp]
  exact fun h => absurd hi (by omega)
end Go.Proofs.YtbmpidacoohdmaaGreat

/- Plain: worlds that have grown; bytes of numbers; bytes as a string. Both Pads, by contracts. -/
import Derived.Test.YtbmpidacoohdmaaGreatObj
import Derived.Test.YtbmpidacoohdmaaGreatChecked
import Derived.Test.YtbmpidacoohdmaaGreatShe
namespace Go.Proofs.YtbmpidacoohdmaaGreat
open Go.RowKit

theorem grown_refl (w : World) (r : Option Nat) : w.grownBy w r := ⟨rfl, rfl, rfl, Nat.le_refl _, fun _ _ _ => rfl⟩
theorem grown_trans {w w2 w3 : World} {r : Option Nat} (h : w.grownBy w2 r) (k : w2.grownBy w3 r) : w.grownBy w3 r :=
  ⟨k.os.trans h.os, k.tape.trans h.tape, k.output.trans h.output, Nat.le_trans h.size k.size, fun j hj hne => (k.block j (Nat.lt_of_lt_of_le hj h.size) hne).trans (h.block j hj hne)⟩
theorem grown_drewN {w w2 : World} {r : Option Nat} (h : w.grownBy w2 r) (n : Nat) : w.grownBy (w2.drewN n) r := ⟨h.os, h.tape, h.output, h.size, h.block⟩
theorem grown_drew {w w2 : World} {r : Option Nat} (h : w.grownBy w2 r) : w.grownBy w2.drew r := ⟨h.os, h.tape, h.output, h.size, h.block⟩
theorem grown_alloc {w w2 : World} {r : Option Nat} (h : w.grownBy w2 r) (o : Obj) : w.grownBy (w2.alloc o) r :=
  ⟨h.os, h.tape, h.output, by have := h.size; simp; omega, fun j hj hne => (Below.heap_alloc w2 o j (Nat.lt_of_lt_of_le hj h.size)).trans (h.block j hj hne)⟩
theorem grown_set {w w2 : World} {g : Nat} (h : w.grownBy w2 (some g)) (i : Nat) (v : Value) : w.grownBy (w2.setCell ⟨g, i, none⟩ v) (some g) :=
  ⟨h.os, h.tape, h.output, by have := h.size; simpa using this, fun j hj hne => (Below.heap_setCell w2 ⟨g, i, none⟩ v j (fun e => hne (by rw [e]))).trans (h.block j hj hne)⟩
theorem grown_any {w w2 : World} (h : w.grownBy w2 none) (r : Option Nat) : w.grownBy w2 r := ⟨h.os, h.tape, h.output, h.size, fun k hk _ => h.block k hk (by simp)⟩
theorem grown_of_below {w w2 : World} (h : Below w.heap.size w w2) (r : Option Nat) : w.grownBy w2 r := ⟨h.os, h.tape, h.output, h.size, fun k hk _ => h.block k hk⟩
/-- The last s bytes of n, the highest first. -/
def beN : Nat → Nat → List UInt8
  | 0, _ => []
  | s + 1, n => beN s (n / 256) ++ [by8 n]
theorem beN_len (s : Nat) : ∀ n, (beN s n).length = s := by
  induction s with
  | zero => intro n; rfl
  | succ s ih => intro n; simp [beN, ih]
/-- Four bytes, the highest first. -/
def be4 (n : Nat) : List UInt8 := [by8 (n / 16777216), by8 (n / 65536), by8 (n / 256), by8 n]
theorem be4_eq (n : Nat) : be4 n = beN 4 n := by simp [beN, be4, Nat.div_div_eq_div_mul]
theorem bys_set (l : List UInt8) (i : Nat) (x : UInt8) : (bys l).set i (.int .u8 (x.toNat : Int)) = bys (l.set i x) := by simp [bys, List.map_set]
theorem bys_zeros (n : Nat) : List.replicate n (Value.int .u8 0) = bys (List.replicate n 0) := by simp [bys]
theorem conv22 {B : Nat} {w : World} {D : Option Addr} {l : List UInt8} (d : Nat) (h : Rv B w D (bys l)) : (convert 57 9 (.slice D l.length d)).run Tryz.prog w = .ok (.string (bs l)) w :=
  conv_rv Tryz.underlying57 Tryz.underlying5 Tryz.underlying9 d h
theorem sl22 : Sl Tryz.prog 57 5 1 1 := ⟨Tryz.underlying57, by kernel_rfl, by decide⟩
theorem bs_list (l : List UInt8) : (bs l).data.toList = l := by simp [bs]
theorem bs_toList (l : List UInt8) : (bs l).toList = l := by
  rw [ByteArray.toList_eq]
  exact bs_list l
theorem make22 (lo n : Nat) (hlo : lo ≤ n) (hb : n ≤ 1000000000) (W : World) : (Instr.makeSlice 57 (.int .i64 lo) (.int .i64 n)).run Tryz.prog W = .ok (.slice (some ⟨W.heap.size, 0, none⟩) lo n) (W.alloc (.cells (List.replicate n (Value.int .u8 0)).toArray 5)) :=
  make_zero sl22 (by kernel_rfl) rfl lo n hlo (by omega) (by omega) W
theorem Rv.low {w w2 : World} {A : Option Addr} {xs : List Value} {B : Nat} (h : Rv B w A xs) (hb : Below B w w2) {C : Nat} (hC : B ≤ C) : Rv C w2 A xs := (h.below hb).more hC
end Go.Proofs.YtbmpidacoohdmaaGreat
namespace Go.Proofs.YtbmpidacoohdmaaGreat
open Go.RowKit

theorem beN_get (s : Nat) : ∀ n i, i < s → (beN s n).getD i 0 = by8 (n / 256 ^ (s - 1 - i)) := by
  induction s with
  | zero => intro n i h; omega
  | succ s ih =>
    intro n i h
    have hl := beN_len s (n / 256)
    rcases Nat.lt_or_ge i s with h1 | h1
    · have e : (beN s (n / 256) ++ [by8 n]).getD i 0 = (beN s (n / 256)).getD i 0 := by simp [List.getElem?_append, hl, h1]
      rw [beN, e, ih _ _ h1, Nat.div_div_eq_div_mul, ← Nat.pow_succ']
      congr 3
      omega
    · obtain rfl : i = s := by omega
      simp [beN, hl]
/-- A head, the first i of a tail, zeros. -/
def grow (P T : List UInt8) (i : Nat) : List UInt8 := P ++ (T.take i ++ List.replicate (T.length - i) 0)
theorem grow_len (P T : List UInt8) (i : Nat) (hi : i ≤ T.length) : (grow P T i).length = P.length + T.length := by simp [grow]; omega
theorem grow_set (P T : List UInt8) (i : Nat) (hi : i < T.length) : (grow P T i).set (P.length + i) (T.getD i 0) = grow P T (i + 1) := by
  unfold grow
  rw [List.set_append_right _ _ (by omega), Nat.add_sub_cancel_left, List.set_append_right _ _ (by simp; omega)]
  rw [show i - (T.take i).length = 0 by simp; omega, show T.length - i = (T.length - (i + 1)) + 1 by omega, List.replicate_succ, List.set_cons_zero]
  rw [List.take_succ_eq_append_getElem hi, List.append_assoc]
  simp [hi]
theorem grow_full (P T : List UInt8) : grow P T T.length = P ++ T := by simp [grow]
def gapN (n : Nat) : Nat := (64 - (n + 9) % 64) % 64
def padW (n : Nat) : List UInt8 := padB n ++ beN 8 (n * 8)
theorem padB_len (n : Nat) : (padB n).length = 1 + gapN n := by simp [padB, gapN]; omega
theorem padW_len (n : Nat) : (padW n).length = 9 + gapN n := by simp [padW, padB_len, beN_len]; omega
set_option maxRecDepth 100000 in
set_option maxHeartbeats 1000000 in
theorem pad_any (w : World) (n : Nat) (hn : n ≤ 1000000000) :
    Calls Tryz.prog 200 #[.int .u64 n] w fun e w2 => ∃ u, e = .returned u ∧ w2.ownsRow w.heap.size 5 1 u (padW n).length (bys (padW n)) ∧ Below w.heap.size w w2 := by
  obtain ⟨g, hg⟩ : ∃ g, g = gapN n := ⟨_, rfl⟩
  have hg64 : g < 64 := by rw [hg]; unfold gapN; omega
  have HG := Lib.hid hg
  have q1 : (64 - ((n : Int) + 9) % 64) % 64 = (g : Int) := by rw [hg]; unfold gapN; omega
  have hmk : ∀ W : World, (Instr.makeSlice 57 (.int .u64 ((1 : Int) + (g : Int) + 8)) (.int .u64 ((1 : Int) + (g : Int) + 8))).run Tryz.prog W = .ok (.slice (some ⟨W.heap.size, 0, none⟩) (9 + g) (9 + g)) (W.alloc (.cells (bys (List.replicate (9 + g) 0)).toArray 5)) := by
    intro W
    obtain ⟨i, z2, hi, hz2, hs1, hb2, hzs⟩ := sl22.parts
    have hz : z2 = .int .u8 0 := by have h : (Tryz.prog.info? 5).bind (·.zero) = some (.int .u8 0) := by kernel_rfl
                                    simpa [hi, hz2] using h
    subst hz
    have h := run_make (P := Tryz.prog) W 57 5 i (.int .u8 0) sl22.und hi hz2 .u64 .u64 ((1 : Int) + (g : Int) + 8) ((1 : Int) + (g : Int) + 8) (by omega) (by omega) (by rw [hb2]; omega) (by omega)
    have hn9 : ((1 : Int) + (g : Int) + 8).toNat = 9 + g := by omega
    rw [h, hs1, hn9]
    have e : (madeCells (Value.int .u8 0).cells ((9 + g) * 1)) = (bys (List.replicate (9 + g) 0)).toArray := by
      apply Array.ext'
      rw [Nat.mul_one, show (Value.int .u8 0).cells = #[Value.int .u8 0] from rfl, toList_madeCells_one, bys_zeros]
    rw [e]
  have hc0 : (w.alloc (.cells (bys (List.replicate (9 + g) 0)).toArray 5)).cell? ⟨w.heap.size, 0, none⟩ = some (.int .u8 0) := (Ar.new w (bys (List.replicate (9 + g) 0)) 5).cell (by simp [bys, List.getElem?_replicate])
  have hf0 : (w.alloc (.cells (bys (List.replicate (9 + g) 0)).toArray 5)).frozen? ⟨w.heap.size, 0, none⟩ = false := (Ar.new w (bys (List.replicate (9 + g) 0)) 5).frozen 0
  have e1 : (bys (List.replicate (9 + g) 0)).set 0 (.int .u8 128) = bys (grow (padB n) (beN 8 (n * 8)) 0) := by
    have h0 : grow (padB n) (beN 8 (n * 8)) 0 = 128 :: List.replicate (8 + g) 0 := by
      simp only [grow, padB, beN_len, List.take_zero, List.nil_append, List.cons_append, Nat.sub_zero]
      rw [show (64 - (n + 9) % 64) % 64 = g by rw [hg]; rfl, List.replicate_append_replicate, Nat.add_comm g 8]
    rw [h0, show 9 + g = (8 + g) + 1 by omega]
    rfl
  have ze : (bys (List.replicate (9 + g) 0)).toArray.setIfInBounds 0 (.int .u8 128) = (bys (grow (padB n) (beN 8 (n * 8)) 0)).toArray := by rw [List.setIfInBounds_toArray, e1]
  have A1 := Lib.hid (Ar.new w (bys (grow (padB n) (beN 8 (n * 8)) 0)) 5)
  have HB := Lib.hid ((Below.refl w.heap.size w).alloc (Nat.le_refl _) (.cells (bys (grow (padB n) (beN 8 (n * 8)) 0)).toArray 5))
  clear e1 hg
  obtain ⟨Z, hZ⟩ : ∃ Z, Z = (bys (List.replicate (9 + g) 0)).toArray := ⟨_, rfl⟩
  rw [← hZ] at hmk hc0 hf0 ze
  have ZE := Lib.hid ze
  clear hZ ze
  have hpl := padB_len n
  rw [← HG.out] at hpl
  have HPL := Lib.hid hpl
  have HTL := Lib.hid (beN_len 8 (n * 8))
  clear hpl
  go_enter Tryz.func200, Tryz.ntmps200
  go_wp2_with fail
  rw [ZE.out]
  generalize w.alloc (.cells (bys (grow (padB n) (beN 8 (n * 8)) 0)).toArray 5) = w0 at *
  go_loopw [17] (fun iv wr => ∃ i : Nat, i ≤ 8 ∧ iv = .int .i64 i ∧ Ar wr w.heap.size 5 (bys (grow (padB n) (beN 8 (n * 8)) i)) ∧ Hid (Below w.heap.size w wr)) (fun iv _ => 8 - (intOf iv).toNat)
  case atStart => exact ⟨0, by omega, rfl, A1.out, HB.out⟩
  case round =>
    clear A1 HB hc0 hf0 hmk
    obtain ⟨i, hi, rfl, ar, hb⟩ := hrel
    have hgl := grow_len (padB n) (beN 8 (n * 8)) i (by rw [HTL.out]; exact hi)
    rw [HPL.out, HTL.out] at hgl
    by_cases hlt : i < 8
    · have hset := grow_set (padB n) (beN 8 (n * 8)) i (by rw [HTL.out]; exact hlt)
      rw [HPL.out, beN_get 8 (n * 8) i hlt] at hset
      have hco : wr.cell? ⟨w.heap.size, 1 + g + i, none⟩ = some (.int .u8 (((grow (padB n) (beN 8 (n * 8)) i).getD (1 + g + i) 0).toNat : Int)) := ar.cell (bys_at (by omega))
      have hfz := ar.frozen (1 + g + i)
      have e2 := ar.set (1 + g + i) (.int .u8 ((by8 (n * 8 / 256 ^ (8 - 1 - i))).toNat : Int))
      rw [bys_set, hset] at e2
      have E2 := Lib.hid e2
      generalize ((grow (padB n) (beN 8 (n * 8)) i).getD (1 + g + i) 0) = old at *
      clear hset e2 hgl
      have HV : Hid ((n : Int) * 8 / 2 ^ (56 - 8 * i) % 256 = ((by8 (n * 8 / 256 ^ (8 - 1 - i))).toNat : Int)) := by
        rw [by8_nat, show (256 : Nat) ^ (8 - 1 - i) = 2 ^ (56 - 8 * i) by rw [show (256 : Nat) = 2 ^ 8 from rfl, ← Nat.pow_mul]; congr 1; omega]
        show (n : Int) * 8 / 2 ^ (56 - 8 * i) % 256 = _
        simp
      go_wp2
      rw [HV.out]
      exact ⟨⟨i + 1, by omega, by go_num, E2.out, hb.out.setCell (p := ⟨w.heap.size, _, none⟩) (Nat.le_refl _) _⟩, by simp [intOf]; omega⟩
    · have h8 : i = 8 := by omega
      subst h8
      have hfull : grow (padB n) (beN 8 (n * 8)) 8 = padW n := by have := grow_full (padB n) (beN 8 (n * 8)); rw [HTL.out] at this; exact this
      rw [hfull] at ar
      go_wp2
      go_ret
      have hl := padW_len n
      rw [← HG.out] at hl
      rw [hl]
      refine ⟨_, rfl, ⟨by rw [bys_len, hl, Nat.mul_one], .inr ⟨_, 9 + g, _, rfl, Nat.le_refl _, ar, Nat.le_refl _, by unfold maxLen; omega, by simp [bys_len, hl], ?_⟩⟩, hb.out⟩
      simp only [Nat.mul_one]
      rw [List.take_of_length_le (by rw [bys_len, hl]; omega)]

theorem own_lit (W : World) (l : List UInt8) (h : l.length ≤ 1000000) : (W.alloc (.cells (bys l).toArray 5)).ownsRow W.heap.size 5 1 (.slice (some ⟨W.heap.size, 0, none⟩) l.length l.length) l.length (bys l) :=
  ⟨by simp [bys_len], .inr ⟨_, l.length, _, rfl, Nat.le_refl _, heap_alloc_new W _, Nat.le_refl _, by unfold maxLen; omega, by simp [bys_len], by rw [Nat.mul_one, List.take_of_length_le (by simp [bys_len])]⟩⟩
def pad0 (j : Nat) : List UInt8 := 128 :: List.replicate j 0
theorem pad0_snoc (j : Nat) : pad0 j ++ [0] = pad0 (j + 1) := by simp [pad0, List.replicate_succ']
theorem pad0_len (j : Nat) : (pad0 j).length = j + 1 := by simp [pad0]
set_option maxRecDepth 100000 in
set_option maxHeartbeats 1000000 in
theorem fpad_any (w : World) (n : Nat) (hn : n ≤ 1000000000) :
    Calls Tryz.prog 162 #[.int .u64 n] w fun e w2 => ∃ u, e = .returned u ∧ w2.ownsRow w.heap.size 5 1 u (padW n).length (bys (padW n)) ∧ Below w.heap.size w w2 := by
  have O0 := Lib.hid (own_lit w [128] (by simp))
  have B0 := Lib.hid ((Below.refl w.heap.size w).alloc (Nat.le_refl _) (.cells (bys [128]).toArray 5))
  have e0 : (bys [128]).toArray = #[.int .u8 128] := rfl
  rw [e0] at O0 B0
  clear e0
  go_enter Tryz.func162, Tryz.ntmps162
  go_wp2_with fail
  generalize w.alloc (.cells #[.int .u8 128] 5) = w0 at *
  go_loopw [3] (fun v wr => ∃ j : Nat, j ≤ gapN n ∧ (∃ A c, v = .slice A (j + 1) c) ∧ Hid (wr.ownsRow w.heap.size 5 1 v (j + 1) (bys (pad0 j))) ∧ Hid (Below w.heap.size w wr)) (fun v _ => gapN n + 1 - (match v with | .slice _ k _ => k | _ => 0))
  case atStart => exact ⟨0, Nat.zero_le _, ⟨_, _, rfl⟩, O0.out, B0.out⟩
  case round =>
    clear O0 B0
    obtain ⟨j, hj, ⟨A, c, rfl⟩, ho, hb⟩ := hrel
    have hbs := hb.out.size
    have hg64 : gapN n < 64 := by unfold gapN; omega
    have hg : gapN n = (64 - (n + 9) % 64) % 64 := rfl
    by_cases hlt : j < gapN n
    · have q1 : (((n : Int) % 64 + ((j : Int) + 1) + 8) % 64 != 0) = true := by rw [bne_iff_ne]; omega
      have q2 : IntKind.u64.wrap ((j : Int) + 1) = (j : Int) + 1 := Go.wraps_u64 _ (by omega) (by omega)
      have HJ := Lib.hid hg
      clear hg
      go_wp2_with (at_builtin; refine wpList_app sl22 rfl (.tmp 17) (.tmp 18) rfl w.heap.size (.slice A (j + 1) c) (j + 1) (bys (pad0 j)) rfl (ho.out.alloc _) (some ⟨wr.heap.size, 0, none⟩) 1 1 (bys [0]) rfl (fun e => by cases e) rfl (B := wr.heap.size + 1) (new_rv wr (bys [0]) 5 _ rfl) (bys_one _) (by unfold maxLen; omega) (by omega) (by simp; omega) ?_; intro v2 w2 ho2 ha; rw [bys_app, pad0_snoc] at ho2; have HO := Lib.hid ho2; have HA := Lib.hid ha.grown; clear ho2 ha)
      obtain ⟨D, d, hv, _⟩ := own_all HO.out
      subst hv
      go_roundw
      case rel => exact ⟨j + 1, by omega, ⟨_, _, rfl⟩, HO.out, (hb.out.alloc hbs _).trans (below_of_grown HA.out (by simp; omega) (fun k hk => (ho.out.lt k hk).1))⟩
      case measure => simp; omega
    · have hjg : j = gapN n := by omega
      have q1 : (((n : Int) % 64 + ((j : Int) + 1) + 8) % 64 != 0) = false := by simp; omega
      have q2 : IntKind.u64.wrap ((j : Int) + 1) = (j : Int) + 1 := Go.wraps_u64 _ (by omega) (by omega)
      have hpp : pad0 j = padB n := by rw [hjg]; rfl
      rw [hpp] at ho
      have HPL := Lib.hid (by rw [← hpp, pad0_len] : (padB n).length = j + 1)
      clear hpp hg hjg
      go_wp2_with fail
      clear q1 q2
      obtain ⟨wo, hwo⟩ : ∃ wo, wo = wr := ⟨_, rfl⟩
      rw [← hwo] at ho hb hbs ⊢
      clear hwo
      go_loopw [4, 5, 6] (fun bv v kv wq => ∃ (k x : Nat) (t : List UInt8), k ≤ 8 ∧ t.length = k ∧ x < 18446744073709551616 ∧ kv = .int .i64 k ∧ bv = .int .u64 x ∧ Hid (beN (8 - k) x ++ t = beN 8 (n * 8)) ∧ Hid (wq.ownsRow wo.heap.size 5 1 v k (bys t)) ∧ Hid (Below wo.heap.size wo wq)) (fun _ _ kv _ => 8 - (intOf kv).toNat)
      case atStart => exact ⟨0, n * 8, [], by omega, rfl, by omega, rfl, by go_num, by simp [Hid], World.ownsRow_nil _ _ _ _, Below.refl _ _⟩
      case round =>
        obtain ⟨k, x, t, hk, ht, hx, rfl, rfl, hbt, ho2, hb2⟩ := hrel
        have hs2 := hb2.out.size
        obtain ⟨D, d, hv, hD, hd, hrv, hfar⟩ := own_all ho2.out
        subst hv
        have HRV := Lib.hid hrv
        have HDN := Lib.hid hD
        have HTL := Lib.hid (by rw [bys_len, ht] : (bys t).length = k)
        clear hrv hD hfar
        by_cases hlt2 : k < 8
        · have ex : (x : Int) % 256 = ((by8 x).toNat : Int) := by rw [by8_nat]; omega
          have hl1 := own_less (own_lit wr [by8 x] (by simp)) hs2
          have el : (bys [by8 x]).toArray = #[.int .u8 ((by8 x).toNat : Int)] := rfl
          have HL1 := Lib.hid hl1
          have HB := Lib.hid (by have e := hbt.out; rw [show 8 - k = (8 - (k + 1)) + 1 by omega, beN, List.append_assoc] at e; exact e : beN (8 - (k + 1)) (x / 256) ++ (by8 x :: t) = beN 8 (n * 8))
          have HR2 := Lib.hid (HRV.out.below ((Below.refl wr.heap.size wr).alloc (Nat.le_refl _) (.cells (bys [by8 x]).toArray 5)))
          rw [el] at HL1 HR2
          rw [← ex] at HL1 HR2
          have EX := Lib.hid ex
          clear hl1 el ex
          go_wp2_with (at_builtin; refine wpList_app sl22 rfl (.tmp 29) (.tmp 30) rfl wo.heap.size (.slice (some ⟨wr.heap.size, 0, none⟩) 1 1) 1 (bys [by8 x]) rfl HL1.out D k d (bys t) rfl HDN.out (by rw [HTL.out, Nat.mul_one]) HR2.out (bys_one _) (by unfold maxLen; omega) (by omega) (by simp; omega) ?_; intro v2 w2 ho3 ha; rw [bys_app] at ho3; have HO := Lib.hid ho3; have HA := Lib.hid ha.grown; clear ho3 ha)
          go_roundw
          case rel => exact ⟨k + 1, x / 256, by8 x :: t, by omega, by simp [ht], by omega, by go_num, by go_num, HB.out, by rw [Nat.add_comm k 1]; exact HO.out, (hb2.out.alloc hs2 _).trans (below_of_grown HA.out (by simp; omega) (fun q hq => by have e : some wr.heap.size = some q := hq; injection e with e; omega))⟩
          case measure => simp [intOf]; omega
        · have hk8 : k = 8 := by omega
          subst hk8
          have ht8 : t = beN 8 (n * 8) := by have e := hbt.out; simpa [beN] using e
          have hpw : bys (padB n) ++ bys t = bys (padW n) := by rw [bys_app, ht8]; rfl
          have HPW := Lib.hid hpw
          have hpwl := Lib.hid (by rw [padW, List.length_append, HPL.out, beN_len] : (padW n).length = j + 1 + 8)
          have HO1 := Lib.hid (ho.out.kept (row := none) ⟨hb2.out.os, hb2.out.tape, hb2.out.output, hb2.out.size, fun q hq _ => hb2.out.block q hq⟩ (by cases Value.ownBlock (.slice A (j + 1) c) <;> simp))
          clear hpw ht8
          go_wp2_with (at_builtin; refine wpList_app sl22 rfl (.tmp 34) (.tmp 35) rfl w.heap.size (.slice A (j + 1) c) (j + 1) (bys (padB n)) rfl HO1.out D 8 d (bys t) rfl HDN.out (by rw [HTL.out]) HRV.out (bys_one _) (by unfold maxLen; omega) (by omega) (by omega) ?_; intro v2 w2 ho3 ha; rw [HPW.out] at ho3; have HO := Lib.hid ho3; have HA := Lib.hid ha.grown; clear ho3 ha)
          go_ret
          rw [hpwl.out]
          exact ⟨_, rfl, HO.out, (hb.out.trans (hb2.out.mono hbs)).trans (below_of_grown HA.out (by omega) (fun k hk => (HO1.out.lt k hk).1))⟩
end Go.Proofs.YtbmpidacoohdmaaGreat

/- sleuthref01 by contracts, first part: numbers and texts as bytes. -/
import Derived.Test.YthhmamkphcgocaaDoorReb
namespace Go.Proofs.YthhmamkphcgocaaDoor
open Go.RowKit

/-- The last s bytes of n, the highest first. -/
def beN : Nat → Nat → List UInt8
  | 0, _ => []
  | s + 1, n => beN s (n / 256) ++ [by8 n]
theorem beN_len (s : Nat) : ∀ n, (beN s n).length = s := by
  induction s with
  | zero => intro n; rfl
  | succ s ih => intro n; simp [beN, ih]
theorem be4_eq (n : Nat) : be4 n = beN 4 n := by simp [beN, be4, Nat.div_div_eq_div_mul]
theorem bys_set (l : List UInt8) (i : Nat) (x : UInt8) : (bys l).set i (.int .u8 (x.toNat : Int)) = bys (l.set i x) := by simp [bys, List.map_set]
theorem bys_zeros (n : Nat) : List.replicate n (Value.int .u8 0) = bys (List.replicate n 0) := by simp [bys]
set_option maxRecDepth 100000 in
set_option maxHeartbeats 1000000 in
theorem fbig_any (w : World) (n s : Nat) (hs : s ≤ 1000) (hn : n < 18446744073709551616) :
    Calls Tryd.prog 24 #[.int .u64 n, .int .i64 s] w fun e w2 => ∃ u, e = .returned u ∧ w2.ownsRow w.heap.size 5 1 u s (bys (beN s n)) ∧ Below w.heap.size w w2 := by
  have hmk := fun W => make22 s s (Nat.le_refl _) (by omega) W
  rw [bys_zeros] at hmk
  obtain ⟨Z, hZ⟩ : ∃ Z, Z = (bys (List.replicate s 0)).toArray := ⟨_, rfl⟩
  rw [← hZ] at hmk
  have HZ := Lib.hid hZ
  clear hZ
  go_enter Tryd.func24, Tryd.ntmps24
  go_wp2_with fail
  go_loopw [0, 6] (fun nv kv wr => ∃ (m k : Nat) (t : List UInt8), k ≤ s ∧ m < 18446744073709551616 ∧ t.length = k ∧ nv = .int .u64 m ∧ kv = .int .i64 k ∧ Hid (beN (s - k) m ++ t = beN s n) ∧ Hid (wr.heap[w.heap.size]? = some (.cells (bys (List.replicate (s - k) 0 ++ t)).toArray 5 (0, 0))) ∧ Hid (Below w.heap.size w wr)) (fun _ kv _ => s - (intOf kv).toNat)
  case atStart => exact ⟨n, 0, [], Nat.zero_le _, hn, rfl, rfl, rfl, by simp [Hid], by rw [HZ.out]; simpa [Hid] using heap_alloc_new w _, (Below.refl _ _).alloc (Nat.le_refl _) _⟩
  case round =>
    obtain ⟨m, k, t, hk, hm, ht, rfl, rfl, hb, hh, hbel⟩ := hrel
    subst ht
    by_cases hlt : t.length < s
    · have hlen : (bys (List.replicate (s - t.length) 0 ++ t)).length = s := by simp [bys]; omega
      have hc : wr.cell? ⟨w.heap.size, s - 1 - t.length, none⟩ = some (.int .u8 0) := by
        rw [cell_of_row wr w.heap.size _ _ _ _ hh.out]
        simp [bys, List.getElem?_append, show s - 1 - t.length < s - t.length by omega]
      have hf : wr.frozen? ⟨w.heap.size, s - 1 - t.length, none⟩ = false := frozen_of_row wr _ _ _ _ hh.out
      have hset := heap_setCell_same wr w.heap.size (s - 1 - t.length) _ 5 (.int .u8 ((by8 m).toNat : Int)) hh.out
      have e1 : ((bys (List.replicate (s - t.length) 0 ++ t)).toArray.setIfInBounds (s - 1 - t.length) (.int .u8 ((by8 m).toNat : Int))) = (bys (List.replicate (s - (t.length + 1)) 0 ++ (by8 m :: t))).toArray := by
        rw [List.setIfInBounds_toArray, bys_set]
        congr 2
        rw [List.set_append_left _ _ (by simp; omega)]
        rw [show s - t.length = (s - (t.length + 1)) + 1 by omega, List.replicate_succ', List.set_append_right _ _ (by simp; omega)]
        simp [show s - 1 - t.length - (s - (t.length + 1)) = 0 by omega]
      rw [e1] at hset
      have HS := Lib.hid hset
      have e2 : ((by8 m).toNat : Int) = ((m % 256 : Nat) : Int) := by rw [by8_nat]
      have hx : (((s - 1 - t.length : Nat)) : Int) = (s : Int) - 1 - t.length := by omega
      rw [e2] at HS
      have HB := Lib.hid (by have e := hb.out; rw [show s - t.length = (s - (t.length + 1)) + 1 by omega, beN, List.append_assoc] at e; exact e : beN (s - (t.length + 1)) (m / 256) ++ (by8 m :: t) = beN s n)
      have hx2 : ((s : Int) - 1 - t.length).toNat = s - 1 - t.length := by omega
      clear hset e1 hlen e2
      go_wp2
      exact ⟨⟨m / 256, t.length + 1, by8 m :: t, by omega, by omega, by simp, by go_num, by go_num, HB.out, HS.out, hbel.out.setCell (p := ⟨w.heap.size, _, none⟩) (Nat.le_refl _) _⟩, by simp [intOf]; omega⟩
    · have e0 : s - t.length = 0 := by omega
      go_wp2
      go_ret
      have h1 := hh.out
      have h2 := hb.out
      rw [e0] at h1 h2
      simp only [List.replicate_zero, List.nil_append, beN] at h1 h2
      subst h2
      have hl := beN_len s n
      refine ⟨_, rfl, ⟨by simp [bys_len, hl], .inr ⟨_, s, _, rfl, Nat.le_refl _, h1, Nat.le_refl _, by unfold maxLen; omega, by simp [bys_len, hl], ?_⟩⟩, hbel.out⟩
      simp only [Nat.mul_one]
      rw [List.take_of_length_le (by simp [bys_len, hl])]

set_option maxRecDepth 100000 in
set_option maxHeartbeats 1000000 in
theorem fvar_any (w : World) (n : Nat) (hn : n < 18446744073709551616) :
    Calls Tryd.prog 44 #[.int .u64 n] w fun e w2 => ∃ u, e = .returned u ∧ w2.ownsRow w.heap.size 5 1 u (varB n).length (bys (varB n)) ∧ Below w.heap.size w w2 := by
  have H10 := varB_ten hn
  go_enter Tryd.func44, Tryd.ntmps44
  go_wp2_with fail
  go_loopw [0, 3] (fun nv v wr => ∃ (m : Nat) (d : List UInt8), m ≤ n ∧ d.length ≤ 10 ∧ nv = .int .u64 m ∧ Hid (d ++ varB m = varB n) ∧ Hid (wr.ownsRow w.heap.size 5 1 v d.length (bys d)) ∧ Hid (Below w.heap.size w wr)) (fun nv _ _ => (intOf nv).toNat)
  case atStart => exact ⟨n, [], Nat.le_refl _, Nat.zero_le _, rfl, rfl, World.ownsRow_nil _ _ _ _, Below.refl _ _⟩
  case round =>
    obtain ⟨m, d, hm, hdl, rfl, hd, ho, hb⟩ := hrel
    have hbs := hb.out.size
    by_cases hlt : m < 128
    · have HD := Lib.hid (by have e := hd.out; rw [varB_small hlt] at e; exact e : d ++ [by8 m] = varB n)
      go_wp2_with (at_builtin; refine wpList_app sl22 rfl (.tmp 15) (.tmp 18) rfl w.heap.size u3 _ (bys d) rfl (ho.out.alloc _) (some ⟨wr.heap.size, 0, none⟩) 1 1 (bys [by8 m]) rfl (fun e => by cases e) rfl (B := wr.heap.size + 1) ?_ (bys_one _) (by unfold maxLen; omega) (by omega) (by simp; omega) ?_; rotate_left; intro v2 w2 ho2 ha; have HO := Lib.hid ho2; have HA := Lib.hid ha; clear ho2 ha)
      · go_ret
        have h2 := HO.out
        rw [bys_app, HD.out] at h2
        rw [← HD.out, List.length_append]
        rw [← HD.out] at h2
        exact ⟨v2, rfl, h2, (hb.out.alloc hbs _).trans (below_of_grown HA.out.grown (by simp; omega) (fun k hk => (ho.out.lt k hk).1))⟩
      · have e : (m : Int) = ((by8 m).toNat : Int) := by rw [by8_nat]; omega
        rw [e]
        exact new_rv wr (bys [by8 m]) _ _ rfl
    · have e : (m : Int) % 128 + 128 = ((by8 (m % 128 + 128)).toNat : Int) := by rw [by8_nat]; omega
      have HD := Lib.hid (by have e := hd.out; rw [varB_more (by omega)] at e; exact e : d ++ (by8 (m % 128 + 128) :: varB (m / 128)) = varB n)
      have hdl2 : d.length + 1 ≤ 10 := by have := congrArg List.length HD.out; simp at this; omega
      have E := Lib.hid e
      clear e
      go_wp2_with (at_builtin; refine wpList_app sl22 rfl (.tmp 6) (.tmp 11) rfl w.heap.size u3 _ (bys d) rfl (ho.out.alloc _) (some ⟨wr.heap.size, 0, none⟩) 1 1 (bys [by8 (m % 128 + 128)]) rfl (fun e => by cases e) rfl (B := wr.heap.size + 1) ?_ (bys_one _) (by unfold maxLen; omega) (by omega) (by simp; omega) ?_; rotate_left; intro v2 w2 ho2 ha; have HO := Lib.hid ho2; have HA := Lib.hid ha; clear ho2 ha)
      · go_roundw
        case rel => exact ⟨m / 128, d ++ [by8 (m % 128 + 128)], by omega, by simp; omega, by go_num, by rw [List.append_assoc, List.singleton_append]; exact HD.out, by rw [List.length_append, ← bys_app]; exact HO.out, (hb.out.alloc hbs _).trans (below_of_grown HA.out.grown (by simp; omega) (fun k hk => (ho.out.lt k hk).1))⟩
        case measure => simp [intOf]; omega
      · rw [E.out]
        exact new_rv wr (bys [by8 (m % 128 + 128)]) _ _ rfl

theorem fsame_any {B C : Nat} (w : World) (A D : Option Addr) (c d : Nat) (a b : List UInt8) (ha : Rv B w A (bys a)) (hb : Rv C w D (bys b)) :
    Calls Tryd.prog 11 #[.slice A a.length c, .slice D b.length d] w fun e w2 => e = .returned (.bool (decide (a = b))) ∧ w = w2 := by
  have h1 := conv22 c ha
  have h2 := conv22 d hb
  have e1 : ((bs a).toList == (bs b).toList) = decide (a = b) := by
    rw [str_beq]
    by_cases h : a = b
    · simp [h]
    · rw [decide_eq_false h, decide_eq_false (fun h2 => h (bs_inj h2))]
  go_enter Tryd.func11, Tryd.ntmps11
  go_wp2
  go_ret
  exact ⟨rfl, rfl⟩

set_option maxRecDepth 100000 in
set_option maxHeartbeats 1000000 in
theorem ftext_any (w : World) (m : List UInt8) (hm : m.length ≤ 1000000) :
    Calls Tryd.prog 43 #[.string (bs m)] w fun e w2 => ∃ u, e = .returned u ∧ w2.ownsRow w.heap.size 5 1 u (varB m.length ++ m).length (bys (varB m.length ++ m)) ∧ Below w.heap.size w w2 := by
  have hsz := bs_size m
  have H10 := varB_ten (n := m.length) (by omega)
  have HV := Lib.hid (fvar_any w m.length (by omega))
  go_enter Tryd.func43, Tryd.ntmps43
  go_wp2_with fail
  refine HV.out.mono ?_
  rintro e w2 ⟨u, rfl, ho, hb⟩
  have HO := Lib.hid ho
  have HB := Lib.hid hb
  have hs := hb.size
  clear ho hb HV
  obtain ⟨c, w3, hr, hrv, hg, hcl, hsz3⟩ := run_bytes (P := Tryd.prog) w2 m Tryd.underlying9 Tryd.underlying22 Tryd.underlying5
  have HR := Lib.hid hr
  have HRV := Lib.hid hrv
  have HG := Lib.hid hg
  have hs3 := hg.size
  have HML := Lib.hid (bys_len m)
  clear hr hrv hg hsz3
  go_wp2_with (first | (refine wpList_conv rfl 9 22 (.tmp 7) rfl (.string (bs m)) rfl HR.out ?_) | (at_builtin; refine wpList_app sl22 rfl (.tmp 6) (.tmp 8) rfl w.heap.size u _ (bys (varB m.length)) rfl (HO.out.kept HG.out (by cases u.ownBlock <;> simp)) (some ⟨w2.heap.size, 0, none⟩) m.length c (bys m) rfl (fun e => by cases e) (by rw [HML.out, Nat.mul_one]) HRV.out (bys_one _) (by unfold maxLen; omega) (by omega) (by omega) ?_; intro v2 w4 ho2 ha; have HO2 := Lib.hid ho2; have HA := Lib.hid ha; clear ho2 ha))
  go_ret
  have h2 := HO2.out
  rw [bys_app] at h2
  exact ⟨v2, rfl, by rw [List.length_append]; exact h2, HB.out.trans ((below_of_grown HG.out hs (fun k hk => by cases hk)).trans (below_of_grown HA.out.grown (by omega) (fun k hk => (HO.out.lt k hk).1)))⟩

/-- The slice at A holds slices that hold the bytes ps. -/
def Parts (B : Nat) (w : World) (A : Option Addr) (ps : List (List UInt8)) : Prop :=
  ∃ vs : List Value, vs.length = ps.length ∧ Rv B w A vs ∧ ∀ (k : Nat) (p : List UInt8), ps[k]? = some p → ∃ D d, vs[k]? = some (Value.slice D p.length d) ∧ (D = none → d = 0) ∧ Rv B w D (bys p)
theorem Parts.below {B : Nat} {w w2 : World} {A : Option Addr} {ps : List (List UInt8)} (h : Parts B w A ps) (hb : Below B w w2) : Parts B w2 A ps := by
  obtain ⟨vs, h1, h2, h3⟩ := h
  exact ⟨vs, h1, h2.below hb, fun k p hp => by obtain ⟨D, d, e1, e2, e3⟩ := h3 k p hp; exact ⟨D, d, e1, e2, e3.below hb⟩⟩
set_option maxRecDepth 100000 in
set_option maxHeartbeats 1000000 in
theorem fjoin_any (w : World) (A : Option Addr) (c : Nat) (ps : List (List UInt8)) (h : Parts w.heap.size w A ps) (hps : ps.length ≤ 1000) (hl : ps.flatten.length ≤ 100000000) :
    Calls Tryd.prog 41 #[.slice A ps.length c] w fun e w2 => ∃ u, e = .returned u ∧ w2.ownsRow w.heap.size 5 1 u ps.flatten.length (bys ps.flatten) ∧ Below w.heap.size w w2 := by
  have H := Lib.hid h
  clear h
  go_enter Tryd.func41, Tryd.ntmps41
  go_wp2_with fail
  go_loopw [3, 4] (fun v kv wr => ∃ k : Nat, k ≤ ps.length ∧ kv = .int .i64 k ∧ Hid (wr.ownsRow w.heap.size 5 1 v (ps.take k).flatten.length (bys (ps.take k).flatten)) ∧ Hid (Below w.heap.size w wr)) (fun _ kv _ => ps.length - (intOf kv).toNat)
  case atStart => exact ⟨0, Nat.zero_le _, rfl, World.ownsRow_nil _ _ _ _, Below.refl _ _⟩
  case round =>
    obtain ⟨k, hk, rfl, ho, hb⟩ := hrel
    have hbs := hb.out.size
    by_cases hlt : k < ps.length
    · obtain ⟨vs, e1, e2, e3⟩ := H.out.below hb.out
      obtain ⟨D, d, e4, hD, hrv⟩ := e3 k ps[k] (List.getElem?_eq_getElem hlt)
      obtain ⟨ad, rfl, hadb, hcell⟩ := e2 k _ e4
      have hsn : (ps.take (k + 1)).flatten = (ps.take k).flatten ++ ps[k] := by rw [List.take_succ_eq_append_getElem hlt, List.flatten_append, List.flatten_singleton]
      have hfl : (ps.take (k + 1)).flatten.length ≤ ps.flatten.length := by
        conv => rhs; rw [← List.take_append_drop (k + 1) ps, List.flatten_append, List.length_append]
        omega
      rw [hsn, List.length_append] at hfl
      have HSN := Lib.hid hsn
      have HRV := Lib.hid hrv
      have HD := Lib.hid hD
      clear e1 e2 e3 e4 hsn hrv hD
      generalize ps[k] = p at *
      have HPL := Lib.hid (bys_len p)
      go_wp2_with (at_builtin; refine wpList_app sl22 rfl (.tmp 11) (.tmp 15) rfl w.heap.size u3 _ _ rfl ho.out D p.length d (bys p) rfl HD.out (by rw [HPL.out, Nat.mul_one]) HRV.out (bys_one _) (by unfold maxLen; omega) (by omega) hbs ?_; intro v2 w2 ho2 ha; have HO := Lib.hid ho2; have HA := Lib.hid ha; clear ho2 ha)
      go_roundw
      case rel => exact ⟨k + 1, by omega, by go_num, by rw [HSN.out, List.length_append, ← bys_app]; exact HO.out, hb.out.trans (below_of_grown HA.out.grown hbs (fun k hk => (ho.out.lt k hk).1))⟩
      case measure => simp [intOf]; omega
    · obtain rfl : k = ps.length := by omega
      go_wp2
      go_ret
      exact ⟨u3, rfl, by have := ho.out; rw [List.take_length] at this; exact this, hb.out⟩
end Go.Proofs.YthhmamkphcgocaaDoor

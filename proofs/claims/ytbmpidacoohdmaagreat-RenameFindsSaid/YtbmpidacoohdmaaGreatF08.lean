/- Digits read: rev.Number and sleuthref07.Number, by contracts. A blob's bytes taken apart: object.Split and sleuthref08.Split at what is a blob, by contracts. A blob's bytes taken apart by the document: sleuthref08.Split, by contract. The document's store: what it holds as data; begins, Number, Find, File. -/
import Derived.Test.YtbmpidacoohdmaaGreatF06
import Derived.Test.YtbmpidacoohdmaaGreatF07
import Derived.LoopN
namespace Go.Proofs.YtbmpidacoohdmaaGreat
open Lib renaming hid → hI
open Go.RowKit

theorem numV_take (l : List UInt8) (k : Nat) (h : k < l.length) : numV (l.take (k + 1)) = numV (l.take k) * 10 + ((l.getD k 0).toNat - 48) := by
  rw [List.take_add_one, List.getElem?_eq_getElem h]
  simp only [Option.toList_some, numV_snoc]
  simp [h]
theorem numV_lt (l : List UInt8) (hd : ∀ c ∈ l, 48 ≤ c.toNat ∧ c.toNat ≤ 57) : ∀ k, k ≤ l.length → numV (l.take k) < 10 ^ k
  | 0, _ => by simp [numV]
  | k + 1, h => by
    have ih := numV_lt l hd k (by omega)
    have hc := hd (l.getD k 0) (by simp [show k < l.length by omega])
    rw [numV_take l k (by omega), Nat.pow_succ]
    omega
theorem numV_le (l : List UInt8) (hd : ∀ c ∈ l, 48 ≤ c.toNat ∧ c.toNat ≤ 57) (k : Nat) (hk : k ≤ l.length) (h8 : k ≤ 8) : numV (l.take k) < 100000000 :=
  Nat.lt_of_lt_of_le (numV_lt l hd k hk) (Nat.pow_le_pow_right (by omega) h8 : 10 ^ k ≤ 10 ^ 8)
noncomputable def nub1 : Code := (Tryz.f235.body.bind firstLoop).getD .skip
set_option maxRecDepth 100000 in
set_option maxHeartbeats 1000000 in
theorem number_loop (w : World) (l : List UInt8) (hd : ∀ c ∈ l, 48 ≤ c.toNat ∧ c.toNat ≤ 57) (h8 : l.length ≤ 8) (Q0 : Exit → Act → World → Prop) (z1 z2 z3 z5 z6 z7 z8 z9 z10 z11 z12 z13 z14 z15 z16 z17 z18 z19 z20 z21 z22 z23 z24 z27 z28 z29 z30 z31 z32 z33 z34 z35 z36 z37 z38 z39 z40 z41 z42 z43 z44 z45 z46 z47 z48 : Value)
    (hexit : Hid (∀ y2 y3 y5 y26 y27 y28 y29 y30 y31 y32 y33 y34 y35 y36 y37 y38 y39 y40 y41 y42 y43 y44 y45 y46 y47 : Value, Q0 (.exit 0) ⟨List.toArray ((.string (bs l))::z1::y2::y3::(.int .i64 (numV l : Int))::y5::z6::z7::z8::z9::z10::z11::z12::z13::z14::z15::z16::z17::z18::z19::z20::z21::z22::z23::z24::(.int .i64 (l.length : Int))::y26::y27::y28::y29::y30::y31::y32::y33::y34::y35::y36::y37::y38::y39::y40::y41::y42::y43::y44::y45::y46::y47::z48::[]), []⟩ w)) :
    Code.wp Tryz.prog (Code.loop nub1) Q0 ⟨List.toArray ((.string (bs l))::z1::z2::z3::(.int .i64 (0 : Int))::z5::z6::z7::z8::z9::z10::z11::z12::z13::z14::z15::z16::z17::z18::z19::z20::z21::z22::z23::z24::(.int .i64 (l.length : Int))::(.int .i64 (0 : Int))::z27::z28::z29::z30::z31::z32::z33::z34::z35::z36::z37::z38::z39::z40::z41::z42::z43::z44::z45::z46::z47::z48::[]), []⟩ w := by
  conv => arg 2; arg 1; whnf
  have hsz := bs_size l
  have HD := hI hd
  have HL := hI (fun k hk h => numV_le l hd k hk h)
  clear hd
  go_loop [4, 26] (fun nv kv => ∃ k : Nat, k ≤ l.length ∧ kv = .int .i64 k ∧ nv = .int .i64 (numV (l.take k) : Nat)) (fun _ kv => l.length - (intOf kv).toNat)
  case atStart => exact ⟨0, Nat.zero_le _, rfl, rfl⟩
  case round =>
    obtain ⟨k, hk, rfl, rfl⟩ := hrel
    by_cases hlt : k < l.length
    · have hks : k < (bs l).size := by omega
      have hc := HD.out (l.getD k 0) (by simp [hlt])
      have hv := HL.out k hk (by omega)
      have HN := hI (numV_take l k hlt)
      have hbk := bs_at hks
      generalize l.getD k 0 = c at *
      generalize numV (l.take k) = n at *
      have c1 : (48 : Int) ≤ (c.toNat : Int) := by omega
      have c2 : (c.toNat : Int) ≤ 57 := by omega
      go_wp2_with fail
      exact ⟨⟨k + 1, by omega, by go_num, by rw [HN.out]; exact congrArg (Value.int .i64) (by omega)⟩, by simp [intOf]; omega⟩
    · have hke : k = l.length := by omega
      subst hke
      rw [List.take_length]
      go_wp2_with fail
      exact hexit.out _ _ _ _ _ _ _ _ _ _ _ _ _ _ _ _ _ _ _ _ _ _ _ _ _
set_option maxRecDepth 100000 in
set_option maxHeartbeats 1000000 in
theorem number_any (w : World) (l : List UInt8) (hd : ∀ c ∈ l, 48 ≤ c.toNat ∧ c.toNat ≤ 57) (h0 : 0 < l.length) (h8 : l.length ≤ 8) (hh : 1 < l.length → l.getD 0 0 ≠ 48) :
    Calls Tryz.prog 235 #[.string (bs l)] w fun e w2 => e = .returned (.tuple #[.int .i64 (numV l), .int .i64 0]) ∧ w = w2 := by
  have hsz := bs_size l
  have HD := hI hd
  have hks : 0 < (bs l).size := by omega
  have hz : ((l.length : Int) == 0) = false := beq_eq_false_iff_ne.2 (by omega)
  have hbk := bs_at hks
  generalize l.getD 0 0 = c at *
  clear hd
  by_cases h1 : 1 < l.length
  · have hc : ((c.toNat : Int) == 48) = false := beq_eq_false_iff_ne.2 (fun h => hh h1 (UInt8.toNat_inj.1 (by change _ = 48; omega)))
    go_enter Tryz.func235, Tryz.ntmps235
    go_wp2_with fail
    refine number_loop w l HD.out h8 _ _ _ _ _ _ _ _ _ _ _ _ _ _ _ _ _ _ _ _ _ _ _ _ _ _ _ _ _ _ _ _ _ _ _ _ _ _ _ _ _ _ _ _ _ _ ?_
    refine hI ?_
    intros
    go_wp2_with fail
    go_ret2
    exact ⟨rfl, rfl⟩
  · have h2 : l.length = 1 := by omega
    have H2 := hI h2
    clear h2
    cases hq : ((c.toNat : Int) == 48) with
    | true =>
      go_enter Tryz.func235, Tryz.ntmps235
      go_wp2_with fail
      refine number_loop w l HD.out h8 _ _ _ _ _ _ _ _ _ _ _ _ _ _ _ _ _ _ _ _ _ _ _ _ _ _ _ _ _ _ _ _ _ _ _ _ _ _ _ _ _ _ _ _ _ _ ?_
      refine hI ?_
      intros
      go_wp2_with fail
      go_ret2
      exact ⟨rfl, rfl⟩
    | false =>
      go_enter Tryz.func235, Tryz.ntmps235
      go_wp2_with fail
      refine number_loop w l HD.out h8 _ _ _ _ _ _ _ _ _ _ _ _ _ _ _ _ _ _ _ _ _ _ _ _ _ _ _ _ _ _ _ _ _ _ _ _ _ _ _ _ _ _ _ _ _ _ ?_
      refine hI ?_
      intros
      go_wp2_with fail
      go_ret2
      exact ⟨rfl, rfl⟩
noncomputable def nub2 : Code := (Tryz.f190.body.bind firstLoop).getD .skip
set_option maxRecDepth 100000 in
set_option maxHeartbeats 1000000 in
theorem fnumber_loop (w : World) (l : List UInt8) (hd : ∀ c ∈ l, 48 ≤ c.toNat ∧ c.toNat ≤ 57) (h8 : l.length ≤ 8) (Q0 : Exit → Act → World → Prop) (z1 z2 z3 z6 z7 z8 z9 z10 z11 z12 z13 z14 z15 z16 z17 z18 z19 z20 z21 z22 z23 z24 z25 z26 z27 z28 z29 z30 z31 z32 z33 z34 z35 z36 z37 z38 z39 z40 z41 z42 z43 z44 z45 z46 z47 z48 : Value)
    (hexit : Hid (∀ y2 y3 y5 y24 y25 y26 y27 y28 y29 y30 y31 y32 y33 y34 y35 y36 y37 y38 y39 y40 y41 y42 y43 y44 y45 y46 y47 : Value, Q0 (.exit 0) ⟨List.toArray ((.string (bs l))::z1::y2::y3::(.int .i64 (numV l : Int))::y5::z6::z7::z8::z9::z10::z11::z12::z13::z14::z15::z16::z17::z18::z19::z20::z21::z22::z23::y24::y25::y26::y27::y28::y29::y30::y31::y32::y33::y34::y35::y36::y37::y38::y39::y40::y41::y42::y43::y44::y45::y46::y47::z48::[]), []⟩ w)) :
    Code.wp Tryz.prog (Code.loop nub2) Q0 ⟨List.toArray ((.string (bs l))::z1::z2::z3::(.int .i64 (0 : Int))::(.int .i64 (0 : Int))::z6::z7::z8::z9::z10::z11::z12::z13::z14::z15::z16::z17::z18::z19::z20::z21::z22::z23::z24::z25::z26::z27::z28::z29::z30::z31::z32::z33::z34::z35::z36::z37::z38::z39::z40::z41::z42::z43::z44::z45::z46::z47::z48::[]), []⟩ w := by
  conv => arg 2; arg 1; whnf
  have hsz := bs_size l
  have HD := hI hd
  have HL := hI (fun k hk h => numV_le l hd k hk h)
  clear hd
  go_loop [4, 5] (fun nv kv => ∃ k : Nat, k ≤ l.length ∧ kv = .int .i64 k ∧ nv = .int .i64 (numV (l.take k) : Nat)) (fun _ kv => l.length - (intOf kv).toNat)
  case atStart => exact ⟨0, Nat.zero_le _, rfl, rfl⟩
  case round =>
    obtain ⟨k, hk, rfl, rfl⟩ := hrel
    by_cases hlt : k < l.length
    · have hks : k < (bs l).size := by omega
      have hc := HD.out (l.getD k 0) (by simp [hlt])
      have hv := HL.out k hk (by omega)
      have HN := hI (numV_take l k hlt)
      have hbk := bs_at hks
      generalize l.getD k 0 = c at *
      generalize numV (l.take k) = n at *
      have c1 : (48 : Int) ≤ (c.toNat : Int) := by omega
      have c2 : (c.toNat : Int) ≤ 57 := by omega
      go_wp2_with fail
      exact ⟨⟨k + 1, by omega, by go_num, by rw [HN.out]; exact congrArg (Value.int .i64) (by omega)⟩, by simp [intOf]; omega⟩
    · have hke : k = l.length := by omega
      subst hke
      rw [List.take_length]
      go_wp2_with fail
      exact hexit.out _ _ _ _ _ _ _ _ _ _ _ _ _ _ _ _ _ _ _ _ _ _ _ _ _ _ _
set_option maxRecDepth 100000 in
set_option maxHeartbeats 1000000 in
theorem fnumber_any (w : World) (l : List UInt8) (hd : ∀ c ∈ l, 48 ≤ c.toNat ∧ c.toNat ≤ 57) (h0 : 0 < l.length) (h8 : l.length ≤ 8) (hh : 1 < l.length → l.getD 0 0 ≠ 48) :
    Calls Tryz.prog 190 #[.string (bs l)] w fun e w2 => e = .returned (.tuple #[.int .i64 (numV l), .int .i64 0]) ∧ w = w2 := by
  have hsz := bs_size l
  have HD := hI hd
  have hks : 0 < (bs l).size := by omega
  have hz : ((l.length : Int) == 0) = false := beq_eq_false_iff_ne.2 (by omega)
  have hbk := bs_at hks
  generalize l.getD 0 0 = c at *
  clear hd
  by_cases h1 : 1 < l.length
  · have hc : ((c.toNat : Int) == 48) = false := beq_eq_false_iff_ne.2 (fun h => hh h1 (UInt8.toNat_inj.1 (by change _ = 48; omega)))
    go_enter Tryz.func190, Tryz.ntmps190
    go_wp2_with fail
    refine fnumber_loop w l HD.out h8 _ _ _ _ _ _ _ _ _ _ _ _ _ _ _ _ _ _ _ _ _ _ _ _ _ _ _ _ _ _ _ _ _ _ _ _ _ _ _ _ _ _ _ _ _ _ _ ?_
    refine hI ?_
    intros
    go_wp2_with fail
    go_ret2
    exact ⟨rfl, rfl⟩
  · have h2 : l.length = 1 := by omega
    have H2 := hI h2
    clear h2
    cases hq : ((c.toNat : Int) == 48) with
    | true =>
      go_enter Tryz.func190, Tryz.ntmps190
      go_wp2_with fail
      refine fnumber_loop w l HD.out h8 _ _ _ _ _ _ _ _ _ _ _ _ _ _ _ _ _ _ _ _ _ _ _ _ _ _ _ _ _ _ _ _ _ _ _ _ _ _ _ _ _ _ _ _ _ _ _ ?_
      refine hI ?_
      intros
      go_wp2_with fail
      go_ret2
      exact ⟨rfl, rfl⟩
    | false =>
      go_enter Tryz.func190, Tryz.ntmps190
      go_wp2_with fail
      refine fnumber_loop w l HD.out h8 _ _ _ _ _ _ _ _ _ _ _ _ _ _ _ _ _ _ _ _ _ _ _ _ _ _ _ _ _ _ _ _ _ _ _ _ _ _ _ _ _ _ _ _ _ _ _ ?_
      refine hI ?_
      intros
      go_wp2_with fail
      go_ret2
      exact ⟨rfl, rfl⟩
end Go.Proofs.YtbmpidacoohdmaaGreat
namespace Go.Proofs.YtbmpidacoohdmaaGreat
open Lib renaming hid → hI
open Go.RowKit

theorem idx_app (c : UInt8) (r : List UInt8) : ∀ (a : List UInt8), (∀ x ∈ a, x ≠ c) → Lib.indexByte (a ++ c :: r) c = a.length
  | [], _ => by simp [Lib.indexByte]
  | x :: a, h => by
    have ih := idx_app c r a (fun y hy => h y (by simp [hy]))
    have hx := h x (by simp)
    simp only [List.cons_append, Lib.indexByte, ih]
    simp [hx]
theorem bs_ext (l : List UInt8) (i j : Nat) : (bs l).extract i j = bs ((l.drop i).take (j - i)) := by
  apply ByteArray.ext
  simp [bs, ByteArray.data_extract, List.extract_eq_take_drop]
attribute [local go_sem] bs_append bs_size
set_option maxHeartbeats 1000000 in
theorem kind1 (w : World) : Calls Tryz.prog 270 #[.string (bs [98, 108, 111, 98])] w fun e w2 => e = .returned (.int .i64 1) ∧ w = w2 := by
  go_enter Tryz.func270, Tryz.ntmps270
  go_wp2_with fail
  refine wp_loop_rounds 1 ?_
  rw [rounds_succ]
  go_wp2_with (go_at_call 146; refine (word1 _).mono ?_; rintro e w2 ⟨rfl, rfl⟩)
  go_ret
  exact ⟨rfl, rfl⟩
set_option maxRecDepth 100000 in
set_option maxHeartbeats 1000000 in
theorem cut_any (w : World) (a r : List UInt8) (ha : ∀ x ∈ a, x ≠ 32) (hl : a.length + r.length ≤ 1000000) :
    Calls Tryz.prog 322 #[.string (bs (a ++ 32 :: r)), .string ⟨#[32]⟩] w fun e w2 => e = .returned (.tuple #[.string (bs a), .string (bs r), .bool true]) ∧ ∃ n, w2 = w.drewN n := by
  have hix := Tryz.stringslite_Index_one (bs (a ++ 32 :: r)) 32 w
  rw [bs_list, idx_app 32 r a ha] at hix
  have HIX := hI hix
  clear hix
  have hsz : (bs (a ++ 32 :: r)).size = a.length + (r.length + 1) := by rw [bs_size]; simp
  go_enter Tryz.func322, Tryz.ntmps322
  go_wp2_with fail
  refine HIX.out.mono ?_
  rintro en w2 ⟨rfl, rfl⟩
  have e1 : (bs (a ++ 32 :: r)).extract 0 a.length = bs a := by rw [bs_ext]; simp
  have e2 : (bs (a ++ 32 :: r)).extract (a.length + 1) (a.length + (r.length + 1)) = bs r := by
    have hdr : (a ++ 32 :: r).drop (a.length + 1) = r := by
      rw [show a ++ 32 :: r = (a ++ [32]) ++ r by simp]
      exact List.drop_left' (by simp)
    rw [bs_ext, hdr, List.take_of_length_le (by omega)]
  have y1 : IntKind.i64.wrap ((a.length : Int) + 1) = (a.length : Int) + 1 := IntWalk.i64_in _ (by omega)
  have y2 : (0 : Int) ≤ (a.length : Int) + 1 := by omega
  have y3 : ((a.length : Int) + 1).toNat = a.length + 1 := by omega
  generalize bs (a ++ 32 :: r) = s at *
  generalize a.length = n at *
  generalize r.length = m at *
  have y4 : (n : Int) + 1 ≤ ((n + (m + 1) : Nat) : Int) := by omega
  have y5 : (n : Int) ≤ ((n + (m + 1) : Nat) : Int) := by omega
  go_wp2_with fail
  refine wp_region_quiet_lit (by kernel_rfl) (by kernel_rfl) ?_
  repeat (go_big_quiet_step (fail))
  refine wpQuiet_nil ?_
  rintro _ ⟨k, rfl⟩
  go_wp2_with fail
  go_ret3
  exact ⟨rfl, k, rfl⟩
set_option maxHeartbeats 1000000 in
theorem scut_any (w : World) (a r : List UInt8) (ha : ∀ x ∈ a, x ≠ 32) (hl : a.length + r.length ≤ 1000000) :
    Calls Tryz.prog 269 #[.string (bs (a ++ 32 :: r)), .string ⟨#[32]⟩] w fun e w2 => e = .returned (.tuple #[.string (bs a), .string (bs r), .bool true]) ∧ ∃ n, w2 = w.drewN n := by
  have HC := hI (cut_any w a r ha hl)
  generalize bs (a ++ 32 :: r) = s at *
  go_enter Tryz.func269, Tryz.ntmps269
  go_wp2_with (go_at_call 322; refine HC.out.mono ?_; rintro e w2 ⟨rfl, n, rfl⟩)
  go_ret3
  exact ⟨rfl, _, rfl⟩
theorem run_nil57 (A : Option Addr) (l c : Nat) (W : World) : (binOp .eql 57 (.slice A l c) (.slice none 0 0)).run Tryz.prog W = .ok (.bool A.isNone) W := by
  simp only [binOp]
  simp [Op.equal, Op.maxDepth, Lib.run_equalIn_slice_nil W 9999 57 5 A l c 0 0 Tryz.underlying57]
attribute [local go_sem ↓] run_nil57
set_option maxRecDepth 100000 in
set_option maxHeartbeats 1000000 in
theorem clone_bytes (w : World) (ad : Addr) (c : Nat) (l : List UInt8) (h : Rv w.heap.size w (some ad) (bys l)) (hl : l.length ≤ 1000000) :
    Calls Tryz.prog 271 #[.slice (some ad) l.length c] w fun e w2 => ∃ u, e = .returned u ∧ Ows w2 w.heap.size 5 u (bys l) ∧ Below w.heap.size w w2 := by
  have H := hI h
  have O1 : Hid (Ows (w.alloc (.cells #[] 5)) w.heap.size 5 (.slice (some ⟨w.heap.size, 0, none⟩) 0 0) []) := hI (Ows.of (World.ownsRow_made w #[] 0 (Nat.le_refl _) (by unfold maxLen; omega) rfl))
  have B1 := hI ((Below.refl w.heap.size w).alloc (Nat.le_refl _) (.cells #[] 5))
  have HL := hI (bys_len l)
  have HN := hI (List.nil_append (bys l))
  clear h
  go_enter Tryz.func271, Tryz.ntmps271
  go_wp2_with (at_builtin; refine wpList_aps sl22 rfl (.tmp 5) (.tmp 6) rfl w.heap.size _ [] rfl O1.out (some ad) l.length c (bys l) rfl (fun e => by cases e) HL.out (H.out.below B1.out) (bys_one _) (by unfold maxLen; simp; omega) (by simp; omega) B1.out.size ?_; intro v2 w2 ho hg; rw [HN.out] at ho; have O2 := hI ho; have B2 := hI (B1.out.trans (below_of_grown hg B1.out.size (fun k hk => (O1.out.lt hk).1))); clear ho hg)
  go_ret
  exact ⟨v2, rfl, O2.out, B2.out⟩
theorem hdB_no (n : Nat) : ∀ x ∈ hdB n, x ≠ 0 := by
  intro x hx e
  subst e
  simp only [hdB, List.mem_cons] at hx
  rcases hx with h | h | h | h | h | h
  · cases h
  · cases h
  · cases h
  · cases h
  · cases h
  · have := decB_dig n 0 h
    change 48 ≤ 0 ∧ _ at this
    omega
set_option maxRecDepth 100000 in
set_option maxHeartbeats 1000000 in
theorem split_any (w : World) (g c : Nat) (body : List UInt8) (h : Rv w.heap.size w (some ⟨g, 0, none⟩) (bys (objB body))) (hl : body.length ≤ 400) (hc : (objB body).length ≤ c) :
    Calls Tryz.prog 201 #[.slice (some ⟨g, 0, none⟩) (objB body).length c] w fun e w2 => ∃ u, e = .returned (.tuple #[.int .i64 1, u, .int .i64 0]) ∧ Ows w2 w.heap.size 5 u (bys body) ∧ Below w.heap.size w w2 := by
  have H := hI h
  have hp := hdB_len hl
  have hd3 := decB_len (n := body.length) (by omega)
  have hd0 := decB_pos body.length
  have hlen : (objB body).length = (hdB body.length).length + 1 + body.length := by simp [objB]; omega
  have hpl : (hdB body.length).length = 5 + (decB body.length).length := by simp [hdB]; omega
  have htk : (objB body).take (hdB body.length).length = hdB body.length := by simp [objB]
  have hdr : (objB body).drop ((hdB body.length).length + 1) = body := by
    rw [show objB body = (hdB body.length ++ [0]) ++ body by simp [objB]]
    exact List.drop_left' (by simp)
  obtain ⟨m, hm⟩ : ∃ m, min 20 (objB body).length = m := ⟨_, rfl⟩
  have hmp : (hdB body.length).length + 1 ≤ m := by omega
  have hix := Tryz.bytes_IndexByte g 0 m c (((objB body).take m).map fun x => (x.toNat : Int)) 0 w (by simp; omega) (fun i hi => by
    obtain ⟨ad, e, _, hcell⟩ := h.at_ (bys_at (l := objB body) (k := i) (by omega))
    cases e
    rw [Addr.add_lit] at hcell
    rw [hcell]
    simp [hi, show i < (objB body).length by omega])
  have hix2 : Lib.indexByte (Lib.bytesOf (((objB body).take m).map fun x => (x.toNat : Int))) (Int.toNat 0).toUInt8 = (hdB body.length).length := by
    have e1 : Lib.bytesOf (((objB body).take m).map fun x => (x.toNat : Int)) = (objB body).take m := by
      simp only [Lib.bytesOf, List.map_map]
      rw [List.map_congr_left (g := id) (fun x _ => by simp)]
      simp
    have e2 : (objB body).take m = hdB body.length ++ 0 :: (body.take (m - ((hdB body.length).length + 1))) := by
      rw [show objB body = (hdB body.length ++ [0]) ++ body by simp [objB], List.take_append]
      simp only [List.length_append, List.length_singleton]
      rw [List.take_of_length_le (by simp; omega)]
      simp
    rw [e1, e2]
    exact idx_app 0 _ _ (hdB_no _)
  rw [hix2] at hix
  have HIX := hI hix
  have HM := hI hmp
  clear hix hix2
  have HD := hI (rv_cut H.out (c := c) hc ((hdB body.length).length + 1) body.length (by omega))
  rw [hdr, List.take_of_length_le (Nat.le_refl _)] at HD
  have HP : Hid (Rv w.heap.size w (some ⟨g, 0, none⟩) (bys (hdB body.length))) := hI fun k x hx => H.out k x (by
    rw [show objB body = hdB body.length ++ ([0] ++ body) by simp [objB], ← bys_app, List.getElem?_append_left (List.getElem?_eq_some_iff.1 hx).1]
    exact hx)
  have hcv := conv22 c HP.out
  have HS := hI (scut_any w [98, 108, 111, 98] (decB body.length) (by decide) (by simp; omega))
  have hhd : hdB body.length = [98, 108, 111, 98] ++ 32 :: decB body.length := by simp [hdB]
  rw [← hhd] at HS
  have HN := hI (fun W => number_any W (decB body.length) (decB_dig _) hd0 (by omega) (decB_head _))
  have hv := numV_dec body.length
  rw [hv] at HN
  obtain ⟨AB, hAB⟩ : ∃ AB : Addr, (if c = (hdB body.length).length + 1 then some (⟨g, 0, none⟩ : Addr) else some ⟨g, (hdB body.length).length + 1, none⟩) = some AB := by
    split <;> exact ⟨_, rfl⟩
  rw [Option.map_some, Addr.add_lit, Nat.zero_add, hAB] at HD
  clear hhd hdr htk hd3 hd0 hpl h hv hp
  generalize (objB body).length = L at *
  have hsz := bs_size (hdB body.length)
  generalize (hdB body.length).length = p at *
  have hm2 : m ≤ L := by omega
  have hm3 : m ≤ 20 := by omega
  have y1 : IntKind.i64.wrap ((p : Int) + 1) = (p : Int) + 1 := IntWalk.i64_in _ (by omega)
  have y3 : ((p : Int) + 1).toNat = p + 1 := by omega
  have y4 : L - (p + 1) = body.length := by omega
  have hm4 : (min (20 : Int) ((p : Int) + 1 + (body.length : Int))).toNat = m := by omega
  go_enter Tryz.func201, Tryz.ntmps201
  go_wp2_with fail
  refine HIX.out.mono ?_
  rintro en w2 ⟨rfl, rfl⟩
  clear HIX H HP
  go_wp2_with (first
    | (go_at_call 269; refine HS.out.mono ?_; rintro e w3 ⟨rfl, n, rfl⟩; clear HS hcv)
    | (go_at_call 270; refine (kind1 _).mono ?_; rintro e w4 ⟨rfl, rfl⟩)
    | (go_at_call 235; refine (HN.out _).mono ?_; rintro e w5 ⟨rfl, rfl⟩)
    | (go_at_call 145; refine (check1 _ _ _ _ (by omega)).mono ?_; rintro e w6 ⟨rfl, hb6⟩; have HB6 : Hid (Below w2.heap.size w2 w6) := hI ((below_dr (Below.refl _ _) n).trans hb6); clear hb6)
    | (go_at_call 271; refine (clone_bytes _ _ _ body (HD.out.low HB6.out HB6.out.size) (by omega)).mono ?_; rintro e w7 ⟨u, rfl, ho, hb7⟩; have HO := hI ho; have HB7 := hI hb7; clear ho hb7))
  go_ret3
  exact ⟨u, rfl, HO.out.less HB6.out.size, HB6.out.trans (HB7.out.mono HB6.out.size)⟩
end Go.Proofs.YtbmpidacoohdmaaGreat
namespace Go.Proofs.YtbmpidacoohdmaaGreat
open Lib renaming hid → hI
open Go.RowKit Op

def loopsIn : Code → List Code
  | .loop c => [c]
  | .seq a b => loopsIn a ++ loopsIn b
  | .block _ c => loopsIn c
  | .scope c => loopsIn c
  | .cond _ a b => loopsIn a ++ loopsIn b
  | _ => []
theorem objB_at {body : List UInt8} {k : Nat} (h : k < (hdB body.length).length) : (objB body).getD k 0 = (hdB body.length).getD k 0 := by
  rw [show objB body = hdB body.length ++ ([0] ++ body) by simp [objB]]
  simp [List.getElem?_append_left h, h]
theorem objB_zero (body : List UInt8) : (objB body).getD (hdB body.length).length 0 = 0 := by
  rw [show objB body = hdB body.length ++ ([0] ++ body) by simp [objB]]
  simp
theorem objB_len (body : List UInt8) : (objB body).length = (hdB body.length).length + 1 + body.length := by simp [objB]; omega
theorem rv_cell {B : Nat} {w : World} {g : Nat} {l : List UInt8} (h : Rv B w (some ⟨g, 0, none⟩) (bys l)) {k : Nat} (hk : k < l.length) : w.cell? ⟨g, k, none⟩ = some (.int .u8 ((l.getD k 0).toNat : Int)) := by
  obtain ⟨ad, e, _, hcell⟩ := h.at_ (bys_at hk)
  cases e
  rw [Addr.add_lit, Nat.zero_add] at hcell
  exact hcell
noncomputable def spf_at_code : Code := ((Tryz.f132.body.map loopsIn).getD []).getD 0 .skip
noncomputable def spf_gap_code : Code := ((Tryz.f132.body.map loopsIn).getD []).getD 1 .skip
set_option maxRecDepth 100000 in
set_option maxHeartbeats 1000000 in
theorem spf_at (w : World) (g c : Nat) (body : List UInt8) (h : Rv w.heap.size w (some ⟨g, 0, none⟩) (bys (objB body))) (hl : body.length ≤ 400) (Q0 : Exit → Act → World → Prop) (z1 z2 z3 z4 z6 z7 z8 z9 z10 z11 z12 z13 z14 z15 z16 z17 z18 z19 z20 z21 z22 z23 z24 z25 z26 z27 z28 z29 z30 z31 z32 z33 z34 z35 z36 z37 z38 z39 z40 z41 z42 z43 z44 z45 z46 z47 z48 z49 z50 z51 z52 z53 z54 z55 z56 z57 z58 z59 z60 z61 z62 z63 z64 z65 z66 z67 z68 z69 z70 z71 z72 z73 z74 z75 z76 z77 z78 z79 z80 z81 z82 z83 z84 z85 z86 z87 z88 z89 z90 z91 z92 z93 z94 z95 z96 z97 z98 z99 z100 z101 z102 : Value)
    (hexit : Hid (∀ (y11 y12 y13 y14 y15 y16 y17 y18 y19 y20 y21 y22 y23 y24 y25 y26 y27 : Value), Q0 (.exit 0) ⟨List.toArray ((.slice (some ⟨g, 0, none⟩) (objB body).length c)::z1::z2::z3::z4::(.int .i64 ((hdB body.length).length : Int))::z6::z7::z8::z9::z10::y11::y12::y13::y14::y15::y16::y17::y18::y19::y20::y21::y22::y23::y24::y25::y26::y27::z28::z29::z30::z31::z32::z33::z34::z35::z36::z37::z38::z39::z40::z41::z42::z43::z44::z45::z46::z47::z48::z49::z50::z51::z52::z53::z54::z55::z56::z57::z58::z59::z60::z61::z62::z63::z64::z65::z66::z67::z68::z69::z70::z71::z72::z73::z74::z75::z76::z77::z78::z79::z80::z81::z82::z83::z84::z85::z86::z87::z88::z89::z90::z91::z92::z93::z94::z95::z96::z97::z98::z99::z100::z101::z102::[]), []⟩ w)) :
    Code.wp Tryz.prog (Code.loop spf_at_code) Q0 ⟨List.toArray ((.slice (some ⟨g, 0, none⟩) (objB body).length c)::z1::z2::z3::z4::(.int .i64 (0 : Int))::z6::z7::z8::z9::z10::z11::z12::z13::z14::z15::z16::z17::z18::z19::z20::z21::z22::z23::z24::z25::z26::z27::z28::z29::z30::z31::z32::z33::z34::z35::z36::z37::z38::z39::z40::z41::z42::z43::z44::z45::z46::z47::z48::z49::z50::z51::z52::z53::z54::z55::z56::z57::z58::z59::z60::z61::z62::z63::z64::z65::z66::z67::z68::z69::z70::z71::z72::z73::z74::z75::z76::z77::z78::z79::z80::z81::z82::z83::z84::z85::z86::z87::z88::z89::z90::z91::z92::z93::z94::z95::z96::z97::z98::z99::z100::z101::z102::[]), []⟩ w := by
  conv => arg 2; arg 1; whnf
  have H := hI h
  have hp := hdB_len hl
  have hlen := objB_len body
  have HC : Hid (∀ k, k < (hdB body.length).length → w.cell? ⟨g, k, none⟩ = some (.int .u8 (((hdB body.length).getD k 0).toNat : Int)) ∧ (hdB body.length).getD k 0 ≠ 0) := hI fun k hk => by
    refine ⟨?_, ?_⟩
    · rw [← objB_at hk]; exact rv_cell h (by omega)
    · rw [List.getD_eq_getElem?_getD, List.getElem?_eq_getElem hk]; exact hdB_no _ _ (List.getElem_mem hk)
  have hz : w.cell? ⟨g, (hdB body.length).length, none⟩ = some (.int .u8 0) := by
    have := rv_cell h (k := (hdB body.length).length) (by omega)
    rw [objB_zero] at this
    exact this
  have hpl : (hdB body.length).length < (objB body).length := by omega
  have hL : (objB body).length < 500 := by omega
  clear h hlen
  generalize (objB body).length = L at *
  generalize hdB body.length = hd at *
  go_loop [5] (fun kv => ∃ k : Nat, k ≤ hd.length ∧ kv = .int .i64 k) (fun kv => hd.length - (intOf kv).toNat)
  case atStart => exact ⟨0, Nat.zero_le _, rfl⟩
  case round =>
    obtain ⟨k, hk, rfl⟩ := hrel
    by_cases hlt : k < hd.length
    · obtain ⟨hc, hne⟩ := HC.out k hlt
      have hne2 : (((hd.getD k 0).toNat : Int) == 0) = false := beq_eq_false_iff_ne.2 (fun h => hne (UInt8.toNat_inj.1 (by change _ = 0; omega)))
      clear hne
      generalize hd.getD k 0 = x at *
      go_wp2_with fail
      exact ⟨⟨k + 1, by omega, by go_num⟩, by simp [intOf]; omega⟩
    · have hke : k = hd.length := by omega
      subst hke
      go_wp2_with fail
      exact hexit.out _ _ _ _ _ _ _ _ _ _ _ _ _ _ _ _ _
set_option maxRecDepth 100000 in
set_option maxHeartbeats 1000000 in
theorem spf_gap (w : World) (g c : Nat) (body : List UInt8) (h : Rv w.heap.size w (some ⟨g, 0, none⟩) (bys (objB body))) (hl : body.length ≤ 400) (Q0 : Exit → Act → World → Prop) (z1 z2 z3 z4 z7 z8 z9 z10 z11 z12 z13 z14 z15 z16 z17 z18 z19 z20 z21 z22 z23 z24 z25 z26 z27 z28 z29 z30 z31 z32 z33 z34 z35 z36 z37 z38 z39 z40 z41 z42 z43 z44 z45 z46 z47 z48 z49 z50 z51 z52 z53 z54 z55 z56 z57 z58 z59 z60 z61 z62 z63 z64 z65 z66 z67 z68 z69 z70 z71 z72 z73 z74 z75 z76 z77 z78 z79 z80 z81 z82 z83 z84 z85 z86 z87 z88 z89 z90 z91 z92 z93 z94 z95 z96 z97 z98 z99 z100 z101 z102 : Value)
    (hexit : Hid (∀ (y36 y37 y38 y39 y40 y41 y42 y43 y44 y45 y46 y47 : Value), Q0 (.exit 2) ⟨List.toArray ((.slice (some ⟨g, 0, none⟩) (objB body).length c)::z1::z2::z3::z4::(.int .i64 ((hdB body.length).length : Int))::(.int .i64 (4 : Int))::z7::z8::z9::z10::z11::z12::z13::z14::z15::z16::z17::z18::z19::z20::z21::z22::z23::z24::z25::z26::z27::z28::z29::z30::z31::z32::z33::z34::z35::y36::y37::y38::y39::y40::y41::y42::y43::y44::y45::y46::y47::z48::z49::z50::z51::z52::z53::z54::z55::z56::z57::z58::z59::z60::z61::z62::z63::z64::z65::z66::z67::z68::z69::z70::z71::z72::z73::z74::z75::z76::z77::z78::z79::z80::z81::z82::z83::z84::z85::z86::z87::z88::z89::z90::z91::z92::z93::z94::z95::z96::z97::z98::z99::z100::z101::z102::[]), []⟩ w)) :
    Code.wp Tryz.prog (Code.loop spf_gap_code) Q0 ⟨List.toArray ((.slice (some ⟨g, 0, none⟩) (objB body).length c)::z1::z2::z3::z4::(.int .i64 ((hdB body.length).length : Int))::(.int .i64 (0 : Int))::z7::z8::z9::z10::z11::z12::z13::z14::z15::z16::z17::z18::z19::z20::z21::z22::z23::z24::z25::z26::z27::z28::z29::z30::z31::z32::z33::z34::z35::z36::z37::z38::z39::z40::z41::z42::z43::z44::z45::z46::z47::z48::z49::z50::z51::z52::z53::z54::z55::z56::z57::z58::z59::z60::z61::z62::z63::z64::z65::z66::z67::z68::z69::z70::z71::z72::z73::z74::z75::z76::z77::z78::z79::z80::z81::z82::z83::z84::z85::z86::z87::z88::z89::z90::z91::z92::z93::z94::z95::z96::z97::z98::z99::z100::z101::z102::[]), []⟩ w := by
  conv => arg 2; arg 1; whnf
  have H := hI h
  have hp := hdB_len hl
  have hlen := objB_len body
  have hh : 4 < (hdB body.length).length := by simp [hdB]
  have HC : Hid (∀ k, k ≤ 4 → w.cell? ⟨g, k, none⟩ = some (.int .u8 (([98, 108, 111, 98, 32].getD k 0 : UInt8).toNat : Int))) := hI fun k hk => by
    have := rv_cell h (k := k) (by omega)
    rw [objB_at (by omega)] at this
    rw [this]
    rcases k with _ | _ | _ | _ | _ | k
    all_goals first | rfl | omega
  have hpl : (hdB body.length).length < (objB body).length := by omega
  have hL : (objB body).length < 500 := by omega
  clear h hlen
  generalize (objB body).length = L at *
  generalize (hdB body.length).length = p at *
  go_loop [6] (fun kv => ∃ k : Nat, k ≤ 4 ∧ kv = .int .i64 k) (fun kv => 4 - (intOf kv).toNat)
  case atStart => exact ⟨0, Nat.zero_le _, rfl⟩
  case round =>
    obtain ⟨k, hk, rfl⟩ := hrel
    have hk5 : k = 0 ∨ k = 1 ∨ k = 2 ∨ k = 3 ∨ k = 4 := by omega
    rcases hk5 with rfl | rfl | rfl | rfl | rfl
    · have hc : w.cell? ⟨g, 0, none⟩ = some (.int .u8 98) := HC.out 0 (by omega)
      go_wp2_with fail
      exact ⟨⟨1, by omega, by go_num⟩, by simp [intOf]⟩
    · have hc : w.cell? ⟨g, 1, none⟩ = some (.int .u8 108) := HC.out 1 (by omega)
      go_wp2_with fail
      exact ⟨⟨2, by omega, by go_num⟩, by simp [intOf]⟩
    · have hc : w.cell? ⟨g, 2, none⟩ = some (.int .u8 111) := HC.out 2 (by omega)
      go_wp2_with fail
      exact ⟨⟨3, by omega, by go_num⟩, by simp [intOf]⟩
    · have hc : w.cell? ⟨g, 3, none⟩ = some (.int .u8 98) := HC.out 3 (by omega)
      go_wp2_with fail
      exact ⟨⟨4, by omega, by go_num⟩, by simp [intOf]⟩
    have hc : w.cell? ⟨g, 4, none⟩ = some (.int .u8 32) := HC.out 4 (by omega)
    go_wp2_with fail
    exact hexit.out _ _ _ _ _ _ _ _ _ _ _ _
set_option maxRecDepth 100000 in
set_option maxHeartbeats 1000000 in
theorem fkind1 (w : World) : Calls Tryz.prog 189 #[.string (bs [98, 108, 111, 98])] w fun e w2 => e = .returned (.int .i64 1) ∧ Below w.heap.size w w2 := by
  have hc : (w.alloc (.cells wordsA 9)).cell? ⟨w.heap.size, 0, none⟩ = some (.string (bs [98, 108, 111, 98])) := by
    rw [cell_of_row _ _ _ _ _ _ (heap_alloc_new w _)]; rfl
  have HB := hI ((Below.refl w.heap.size w).alloc (Nat.le_refl _) (.cells wordsA 9))
  go_enter Tryz.func189, Tryz.ntmps189
  go_wp2_with fail
  refine wp_loop_rounds 1 ?_
  rw [rounds_succ]
  go_wp2_with (go_at_call 217; refine (fwords _).mono ?_; rintro e w2 ⟨rfl, hw2⟩; subst hw2)
  go_ret
  exact ⟨rfl, HB.out⟩
set_option maxRecDepth 100000 in
set_option maxHeartbeats 1000000 in
theorem fsplit_any (w : World) (g c : Nat) (body : List UInt8) (h : Rv w.heap.size w (some ⟨g, 0, none⟩) (bys (objB body))) (hc : (objB body).length ≤ c) (hl : body.length ≤ 400) :
    Calls Tryz.prog 132 #[(.slice (some ⟨g, 0, none⟩) (objB body).length c)] w fun e w2 => ∃ u, e = .returned (.tuple #[.int .i64 1, u, .int .i64 0]) ∧ Ows w2 w.heap.size 5 u (bys body) ∧ Below w.heap.size w w2 := by
  have H := hI h
  have hp := hdB_len hl
  have hd3 := decB_len (n := body.length) (by omega)
  have hd0 := decB_pos body.length
  have hlen := objB_len body
  have hpl : (hdB body.length).length = 5 + (decB body.length).length := by simp [hdB]; omega
  have hdr : (objB body).drop ((hdB body.length).length + 1) = body := by
    rw [show objB body = (hdB body.length ++ [0]) ++ body by simp [objB]]
    exact List.drop_left' (by simp)
  have hdr5 : ((objB body).drop 5).take (decB body.length).length = decB body.length := by simp [objB, hdB]
  have htk4 : (objB body).take 4 = [98, 108, 111, 98] := by simp [objB, hdB]
  have HD := hI (rv_cut H.out (c := c) hc ((hdB body.length).length + 1) body.length (by omega))
  rw [hdr, List.take_of_length_le (Nat.le_refl _)] at HD
  have HP := hI (rv_cut H.out (c := c) hc 0 4 (by omega))
  have HQ := hI (rv_cut H.out (c := c) hc 5 (decB body.length).length (by omega))
  rw [List.drop_zero, htk4, if_neg (by omega), Option.map_some, Addr.add_lit] at HP
  rw [hdr5, if_neg (by omega), Option.map_some, Addr.add_lit] at HQ
  simp only [Nat.zero_add] at HP HQ
  have hcv1 : (convert 57 9 (.slice (some ⟨g, 0, none⟩) 4 c)).run Tryz.prog w = .ok (.string (bs [98, 108, 111, 98])) w := conv22 c HP.out
  have HN := hI (fun W => fnumber_any W (decB body.length) (decB_dig _) hd0 (by omega) (decB_head _))
  have hv := numV_dec body.length
  rw [hv] at HN
  obtain ⟨AB, hAB⟩ : ∃ AB : Addr, (if c = (hdB body.length).length + 1 then some (⟨g, 0, none⟩ : Addr) else some ⟨g, (hdB body.length).length + 1, none⟩) = some AB := by
    split <;> exact ⟨_, rfl⟩
  rw [Option.map_some, Addr.add_lit, Nat.zero_add, hAB] at HD
  have LA := hI (spf_at w g c body h hl)
  have LG := hI (spf_gap w g c body h hl)
  have HBL := hI (bys_len body)
  have HNN := hI (List.nil_append (bys body))
  clear hdr hdr5 htk4 h hv
  generalize (objB body).length = L at *
  generalize (hdB body.length).length = p at *
  subst hlen
  have y1 : IntKind.i64.wrap ((p : Int) + 1) = (p : Int) + 1 := IntWalk.i64_in _ (by omega)
  have y3 : ((p : Int) + 1).toNat = p + 1 := by omega
  have y4 : p + 1 + body.length - (p + 1) = body.length := by omega
  have y5 : p - 5 = (decB body.length).length := by omega
  have y6 : 5 < p := by omega
  have q1 : ((p : Int) == (p : Int) + 1 + (body.length : Int)) = false := beq_eq_false_iff_ne.2 (by omega)
  have q2 : ((p : Int) == 20) = false := beq_eq_false_iff_ne.2 (by omega)
  have q3 : ((4 : Int) == (p : Int)) = false := beq_eq_false_iff_ne.2 (by omega)
  have q4 : (p : Int) + 1 + (body.length : Int) - (p : Int) - 1 = (body.length : Int) := by omega
  clear hpl
  go_enter Tryz.func132, Tryz.ntmps132
  go_wp2_with fail
  refine LA.out _ _ _ _ _ _ _ _ _ _ _ _ _ _ _ _ _ _ _ _ _ _ _ _ _ _ _ _ _ _ _ _ _ _ _ _ _ _ _ _ _ _ _ _ _ _ _ _ _ _ _ _ _ _ _ _ _ _ _ _ _ _ _ _ _ _ _ _ _ _ _ _ _ _ _ _ _ _ _ _ _ _ _ _ _ _ _ _ _ _ _ _ _ _ _ _ _ _ _ _ _ _ ?_
  refine hI ?_
  intros
  go_wp2_with fail
  refine LG.out _ _ _ _ _ _ _ _ _ _ _ _ _ _ _ _ _ _ _ _ _ _ _ _ _ _ _ _ _ _ _ _ _ _ _ _ _ _ _ _ _ _ _ _ _ _ _ _ _ _ _ _ _ _ _ _ _ _ _ _ _ _ _ _ _ _ _ _ _ _ _ _ _ _ _ _ _ _ _ _ _ _ _ _ _ _ _ _ _ _ _ _ _ _ _ _ _ _ _ _ _ ?_
  refine hI ?_
  intros
  go_wp2_with (first
    | (go_at_call 189; refine (fkind1 _).mono ?_; rintro e w2 ⟨rfl, hb2⟩; have HB2 := hI hb2; clear hb2 hcv1; have hcv2 := conv22 (c - 5) (HQ.out.low HB2.out HB2.out.size))
    | (go_at_call 190; refine (HN.out _).mono ?_; rintro e w3 ⟨rfl, rfl⟩)
    | (go_at_call 160; refine (fcheck1 _ _ _ _ (by omega)).mono ?_; rintro e w6 ⟨rfl, hb6⟩; have HB6 := hI (HB2.out.trans (hb6.mono HB2.out.size)); clear hb6)
    | (at_builtin; refine wpList_aps sl22 rfl (.tmp 95) (.tmp 99) rfl w.heap.size _ [] rfl (.inl ⟨rfl, rfl⟩) (some AB) body.length _ (bys body) rfl (fun e => by cases e) HBL.out (HD.out.low HB6.out HB6.out.size) (bys_one _) (by unfold maxLen; simp; omega) (by simp; omega) HB6.out.size ?_; intro v2 w7 ho hg7; rw [HNN.out] at ho; have O2 := hI ho; have B2 := hI (HB6.out.trans (below_of_grown hg7 HB6.out.size (fun k hk => by cases hk))); clear ho hg7))

  go_ret3
  exact ⟨v2, rfl, O2.out, B2.out⟩
end Go.Proofs.YtbmpidacoohdmaaGreat
namespace Go.Proofs.YtbmpidacoohdmaaGreat
open Lib renaming hid → hI
open Go.RowKit Op

def looB : List UInt8 := [108, 111, 111, 115, 101, 47]
def nmB (id : List UInt8) : List UInt8 := looB ++ hexB id
theorem hexD_inj : ∀ a, a < 16 → ∀ b, b < 16 → hexD a = hexD b → a = b := by decide
theorem hexB_inj : ∀ a b : List UInt8, hexB a = hexB b → a = b
  | [], [], _ => rfl
  | [], y :: b, h => by simp [hexB] at h
  | x :: a, [], h => by simp [hexB] at h
  | x :: a, y :: b, h => by
    simp only [hexB, List.flatMap_cons, List.cons_append, List.nil_append, List.cons.injEq] at h
    obtain ⟨h1, h2, h3⟩ := h
    have hx := x.toNat_lt
    have hy := y.toNat_lt
    have e1 := hexD_inj _ (by omega) _ (by omega) h1
    have e2 := hexD_inj _ (by omega) _ (by omega) h2
    rw [hexB_inj a b h3, UInt8.toNat_inj.1 (show x.toNat = y.toNat by omega)]
theorem nmB_inj {a b : List UInt8} (h : nmB a = nmB b) : a = b := hexB_inj a b (List.append_cancel_left h)
/-- Bytes that a store holds. -/
def By (w : World) (u : Value) (xs : List UInt8) : Prop :=
  ∃ b c, u = .slice (some ⟨b, 0, none⟩) xs.length c ∧ xs.length ≤ c ∧ Rv w.heap.size w (some ⟨b, 0, none⟩) (bys xs) ∧ ∃ cs fr, w.heap[b]? = some (.cells cs 5 fr)
structure Ent where
  id : List UInt8
  body : List UInt8
  v : Value
def cellsF (l : List Ent) : List Value := l.flatMap fun x => [.string (bs (nmB x.id)), x.v]
theorem cellsF_name : ∀ (l : List Ent) (k : Nat) (x : Ent), l[k]? = some x → (cellsF l)[k * 2]? = some (.string (bs (nmB x.id))) ∧ (cellsF l)[k * 2 + 1]? = some x.v
  | [], k, x, h => by simp at h
  | y :: l, 0, x, h => by
    obtain rfl : y = x := by simpa using h
    exact ⟨rfl, rfl⟩
  | y :: l, k + 1, x, h => by
    have := cellsF_name l k x (by simpa using h)
    rw [show (k + 1) * 2 = k * 2 + 1 + 1 by omega]
    simpa [cellsF] using this
/-- The document's store holds these. -/
structure Rsp (w : World) (g : Nat) (l : List Ent) (A : Option Addr) (c : Nat) (fr : Bool) (t : Int) : Prop where
  blk : w.heap[g]? = some (.cells #[.slice A l.length c, .int .i64 t, .slice none 0 0, .bool fr] 63 (0, 0))
  nil : A = none → c = 0
  cap : l.length ≤ c
  rv : Rv w.heap.size w A (cellsF l)
  typ : ∀ ad, A = some ad → ∃ b cs f, ad = ⟨b, 0, none⟩ ∧ w.heap[b]? = some (.cells cs 99 f)
  all : ∀ x ∈ l, x.id.length = 32 ∧ x.body.length ≤ 400 ∧ By w x.v (objB x.body) ∧ x.id = shaOf (objB x.body)
  few : l.length ≤ 40
theorem Rsp.at_ {w : World} {g : Nat} {l : List Ent} {A : Option Addr} {c : Nat} {fr : Bool} {t : Int} (h : Rsp w g l A c fr t) {k : Nat} {x : Ent} (hx : l[k]? = some x) :
    ∃ b, A = some ⟨b, 0, none⟩ ∧ w.cell? ⟨b, k * 2, none⟩ = some (.string (bs (nmB x.id))) ∧ w.cell? ⟨b, k * 2 + 1, none⟩ = some x.v := by
  obtain ⟨h1, h2⟩ := cellsF_name l k x hx
  obtain ⟨ad, e, _, hc⟩ := h.rv.at_ h1
  obtain ⟨ad2, e2, _, hc2⟩ := h.rv.at_ h2
  obtain ⟨b, _, _, rfl, _⟩ := h.typ ad e
  obtain rfl := Option.some.inj (e.symm.trans e2)
  rw [Addr.add_lit, Nat.zero_add] at hc hc2
  exact ⟨b, e, hc, hc2⟩
/-- All blocks but those in S are as they were. -/
structure Chs (S : Nat → Prop) (w w2 : World) : Prop where
  os : w2.os = w.os
  tape : w2.tape = w.tape
  output : w2.output = w.output
  size : w.heap.size ≤ w2.heap.size
  block : ∀ k, k < w.heap.size → ¬ S k → w2.heap[k]? = w.heap[k]?
theorem Chs.of_grown {w w2 : World} {g : Nat} (h : w.grownBy w2 (some g)) : Chs (fun k => k = g) w w2 :=
  ⟨h.os, h.tape, h.output, h.size, fun k hk hn => h.block k hk (fun q => hn (Option.some.inj q))⟩
theorem Chs.of_below {w w2 : World} (h : Below w.heap.size w w2) (S : Nat → Prop) : Chs S w w2 := ⟨h.os, h.tape, h.output, h.size, fun k hk _ => h.block k hk⟩
theorem Chs.trans {S : Nat → Prop} {w w2 w3 : World} (h : Chs S w w2) (k : Chs S w2 w3) : Chs S w w3 :=
  ⟨k.os.trans h.os, k.tape.trans h.tape, k.output.trans h.output, Nat.le_trans h.size k.size, fun n hn hs => (k.block n (Nat.lt_of_lt_of_le hn h.size) hs).trans (h.block n hn hs)⟩
theorem Chs.more {S T : Nat → Prop} {w w2 : World} (h : Chs S w w2) (hst : ∀ k, S k → T k) : Chs T w w2 := ⟨h.os, h.tape, h.output, h.size, fun k hk hn => h.block k hk (fun q => hn (hst k q))⟩
/-- No block in S holds elements t. -/
def Non (S : Nat → Prop) (w : World) (t : TypeId) : Prop := ∀ k, S k → ∀ cs f, w.heap[k]? ≠ some (.cells cs t f)
theorem rv_chs {S : Nat → Prop} {w w2 : World} {b : Nat} {xs : List Value} (h : Rv w.heap.size w (some ⟨b, 0, none⟩) xs) (hc : Chs S w w2) (hb : w2.heap[b]? = w.heap[b]?) : Rv w2.heap.size w2 (some ⟨b, 0, none⟩) xs := fun k x hx => by
  obtain ⟨ad, e, hlt, hcell⟩ := h.at_ hx
  obtain rfl := Option.some.inj e
  rw [Addr.add_lit] at hcell
  refine ⟨_, rfl, Nat.lt_of_lt_of_le hlt hc.size, ?_⟩
  rw [Addr.add_lit]
  exact (cell_heap (p := ⟨b, 0 + k, none⟩) hb).trans hcell
theorem By.chs {S : Nat → Prop} {w w2 : World} {u : Value} {xs : List UInt8} (h : By w u xs) (hc : Chs S w w2) (hn : Non S w 5) : By w2 u xs := by
  obtain ⟨b, c, rfl, hl, hr, cs, f, hb⟩ := h
  have he := hc.block b (Array.getElem?_eq_some_iff.1 hb).1 (fun q => hn b q cs f hb)
  exact ⟨b, c, rfl, hl, rv_chs hr hc he, cs, f, he.trans hb⟩
theorem By.of_ows {w : World} {base : Nat} {u : Value} {xs : List UInt8} (h : Ows w base 5 u (bys xs)) (h0 : 0 < xs.length) : By w u xs := by
  obtain ⟨D, d, e, _, hd, hr, _⟩ := h.form
  rcases h with ⟨_, h2⟩ | ⟨g, cap, cur, fr, rfl, h2, h3, h4, h5, _⟩
  · have := congrArg List.length h2
    rw [bys_len] at this
    simp only [List.length_nil] at this
    omega
  · rw [bys_len] at *
    injection e with e1 e2 e3
    subst e1
    exact ⟨g, cap, rfl, h5, hr, cur, fr, h3⟩
theorem Rsp.chs {S : Nat → Prop} {w w2 : World} {g : Nat} {l : List Ent} {A : Option Addr} {c : Nat} {fr fr2 : Bool} {t t2 : Int} (h : Rsp w g l A c fr t) (hc : Chs S w w2) (hn : Non S w 5) (hn2 : Non S w 99)
    (hg : w2.heap[g]? = some (.cells #[.slice A l.length c, .int .i64 t2, .slice none 0 0, .bool fr2] 63 (0, 0))) : Rsp w2 g l A c fr2 t2 where
  blk := hg
  nil := h.nil
  cap := h.cap
  rv := by
    rcases A with _ | ad
    · intro k x hx
      obtain ⟨ad, e, _⟩ := h.rv.at_ hx
      cases e
    · obtain ⟨b, cs, f, rfl, hb⟩ := h.typ ad rfl
      exact rv_chs h.rv hc (hc.block b (Array.getElem?_eq_some_iff.1 hb).1 (fun q => hn2 b q cs f hb))
  typ := fun ad e => by
    obtain ⟨b, cs, f, e2, hb⟩ := h.typ ad e
    exact ⟨b, cs, f, e2, (hc.block b (Array.getElem?_eq_some_iff.1 hb).1 (fun q => hn2 b q cs f hb)).trans hb⟩
  all := fun x hx => by
    obtain ⟨h1, h2, h3, h4⟩ := h.all x hx
    exact ⟨h1, h2, h3.chs hc hn, h4⟩
  few := h.few
theorem Rsp.non {w : World} {g : Nat} {l : List Ent} {A : Option Addr} {c : Nat} {fr : Bool} {t : Int} (h : Rsp w g l A c fr t) {ty : TypeId} (ht : ty ≠ 63) : Non (fun k => k = g) w ty := by
  rintro k rfl cs f hk
  have := h.blk.symm.trans hk
  injection this with this
  injection this with _ h2
  exact ht h2.symm
attribute [local go_sem] bs_append bs_size
set_option maxHeartbeats 1000000 in
theorem begins_no (w : World) (x : List UInt8) (hx : x.length ≤ 1000) :
    Calls Tryz.prog 128 #[.string (bs (looB ++ x)), .string ⟨#[105, 110, 100, 101, 120, 47]⟩] w fun e w2 => e = .returned (.bool false) ∧ w = w2 := by
  have hsz : (bs (looB ++ x)).size = 6 + x.length := by rw [bs_size]; simp [looB]; omega
  have hex : (bs (looB ++ x)).extract 0 6 = bs looB := by rw [bs_ext]; simp [looB]
  have hcm : ((bs looB).toList == [105, 110, 100, 101, 120, 47]) = false := by rw [bs_toList]; decide
  generalize bs (looB ++ x) = s at *
  generalize x.length = n at *
  have h6 : (6 : Int) ≤ 6 + (n : Int) := by omega
  go_enter Tryz.func128, Tryz.ntmps128
  go_wp2_with fail
  go_ret
  exact ⟨rfl, rfl⟩
set_option maxHeartbeats 1000000 in
theorem fnum_no (w : World) (id : List UInt8) (hi : id.length = 32) :
    Calls Tryz.prog 136 #[.string (bs (nmB id)), .string ⟨#[105, 110, 100, 101, 120, 47]⟩] w fun e w2 => e = .returned (.int .i64 0) ∧ w = w2 := by
  have HB := hI (begins_no w (hexB id) (by rw [hexB_len]; omega))
  go_enter Tryz.func136, Tryz.ntmps136
  go_wp2_with (go_at_call 128; refine HB.out.mono ?_; rintro e w2 ⟨rfl, rfl⟩)
  go_ret
  exact ⟨rfl, rfl⟩
set_option maxRecDepth 100000 in
set_option maxHeartbeats 1000000 in
theorem ffind_any (w : World) (g : Nat) (l : List Ent) (A : Option Addr) (c : Nat) (fr : Bool) (t : Int) (hs : Rsp w g l A c fr t) (id : List UInt8) :
    Calls Tryz.prog 88 #[.pointer (some ⟨g, 0, none⟩), .string (bs (nmB id))] w fun e w2 => w = w2 ∧ ((e = .returned (.int .i64 (-1)) ∧ ∀ x ∈ l, x.id ≠ id) ∨ ∃ k : Nat, e = .returned (.int .i64 k) ∧ ∃ x, l[k]? = some x ∧ x.id = id) := by
  have hcl : w.cell? ⟨g, 0, none⟩ = some (.slice A l.length c) := by rw [cell_of_row w g 0 _ _ _ hs.blk]; rfl
  have HC := hI (fun k x hx => hs.at_ (k := k) (x := x) hx)
  have HS := hI hs
  have hcap := hs.cap
  have hfew := hs.few
  clear hs
  go_enter Tryz.func88, Tryz.ntmps88
  go_wp2_with fail
  go_loop [5] (fun kv => ∃ k : Nat, k ≤ l.length ∧ kv = .int .i64 k ∧ ∀ j x, j < k → l[j]? = some x → x.id ≠ id) (fun kv => l.length - (intOf kv).toNat)
  case atStart => exact ⟨0, Nat.zero_le _, rfl, fun j x h => by omega⟩
  case round =>
    obtain ⟨k, hk, rfl, hno⟩ := hrel
    have HNO := hI hno
    clear hno
    by_cases hlt : k < l.length
    · obtain ⟨x, hx⟩ : ∃ x, l[k]? = some x := ⟨l[k], List.getElem?_eq_getElem hlt⟩
      obtain ⟨b, hA, hc, _⟩ := HC.out k x hx
      have HX := hI hx
      clear hx
      subst hA
      by_cases he : x.id = id
      · have hcm : ((bs (nmB x.id)).toList == (bs (nmB id)).toList) = true := by rw [he]; simp
        go_wp2_with fail
        go_ret
        exact ⟨rfl, .inr ⟨k, rfl, x, HX.out, he⟩⟩
      · have hcm : ((bs (nmB x.id)).toList == (bs (nmB id)).toList) = false := by rw [bs_toList, bs_toList]; exact beq_eq_false_iff_ne.2 fun q => he (nmB_inj q)
        go_wp2_with fail
        refine ⟨⟨k + 1, by omega, by go_num, fun j y hj hy => ?_⟩, by simp [intOf]; omega⟩
        rcases Nat.lt_succ_iff_lt_or_eq.1 hj with h | rfl
        · exact HNO.out j y h hy
        · obtain rfl := Option.some.inj (HX.out.symm.trans hy)
          exact he
    · have hke : k = l.length := by omega
      subst hke
      go_wp2_with fail
      go_ret
      refine ⟨rfl, .inl ⟨rfl, fun x hx => ?_⟩⟩
      obtain ⟨j, hj, e⟩ := List.getElem_of_mem hx
      exact HNO.out j x hj (by rw [List.getElem?_eq_getElem hj, e])
set_option maxRecDepth 100000 in
set_option maxHeartbeats 1000000 in
theorem ffile_any (w : World) (g : Nat) (l : List Ent) (A : Option Addr) (c : Nat) (fr : Bool) (t : Int) (hs : Rsp w g l A c fr t) (id : List UInt8) (hx : ∃ x ∈ l, x.id = id) :
    Calls Tryz.prog 131 #[.pointer (some ⟨g, 0, none⟩), .string (bs (nmB id))] w fun e w2 => w = w2 ∧ ∃ x, x ∈ l ∧ x.id = id ∧ e = .returned x.v := by
  have HF := hI (ffind_any w g l A c fr t hs id)
  have hcl : w.cell? ⟨g, 0, none⟩ = some (.slice A l.length c) := by rw [cell_of_row w g 0 _ _ _ hs.blk]; rfl
  have HC := hI (fun k x hx => hs.at_ (k := k) (x := x) hx)
  have hcap := hs.cap
  have hfew := hs.few
  clear hs
  go_enter Tryz.func131, Tryz.ntmps131
  go_wp2_with fail
  refine HF.out.mono ?_
  rintro e w2 ⟨rfl, ⟨rfl, hno⟩ | ⟨k, rfl, x, hk, he⟩⟩
  · obtain ⟨x, hm, he⟩ := hx
    exact absurd he (hno x hm)
  · have hkl := (List.getElem?_eq_some_iff.1 hk).1
    obtain ⟨b, e, _, hc2⟩ := HC.out k x hk
    subst e
    clear HC HF hx
    have HK := hI hk
    clear hk
    go_wp2_with fail
    go_ret
    exact ⟨rfl, x, List.mem_of_getElem? HK.out, he, rfl⟩
end Go.Proofs.YtbmpidacoohdmaaGreat

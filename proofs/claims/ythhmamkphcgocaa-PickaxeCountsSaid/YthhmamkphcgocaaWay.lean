/- (*myers.field).way, by a contract. -/
import Derived.Test.YthhmamkphcgocaaFil3
import Derived.Test.YthhmamkphcgocaaFil6
namespace Go.Proofs.Ythhmamkphcgocaa
open Go.RowKit

def prCells (L : List (Nat × Nat)) : List Value := L.flatMap fun p => [.int .i64 p.1, .int .i64 p.2]
theorem prCells_len (L : List (Nat × Nat)) : (prCells L).length = L.length * 2 := by
  induction L with
  | nil => rfl
  | cons p L ih => simp only [prCells, List.flatMap_cons, List.length_append, List.length_cons, List.length_nil] at *; omega
theorem prCells_snoc (L : List (Nat × Nat)) (p : Nat × Nat) : prCells (L ++ [p]) = prCells L ++ [.int .i64 p.1, .int .i64 p.2] := by simp [prCells]
theorem info91 : (Try.prog.info? 91).map (fun i => (i.zero, i.size, i.bytes)) = some (some (.agg #[.int .i64 0, .int .i64 0]), 2, 16) := by kernel_rfl

def bld91 (p q : Nat × Value) : Sem Value := Instr.build 91 #[p, q]
def lit68 (p : Nat × Value) : Sem Value := Instr.buildSlice 68 1 #[p]
section
variable {α : Type} (f : α → Nat × Value) (p q : α)
theorem bld91_eq : Instr.build 91 (Array.map f #[p, q]) = bld91 (f p) (f q) := by simp [bld91]
theorem lit68_eq : Instr.buildSlice 68 1 (Array.map f #[p]) = lit68 (f p) := by simp [lit68]
end
theorem run_bld91 (w : World) (x y : Int) : (bld91 (0, .int .i64 x) (1, .int .i64 y)).run Try.prog w = .ok (.agg #[.int .i64 x, .int .i64 y]) w := run_build w 91 _ _ (by kernel_rfl)
theorem info91c : (Try.prog.info? 91).map (·.size) = some 2 := by kernel_rfl
theorem zero91 : ((Try.prog.info? 91).bind (·.zero)).isSome = true := by kernel_rfl
theorem run_lit68 (W : World) (cs : Array Value) (hs : cs.size = 2) : (lit68 (0, .agg cs)).run Try.prog W = .ok (.slice (some ⟨W.heap.size, 0, none⟩) 1 1) (W.alloc (.cells cs 91)) :=
  run_build_one W Try.underlying68 info91c zero91 cs hs (by omega) (by omega)

attribute [local go_sem ↓] bld91_eq lit68_eq
attribute [local go_sem] run_bld91 run_lit68

theorem fst_below {w W : World} {F : Nat} {a b : List Int} {sa sb rv : Value} {d : Nat} {so : Option (Nat × Nat × Nat)} {P : Nat → Nat × Nat} (hb : Below w.heap.size w W) (h : FSt w F a b sa sb rv d so P) : FSt W F a b sa sb rv d so P :=
  h.keep fun j _ hj => hb.block j hj

theorem own_dr {w : World} {B : Nat} {e : TypeId} {size : Nat} {v : Value} {n : Nat} {xs : List Value} (h : w.ownsRow B e size v n xs) (m : Nat) : (w.drewN m).ownsRow B e size v n xs := h

set_option maxRecDepth 100000 in
set_option maxHeartbeats 4000000 in
theorem way_any (w : World) (F : Nat) (a b : List Int) (A D : Option Addr) (cA cD : Nat) (rv : Value) (so : Option (Nat × Nat × Nat)) (P : Nat → Nat × Nat) (h : FSt w F a b (.slice A a.length cA) (.slice D b.length cD) rv (dst a b 0 0 + 1) so P)
    (ra : Rv F w A (ints a)) (rb : Rv F w D (ints b)) (la : a.length ≤ 400) (lb : b.length ≤ 400) :
    Calls Try.prog 55 #[.pointer (some ⟨F, 0, none⟩), .int .i64 (dst a b 0 0)] w fun e w' => ∃ v, e = .returned v ∧ w'.ownsRow w.heap.size 91 2 v (keeps a b 0 0).length (prCells (keeps a b 0 0)) ∧ Below w.heap.size w w' := by
  have hN := dst_le a b 0 0
  have hF := h.lt
  have at_ : ∀ W, Below w.heap.size w W → W.cell? ⟨F, 0, none⟩ = some (.slice A a.length cA) ∧ W.cell? ⟨F, 1, none⟩ = some (.slice D b.length cD) ∧ Two F W F a b ∧ Tbl W F a b (dst a b 0 0 + 1) := fun W hb =>
    ⟨(fst_below hb h).cell 0, (fst_below hb h).cell 1, (fst_below hb h).two rfl rfl (ra.below (hb.mono (Nat.le_of_lt hF))) (rb.below (hb.mono (Nat.le_of_lt hF))), (fst_below hb h).tbl⟩
  have AT := Lib.hid at_
  have RR := Lib.hid (And.intro ra rb)
  obtain ⟨i0, hi0', hz0', hz1', hz2'⟩ := info_parts info91
  have hi0 := Lib.hid hi0'
  have hz0 := Lib.hid hz0'
  have hz1 := Lib.hid hz1'
  have hz2 := Lib.hid hz2'
  clear h ra rb at_ hi0' hz0' hz1' hz2'
  go_enter Try.func55, Try.ntmps55
  go_wp2_with fail
  go_step3
  go_wp2_with fail
  go_step3
  go_wp2_with fail
  go_loopw [1, 5, 6, 7] (fun r v iv kv wr => ∃ (i k : Nat) (acc : List (Nat × Nat)), i ≤ a.length ∧ k ≤ b.length ∧ acc.length ≤ i ∧ iv = .int .i64 i ∧ kv = .int .i64 k ∧ r = .int .i64 (dst a b i k) ∧ Hid (acc ++ keeps a b i k = keeps a b 0 0) ∧
    Hid ((i : Int) - k + dst a b i k ≤ dst a b 0 0 ∧ (k : Int) - i + dst a b i k ≤ dst a b 0 0) ∧ Hid (wr.ownsRow w.heap.size 91 2 v acc.length (prCells acc)) ∧ Hid (Below w.heap.size w wr)) (fun _ _ iv kv _ => (a.length - (intOf iv).toNat) + (b.length - (intOf kv).toNat))
  case atStart => exact ⟨0, 0, [], Nat.zero_le _, Nat.zero_le _, Nat.zero_le _, rfl, rfl, rfl, rfl, ⟨by omega, by omega⟩, World.ownsRow_nil _ _ _ _, Below.refl _ _⟩
  case round =>
    obtain ⟨i, k, acc, hi, hk, hacc, rfl, rfl, rfl, hkp, hinv, hown, hb⟩ := hrel
    obtain ⟨c0, c1, htwo, htbl⟩ := AT.out wr hb.out
    have T2 := Lib.hid (And.intro htwo htbl)
    clear htwo htbl
    have hN2 := dst_le a b i k
    by_cases hi' : i < a.length
    · have d1 : decide ((i : Int) < (a.length : Int)) = true := by simp; omega
      by_cases hk' : k < b.length
      · have d2 : decide ((k : Int) < (b.length : Int)) = true := by simp; omega
        obtain ⟨ad, rfl, _, ca⟩ := (RR.out.1.below (hb.out.mono (Nat.le_of_lt hF))).at_ (k := i) (ints_at hi')
        obtain ⟨bd, rfl, _, cb⟩ := (RR.out.2.below (hb.out.mono (Nat.le_of_lt hF))).at_ (k := k) (ints_at hk')
        have KS := Lib.hid (keeps_same a b hi' hk')
        by_cases hxy : a.getD i 0 = b.getD k 0
        · have d3 : (a.getD i 0 == b.getD k 0) = true := beq_iff_eq.2 hxy
          have HK := Lib.hid (keeps_same a b hi' hk' hxy)
          have HD := Lib.hid (dst_same a b hi' hk' hxy)
          have hsz := hb.out.size
          clear hxy KS
          generalize a.getD i 0 = x at *
          generalize b.getD k 0 = y at *
          go_wp2_with fail
          refine wp_region_quiet_lit (by kernel_rfl) (by kernel_rfl) ?_
          repeat (go_big_quiet_step (fail))
          refine wpQuiet_nil ?_
          rintro _ ⟨nq, rfl⟩
          have HOW := Lib.hid ((own_dr hown.out nq).alloc (.cells #[.int .i64 i, .int .i64 k] 91))
          go_wp2_with (at_builtin; refine wpList_append_own _ rfl (.tmp 41) (.tmp 45) 68 rfl w.heap.size 91 i0 (.agg #[.int .i64 0, .int .i64 0]) 2 16 Try.underlying68 hi0.out hz0.out hz1.out hz2.out rfl (by decide) u5 acc.length (prCells acc) rfl HOW.out ⟨wr.heap.size, 0, none⟩ 1 1 [.int .i64 i, .int .i64 k] rfl rfl (new_cells _ _ _ _ rfl) (by simp [Value.oneCell']) (by unfold maxLen; omega) (by omega) (by simp; omega) ?_; intro v' w2 ho hg hz; clear hz; have HO := Lib.hid ho; have HG := Lib.hid hg; clear ho hg)
          refine ⟨⟨i + 1, k + 1, acc ++ [(i, k)], by omega, by omega, by simp; omega, by go_num, by go_num, congrArg (Value.int .i64) (by rw [HD.out]), ?_, ?_, ?_, ?_⟩, by simp [intOf]; omega⟩
          · have h := hkp.out
            rw [HK.out] at h
            exact (by simpa using h : acc ++ [(i, k)] ++ keeps a b (i + 1) (k + 1) = keeps a b 0 0)
          · have h := hinv.out
            rw [HD.out] at h
            unfold Hid
            exact ⟨by omega, by omega⟩
          · unfold Hid
            rw [prCells_snoc, List.length_append]
            exact HO.out
          · exact ((((below_dr hb.out nq).alloc hsz _).grown HG.out (by simp; omega) (fun j e => (hown.out.lt j e).1)) : _)
        · have d3 : (a.getD i 0 == b.getD k 0) = false := beq_eq_false_iff_ne.2 hxy
          have hno : ¬ (i < a.length ∧ k < b.length ∧ a.getD i 0 = b.getD k 0) := fun h => hxy h.2.2
          have HNO := Lib.hid hno
          have hpos : 0 < dst a b i k := by have := dst_other a b hi' hk' hxy; omega
          clear hxy hno KS
          obtain ⟨q, hq⟩ : ∃ q, q = dst a b i k := ⟨_, rfl⟩
          rw [← hq]
          have HQ := Lib.hid hq
          have hq0 : 0 < q := by omega
          have hq8 : q ≤ 1000 := by omega
          by_cases hl : dst a b (i + 1) k < dst a b i k
          · have HL := Lib.hid hl
            have HK := Lib.hid (keeps_a a b hi' (fun h => HNO.out ⟨hi', h⟩) hl)
            have hnr : ∀ n : Nat, Calls Try.prog 61 #[.pointer (some ⟨F, 0, none⟩), .int .i64 ((i : Int) + 1), .int .i64 k, .int .i64 ((q : Int) - 1)] (wr.drewN n) fun e w' => e = .returned (.bool true) ∧ ∃ m, w' = (wr.drewN n).drewN m := by
              intro n
              have hi2 := hinv.out
              obtain ⟨_, _, t2, t3⟩ := AT.out (wr.drewN n) (below_dr hb.out n)
              have := near_any (wr.drewN n) F a b t2 la lb _ t3 (by omega) i k (q - 1) (by omega) (by omega) (by omega) (by omega) hinv.out
              rw [show ((q - 1 : Nat) : Int) = (q : Int) - 1 by omega, show decide (dst a b (i + 1) k < dst a b i k) = true from by simp; omega] at this
              exact this
            have NR := Lib.hid hnr
            clear hnr hl hq hpos
            generalize a.getD i 0 = x at *
            generalize b.getD k 0 = y at *
            go_wp2_with fail
            refine wp_region_quiet_lit (by kernel_rfl) (by kernel_rfl) ?_
            repeat (go_big_quiet_step (fail))
            refine wpQuiet_nil ?_
            rintro _ ⟨nq, rfl⟩
            go_wp2_with (go_at_call 61; refine (NR.out nq).mono ?_; rintro e w1 ⟨rfl, m, hw1⟩; subst w1)
            refine ⟨⟨i + 1, k, acc, by omega, by omega, by omega, by go_num, by go_num, congrArg (Value.int .i64) ?_, ?_, ?_, own_dr hown.out _, below_dr hb.out _⟩, by simp [intOf]; omega⟩
            · have := HQ.out; have := HL.out; have := (dst_i a b (i := i) k (by omega)).2; omega
            · have h := hkp.out; rw [HK.out] at h; exact h
            · have := HQ.out; have := HL.out; have := hinv.out; have := (dst_i a b (i := i) k (by omega)).2; unfold Hid; exact ⟨by omega, by omega⟩
          · have HL := Lib.hid (dst_dec a b (by omega) HNO.out (fun h => hl h.2) (.inl hi'))
            have HK := Lib.hid (keeps_b a b HNO.out (fun h => hl h.2) hk')
            have hnr : ∀ n : Nat, Calls Try.prog 61 #[.pointer (some ⟨F, 0, none⟩), .int .i64 ((i : Int) + 1), .int .i64 k, .int .i64 ((q : Int) - 1)] (wr.drewN n) fun e w' => e = .returned (.bool false) ∧ ∃ m, w' = (wr.drewN n).drewN m := by
              intro n
              have hi2 := hinv.out
              obtain ⟨_, _, t2, t3⟩ := AT.out (wr.drewN n) (below_dr hb.out n)
              have := near_any (wr.drewN n) F a b t2 la lb _ t3 (by omega) i k (q - 1) (by omega) (by omega) (by omega) (by omega) hinv.out
              rw [show ((q - 1 : Nat) : Int) = (q : Int) - 1 by omega, show decide (dst a b (i + 1) k < dst a b i k) = false from by simp; omega] at this
              exact this
            have NR := Lib.hid hnr
            clear hnr hl hq hpos
            generalize a.getD i 0 = x at *
            generalize b.getD k 0 = y at *
            go_wp2_with fail
            refine wp_region_quiet_lit (by kernel_rfl) (by kernel_rfl) ?_
            repeat (go_big_quiet_step (fail))
            refine wpQuiet_nil ?_
            rintro _ ⟨nq, rfl⟩
            go_wp2_with (go_at_call 61; refine (NR.out nq).mono ?_; rintro e w1 ⟨rfl, m, hw1⟩; subst w1)
            refine ⟨⟨i, k + 1, acc, by omega, by omega, by omega, by go_num, by go_num, congrArg (Value.int .i64) ?_, ?_, ?_, own_dr hown.out _, below_dr hb.out _⟩, by simp [intOf]; omega⟩
            · have := HQ.out; have := HL.out.2; omega
            · have h := hkp.out; rw [HK.out] at h; exact h
            · have := HQ.out; have := HL.out.2; have := hinv.out; unfold Hid; exact ⟨by omega, by omega⟩
      · have d2 : decide ((k : Int) < (b.length : Int)) = false := by simp; omega
        have hl := dst_less a b (k := k) hi' (by omega)
        have HL := Lib.hid hl
        have HK := Lib.hid (keeps_a a b hi' (fun h => by omega) hl)
        obtain ⟨q, hq⟩ : ∃ q, q = dst a b i k := ⟨_, rfl⟩
        rw [← hq]
        have HQ := Lib.hid hq
        have hq0 : 0 < q := by omega
        have hq8 : q ≤ 1000 := by omega
        have hnr : ∀ n : Nat, Calls Try.prog 61 #[.pointer (some ⟨F, 0, none⟩), .int .i64 ((i : Int) + 1), .int .i64 k, .int .i64 ((q : Int) - 1)] (wr.drewN n) fun e w' => e = .returned (.bool true) ∧ ∃ m, w' = (wr.drewN n).drewN m := by
          intro n
          have hi2 := hinv.out
          obtain ⟨_, _, t2, t3⟩ := AT.out (wr.drewN n) (below_dr hb.out n)
          have := near_any (wr.drewN n) F a b t2 la lb _ t3 (by omega) i k (q - 1) (by omega) (by omega) (by omega) (by omega) hinv.out
          rw [show ((q - 1 : Nat) : Int) = (q : Int) - 1 by omega, show decide (dst a b (i + 1) k < dst a b i k) = true from by simp; omega] at this
          exact this
        have NR := Lib.hid hnr
        clear hnr hl hq
        go_wp2_with fail
        refine wp_region_quiet_lit (by kernel_rfl) (by kernel_rfl) ?_
        repeat (go_big_quiet_step (fail))
        refine wpQuiet_nil ?_
        rintro _ ⟨nq, rfl⟩
        go_wp2_with (go_at_call 61; refine (NR.out nq).mono ?_; rintro e w1 ⟨rfl, m, hw1⟩; subst w1)
        refine ⟨⟨i + 1, k, acc, by omega, by omega, by omega, by go_num, by go_num, congrArg (Value.int .i64) ?_, ?_, ?_, own_dr hown.out _, below_dr hb.out _⟩, by simp [intOf]; omega⟩
        · have := HQ.out; have := HL.out; have := (dst_i a b (i := i) k (by omega)).2; omega
        · have h := hkp.out; rw [HK.out] at h; exact h
        · have := HQ.out; have := HL.out; have := hinv.out; have := (dst_i a b (i := i) k (by omega)).2; unfold Hid; exact ⟨by omega, by omega⟩
    · have d1 : decide ((i : Int) < (a.length : Int)) = false := by simp; omega
      by_cases hk' : k < b.length
      · have hno : ¬ (i < a.length ∧ k < b.length ∧ a.getD i 0 = b.getD k 0) := fun h => hi' h.1
        have HL := Lib.hid (dst_dec a b (by omega) hno (fun h => hi' h.1) (.inr hk'))
        have HK := Lib.hid (keeps_b a b hno (fun h => hi' h.1) hk')
        have hpos := HL.out.2
        clear hno
        obtain ⟨q, hq⟩ : ∃ q, q = dst a b i k := ⟨_, rfl⟩
        rw [← hq]
        have HQ := Lib.hid hq
        have hq0 : 0 < q := by omega
        have hq8 : q ≤ 1000 := by omega
        clear hq hpos
        go_wp2_with fail
        refine wp_region_quiet_lit (by kernel_rfl) (by kernel_rfl) ?_
        repeat (go_big_quiet_step (fail))
        refine wpQuiet_nil ?_
        rintro _ ⟨nq, rfl⟩
        go_wp2
        refine ⟨⟨i, k + 1, acc, by omega, by omega, by omega, by go_num, by go_num, congrArg (Value.int .i64) ?_, ?_, ?_, own_dr hown.out _, below_dr hb.out _⟩, by simp [intOf]; omega⟩
        · have := HQ.out; have := HL.out.2; omega
        · have h := hkp.out; rw [HK.out] at h; exact h
        · have := HQ.out; have := HL.out.2; have := hinv.out; unfold Hid; exact ⟨by omega, by omega⟩
      · have HK := Lib.hid (keeps_end a b (i := i) (k := k) (by omega) (by omega))
        have hz : dst a b i k = 0 := dst_end a b (by omega) (by omega)
        rw [hz]
        clear hz
        go_wp2_with fail
        refine wp_region_quiet_lit (by kernel_rfl) (by kernel_rfl) ?_
        repeat (go_big_quiet_step (fail))
        refine wpQuiet_nil ?_
        rintro _ ⟨nq, rfl⟩
        go_wp2
        try rw [Exit.noGoto_ret]
        go_ret
        have h := hkp.out
        rw [HK.out, List.append_nil] at h
        rw [← h]
        exact ⟨_, rfl, own_dr hown.out _, below_dr hb.out _⟩
end Go.Proofs.Ythhmamkphcgocaa

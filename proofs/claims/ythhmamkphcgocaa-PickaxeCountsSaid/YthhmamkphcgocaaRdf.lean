/- sleuthref22.Diff, by a contract. -/
import Derived.Test.YthhmamkphcgocaaRst
import Derived.Test.YthhmamkphcgocaaDif
namespace Go.Proofs.Ythhmamkphcgocaa
open Go.RowKit

attribute [local go_sem ↓] bld91_eq lit68_eq
attribute [local go_sem] run_bld91 run_lit68

set_option maxRecDepth 100000 in
set_option maxHeartbeats 4000000 in
theorem rdiff_any (w : World) (a b : List Int) (A D : Option Addr) (cA cD : Nat) (ra : Rv w.heap.size w A (ints a)) (rb : Rv w.heap.size w D (ints b)) (la : a.length ≤ 400) (lb : b.length ≤ 400) :
    Calls Try.prog 32 #[.slice A a.length cA, .slice D b.length cD] w fun e w' => ∃ v, e = .returned v ∧ w'.ownsRow w.heap.size 91 2 v (keeps a b 0 0).length (prCells (keeps a b 0 0)) ∧ Below w.heap.size w w' := by
  have HR := Lib.hid (rests_any w a b A D cA cD ra rb la lb)
  have RA := Lib.hid ra
  have RB := Lib.hid rb
  obtain ⟨i0, hi0', hz0', hz1', hz2'⟩ := info_parts info91
  have hi0 := Lib.hid hi0'
  have hz0 := Lib.hid hz0'
  have hz1 := Lib.hid hz1'
  have hz2 := Lib.hid hz2'
  clear ra rb hi0' hz0' hz1' hz2'
  go_enter Try.func32, Try.ntmps32
  go_wp2_with (go_at_call 49; refine HR.out.mono ?_; rintro e w1 ⟨R, rfl, hrw, hb⟩; have RW := Lib.hid hrw; have HB1 := Lib.hid hb; have hsz1 := hb.size; clear hrw hb)
  go_loopw [6, 7, 8] (fun v iv kv wr => ∃ (i k : Nat) (acc : List (Nat × Nat)), i ≤ a.length ∧ k ≤ b.length ∧ acc.length ≤ i ∧ iv = .int .i64 i ∧ kv = .int .i64 k ∧ Hid (acc ++ keeps a b i k = keeps a b 0 0) ∧
    Hid (wr.ownsRow w1.heap.size 91 2 v acc.length (prCells acc)) ∧ Hid (Below w1.heap.size w1 wr)) (fun _ iv kv _ => (a.length - (intOf iv).toNat) + (b.length - (intOf kv).toNat))
  case atStart => exact ⟨0, 0, [], Nat.zero_le _, Nat.zero_le _, Nat.zero_le _, rfl, rfl, rfl, World.ownsRow_nil _ _ _ _, Below.refl _ _⟩
  case round =>
    obtain ⟨i, k, acc, hi, hk, hacc, rfl, rfl, hkp, hown, hb⟩ := hrel
    have hsz := hb.out.size
    have hbb := HB1.out.trans (hb.out.mono hsz1)
    have hrw : RowsFrom wr w.heap.size R a b 0 := RW.out.keep fun j _ hj => hb.out.block j hj
    obtain ⟨g0, cR0, cG0⟩ := hrw.row i (Nat.zero_le _) hi
    have cg0 := cG0 k hk
    have hN2 := dst_le a b i k
    by_cases hi' : i < a.length
    · have d1 : decide ((i : Int) < (a.length : Int)) = true := by simp; omega
      obtain ⟨g1, cR1, cG1⟩ := hrw.row (i + 1) (Nat.zero_le _) (by omega)
      have cg1 := cG1 k hk
      have hN3 := dst_le a b (i + 1) k
      obtain ⟨ad, rfl, bA, ca0⟩ := RA.out.at_ (k := i) (ints_at hi')
      have ca : wr.cell? (ad.add i) = some (.int .i64 (a.getD i 0)) := (hbb.cell (by rw [block_add]; exact bA)).trans ca0
      clear cG0 cG1 ca0 hrw
      by_cases hk' : k < b.length
      · have d2 : decide ((k : Int) < (b.length : Int)) = true := by simp; omega
        obtain ⟨bd, rfl, bD, cb0⟩ := RB.out.at_ (k := k) (ints_at hk')
        have cb : wr.cell? (bd.add k) = some (.int .i64 (b.getD k 0)) := (hbb.cell (by rw [block_add]; exact bD)).trans cb0
        clear cb0
        by_cases hxy : a.getD i 0 = b.getD k 0
        · have d3 : (a.getD i 0 == b.getD k 0) = true := beq_iff_eq.2 hxy
          have HK := Lib.hid (keeps_same a b hi' hk' hxy)
          clear hxy hbb
          generalize a.getD i 0 = x at *
          generalize b.getD k 0 = y at *
          go_wp2_with fail
          refine wp_region_quiet_lit (by kernel_rfl) (by kernel_rfl) ?_
          repeat (go_big_quiet_step (fail))
          refine wpQuiet_nil ?_
          rintro _ ⟨nq, rfl⟩
          have HOW := Lib.hid ((own_dr hown.out nq).alloc (.cells #[.int .i64 i, .int .i64 k] 91))
          go_wp2_with (at_builtin; refine wpList_append_own _ rfl (.tmp 43) (.tmp 47) 68 rfl w1.heap.size 91 i0 (.agg #[.int .i64 0, .int .i64 0]) 2 16 Try.underlying68 hi0.out hz0.out hz1.out hz2.out rfl (by decide) u6 acc.length (prCells acc) rfl HOW.out ⟨wr.heap.size, 0, none⟩ 1 1 [.int .i64 i, .int .i64 k] rfl rfl (new_cells _ _ _ _ rfl) (by simp [Value.oneCell']) (by unfold maxLen; omega) (by omega) (by simp; omega) ?_; intro v' w2 ho hg hz; clear hz; have HO := Lib.hid ho; have HG := Lib.hid hg; clear ho hg)
          refine ⟨⟨i + 1, k + 1, acc ++ [(i, k)], by omega, by omega, by simp; omega, by go_num, by go_num, ?_, ?_, ?_⟩, by simp [intOf]; omega⟩
          · have h := hkp.out
            rw [HK.out] at h
            exact (by simpa using h : acc ++ [(i, k)] ++ keeps a b (i + 1) (k + 1) = keeps a b 0 0)
          · unfold Hid
            rw [prCells_snoc, List.length_append]
            exact HO.out
          · exact ((((below_dr hb.out nq).alloc hsz _).grown HG.out (by simp; omega) (fun j e => (hown.out.lt j e).1)) : _)
        · have d3 : (a.getD i 0 == b.getD k 0) = false := beq_eq_false_iff_ne.2 hxy
          have hno : ¬ (i < a.length ∧ k < b.length ∧ a.getD i 0 = b.getD k 0) := fun h => hxy h.2.2
          have HNO := Lib.hid hno
          clear hxy hno hbb
          by_cases hl : dst a b (i + 1) k < dst a b i k
          · have d4 : decide ((dst a b (i + 1) k : Int) < (dst a b i k : Int)) = true := by simp; omega
            have d5 : decide (dst a b (i + 1) k < dst a b i k) = true := by simp; omega
            have HK := Lib.hid (keeps_a a b hi' (fun h => HNO.out ⟨hi', h⟩) hl)
            generalize a.getD i 0 = x at *
            generalize b.getD k 0 = y at *
            generalize dst a b (i + 1) k = p1 at *
            generalize dst a b i k = p0 at *
            go_wp2_with fail
            refine wp_region_quiet_lit (by kernel_rfl) (by kernel_rfl) ?_
            repeat (go_big_quiet_step (fail))
            refine wpQuiet_nil ?_
            rintro _ ⟨nq, rfl⟩
            go_wp2_with fail
            refine wp_region_quiet_lit (by kernel_rfl) (by kernel_rfl) ?_
            repeat (go_big_quiet_step (fail))
            refine wpQuiet_nil ?_
            rintro _ ⟨nq2, rfl⟩
            go_wp2
            refine ⟨⟨i + 1, k, acc, by omega, by omega, by omega, by go_num, by go_num, ?_, own_dr hown.out _, below_dr hb.out _⟩, by simp [intOf]; omega⟩
            have h := hkp.out; rw [HK.out] at h; exact h
          · have d4 : decide ((dst a b (i + 1) k : Int) < (dst a b i k : Int)) = false := by simp; omega
            have d5 : decide (dst a b (i + 1) k < dst a b i k) = false := by simp; omega
            have HK := Lib.hid (keeps_b a b HNO.out (fun h => hl h.2) hk')
            generalize a.getD i 0 = x at *
            generalize b.getD k 0 = y at *
            generalize dst a b (i + 1) k = p1 at *
            generalize dst a b i k = p0 at *
            go_wp2_with fail
            refine wp_region_quiet_lit (by kernel_rfl) (by kernel_rfl) ?_
            repeat (go_big_quiet_step (fail))
            refine wpQuiet_nil ?_
            rintro _ ⟨nq, rfl⟩
            go_wp2_with fail
            refine wp_region_quiet_lit (by kernel_rfl) (by kernel_rfl) ?_
            repeat (go_big_quiet_step (fail))
            refine wpQuiet_nil ?_
            rintro _ ⟨nq2, rfl⟩
            go_wp2
            refine ⟨⟨i, k + 1, acc, by omega, by omega, by omega, by go_num, by go_num, ?_, own_dr hown.out _, below_dr hb.out _⟩, by simp [intOf]; omega⟩
            have h := hkp.out; rw [HK.out] at h; exact h
      · have d2 : decide ((k : Int) < (b.length : Int)) = false := by simp; omega
        have hl := dst_less a b (k := k) hi' (by omega)
        have d4 : decide ((dst a b (i + 1) k : Int) < (dst a b i k : Int)) = true := by simp; omega
        have d5 : decide (dst a b (i + 1) k < dst a b i k) = true := by simp; omega
        have HK := Lib.hid (keeps_a a b hi' (fun h => by omega) hl)
        clear hbb
        generalize dst a b (i + 1) k = p1 at *
        generalize dst a b i k = p0 at *
        go_wp2_with fail
        refine wp_region_quiet_lit (by kernel_rfl) (by kernel_rfl) ?_
        repeat (go_big_quiet_step (fail))
        refine wpQuiet_nil ?_
        rintro _ ⟨nq, rfl⟩
        go_wp2_with fail
        refine wp_region_quiet_lit (by kernel_rfl) (by kernel_rfl) ?_
        repeat (go_big_quiet_step (fail))
        refine wpQuiet_nil ?_
        rintro _ ⟨nq2, rfl⟩
        go_wp2
        refine ⟨⟨i + 1, k, acc, by omega, by omega, by omega, by go_num, by go_num, ?_, own_dr hown.out _, below_dr hb.out _⟩, by simp [intOf]; omega⟩
        have h := hkp.out; rw [HK.out] at h; exact h
    · have d1 : decide ((i : Int) < (a.length : Int)) = false := by simp; omega
      by_cases hk' : k < b.length
      · have HK := Lib.hid (keeps_b a b (i := i) (k := k) (fun h => hi' h.1) (fun h => hi' h.1) hk')
        clear hbb hrw cG0 cg0 cR0
        go_wp2_with fail
        refine wp_region_quiet_lit (by kernel_rfl) (by kernel_rfl) ?_
        repeat (go_big_quiet_step (fail))
        refine wpQuiet_nil ?_
        rintro _ ⟨nq, rfl⟩
        go_wp2_with fail
        refine wp_region_quiet_lit (by kernel_rfl) (by kernel_rfl) ?_
        repeat (go_big_quiet_step (fail))
        refine wpQuiet_nil ?_
        rintro _ ⟨nq2, rfl⟩
        go_wp2
        refine ⟨⟨i, k + 1, acc, by omega, by omega, by omega, by go_num, by go_num, ?_, own_dr hown.out _, below_dr hb.out _⟩, by simp [intOf]; omega⟩
        have h := hkp.out; rw [HK.out] at h; exact h
      · have HK := Lib.hid (keeps_end a b (i := i) (k := k) (by omega) (by omega))
        clear hrw cG0 cg0 cR0
        have HBB := Lib.hid hbb
        clear hbb
        go_wp2
        go_ret
        have h := hkp.out
        rw [HK.out, List.append_nil] at h
        rw [← h]
        exact ⟨_, rfl, own_more hown.out hsz1, HBB.out⟩
end Go.Proofs.Ythhmamkphcgocaa

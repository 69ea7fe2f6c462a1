/- sleuthref26.none, by a contract. -/
import Derived.Test.YthhmamkphcgocaaTold
import Derived.Test.YthhmamkphcgocaaFld
namespace Go.Proofs.Ythhmamkphcgocaa
open Go.RowKit

def rows4 (fr kd sc : List Int) (tk : List Bool) : List (TypeId × List Value) := [(3, ints fr), (3, ints kd), (3, ints sc), (4, boos tk)]
def rowsN (n : Nat) : List (TypeId × List Value) := rows4 (List.replicate n (-1)) (List.replicate n 0) (List.replicate n 0) (List.replicate n false)
theorem info3b : (Try.prog.info? 3).map (fun i => (i.zero, i.size, i.bytes)) = some (some (.int .i64 0), 1, 8) := by kernel_rfl
theorem info4b : (Try.prog.info? 4).map (fun i => (i.zero, i.size, i.bytes)) = some (some (.bool false), 1, 1) := by kernel_rfl
theorem info51 : (Try.prog.info? 51).map (·.size) = some 1 := by kernel_rfl
theorem info52 : (Try.prog.info? 52).map (·.size) = some 1 := by kernel_rfl

theorem info54 : (Try.prog.info? 54).map (·.size) = some 4 := by kernel_rfl
theorem rowsN_succ (k : Nat) : rowsN (k + 1) = [(3, ints (List.replicate k (-1)) ++ [.int .i64 (-1)]), (3, ints (List.replicate k 0) ++ [.int .i64 0]), (3, ints (List.replicate k 0) ++ [.int .i64 0]), (4, boos (List.replicate k false) ++ [.bool false])] := by
  simp [rowsN, rows4, ints, boos, ← List.replicate_succ']
theorem flds_nil (w : World) (o : Obj) (B : Nat) : Flds ((w.alloc o).alloc (.cells #[.slice none 0 0, .slice none 0 0, .slice none 0 0, .slice none 0 0] 54)) B (w.heap.size + 1) 54 [.slice none 0 0, .slice none 0 0, .slice none 0 0, .slice none 0 0] (rowsN 0) := by
  have hall : ∀ (i : Nat) (v : Value), [Value.slice none 0 0, .slice none 0 0, .slice none 0 0, .slice none 0 0][i]? = some v → v = .slice none 0 0 := by
    intro i v h
    have := List.mem_of_getElem? h
    simpa using this
  refine ⟨by have := heap_alloc_new (w.alloc o) (.cells #[.slice none 0 0, .slice none 0 0, .slice none 0 0, .slice none 0 0] 54); simpa using this, rfl, ?_, ?_, ?_⟩
  · intro i v r hv hr
    have hr' : r.2 = [] := by
      have := List.mem_of_getElem? hr
      simp [rowsN, rows4, ints, boos] at this
      rcases this with rfl | rfl <;> rfl
    rw [hall i v hv, hr']
    exact World.ownsRow_nil _ _ _ _
  · intro i j v u hv _ _
    rw [hall i v hv]
    exact .inl rfl
  · intro i v hv
    rw [hall i v hv]
    simp [Value.ownBlock]

set_option maxHeartbeats 1000000 in
theorem none_any (w : World) (n : Nat) (hn : n ≤ 40) :
    Calls Try.prog 41 #[.int .i64 n] w fun e w' => ∃ v0 v1 v2 v3 g, e = .returned (.agg #[v0, v1, v2, v3]) ∧ Flds w' (w.heap.size + 2) g 54 [v0, v1, v2, v3] (rowsN n) ∧ Below w.heap.size w w' := by
  obtain ⟨i3, hi3', hz3', hs3', hb3'⟩ := info_parts info3b
  obtain ⟨i4, hi4', hz4', hs4', hb4'⟩ := info_parts info4b
  have hi3 := Lib.hid hi3'
  have hz3 := Lib.hid hz3'
  have hs3 := Lib.hid hs3'
  have hb3 := Lib.hid hb3'
  have hi4 := Lib.hid hi4'
  have hz4 := Lib.hid hz4'
  have hs4 := Lib.hid hs4'
  have hb4 := Lib.hid hb4'
  clear hi3' hz3' hs3' hb3' hi4' hz4' hs4' hb4'
  go_enter Try.func41, Try.ntmps41
  go_wp2
  generalize hw1 : (w.alloc (Obj.cells #[Value.slice none 0 0, Value.slice none 0 0, Value.slice none 0 0, Value.slice none 0 0] 54)).alloc (Obj.cells #[Value.slice none 0 0, Value.slice none 0 0, Value.slice none 0 0, Value.slice none 0 0] 54) = w1
  have HW1 := Lib.hid hw1
  clear hw1
  go_loopw [4] (fun i wr => ∃ k : Nat, k ≤ n ∧ i = .int .i64 k ∧ Hid (∃ v0 v1 v2 v3, Flds wr (w.heap.size + 2) (w.heap.size + 1) 54 [v0, v1, v2, v3] (rowsN k)) ∧ Hid (Below (w.heap.size + 1) w1 wr)) (fun i _ => n - (intOf i).toNat)
  case atStart =>
    refine ⟨0, Nat.zero_le _, rfl, ⟨.slice none 0 0, .slice none 0 0, .slice none 0 0, .slice none 0 0, ?_⟩, Below.refl _ _⟩
    rw [← HW1.out]
    exact flds_nil _ _ _
  case round =>
    obtain ⟨k, hk, rfl, hF, hb⟩ := hrel
    by_cases hkn : k < n
    · obtain ⟨v0, v1, v2, v3, hf⟩ := hF.out
      have F0 := Lib.hid hf
      have L0 := Lib.hid hb.out
      have s0 := hf.lt
      have b0 : wr.cell? ⟨w.heap.size + 1, 0, none⟩ = some v0 := hf.cell 0
      clear hf hF hb
      go_wp2_with (first
        | (at_builtin; refine wpList_append_own_at _ rfl (.tmp 11) (.tmp 12) _ rfl (w.heap.size + 2) 3 i3 (.int .i64 0) 1 8 Try.underlying51 hi3.out hz3.out hs3.out hb3.out rfl (by decide) v0 _ _ rfl ((F0.out.alloc (.cells #[.int .i64 (-1)] 3)).own 0 _ _ rfl rfl) ⟨wr.heap.size, 0, none⟩ 1 1 [.int .i64 (-1)] rfl rfl (new_cells _ _ _ _ rfl) (by simp [Value.oneCell']) (by simp [ints, maxLen]; omega) (by simp [ints]; omega) (by simp; omega) ?_; intro u0 W0 ho0 hg0 hz0 ha0; clear hz0; have HO0 := Lib.hid ho0; have HG0 := Lib.hid hg0; have HA0 := Lib.hid ha0; clear ho0 hg0 ha0)
        | (refine wpList_store1 rfl 51 (.tmp 14) (.tmp 13) rfl ⟨w.heap.size + 1, 0, none⟩ rfl u0 v0 rfl (own_one HO0.out) info51 ((F0.out.alloc (.cells #[.int .i64 (-1)] 3)).mid (i := 0) rfl HG0.out 0).1 ((F0.out.alloc (.cells #[.int .i64 (-1)] 3)).mid (i := 0) rfl HG0.out 0).2 rfl ?_; intro V1 hV0; have F1 := Lib.hid (hV0 ▸ (F0.out.alloc (.cells #[.int .i64 (-1)] 3)).appended (i := 0) rfl HO0.out HG0.out HA0.out); have L1 := Lib.hid (hV0 ▸ below_step (i := 0) (v' := u0) (L0.out.alloc (by omega) (.cells #[.int .i64 (-1)] 3)) (by simp; omega) ((F0.out.alloc (.cells #[.int .i64 (-1)] 3)).own 0 _ _ rfl rfl) (by omega) HG0.out (by omega)); clear hV0; have s0 := F1.out.lt; have c00 := F1.out.cell 1; have c01 := F1.out.cell 2; have c02 := F1.out.cell 3; simp only [List.set_cons_zero, List.getElem?_cons_succ, List.getElem?_cons_zero] at c00 c01 c02)
        | (at_builtin; refine wpList_append_own_at _ rfl (.tmp 16) (.tmp 17) _ rfl (w.heap.size + 2) 3 i3 (.int .i64 0) 1 8 Try.underlying51 hi3.out hz3.out hs3.out hb3.out rfl (by decide) v1 _ _ rfl ((F1.out.alloc (.cells #[.int .i64 0] 3)).own 1 _ _ rfl rfl) ⟨V1.heap.size, 0, none⟩ 1 1 [.int .i64 0] rfl rfl (new_cells _ _ _ _ rfl) (by simp [Value.oneCell']) (by simp [ints, maxLen]; omega) (by simp [ints]; omega) (by simp; omega) ?_; intro u1 W1 ho1 hg1 hz1 ha1; clear hz1; have HO1 := Lib.hid ho1; have HG1 := Lib.hid hg1; have HA1 := Lib.hid ha1; clear ho1 hg1 ha1)
        | (refine wpList_store1 rfl 51 (.tmp 19) (.tmp 18) rfl ⟨w.heap.size + 1, 1, none⟩ rfl u1 v1 rfl (own_one HO1.out) info51 ((F1.out.alloc (.cells #[.int .i64 0] 3)).mid (i := 1) rfl HG1.out 1).1 ((F1.out.alloc (.cells #[.int .i64 0] 3)).mid (i := 1) rfl HG1.out 1).2 rfl ?_; intro V2 hV1; have F2 := Lib.hid (hV1 ▸ (F1.out.alloc (.cells #[.int .i64 0] 3)).appended (i := 1) rfl HO1.out HG1.out HA1.out); have L2 := Lib.hid (hV1 ▸ below_step (i := 1) (v' := u1) (L1.out.alloc (by omega) (.cells #[.int .i64 0] 3)) (by simp; omega) ((F1.out.alloc (.cells #[.int .i64 0] 3)).own 1 _ _ rfl rfl) (by omega) HG1.out (by omega)); clear hV1; have s1 := F2.out.lt; have c10 := F2.out.cell 1; have c11 := F2.out.cell 2; have c12 := F2.out.cell 3; simp only [List.set_cons_succ, List.set_cons_zero, List.getElem?_cons_succ, List.getElem?_cons_zero] at c10 c11 c12)
        | (at_builtin; refine wpList_append_own_at _ rfl (.tmp 21) (.tmp 22) _ rfl (w.heap.size + 2) 3 i3 (.int .i64 0) 1 8 Try.underlying51 hi3.out hz3.out hs3.out hb3.out rfl (by decide) v2 _ _ rfl ((F2.out.alloc (.cells #[.int .i64 0] 3)).own 2 _ _ rfl rfl) ⟨V2.heap.size, 0, none⟩ 1 1 [.int .i64 0] rfl rfl (new_cells _ _ _ _ rfl) (by simp [Value.oneCell']) (by simp [ints, maxLen]; omega) (by simp [ints]; omega) (by simp; omega) ?_; intro u2 W2 ho2 hg2 hz2 ha2; clear hz2; have HO2 := Lib.hid ho2; have HG2 := Lib.hid hg2; have HA2 := Lib.hid ha2; clear ho2 hg2 ha2)
        | (refine wpList_store1 rfl 51 (.tmp 24) (.tmp 23) rfl ⟨w.heap.size + 1, 2, none⟩ rfl u2 v2 rfl (own_one HO2.out) info51 ((F2.out.alloc (.cells #[.int .i64 0] 3)).mid (i := 2) rfl HG2.out 2).1 ((F2.out.alloc (.cells #[.int .i64 0] 3)).mid (i := 2) rfl HG2.out 2).2 rfl ?_; intro V3 hV2; have F3 := Lib.hid (hV2 ▸ (F2.out.alloc (.cells #[.int .i64 0] 3)).appended (i := 2) rfl HO2.out HG2.out HA2.out); have L3 := Lib.hid (hV2 ▸ below_step (i := 2) (v' := u2) (L2.out.alloc (by omega) (.cells #[.int .i64 0] 3)) (by simp; omega) ((F2.out.alloc (.cells #[.int .i64 0] 3)).own 2 _ _ rfl rfl) (by omega) HG2.out (by omega)); clear hV2; have s2 := F3.out.lt; have c20 := F3.out.cell 1; have c21 := F3.out.cell 2; have c22 := F3.out.cell 3; simp only [List.set_cons_succ, List.set_cons_zero, List.getElem?_cons_succ, List.getElem?_cons_zero] at c20 c21 c22)
        | (at_builtin; refine wpList_append_own_at _ rfl (.tmp 26) (.tmp 27) _ rfl (w.heap.size + 2) 4 i4 (.bool false) 1 1 Try.underlying52 hi4.out hz4.out hs4.out hb4.out rfl (by decide) v3 _ _ rfl ((F3.out.alloc (.cells #[.bool false] 4)).own 3 _ _ rfl rfl) ⟨V3.heap.size, 0, none⟩ 1 1 [.bool false] rfl rfl (new_cells _ _ _ _ rfl) (by simp [Value.oneCell']) (by simp [boos, maxLen]; omega) (by simp [boos]; omega) (by simp; omega) ?_; intro u3 W3 ho3 hg3 hz3 ha3; clear hz3; have HO3 := Lib.hid ho3; have HG3 := Lib.hid hg3; have HA3 := Lib.hid ha3; clear ho3 hg3 ha3)
        | (refine wpList_store1 rfl 52 (.tmp 29) (.tmp 28) rfl ⟨w.heap.size + 1, 3, none⟩ rfl u3 v3 rfl (own_one HO3.out) info52 ((F3.out.alloc (.cells #[.bool false] 4)).mid (i := 3) rfl HG3.out 3).1 ((F3.out.alloc (.cells #[.bool false] 4)).mid (i := 3) rfl HG3.out 3).2 rfl ?_; intro V4 hV3; have F4 := Lib.hid (hV3 ▸ (F3.out.alloc (.cells #[.bool false] 4)).appended (i := 3) rfl HO3.out HG3.out HA3.out); have L4 := Lib.hid (hV3 ▸ below_step (i := 3) (v' := u3) (L3.out.alloc (by omega) (.cells #[.bool false] 4)) (by simp; omega) ((F3.out.alloc (.cells #[.bool false] 4)).own 3 _ _ rfl rfl) (by omega) HG3.out (by omega)); clear hV3; have s3 := F4.out.lt; have c30 := F4.out.cell 1; have c31 := F4.out.cell 2; have c32 := F4.out.cell 3; simp only [List.set_cons_succ, List.set_cons_zero, List.getElem?_cons_succ, List.getElem?_cons_zero] at c30 c31 c32))
      refine ⟨⟨k + 1, by omega, by go_num, ⟨u0, u1, u2, u3, ?_⟩, L4.out⟩, by simp [intOf]; omega⟩
      rw [rowsN_succ]
      exact F4.out
    · obtain ⟨v0, v1, v2, v3, hf⟩ := hF.out
      have F0 := Lib.hid hf
      have hres : wr.heap[w.heap.size]? = some (.cells #[.slice none 0 0, .slice none 0 0, .slice none 0 0, .slice none 0 0] 54 (0, 0)) := by
        rw [hb.out.block _ (by omega), ← HW1.out, Below.heap_alloc _ _ _ (by simp), heap_alloc_new]
      have HRES := Lib.hid hres
      have hcs : CellsAt wr ⟨w.heap.size + 1, 0, none⟩ [v0, v1, v2, v3] := fun j v hv => by
        rw [Addr.add_lit, Nat.zero_add, hf.cell j, hv]
      have HCS := Lib.hid hcs
      have hone : (#[v0, v1, v2, v3] : Array Value).all (·.oneCell') = true := by
        simp [own_one (hf.own 0 v0 _ rfl rfl), own_one (hf.own 1 v1 _ rfl rfl), own_one (hf.own 2 v2 _ rfl rfl), own_one (hf.own 3 v3 _ rfl rfl)]
      have HONE := Lib.hid hone
      clear hf hres hcs hone
      go_wp2_with (first
        | (refine wpList_load_cells rfl 54 _ rfl ⟨w.heap.size + 1, 0, none⟩ rfl [v0, v1, v2, v3] Try.underlying54 rfl info54 HCS.out ?_)
        | (refine wpList_store_row rfl 54 (.tmp 2) (.tmp 30) rfl w.heap.size #[v0, v1, v2, v3] rfl rfl 54 _ HRES.out info54 rfl HONE.out ?_))
      have hg2 : (wr.setRow w.heap.size #[v0, v1, v2, v3]).heap[w.heap.size]? = some (.cells #[v0, v1, v2, v3] 54 (0, 0)) := setRow_heap _ _ _ _ _ _ HRES.out
      refine bodyPost_ret (results_cell_row rfl _ _ w.heap.size 54 _ (0, 0) _ rfl hg2 Try.underlying54 rfl info54) rfl ?_
      obtain rfl : k = n := by omega
      refine ⟨v0, v1, v2, v3, w.heap.size + 1, rfl, F0.out.keep (fun j hj _ => setRow_other _ _ _ _ (by omega)), ?_⟩
      have hw : Below w.heap.size w w1 := by rw [← HW1.out]; exact ((Below.refl _ _).alloc (Nat.le_refl _) _).alloc (by simp) _
      exact (hw.trans (hb.out.mono (by omega))).trans ⟨rfl, rfl, rfl, by simp, fun j hj => setRow_other _ _ _ _ (by omega)⟩
end Go.Proofs.Ythhmamkphcgocaa

/- myers.Blocks, by a contract. -/
import Derived.Test.YthhmamkphcgocaaDif
namespace Go.Proofs.Ythhmamkphcgocaa
open Go.RowKit

def hkCells (H : List (Int × Int × Int × Int)) : List Value := H.flatMap fun p => [.int .i64 p.1, .int .i64 p.2.1, .int .i64 p.2.2.1, .int .i64 p.2.2.2]
theorem hkCells_len (L : List (Int × Int × Int × Int)) : (hkCells L).length = L.length * 4 := by
  induction L with
  | nil => rfl
  | cons p L ih => simp only [hkCells, List.flatMap_cons, List.length_append, List.length_cons, List.length_nil] at *; omega
theorem hkCells_snoc (L : List (Int × Int × Int × Int)) (p : Int × Int × Int × Int) : hkCells (L ++ [p]) = hkCells L ++ [.int .i64 p.1, .int .i64 p.2.1, .int .i64 p.2.2.1, .int .i64 p.2.2.2] := by simp [hkCells]
theorem info65 : (Try.prog.info? 65).map (fun i => (i.zero, i.size, i.bytes)) = some (some (.agg #[.int .i64 0, .int .i64 0, .int .i64 0, .int .i64 0]), 4, 32) := by kernel_rfl
def bld65 (p q r s : Nat × Value) : Sem Value := Instr.build 65 #[p, q, r, s]
def lit59 (p : Nat × Value) : Sem Value := Instr.buildSlice 59 1 #[p]
section
variable {α : Type} (f : α → Nat × Value) (p q r s : α)
theorem bld65_eq : Instr.build 65 (Array.map f #[p, q, r, s]) = bld65 (f p) (f q) (f r) (f s) := by simp [bld65]
theorem lit59_eq : Instr.buildSlice 59 1 (Array.map f #[p]) = lit59 (f p) := by simp [lit59]
end
theorem run_bld65 (w : World) (x y z t : Int) : (bld65 (0, .int .i64 x) (1, .int .i64 y) (2, .int .i64 z) (3, .int .i64 t)).run Try.prog w = .ok (.agg #[.int .i64 x, .int .i64 y, .int .i64 z, .int .i64 t]) w := run_build w 65 _ _ (by kernel_rfl)
theorem info65c : (Try.prog.info? 65).map (·.size) = some 4 := by kernel_rfl
theorem zero65 : ((Try.prog.info? 65).bind (·.zero)).isSome = true := by kernel_rfl
theorem run_lit59 (W : World) (cs : Array Value) (hs : cs.size = 4) : (lit59 (0, .agg cs)).run Try.prog W = .ok (.slice (some ⟨W.heap.size, 0, none⟩) 1 1) (W.alloc (.cells cs 65)) :=
  run_build_one W Try.underlying59 info65c zero65 cs hs (by omega) (by omega)

theorem own_at {w : World} {B : Nat} {e : TypeId} {size : Nat} {v : Value} {n : Nat} {xs : List Value} (h : w.ownsRow B e size v n xs) (hn : 0 < n) : ∃ g cap, v = .slice (some ⟨g, 0, none⟩) n cap ∧ B ≤ g ∧ g < w.heap.size ∧ ∀ k x, xs[k]? = some x → w.cell? ⟨g, k, none⟩ = some x := by
  rcases h.2 with ⟨_, h0⟩ | ⟨g, cap, cur, rfl, hb, hh, hrest⟩
  · omega
  · refine ⟨g, cap, rfl, hb, (Array.getElem?_eq_some_iff.1 hh).1, fun k x hx => ?_⟩
    have hk : k < xs.length := (List.getElem?_eq_some_iff.1 hx).1
    exact (h.cellAt (g := g) k (by rw [h.1] at hk; exact hk)).trans hx
theorem prCells_at (L : List (Nat × Nat)) (k : Nat) (h : k < L.length) : (prCells L)[k * 2]? = some (.int .i64 (L.getD k (0, 0)).1) ∧ (prCells L)[k * 2 + 1]? = some (.int .i64 (L.getD k (0, 0)).2) := by
  induction L generalizing k with
  | nil => simp at h
  | cons p L ih =>
    rcases k with _ | k
    · simp [prCells]
    · have := ih k (by simpa using h)
      have e : prCells (p :: L) = .int .i64 p.1 :: .int .i64 p.2 :: prCells L := by simp [prCells]
      rw [e, show (k + 1) * 2 = k * 2 + 1 + 1 by omega, show k * 2 + 1 + 1 + 1 = (k * 2 + 1) + 1 + 1 by omega]
      simpa using this
theorem prs_drop {L : List (Nat × Nat)} {k : Nat} (h : k < L.length) : L.drop k = L.getD k (0, 0) :: L.drop (k + 1) := by
  rw [List.drop_eq_getElem_cons h]; simp [h]
theorem keeps_in (a b : List Int) (n : Nat) : ∀ i k : Nat, (a.length - i) + (b.length - k) ≤ n → i ≤ a.length → k ≤ b.length → (keeps a b i k).length ≤ a.length - i ∧ ∀ p ∈ keeps a b i k, p.1 < a.length ∧ p.2 < b.length := by
  induction n with
  | zero => intro i k h _ _; rw [keeps_end a b (by omega) (by omega)]; simp
  | succ n ih =>
    intro i k h hi hk
    by_cases h1 : i < a.length ∧ k < b.length ∧ a.getD i 0 = b.getD k 0
    · obtain ⟨x, y, z⟩ := h1
      rw [keeps_same a b x y z]
      have h2 := ih (i + 1) (k + 1) (by omega) (by omega) (by omega)
      refine ⟨by simp only [List.length_cons]; omega, fun p hp => ?_⟩
      rcases List.mem_cons.1 hp with rfl | hp
      · exact ⟨x, y⟩
      · exact h2.2 p hp
    · by_cases h2 : i < a.length ∧ dst a b (i + 1) k < dst a b i k
      · rw [keeps_a a b h2.1 (fun h => h1 ⟨h2.1, h⟩) h2.2]
        have h3 := ih (i + 1) k (by omega) (by omega) hk
        exact ⟨by omega, h3.2⟩
      · by_cases h3 : k < b.length
        · rw [keeps_b a b h1 h2 h3]
          exact ih i (k + 1) (by omega) hi (by omega)
        · by_cases h4 : i < a.length
          · exact absurd ⟨h4, dst_less a b h4 (by omega)⟩ h2
          · rw [keeps_end a b (by omega) (by omega)]; simp
theorem hunks_len (l : List (Nat × Nat)) : ∀ i k : Int, (hunks i k l).length ≤ l.length := by
  induction l with
  | nil => intro i k; simp [hunks]
  | cons p l ih =>
    intro i k
    have := ih (p.1 + 1) (p.2 + 1)
    rw [hunks]
    simp only [List.length_append, List.length_cons]
    split <;> simp <;> omega

attribute [local go_sem ↓] bld91_eq lit68_eq bld65_eq lit59_eq
attribute [local go_sem] run_bld91 run_lit68 run_bld65 run_lit59

set_option maxRecDepth 100000 in
set_option maxHeartbeats 4000000 in
theorem blocks_any (w : World) (a b : List Int) (A D : Option Addr) (cA cD : Nat) (ra : Rv w.heap.size w A (ints a)) (rb : Rv w.heap.size w D (ints b)) (la : a.length ≤ 400) (lb : b.length ≤ 400) :
    Calls Try.prog 25 #[.slice A a.length cA, .slice D b.length cD] w fun e w' => ∃ v, e = .returned (.tuple #[v, .int .i64 0]) ∧ w'.ownsRow w.heap.size 65 4 v (blocks a b).length (hkCells (blocks a b)) ∧ Below w.heap.size w w' := by
  have HD := Lib.hid (mdiff_any w a b A D cA cD ra rb la lb)
  obtain ⟨i0, hi0', hz0', hz1', hz2'⟩ := info_parts info91
  have hi0 := Lib.hid hi0'
  have hz0 := Lib.hid hz0'
  have hz1 := Lib.hid hz1'
  have hz2 := Lib.hid hz2'
  obtain ⟨i5, hi5', hz5', hs5', hb5'⟩ := info_parts info65
  have hi5 := Lib.hid hi5'
  have hz5 := Lib.hid hz5'
  have hs5 := Lib.hid hs5'
  have hb5 := Lib.hid hb5'
  clear ra rb hi0' hz0' hz1' hz2' hi5' hz5' hs5' hb5'
  have hin := keeps_in a b _ 0 0 (Nat.le_refl _) (Nat.zero_le _) (Nat.zero_le _)
  have hL := hin.1
  have hall : ∀ p ∈ keeps a b 0 0 ++ [(a.length, b.length)], p.1 ≤ 400 ∧ p.2 ≤ 400 := by
    intro p hp
    rcases List.mem_append.1 hp with hp | hp
    · have := hin.2 p hp; omega
    · simp at hp; subst hp; exact ⟨la, lb⟩
  have HALL := Lib.hid hall
  clear hin hall
  unfold blocks
  generalize keeps a b 0 0 = L at *
  obtain ⟨LL, hLL⟩ : ∃ LL, LL = L ++ [(a.length, b.length)] := ⟨_, rfl⟩
  rw [← hLL] at HALL ⊢
  have HLL := Lib.hid hLL
  have hlen : LL.length = L.length + 1 := by rw [hLL]; simp
  clear hLL
  go_enter Try.func25, Try.ntmps25
  go_wp2_with (first
    | (go_at_call 45; refine HD.out.mono ?_; rintro e w1 ⟨v, rfl, ho, hb⟩; have HO := Lib.hid ho; have HB := Lib.hid hb; have hsz1 := hb.size; clear ho hb)
    | (at_builtin; refine wpList_append_own _ rfl (.tmp 22) (.tmp 28) 68 rfl w.heap.size 91 i0 (.agg #[.int .i64 0, .int .i64 0]) 2 16 Try.underlying68 hi0.out hz0.out hz1.out hz2.out rfl (by decide) v L.length (prCells L) rfl (HO.out.alloc (.cells #[.int .i64 a.length, .int .i64 b.length] 91)) ⟨w1.heap.size, 0, none⟩ 1 1 [.int .i64 a.length, .int .i64 b.length] rfl rfl (new_cells _ _ _ _ rfl) (by simp [Value.oneCell']) (by unfold maxLen; omega) (by omega) (by simp; omega) ?_; intro v2 w2 ho hg hz; clear hz; obtain ⟨g, cap, hv2, hgb, hglt, hcells⟩ := own_at ho (by omega); subst hv2; have HC := Lib.hid hcells; have HB2 := Lib.hid ((HB.out.alloc hsz1 (.cells #[.int .i64 a.length, .int .i64 b.length] 91)).grown hg (by simp; omega) (fun j e => (HO.out.lt j e).1)); clear ho hg hcells))
  have cells : ∀ j, j < LL.length → w2.cell? ⟨g, j * 2, none⟩ = some (.int .i64 (LL.getD j (0, 0)).1) ∧ w2.cell? ⟨g, j * 2 + 1, none⟩ = some (.int .i64 (LL.getD j (0, 0)).2) := by
    intro j hj
    have e : prCells LL = prCells L ++ [.int .i64 a.length, .int .i64 b.length] := by rw [HLL.out, prCells_snoc]
    have := prCells_at LL j hj
    rw [e] at this
    exact ⟨HC.out _ _ this.1, HC.out _ _ this.2⟩
  have CE := Lib.hid cells
  clear cells
  go_loopw [8, 9, 10, 31] (fun ov iv kv jv wr => ∃ (j : Nat) (acc : List (Int × Int × Int × Int)) (x y : Int), j ≤ L.length + 1 ∧ acc.length ≤ j ∧ jv = .int .i64 j ∧ iv = .int .i64 x ∧ kv = .int .i64 y ∧ 0 ≤ x ∧ x ≤ 401 ∧ 0 ≤ y ∧ y ≤ 401 ∧ Hid (acc ++ hunks x y (LL.drop j) = hunks 0 0 LL) ∧ Hid (wr.ownsRow w2.heap.size 65 4 ov acc.length (hkCells acc)) ∧ Hid (Below w2.heap.size w2 wr)) (fun _ _ _ jv _ => L.length + 1 - (intOf jv).toNat)
  case atStart => exact ⟨0, [], 0, 0, Nat.zero_le _, Nat.zero_le _, rfl, rfl, rfl, by omega, by omega, by omega, by omega, rfl, World.ownsRow_nil _ _ _ _, Below.refl _ _⟩
  case round =>
    obtain ⟨j, acc, x, y, hj, hacc, rfl, rfl, rfl, hx0, hx1, hy0, hy1, hk, hown, hb⟩ := hrel
    by_cases hlt : j < L.length + 1
    · obtain ⟨c1, c2⟩ := CE.out j (by omega)
      have c1' : wr.cell? ⟨g, j * 2, none⟩ = some (.int .i64 (LL.getD j (0, 0)).1) := (hb.out.cell (by exact hglt)).trans c1
      have c2' : wr.cell? ⟨g, j * 2 + 1, none⟩ = some (.int .i64 (LL.getD j (0, 0)).2) := (hb.out.cell (by exact hglt)).trans c2
      have hdrop := prs_drop (L := LL) (k := j) (by omega)
      have hp := HALL.out (LL.getD j (0, 0)) (by rw [List.getD_eq_getElem?_getD, List.getElem?_eq_getElem (by omega)]; exact List.getElem_mem _)
      have hstep : hunks x y (LL.drop j) = (if x < ((LL.getD j (0, 0)).1 : Int) ∨ y < ((LL.getD j (0, 0)).2 : Int) then [(x, ((LL.getD j (0, 0)).1 : Int) - x, y, ((LL.getD j (0, 0)).2 : Int) - y)] else []) ++ hunks (((LL.getD j (0, 0)).1 : Int) + 1) (((LL.getD j (0, 0)).2 : Int) + 1) (LL.drop (j + 1)) := by rw [hdrop]; rfl
      have HST := Lib.hid hstep
      have hsz := hb.out.size
      clear hdrop hstep c1 c2
      generalize LL.getD j (0, 0) = pq at *
      obtain ⟨p, q⟩ := pq
      simp only at c1' c2' hp HST
      obtain ⟨hp1, hp2⟩ := hp
      have hcpq : ∀ w3 : World, ((wr.alloc (.cells #[.int .i64 p, .int .i64 q] 91)).alloc (.cells #[.int .i64 x, .int .i64 ((p : Int) - x), .int .i64 y, .int .i64 ((q : Int) - y)] 65)).grownBy w3 u8.ownBlock → w3.cell? ⟨wr.heap.size, 0, none⟩ = some (.int .i64 p) ∧ w3.cell? ⟨wr.heap.size, 1, none⟩ = some (.int .i64 q) := by
        intro w3 hg3
        have hbk : w3.heap[wr.heap.size]? = some (.cells #[.int .i64 p, .int .i64 q] 91 (0, 0)) := by
          rw [hg3.block wr.heap.size (by simp; omega) (fun e => by have := (hown.out.lt _ e.symm).2; omega), Below.heap_alloc _ _ _ (by simp), heap_alloc_new]
        exact ⟨by rw [cell_of_row w3 _ 0 _ _ _ hbk]; rfl, by rw [cell_of_row w3 _ 1 _ _ _ hbk]; rfl⟩
      have CPQ := Lib.hid hcpq
      clear hcpq
      by_cases h1 : x < (p : Int)
      · rw [if_pos (by omega)] at HST
        have HOW := Lib.hid ((hown.out.alloc (.cells #[.int .i64 p, .int .i64 q] 91)).alloc (.cells #[.int .i64 x, .int .i64 ((p : Int) - x), .int .i64 y, .int .i64 ((q : Int) - y)] 65))
        go_wp2_with (at_builtin; refine wpList_append_own _ rfl (.tmp 45) (.tmp 57) 59 rfl w2.heap.size 65 i5 (.agg #[.int .i64 0, .int .i64 0, .int .i64 0, .int .i64 0]) 4 32 Try.underlying59 hi5.out hz5.out hs5.out hb5.out rfl (by decide) u8 acc.length (hkCells acc) rfl HOW.out ⟨wr.heap.size + 1, 0, none⟩ 1 1 [.int .i64 x, .int .i64 ((p : Int) - x), .int .i64 y, .int .i64 ((q : Int) - y)] rfl rfl (new_cells _ _ _ _ (by simp)) (by simp [Value.oneCell']) (by unfold maxLen; omega) (by omega) (by simp; omega) ?_; intro v3 w3 ho3 hg3 hz3; clear hz3; have HO3 := Lib.hid ho3; have HG3 := Lib.hid hg3; have cp := CPQ.out w3 hg3; clear ho3 hg3)
        obtain ⟨cp1, cp2⟩ := cp
        refine wp_region_quiet_lit (by kernel_rfl) (by kernel_rfl) ?_
        repeat (go_big_quiet_step (fail))
        refine wpQuiet_nil ?_
        rintro _ ⟨nq, rfl⟩
        go_wp2
        refine ⟨⟨j + 1, acc ++ [(x, (p : Int) - x, y, (q : Int) - y)], (p : Int) + 1, (q : Int) + 1, by omega, by simp; omega, by go_num, by go_num, by go_num, by omega, by omega, by omega, by omega, ?_, ?_, ?_⟩, by simp [intOf]; omega⟩
        · have h := hk.out
          rw [HST.out] at h
          unfold Hid
          simpa using h
        · unfold Hid
          rw [hkCells_snoc, List.length_append]
          exact HO3.out
        · exact (below_dr (((hb.out.alloc hsz _).alloc (by simp; omega) _).grown HG3.out (by simp; omega) (fun k e => (hown.out.lt k e).1)) _ : _)
      · by_cases h2 : y < (q : Int)
        · rw [if_pos (by omega)] at HST
          have HOW := Lib.hid ((hown.out.alloc (.cells #[.int .i64 p, .int .i64 q] 91)).alloc (.cells #[.int .i64 x, .int .i64 ((p : Int) - x), .int .i64 y, .int .i64 ((q : Int) - y)] 65))
          go_wp2_with (at_builtin; refine wpList_append_own _ rfl (.tmp 45) (.tmp 57) 59 rfl w2.heap.size 65 i5 (.agg #[.int .i64 0, .int .i64 0, .int .i64 0, .int .i64 0]) 4 32 Try.underlying59 hi5.out hz5.out hs5.out hb5.out rfl (by decide) u8 acc.length (hkCells acc) rfl HOW.out ⟨wr.heap.size + 1, 0, none⟩ 1 1 [.int .i64 x, .int .i64 ((p : Int) - x), .int .i64 y, .int .i64 ((q : Int) - y)] rfl rfl (new_cells _ _ _ _ (by simp)) (by simp [Value.oneCell']) (by unfold maxLen; omega) (by omega) (by simp; omega) ?_; intro v3 w3 ho3 hg3 hz3; clear hz3; have HO3 := Lib.hid ho3; have HG3 := Lib.hid hg3; have cp := CPQ.out w3 hg3; clear ho3 hg3)
          obtain ⟨cp1, cp2⟩ := cp
          refine wp_region_quiet_lit (by kernel_rfl) (by kernel_rfl) ?_
          repeat (go_big_quiet_step (fail))
          refine wpQuiet_nil ?_
          rintro _ ⟨nq, rfl⟩
          go_wp2
          refine ⟨⟨j + 1, acc ++ [(x, (p : Int) - x, y, (q : Int) - y)], (p : Int) + 1, (q : Int) + 1, by omega, by simp; omega, by go_num, by go_num, by go_num, by omega, by omega, by omega, by omega, ?_, ?_, ?_⟩, by simp [intOf]; omega⟩
          · have h := hk.out
            rw [HST.out] at h
            unfold Hid
            simpa using h
          · unfold Hid
            rw [hkCells_snoc, List.length_append]
            exact HO3.out
          · exact (below_dr (((hb.out.alloc hsz _).alloc (by simp; omega) _).grown HG3.out (by simp; omega) (fun k e => (hown.out.lt k e).1)) _ : _)
        · rw [if_neg (by omega), List.nil_append] at HST
          clear CPQ
          go_wp2_with fail
          refine wp_region_quiet_lit (by kernel_rfl) (by kernel_rfl) ?_
          repeat (go_big_quiet_step (fail))
          refine wpQuiet_nil ?_
          rintro _ ⟨nq, rfl⟩
          go_wp2
          refine ⟨⟨j + 1, acc, (p : Int) + 1, (q : Int) + 1, by omega, by omega, by go_num, by go_num, by go_num, by omega, by omega, by omega, by omega, ?_, ?_, ?_⟩, by simp [intOf]; omega⟩
          · have h := hk.out
            rw [HST.out] at h
            exact h
          · exact (hown.out.alloc _ : _)
          · exact (below_dr (hb.out.alloc hsz _) _ : _)
    · go_wp2
      go_ret2
      obtain rfl : j = LL.length := by omega
      have h := hk.out
      rw [List.drop_length] at h
      have e : hunks x y [] = [] := rfl
      rw [e, List.append_nil] at h
      rw [← h]
      have hsz := HB2.out.size
      exact ⟨_, rfl, own_more hown.out hsz, HB2.out.trans (hb.out.mono hsz)⟩
end Go.Proofs.Ythhmamkphcgocaa

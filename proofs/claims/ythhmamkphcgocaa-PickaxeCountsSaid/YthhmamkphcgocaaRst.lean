/- sleuthref22.Rests, by a contract. -/
import Derived.Test.YthhmamkphcgocaaFil4
import Derived.Test.YthhmamkphcgocaaFld
namespace Go.Proofs.Ythhmamkphcgocaa
open Go.RowKit

theorem info51d : (Try.prog.info? 51).map (fun i => (i.zero, i.size, i.bytes)) = some (some (.slice none 0 0), 1, 24) := by kernel_rfl
def nilCs (n : Nat) : Array Value := (List.replicate n (Value.slice none 0 0)).toArray
theorem make_rows (n : Nat) (hn : n ≤ 1000) (W : World) : (Instr.makeSlice 95 (.int .i64 n) (.int .i64 n)).run Try.prog W = .ok (.slice (some ⟨W.heap.size, 0, none⟩) n n) (W.alloc (.cells (nilCs n) 51)) := by
  obtain ⟨i0, hi0, hz0, hz1, hz2⟩ := info_parts info51d
  have h := run_make (P := Try.prog) W 95 51 i0 (.slice none 0 0) Try.underlying95 hi0 hz0 .i64 .i64 n n (by omega) (by omega) (by rw [hz2]; omega) (by omega)
  rw [h, hz1]
  have e : (madeCells (Value.slice none 0 0).cells ((n : Int).toNat * 1)) = nilCs n := by
    apply Array.ext'
    simp only [Int.toNat_natCast, Nat.mul_one]
    rw [show (Value.slice none 0 0).cells = #[Value.slice none 0 0] from rfl, toList_madeCells_one]
    simp [nilCs]
  rw [e]
  simp

/-- Row j in block g: the numbers f from k on, up to m. -/
def NumsFrom (w : World) (g : Nat) (f : Nat → Nat) (k m : Nat) : Prop := ∃ rc, w.heap[g]? = some (.cells rc 3 (0, 0)) ∧ rc.size = m + 1 ∧ ∀ t, k ≤ t → t ≤ m → rc[t]? = some (.int .i64 (f t))
/-- The rows from i on stand in block R. -/
def RowsFrom (w : World) (B R : Nat) (a b : List Int) (i : Nat) : Prop :=
  B ≤ R ∧ ∃ cur, w.heap[R]? = some (.cells cur 51 (0, 0)) ∧ cur.size = a.length + 1 ∧ ∀ j, i ≤ j → j ≤ a.length → ∃ g, B ≤ g ∧ cur[j]? = some (.slice (some ⟨g, 0, none⟩) (b.length + 1) (b.length + 1)) ∧ NumsFrom w g (dst a b j) 0 b.length

section
variable {w w' : World} {B R g : Nat} {a b : List Int} {i : Nat}
theorem NumsFrom.keep {f : Nat → Nat} {k m : Nat} (h : NumsFrom w g f k m) (hk : w.heap.size ≤ w'.heap.size ∧ w'.heap[g]? = w.heap[g]?) : NumsFrom w' g f k m := by
  obtain ⟨rc, h1, h2, h3⟩ := h
  exact ⟨rc, hk.2.trans h1, h2, h3⟩
theorem RowsFrom.keep (h : RowsFrom w B R a b i) (hk : ∀ j, B ≤ j → j < w.heap.size → w'.heap[j]? = w.heap[j]?) : RowsFrom w' B R a b i := by
  obtain ⟨h0, cur, h1, h2, h3⟩ := h
  refine ⟨h0, cur, (hk R h0 (Array.getElem?_eq_some_iff.1 h1).1).trans h1, h2, fun j h4 h5 => ?_⟩
  obtain ⟨g, g0, g1, rc, g2, g3⟩ := h3 j h4 h5
  exact ⟨g, g0, g1, rc, (hk g g0 (Array.getElem?_eq_some_iff.1 g2).1).trans g2, g3⟩
theorem RowsFrom.drewN (h : RowsFrom w B R a b i) (m : Nat) : RowsFrom (w.drewN m) B R a b i := h.keep (fun _ _ _ => rfl)
theorem NumsFrom.drewN {f : Nat → Nat} {k m : Nat} (h : NumsFrom w g f k m) (n : Nat) : NumsFrom (w.drewN n) g f k m := h
theorem NumsFrom.cell {f : Nat → Nat} {k m : Nat} (h : NumsFrom w g f k m) (t : Nat) (h1 : k ≤ t) (h2 : t ≤ m) : w.cell? ⟨g, t, none⟩ = some (.int .i64 (f t)) := by
  obtain ⟨rc, e1, e2, e3⟩ := h
  rw [cell_of_row w g t _ _ _ e1]
  exact e3 t h1 h2
theorem NumsFrom.any {f : Nat → Nat} {k m : Nat} (h : NumsFrom w g f k m) (t : Nat) (h2 : t ≤ m) : (∃ v, w.cell? ⟨g, t, none⟩ = some v) ∧ w.frozen? ⟨g, t, none⟩ = false := by
  obtain ⟨rc, e1, e2, e3⟩ := h
  exact ⟨⟨rc[t]'(by omega), by rw [cell_of_row w g t _ _ _ e1]; simp⟩, frozen_of_row w g t _ _ e1⟩
theorem NumsFrom.stored {f : Nat → Nat} {k m : Nat} (h : NumsFrom w g f (k + 1) m) (hk : k ≤ m) {x : Int} (hx : x = f k) : NumsFrom (w.setCell ⟨g, k, none⟩ (.int .i64 x)) g f k m := by
  obtain ⟨rc, e1, e2, e3⟩ := h
  refine ⟨_, heap_setCell_same w g k rc 3 _ e1, by simpa using e2, fun t h1 h2 => ?_⟩
  by_cases ht : t = k
  · subst ht; rw [Array.getElem?_setIfInBounds_self_of_lt (by omega), hx]
  · rw [Array.getElem?_setIfInBounds_ne (by omega)]; exact e3 t (by omega) h2
theorem NumsFrom.pass {f : Nat → Nat} {k m : Nat} (h : NumsFrom w g f (k + 1) m) (x : Value) : NumsFrom (w.setCell ⟨g, k, none⟩ x) g f (k + 1) m := by
  obtain ⟨rc, e1, e2, e3⟩ := h
  exact ⟨_, heap_setCell_same w g k rc 3 _ e1, by simpa using e2, fun t h1 h2 => by rw [Array.getElem?_setIfInBounds_ne (by omega)]; exact e3 t h1 h2⟩
theorem RowsFrom.push (h : RowsFrom w B R a b (i + 1)) (hg : B ≤ g) (hn : NumsFrom w g (dst a b i) 0 b.length) (hi : i ≤ a.length) : RowsFrom (w.setCell ⟨R, i, none⟩ (.slice (some ⟨g, 0, none⟩) (b.length + 1) (b.length + 1))) B R a b i := by
  obtain ⟨h0, cur, h1, h2, h3⟩ := h
  have other : ∀ j, j ≠ R → (w.setCell ⟨R, i, none⟩ (.slice (some ⟨g, 0, none⟩) (b.length + 1) (b.length + 1))).heap[j]? = w.heap[j]? := fun j hj => Below.heap_setCell w ⟨R, i, none⟩ _ j hj
  have nums : ∀ (g' : Nat) (f : Nat → Nat), NumsFrom w g' f 0 b.length → NumsFrom (w.setCell ⟨R, i, none⟩ (.slice (some ⟨g, 0, none⟩) (b.length + 1) (b.length + 1))) g' f 0 b.length := by
    rintro g' f ⟨rc, e1, e2, e3⟩
    refine ⟨rc, (other g' ?_).trans e1, e2, e3⟩
    rintro rfl
    rw [h1] at e1
    simp at e1
  refine ⟨h0, _, heap_setCell_same w R i cur 51 _ h1, by simpa using h2, fun j h4 h5 => ?_⟩
  by_cases hj : j = i
  · subst hj
    exact ⟨g, hg, by rw [Array.getElem?_setIfInBounds_self_of_lt (by omega)], nums g _ hn⟩
  · obtain ⟨g', g0, g1, g2⟩ := h3 j (by omega) h5
    exact ⟨g', g0, by rw [Array.getElem?_setIfInBounds_ne (by omega)]; exact g1, nums g' _ g2⟩
theorem RowsFrom.row (h : RowsFrom w B R a b i) (j : Nat) (h4 : i ≤ j) (h5 : j ≤ a.length) : ∃ g, w.cell? ⟨R, j, none⟩ = some (.slice (some ⟨g, 0, none⟩) (b.length + 1) (b.length + 1)) ∧ ∀ t, t ≤ b.length → w.cell? ⟨g, t, none⟩ = some (.int .i64 (dst a b j t)) := by
  obtain ⟨h0, cur, h1, h2, h3⟩ := h
  obtain ⟨g, g0, g1, g2⟩ := h3 j h4 h5
  exact ⟨g, by rw [cell_of_row w R j _ _ _ h1]; exact g1, fun t ht => g2.cell t (Nat.zero_le _) ht⟩
theorem RowsFrom.slot (h : RowsFrom w B R a b i) (j : Nat) (h5 : j ≤ a.length) : (∃ v, w.cell? ⟨R, j, none⟩ = some v) ∧ w.frozen? ⟨R, j, none⟩ = false := by
  obtain ⟨h0, cur, h1, h2, h3⟩ := h
  exact ⟨⟨cur[j]'(by omega), by rw [cell_of_row w R j _ _ _ h1]; simp⟩, frozen_of_row w R j _ _ h1⟩
end
theorem rows_made (w : World) (a b : List Int) : RowsFrom (w.alloc (.cells (nilCs (a.length + 1)) 51)) w.heap.size w.heap.size a b (a.length + 1) :=
  ⟨Nat.le_refl _, _, heap_alloc_new w _, by simp [nilCs], fun j h1 h2 => absurd h1 (by omega)⟩
theorem nums_made (w : World) (f : Nat → Nat) (m : Nat) : NumsFrom (w.alloc (.cells (intCs (List.replicate (m + 1) 0)) 3)) w.heap.size f (m + 1) m :=
  ⟨_, heap_alloc_new w _, by simp [intCs, ints], fun t h1 h2 => absurd h1 (by omega)⟩

set_option maxRecDepth 100000 in
set_option maxHeartbeats 4000000 in
theorem rests_any (w : World) (a b : List Int) (A D : Option Addr) (cA cD : Nat) (ra : Rv w.heap.size w A (ints a)) (rb : Rv w.heap.size w D (ints b)) (la : a.length ≤ 400) (lb : b.length ≤ 400) :
    Calls Try.prog 49 #[.slice A a.length cA, .slice D b.length cD] w fun e w' => ∃ R, e = .returned (.slice (some ⟨R, 0, none⟩) (a.length + 1) (a.length + 1)) ∧ RowsFrom w' w.heap.size R a b 0 ∧ Below w.heap.size w w' := by
  have RA := Lib.hid ra
  have RB := Lib.hid rb
  have m1 := make_rows (a.length + 1) (by omega)
  have m2 := make_two (b.length + 1) (b.length + 1) (Nat.le_refl _) (by omega)
  rw [show ((a.length + 1 : Nat) : Int) = (a.length : Int) + 1 by omega] at m1
  rw [show ((b.length + 1 : Nat) : Int) = (b.length : Int) + 1 by omega] at m2
  have M2 := Lib.hid m2
  clear ra rb
  obtain ⟨Z1, hZ1⟩ : ∃ Z, Z = nilCs (a.length + 1) := ⟨_, rfl⟩
  obtain ⟨Z2, hZ2⟩ : ∃ Z, Z = intCs (List.replicate (b.length + 1) 0) := ⟨_, rfl⟩
  rw [← hZ1] at m1
  rw [← hZ2] at m2 M2
  have HZ1 := Lib.hid hZ1
  have HZ2 := Lib.hid hZ2
  clear hZ1 hZ2
  go_enter Try.func49, Try.ntmps49
  go_wp2_with fail
  generalize hw1 : w.alloc (.cells Z1 51) = w1
  have HW1 := Lib.hid hw1
  clear hw1
  go_loopw [6] (fun iv wr => ∃ j : Nat, j ≤ a.length + 1 ∧ iv = .int .i64 ((j : Int) - 1) ∧ Hid (RowsFrom wr w.heap.size w.heap.size a b j) ∧ Hid (Below w.heap.size w wr)) (fun iv _ => (intOf iv + 1).toNat)
  case atStart => exact ⟨a.length + 1, Nat.le_refl _, by go_num, by rw [← HW1.out, HZ1.out]; exact rows_made w a b, by rw [← HW1.out]; exact (Below.refl _ _).alloc (Nat.le_refl _) _⟩
  case round =>
    obtain ⟨j, hj, rfl, hrw, hb⟩ := hrel
    rcases j with _ | i
    · go_wp2
      go_ret
      exact ⟨_, rfl, hrw.out, hb.out⟩
    · have hie : (((i + 1 : Nat) : Int) - 1) = i := by omega
      rw [hie]
      clear hie
      obtain ⟨w0, hw0⟩ : ∃ w0, w0 = wr := ⟨_, rfl⟩
      rw [← hw0]
      rw [← hw0] at hrw hb
      clear hw0
      have hsz0 := hb.out.size
      go_wp2_with fail
      go_loopw [8] (fun kv wr => ∃ k : Nat, k ≤ b.length + 1 ∧ kv = .int .i64 ((k : Int) - 1) ∧ Hid (NumsFrom wr w0.heap.size (dst a b i) k b.length) ∧ Hid (Below w0.heap.size w0 wr)) (fun kv _ => (intOf kv + 1).toNat)
      case atStart => exact ⟨b.length + 1, Nat.le_refl _, by go_num, by rw [HZ2.out]; exact nums_made w0 _ _, (Below.refl _ _).alloc (Nat.le_refl _) _⟩
      case round =>
        obtain ⟨q, hq, rfl, hnm, hb2⟩ := hrel
        rcases q with _ | k
        · have hrw2 : RowsFrom wr w.heap.size w.heap.size a b (i + 1) := hrw.out.keep fun j _ hj => hb2.out.block j hj
          obtain ⟨⟨old, cO⟩, fO⟩ := hrw2.slot i (by omega)
          have PU := Lib.hid (hrw2.push hsz0 hnm.out (by omega))
          have BB := Lib.hid ((hb.out.trans (hb2.out.mono hsz0)).setCell (p := ⟨w.heap.size, i, none⟩) (Nat.le_refl _) (.slice (some ⟨w0.heap.size, 0, none⟩) (b.length + 1) (b.length + 1)))
          clear hrw2
          go_wp2
          refine ⟨⟨i, by omega, by go_num, PU.out, BB.out⟩, by simp [intOf]⟩
        · have hke : (((k + 1 : Nat) : Int) - 1) = k := by omega
          rw [hke]
          clear hke
          obtain ⟨⟨old, cO⟩, fO⟩ := hnm.out.any k (by omega)
          have hdl := dst_le a b i k
          by_cases hi : i = a.length
          · have e : ((b.length : Int) - k) = dst a b i k := by rw [dst_at_n a b (by omega)]; omega
            have ST := Lib.hid (hnm.out.stored (by omega) e)
            subst hi
            clear e
            go_wp2
            refine ⟨⟨k, by omega, by go_num, ST.out, (hb2.out.setCell (p := ⟨w0.heap.size, k, none⟩) (Nat.le_refl _) _ : _)⟩, by simp [intOf]⟩
          · have hilt : i < a.length := by omega
            have hne : ((i : Int) == (a.length : Int)) = false := by simp; omega
            by_cases hk : k = b.length
            · have e : ((a.length : Int) - i) = dst a b i k := by rw [dst_at_m a b (by omega)]; omega
              have ST := Lib.hid (hnm.out.stored (by omega) e)
              subst hk
              clear e
              go_wp2
              refine ⟨⟨b.length, by omega, by go_num, ST.out, (hb2.out.setCell (p := ⟨w0.heap.size, b.length, none⟩) (Nat.le_refl _) _ : _)⟩, by simp [intOf]⟩
            · have hklt : k < b.length := by omega
              have hne2 : ((k : Int) == (b.length : Int)) = false := by simp; omega
              obtain ⟨ad, rfl, bA, cA0⟩ := RA.out.at_ (k := i) (ints_at hilt)
              obtain ⟨bd, rfl, bD, cD0⟩ := RB.out.at_ (k := k) (ints_at hklt)
              have hbb : Below w.heap.size w wr := hb.out.trans (hb2.out.mono hsz0)
              have cA1 : wr.cell? (ad.add i) = some (.int .i64 (a.getD i 0)) := (hbb.cell (by rw [block_add]; exact bA)).trans cA0
              have cD1 : wr.cell? (bd.add k) = some (.int .i64 (b.getD k 0)) := (hbb.cell (by rw [block_add]; exact bD)).trans cD0
              obtain ⟨g, cR, cG⟩ := (hrw.out.keep (fun j _ hj => hb2.out.block j hj) : RowsFrom wr w.heap.size w.heap.size a b (i + 1)).row (i + 1) (Nat.le_refl _) (by omega)
              have cG0 := cG k (by omega)
              have cG1 := cG (k + 1) (by omega)
              have hd1 := dst_le a b (i + 1) k
              have hd2 := dst_le a b i (k + 1)
              have SAME := Lib.hid (dst_same a b hilt hklt)
              have OTHER := Lib.hid (dst_other a b hilt hklt)
              clear cA0 cD0 hbb cG
              by_cases hxy : a.getD i 0 = b.getD k 0
              · have d3 : (a.getD i 0 == b.getD k 0) = true := beq_iff_eq.2 hxy
                have e := SAME.out hxy
                have HE := Lib.hid e
                clear hxy e cG0
                generalize a.getD i 0 = x at *
                generalize b.getD k 0 = y at *
                go_wp2_with fail
                refine wp_region_quiet_lit (by kernel_rfl) (by kernel_rfl) ?_
                repeat (go_big_quiet_step (fail))
                refine wpQuiet_nil ?_
                rintro _ ⟨nq, rfl⟩
                go_wp2
                refine ⟨⟨k, by omega, by go_num, ((hnm.out.drewN nq).stored (by omega) (by rw [HE.out]) : _), ((below_dr hb2.out nq).setCell (p := ⟨w0.heap.size, k, none⟩) (Nat.le_refl _) _ : _)⟩, by simp [intOf]⟩
              · have d3 : (a.getD i 0 == b.getD k 0) = false := beq_eq_false_iff_ne.2 hxy
                have e := OTHER.out hxy
                have HE := Lib.hid e
                have cK1 := hnm.out.cell (k + 1) (by omega) (by omega)
                clear hxy e cG1
                generalize a.getD i 0 = x at *
                generalize b.getD k 0 = y at *
                by_cases hl : (dst a b i (k + 1) : Int) + 1 < (dst a b (i + 1) k : Int) + 1
                · go_wp2_with fail
                  refine wp_region_quiet_lit (by kernel_rfl) (by kernel_rfl) ?_
                  repeat (go_big_quiet_step (fail))
                  refine wpQuiet_nil ?_
                  rintro _ ⟨nq, rfl⟩
                  go_wp2_with fail
                  refine wp_region_quiet_lit (by kernel_rfl) (by kernel_rfl) ?_
                  repeat (go_big_quiet_step (fail))
                  refine wpQuiet_nil ?_
                  rintro _ ⟨nq2, rfl⟩
                  go_wp2
                  refine ⟨⟨k, by omega, by go_num, ((((hnm.out.drewN nq).pass _).drewN nq2).stored (by omega) (by rw [HE.out]; omega) : _), ((below_dr ((below_dr hb2.out nq).setCell (p := ⟨w0.heap.size, k, none⟩) (Nat.le_refl _) _) nq2).setCell (p := ⟨w0.heap.size, k, none⟩) (Nat.le_refl _) _ : _)⟩, by simp [intOf]⟩
                · go_wp2_with fail
                  refine wp_region_quiet_lit (by kernel_rfl) (by kernel_rfl) ?_
                  repeat (go_big_quiet_step (fail))
                  refine wpQuiet_nil ?_
                  rintro _ ⟨nq, rfl⟩
                  go_wp2_with fail
                  refine wp_region_quiet_lit (by kernel_rfl) (by kernel_rfl) ?_
                  repeat (go_big_quiet_step (fail))
                  refine wpQuiet_nil ?_
                  rintro _ ⟨nq2, rfl⟩
                  go_wp2
                  refine ⟨⟨k, by omega, by go_num, (((hnm.out.drewN nq).stored (by omega) (by rw [HE.out]; omega)).drewN nq2 : _), (below_dr ((below_dr hb2.out nq).setCell (p := ⟨w0.heap.size, k, none⟩) (Nat.le_refl _) _) nq2 : _)⟩, by simp [intOf]⟩
end Go.Proofs.Ythhmamkphcgocaa

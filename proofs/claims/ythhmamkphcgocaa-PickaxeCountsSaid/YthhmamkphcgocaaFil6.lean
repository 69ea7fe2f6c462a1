/- (*myers.field).fill, by a contract. -/
import Derived.Test.YthhmamkphcgocaaFil5
import Derived.Test.YthhmamkphcgocaaFld
namespace Go.Proofs.Ythhmamkphcgocaa
open Go.RowKit

theorem info51b : (Try.prog.info? 51).map (fun i => (i.zero, i.size, i.bytes)) = some (some (.slice none 0 0), 1, 24) := by kernel_rfl
theorem info51c : (Try.prog.info? 95).map (·.size) = some 1 := by kernel_rfl

set_option maxRecDepth 100000 in
set_option maxHeartbeats 4000000 in
theorem fill_any (w : World) (F : Nat) (a b : List Int) (A D : Option Addr) (cA cD : Nat) (P0 : Nat → Nat × Nat) (h : FSt w F a b (.slice A a.length cA) (.slice D b.length cD) (.slice none 0 0) 0 none P0)
    (ra : Rv F w A (ints a)) (rb : Rv F w D (ints b)) (la : a.length ≤ 400) (lb : b.length ≤ 400) :
    Calls Try.prog 60 #[.pointer (some ⟨F, 0, none⟩)] w fun e w' => e = .returned (.int .i64 (dst a b 0 0)) ∧ (∃ rv so P, FSt w' F a b (.slice A a.length cA) (.slice D b.length cD) rv (dst a b 0 0 + 1) so P) ∧ Below F w w' := by
  have hN := dst_le a b 0 0
  have hfar : (a.length : Int) < far := by unfold far; omega
  have zero : ∀ d : Nat, (atT a b d (-(endD a b)) = 0 → (dst a b 0 0 : Int) ≤ d) ∧ ((d : Int) = dst a b 0 0 → atT a b d (-(endD a b)) = 0) := by
    intro d
    have hg := tab_good a b hfar d d (-(endD a b)) (Int.le_refl _)
    rw [show endD a b + -(endD a b) = 0 by omega] at hg
    exact good_zero a b hg
  have hF := h.lt
  have HZ := Lib.hid zero
  have H0 := Lib.hid h
  have RR := Lib.hid (And.intro ra rb)
  have c0 : w.cell? ⟨F, 0, none⟩ = some (.slice A a.length cA) := h.cell 0
  have c1 : w.cell? ⟨F, 1, none⟩ = some (.slice D b.length cD) := h.cell 1
  obtain ⟨i0, hi0', hz0', hz1', hz2'⟩ := info_parts info51b
  have hi0 := Lib.hid hi0'
  have hz0 := Lib.hid hz0'
  have hz1 := Lib.hid hz1'
  have hz2 := Lib.hid hz2'
  have he : (endD a b : Int) = a.length - b.length := rfl
  have HE := Lib.hid he
  have e1 : -400 ≤ endD a b := by omega
  have e2 : endD a b ≤ 400 := by omega
  clear h ra rb zero hi0' hz0' hz1' hz2' he hfar
  obtain ⟨N, hNN⟩ : ∃ N, N = dst a b 0 0 := ⟨_, rfl⟩
  rw [← hNN] at HZ hN ⊢
  clear hNN
  go_enter Try.func60, Try.ntmps60
  go_wp2_with fail
  refine wp_region_quiet_lit (by kernel_rfl) (by kernel_rfl) ?_
  repeat (go_big_quiet_step (fail))
  refine wpQuiet_nil ?_
  rintro _ ⟨nq, rfl⟩
  clear c0 c1
  go_wp2_with fail
  go_loopw [6] (fun v wr => ∃ d : Nat, d ≤ N ∧ v = .int .i64 d ∧ Hid (∃ rv so P, FSt wr F a b (.slice A a.length cA) (.slice D b.length cD) rv d so P) ∧ Hid (Below F w wr)) (fun v _ => N + 1 - (intOf v).toNat)
  case atStart => exact ⟨0, Nat.zero_le _, rfl, ⟨_, _, _, H0.out.drewN nq⟩, below_dr (Below.refl F w) nq⟩
  case round =>
    obtain ⟨d, hdN, rfl, hs, hb⟩ := hrel
    obtain ⟨rv, so, P, hst⟩ := hs.out
    have HR := Lib.hid (row_any' hst (by omega))
    clear hs hst
    go_wp2_with (go_at_call 67; refine HR.out.mono ?_; rintro e w1 ⟨g, o, cap, rfl, hs1, hp1, hb1⟩; have HS1 := Lib.hid hs1; have HP1 := Lib.hid hp1; have HB1 := Lib.hid (hb.out.trans hb1); clear hs1 hp1 hb1)
    go_loopw [8] (fun v wr => ∃ k : Nat, k ≤ 2 * d + 1 ∧ v = .int .i64 ((k : Int) - d) ∧ Hid (FSt wr F a b (.slice A a.length cA) (.slice D b.length cD) rv d (some (g, o + (2 * d + 1), cap)) P) ∧ Hid (Part wr F a b d P g o (2 * d + 1) k) ∧ Hid (Below F w wr)) (fun v _ => 2 * d + 1 - (intOf v + d).toNat)
    case atStart => exact ⟨0, Nat.zero_le _, by go_num, HS1.out, HP1.out, HB1.out⟩
    case round =>
      obtain ⟨k, hk, rfl, hs2, hp2, hb2⟩ := hrel
      by_cases hlt : k < 2 * d + 1
      · have HBE := Lib.hid (best_any wr F a b (hs2.out.two rfl rfl (RR.out.1.below hb2.out) (RR.out.2.below hb2.out)) la lb d hs2.out.tbl (by omega) ((k : Int) - d) (by omega) (by omega))
        have hix : ((d : Int) + ((k : Int) - d)).toNat = k := by omega
        have hcell : ∃ old, ∀ m, (wr.drewN m).cell? ⟨g, o + ((d : Int) + ((k : Int) - d)).toNat, none⟩ = some old := by
          rw [hix]
          obtain ⟨_, ⟨cur, c1, c2, _⟩, _⟩ := hp2.out
          exact ⟨cur[o + k]'(by omega), fun m => by rw [cell_of_row (wr.drewN m) g (o + k) _ _ _ c1]; simp⟩
        have hfr : ∀ m, (wr.drewN m).frozen? ⟨g, o + ((d : Int) + ((k : Int) - d)).toNat, none⟩ = false := by
          rw [hix]
          obtain ⟨_, ⟨cur, c1, c2, _⟩, _⟩ := hp2.out
          exact fun m => frozen_of_row (wr.drewN m) g (o + k) _ _ c1
        obtain ⟨old, hold⟩ := hcell
        have HIX := Lib.hid hix
        have hg : F < g := hp2.out.1
        clear hix
        go_wp2_with (go_at_call 68; refine HBE.out.mono ?_; rintro e w2 ⟨rfl, m, rfl⟩; have hold' := hold m; have hfr' := hfr m; clear hold hfr)
        refine ⟨⟨k + 1, by omega, by go_num, ?_, ?_, ?_⟩, by simp [intOf]; omega⟩
        · rw [HIX.out]
          exact ((hs2.out.drewN _).stored (hp2.out.drewN _) hlt).1
        · rw [HIX.out]
          exact ((hs2.out.drewN _).stored (hp2.out.drewN _) hlt).2
        · exact (((below_dr hb2.out m).setCell (p := ⟨g, _, none⟩) (Nat.le_of_lt hg) _) : _)
      · obtain rfl : k = 2 * d + 1 := by omega
        have c2 : wr.cell? ⟨F, 2, none⟩ = some rv := hs2.out.cell 2
        have hlt2 := hs2.out.lt
        have HOW := Lib.hid (hs2.out.own.alloc (.cells #[.slice (some ⟨g, o, none⟩) (2 * d + 1) (2 * d + 1)] 51))
        have far_ : ∀ (w2 : World), (wr.alloc (.cells #[.slice (some ⟨g, o, none⟩) (2 * d + 1) (2 * d + 1)] 51)).grownBy w2 rv.ownBlock → w2.cell? ⟨F, 2, none⟩ = some rv ∧ w2.frozen? ⟨F, 2, none⟩ = false := by
          intro w2 hg
          have hbk : w2.heap[F]? = wr.heap[F]? := (hg.block F (by simp; omega) (fun e => by have := (hs2.out.own.lt F e.symm).1; omega)).trans (Below.heap_alloc wr _ F hlt2)
          exact ⟨(World.cell?_of_block hbk).trans (hs2.out.cell 2), (World.frozen?_of_block hbk).trans (hs2.out.frozen 2)⟩
        have FAR := Lib.hid far_
        clear far_
        have hgrow : ∀ (w2 : World) (rv' : Value), w2.ownsRow (F + 1) 51 1 rv' (d + 1) (rowVs P d ++ [.slice (some ⟨g, o, none⟩) (2 * d + 1) (2 * d + 1)]) → (wr.alloc (.cells #[.slice (some ⟨g, o, none⟩) (2 * d + 1) (2 * d + 1)] 51)).grownBy w2 rv.ownBlock → (rv'.ownBlock = rv.ownBlock ∨ rv'.ownBlock = some (wr.alloc (.cells #[.slice (some ⟨g, o, none⟩) (2 * d + 1) (2 * d + 1)] 51)).heap.size) → ∀ V, V = w2.setCell ⟨F, 2, none⟩ rv' →
            FSt V F a b (.slice A a.length cA) (.slice D b.length cD) rv' (d + 1) (some (g, o + (2 * d + 1), cap)) (fun j => if j = d then (g, o) else P j) ∧ Below F w V := by
          rintro w2 rv' h1 h2 h3 V rfl
          refine ⟨hs2.out.grown hp2.out (fun S len cap' e1 e2 => ?_) rfl h1 h2 h3, ?_⟩
          · obtain ⟨rfl, rfl, rfl⟩ : g = S ∧ o + (2 * d + 1) = len ∧ cap = cap' := by simpa using e1
            exact Nat.le_refl _
          · exact (((hb2.out.alloc (by omega) _).grown h2 (by simp; omega) (fun k e => by have := (hs2.out.own.lt k e).1; omega)).setCell (p := ⟨F, 2, none⟩) (Nat.le_refl _) _)
        have GROW := Lib.hid hgrow
        clear hgrow
        have HA := fun (V : World) (rv' : Value) (hV : FSt V F a b (.slice A a.length cA) (.slice D b.length cD) rv' (d + 1) (some (g, o + (2 * d + 1), cap)) (fun j => if j = d then (g, o) else P j)) => at_any V F a b (d + 1) hV.tbl (by omega) d (-(endD a b)) (by omega) (by omega) (by omega) (by omega)
        have HAT := Lib.hid HA
        clear HA
        by_cases hdn : d = N
        · have hx := (HZ.out d).2 (by omega)
          rw [hx] at HAT
          clear hx
          subst hdn
          go_wp2_with (first
            | (at_builtin; refine wpList_append_own_at _ rfl (.tmp 50) (.tmp 52) 95 rfl (F + 1) 51 i0 (.slice none 0 0) 1 24 Try.underlying95 hi0.out hz0.out hz1.out hz2.out rfl (by decide) rv d (rowVs P d) rfl HOW.out ⟨wr.heap.size, 0, none⟩ 1 1 [.slice (some ⟨g, o, none⟩) (2 * d + 1) (2 * d + 1)] rfl rfl (new_cells _ _ _ _ rfl) (by simp [Value.oneCell']) (by unfold maxLen; omega) (by omega) (by simp; omega) ?_; intro rv' w2 ho2 hg2 hz2' ha2; clear hz2'; have HO2 := Lib.hid ho2; have HG2 := Lib.hid hg2; have HA2 := Lib.hid ha2; clear ho2 hg2 ha2)
            | (refine wpList_store1 rfl 95 (.tmp 55) (.tmp 53) rfl ⟨F, 2, none⟩ rfl rv' rv rfl (own_one HO2.out) info51c (FAR.out w2 HG2.out).1 (FAR.out w2 HG2.out).2 rfl ?_; intro V hV; have HV := Lib.hid (GROW.out w2 rv' HO2.out HG2.out HA2.out V hV); clear hV)
            | (go_at_call 69; refine (HAT.out V rv' HV.out.1).mono ?_; rintro e w3 ⟨rfl, hw3⟩; subst w3))
          go_ret
          exact ⟨rfl, ⟨_, _, _, HV.out.1⟩, HV.out.2⟩
        · have hx : (atT a b d (-(endD a b)) == 0) = false := by
            have := (HZ.out d).1
            simp only [beq_eq_false_iff_ne, ne_eq]
            intro e
            have := this e
            omega
          generalize atT a b d (-(endD a b)) = x at HAT hx
          go_wp2_with (first
            | (at_builtin; refine wpList_append_own_at _ rfl (.tmp 50) (.tmp 52) 95 rfl (F + 1) 51 i0 (.slice none 0 0) 1 24 Try.underlying95 hi0.out hz0.out hz1.out hz2.out rfl (by decide) rv d (rowVs P d) rfl HOW.out ⟨wr.heap.size, 0, none⟩ 1 1 [.slice (some ⟨g, o, none⟩) (2 * d + 1) (2 * d + 1)] rfl rfl (new_cells _ _ _ _ rfl) (by simp [Value.oneCell']) (by unfold maxLen; omega) (by omega) (by simp; omega) ?_; intro rv' w2 ho2 hg2 hz2' ha2; clear hz2'; have HO2 := Lib.hid ho2; have HG2 := Lib.hid hg2; have HA2 := Lib.hid ha2; clear ho2 hg2 ha2)
            | (refine wpList_store1 rfl 95 (.tmp 55) (.tmp 53) rfl ⟨F, 2, none⟩ rfl rv' rv rfl (own_one HO2.out) info51c (FAR.out w2 HG2.out).1 (FAR.out w2 HG2.out).2 rfl ?_; intro V hV; have HV := Lib.hid (GROW.out w2 rv' HO2.out HG2.out HA2.out V hV); clear hV)
            | (go_at_call 69; refine (HAT.out V rv' HV.out.1).mono ?_; rintro e w3 ⟨rfl, hw3⟩; subst w3))
          refine ⟨⟨d + 1, by omega, by go_num, ⟨_, _, _, HV.out.1⟩, HV.out.2⟩, by simp [intOf]; omega⟩
end Go.Proofs.Ythhmamkphcgocaa

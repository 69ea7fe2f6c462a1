/- sleuthlaw26.RenameExact: the walk of the law out of the contracts. -/
import Derived.Test.YthhmamkphcgocaaWks
import Derived.Laws.AppendOwnNone
namespace Go.Proofs.Ythhmamkphcgocaa
open Go.RowKit

def lit22z (ps : Array (Nat × Value)) : Sem Value := Instr.buildSlice 22 0 ps
theorem lit22z_eq (ps : Array (Nat × Value)) : Instr.buildSlice 22 0 ps = lit22z ps := rfl
theorem run_lit22z (w : World) : (lit22z #[]).run Try.prog w = .ok (.slice (some ⟨w.heap.size, 0, none⟩) 0 0) (w.alloc (.cells #[] 46)) := by kernel_rfl
attribute [local go_sem ↓] lit22z_eq
attribute [local go_sem] run_lit22z

theorem empty_own (w : World) : (w.alloc (.cells #[] 46)).ownsRow w.heap.size 46 70 (.slice (some ⟨w.heap.size, 0, none⟩) 0 0) 0 [] :=
  World.ownsRow_made w #[] 0 (Nat.le_refl _) (by simp [maxLen]) rfl

theorem grown_new {w w2 : World} {o : Obj} (hg : (w.alloc o).grownBy w2 (some w.heap.size)) : Below w.heap.size w w2 :=
  ((Below.refl w.heap.size w).alloc (Nat.le_refl _) o).grown hg (by simp) (fun k hk => by injection hk with hk; omega)
theorem same_true (w : World) (a : List Chg) (A D : Option Addr) (c d : Nat) {Ba Bb : Nat} (ha : LReads w Ba A a) (hb : LReads w Bb D a) (ok : Oks a) (hn : a.length ≤ 40) :
    Calls Try.prog 7 #[.slice A a.length c, .slice D a.length d] w fun e w' => e = .returned (.bool true) ∧ ∃ m, w' = w.drewN m := by
  have h := same_any w a a A D c d Ba Bb ha hb ok ok hn (by omega)
  rwa [show decide (a = a) = true from decide_eq_true rfl] at h
theorem own2 {w2 w3 w4 : World} {D : Option Addr} {l : List Chg} (h3 : Below w2.heap.size w2 w3) (h4 : Below w3.heap.size w3 w4) (hr : LReads w2 w2.heap.size D l) (m : Nat) : LReads (w4.drewN m) w2.heap.size D l :=
  hr.keep fun p hp => ((h3.trans (h4.mono h3.size)).cell hp : w4.cell? p = _)
theorem own3 {w4 : World} {B : Nat} {D : Option Addr} {l : List Chg} (hr : LReads w4 B D l) (m : Nat) : LReads (w4.drewN m) B D l := hr

set_option maxRecDepth 100000 in
set_option maxHeartbeats 1000000 in
theorem law_any (w : World) (l : List Chg) (A : Option Addr) (c : Nat) (hl : LReads w w.heap.size A l) (ok : Oks l) (hn : l.length ≤ 40) (hcap : A = none → c = 0) :
    Calls Try.prog 3 #[.slice A l.length c] w fun e w' => e = .returned (.bool true) ∧ Below w.heap.size w w' := by
  obtain ⟨i0, hi0', hz0', hz1', hz2'⟩ := info_parts info46b
  have hi0 := Lib.hid hi0'
  have hz0 := Lib.hid hz0'
  have hz1 := Lib.hid hz1'
  have hz2 := Lib.hid hz2'
  clear hi0' hz0' hz1' hz2'
  have HL := Lib.hid hl
  have HCAP := Lib.hid hcap
  clear hcap
  have HOK := Lib.hid ok
  have lat : ∀ w', Below w.heap.size w w' → LReads w' w'.heap.size A l := fun w' h => (HL.out.keep fun p hp => h.cell hp).more h.size
  have LAT := Lib.hid lat
  have rest : ∀ (w2 : World) (v2 : Value), Below w.heap.size w w2 → w2.ownsRow w.heap.size 46 70 v2 l.length (l.flatMap Chg.cells) → ∃ D d, v2 = .slice D l.length d ∧ LReads w2 w2.heap.size D l :=
    fun w2 v2 _ ho => own_reads HOK.out ho
  have REST := Lib.hid rest
  clear hl ok lat rest
  go_enter Try.func3, Try.ntmps3
  have HEL := Lib.hid (Nat.le_trans (exactL_len l) hn)
  have EOK := Lib.hid (exactL_oks l HOK.out)
  rcases A with _ | ad
  · have hl0 : l = [] := by
      rcases l with _ | ⟨a, l⟩
      · rfl
      · obtain ⟨ad, e, _⟩ := HL.out 0 a rfl
        cases e
    subst hl0
    have hc0 := HCAP.out rfl
    subst hc0
    have G2' := Lib.hid (REST.out _ _ ((Below.refl _ _).alloc (Nat.le_refl _) (.cells #[] 46)) (empty_own w))
    have B2 := Lib.hid ((Below.refl w.heap.size w).alloc (Nat.le_refl _) (.cells #[] 46))
    obtain ⟨D, d, hv2, hr2⟩ := G2'.out
    have HV := Lib.hid hv2
    have G2 := Lib.hid hr2
    clear hv2 hr2 G2'
    go_wp2_with (first
    | (at_builtin; refine wpList_append_own_none rfl (.tmp 8) (.tmp 9) _ rfl w.heap.size 46 i0 70 Try.underlying22 hi0.out _ _ _ rfl (empty_own w) rfl ?_)
    | (go_at_call 8; rw [HV.out]; refine (prog_any G2.out HOK.out hn).mono ?_; rintro e w3 ⟨D3, d3, rfl, hr3, hb3⟩; have G3 := Lib.hid hr3; have B3 := Lib.hid (B2.out.trans (hb3.mono B2.out.size)); have H3 := Lib.hid hb3; clear hr3 hb3)
    | (go_at_call 9; refine (ref_any (LAT.out _ B3.out) HOK.out hn).mono ?_; rintro e w4 ⟨D4, d4, rfl, hr4, hb4⟩; have G4 := Lib.hid hr4; have B4 := Lib.hid (B3.out.trans (hb4.mono B3.out.size)); have H4 := Lib.hid hb4; clear hr4 hb4)
    | (go_at_call_of 7 (Value.slice D3 (exactL []).length d3); refine (same_true w4 (exactL []) D3 D4 d3 d4 (G3.out.keep fun p hp => H4.out.cell hp) G4.out EOK.out HEL.out).mono ?_; rintro e w5 ⟨rfl, m1, rfl⟩)
    | (go_at_call_of 7 (Value.slice D 0 d); refine (same_true _ [] D _ d 0 (own2 H3.out H4.out G2.out m1) (own3 (LAT.out _ B4.out) m1) HOK.out hn).mono ?_; rintro e w6 ⟨rfl, m2, rfl⟩)
    | (go_at_call 6; refine (works_any _).mono ?_; rintro e w7 ⟨rfl, hb7⟩; have B7 := Lib.hid hb7; clear hb7))
    go_ret
    exact ⟨rfl, (below_drewN B4.out _).trans (B7.out.mono (by have := B4.out.size; simpa using this))⟩
  · have hnews : ∀ j u, (l.flatMap Chg.cells)[j]? = some u → (w.alloc (.cells #[] 46)).cell? (ad.add j) = some u := reads_flat HOK.out (LAT.out _ ((Below.refl _ _).alloc (Nat.le_refl _) _))
    have HNEWS := Lib.hid hnews
    clear hnews
    go_wp2_with (first
    | (at_builtin; refine wpList_append_own _ rfl (.tmp 8) (.tmp 9) _ rfl w.heap.size 46 i0 (.agg zero46) 70 128 Try.underlying22 hi0.out hz0.out hz1.out hz2.out zero46_size (by omega) _ _ _ rfl (empty_own w) ad l.length c (l.flatMap Chg.cells) rfl (flat_len l HOK.out) HNEWS.out (flat_one l) (small_len (by omega)) (by omega) (by simp) ?_; intro v2 w2 ho hg hiff; clear hiff; simp only [Nat.zero_add, List.nil_append] at ho; have B2 := Lib.hid (grown_new hg); obtain ⟨D, d, hv2, hr2⟩ := REST.out w2 v2 B2.out ho; have HV := Lib.hid hv2; clear hv2; have G2 := Lib.hid hr2; clear ho hg hr2)
    | (go_at_call 8; rw [HV.out]; refine (prog_any G2.out HOK.out hn).mono ?_; rintro e w3 ⟨D3, d3, rfl, hr3, hb3⟩; have G3 := Lib.hid hr3; have B3 := Lib.hid (B2.out.trans (hb3.mono B2.out.size)); have H3 := Lib.hid hb3; clear hr3 hb3)
    | (go_at_call 9; refine (ref_any (LAT.out _ B3.out) HOK.out hn).mono ?_; rintro e w4 ⟨D4, d4, rfl, hr4, hb4⟩; have G4 := Lib.hid hr4; have B4 := Lib.hid (B3.out.trans (hb4.mono B3.out.size)); have H4 := Lib.hid hb4; clear hr4 hb4)
    | (go_at_call_of 7 (Value.slice D3 (exactL l).length d3); refine (same_true w4 (exactL l) D3 D4 d3 d4 (G3.out.keep fun p hp => H4.out.cell hp) G4.out EOK.out HEL.out).mono ?_; rintro e w5 ⟨rfl, m1, rfl⟩)
    | (go_at_call_of 7 (Value.slice D l.length d); refine (same_true _ l D _ d c (own2 H3.out H4.out G2.out m1) (own3 (LAT.out _ B4.out) m1) HOK.out hn).mono ?_; rintro e w6 ⟨rfl, m2, rfl⟩)
    | (go_at_call 6; refine (works_any _).mono ?_; rintro e w7 ⟨rfl, hb7⟩; have B7 := Lib.hid hb7; clear hb7))
    go_ret
    exact ⟨rfl, (below_drewN B4.out _).trans (B7.out.mono (by have := B4.out.size; simpa using this))⟩

theorem law_big (w : World) (A : Option Addr) (n c : Nat) (hn : 40 < n) : Calls Try.prog 3 #[.slice A n c] w fun e w' => e = .returned (.bool true) ∧ Below w.heap.size w w' := by
  go_enter Try.func3, Try.ntmps3
  go_wp2_with (go_at_call 6; refine (works_any _).mono ?_; rintro e w1 ⟨rfl, hb⟩; have HB := Lib.hid hb; clear hb)
  go_ret
  exact ⟨rfl, HB.out⟩
end Go.Proofs.Ythhmamkphcgocaa

/- pickaxe.Check, sleuthref31.Check, sleuthlaw31.plain, by contracts. -/
import Derived.Test.YthhmamkphcgocaaSpl
import Derived.Test.YthhmamkphcgocaaMem
namespace Go.Proofs.Ythhmamkphcgocaa
open Go.RowKit

/-- The document's answer for Check. -/
def chk (nd : List UInt8) (mode : Int) (np : Nat) : Int := if nd = [] ∨ (mode ≠ 0 ∧ mode ≠ 1) then 2 else if 100 < nd.length ∨ 8 < np then 3 else 0
def qry (nd : List UInt8) (mode : Int) (P : Option Addr) (np cp : Nat) : Value := .agg #[.string (bs nd), .int .i64 mode, .slice P np cp]
theorem nd_empty {p : List UInt8} : (bs p).toList.isEmpty = p.isEmpty := by rw [ByteArray.toList_eq]; rfl


set_option maxRecDepth 100000 in
set_option maxHeartbeats 2000000 in
theorem check_any (w : World) (nd : List UInt8) (mode : Int) (P : Option Addr) (np cp : Nat) :
    Calls Try.prog 15 #[qry nd mode P np cp] w fun e w' => e = .returned (.int .i64 (chk nd mode np)) ∧ Below w.heap.size w w' := by
  have hsz := bs_size nd
  have b0 : Below w.heap.size w (w.alloc (.cells #[.string (bs nd), .int .i64 mode, .slice P np cp] 36)) := (Below.refl _ w).alloc (Nat.le_refl _) _
  have B0 := Lib.hid b0
  obtain ⟨r, hr⟩ : ∃ r, r = chk nd mode np := ⟨_, rfl⟩
  rw [← hr]
  clear b0
  unfold qry
  unfold chk at hr
  by_cases h0 : nd = []
  · have e0 : (bs nd).toList.isEmpty = true := by rw [nd_empty, h0]; rfl
    rw [if_pos (Or.inl h0)] at hr
    subst hr
    clear h0
    go_enter Try.func15, Try.ntmps15
    go_wp2
    all_goals
      go_ret
      exact ⟨rfl, B0.out⟩
  · have e0 : (bs nd).toList.isEmpty = false := by rw [nd_empty]; simpa using h0
    by_cases hm : mode = 0 ∨ mode = 1
    · rw [if_neg (fun h => by rcases h with h | h; exact h0 h; omega)] at hr
      clear h0
      by_cases h1 : 100 < nd.length
      · rw [if_pos (Or.inl h1)] at hr
        subst hr
        rcases hm with rfl | rfl
        · go_enter Try.func15, Try.ntmps15
          go_wp2
          all_goals
            go_ret
            exact ⟨rfl, B0.out⟩
        · go_enter Try.func15, Try.ntmps15
          go_wp2
          all_goals
            go_ret
            exact ⟨rfl, B0.out⟩
      · by_cases h2 : 8 < np
        · rw [if_pos (Or.inr h2)] at hr
          subst hr
          rcases hm with rfl | rfl
          · go_enter Try.func15, Try.ntmps15
            go_wp2
            all_goals
              go_ret
              exact ⟨rfl, B0.out⟩
          · go_enter Try.func15, Try.ntmps15
            go_wp2
            all_goals
              go_ret
              exact ⟨rfl, B0.out⟩
        · rw [if_neg (by omega)] at hr
          subst hr
          rcases hm with rfl | rfl
          · go_enter Try.func15, Try.ntmps15
            go_wp2
            all_goals
              go_ret
              exact ⟨rfl, B0.out⟩
          · go_enter Try.func15, Try.ntmps15
            go_wp2
            all_goals
              go_ret
              exact ⟨rfl, B0.out⟩
    · rw [if_pos (Or.inr (by omega))] at hr
      subst hr
      clear h0
      have h3 : mode < 0 ∨ 1 < mode := by omega
      have m0 : (mode != 0) = true := by simp; omega
      have m1 : (mode != 1) = true := by simp; omega
      clear hm
      rcases h3 with h3 | h3
      · go_enter Try.func15, Try.ntmps15
        go_wp2
        all_goals
          go_ret
          exact ⟨rfl, B0.out⟩
      · go_enter Try.func15, Try.ntmps15
        go_wp2
        all_goals
          go_ret
          exact ⟨rfl, B0.out⟩


set_option maxRecDepth 100000 in
set_option maxHeartbeats 2000000 in
theorem rcheck_any (w : World) (nd : List UInt8) (mode : Int) (P : Option Addr) (np cp : Nat) :
    Calls Try.prog 16 #[qry nd mode P np cp] w fun e w' => e = .returned (.int .i64 (chk nd mode np)) ∧ Below w.heap.size w w' := by
  have hsz := bs_size nd
  have b0 : Below w.heap.size w (w.alloc (.cells #[.string (bs nd), .int .i64 mode, .slice P np cp] 40)) := (Below.refl _ w).alloc (Nat.le_refl _) _
  have B0 := Lib.hid b0
  obtain ⟨r, hr⟩ : ∃ r, r = chk nd mode np := ⟨_, rfl⟩
  rw [← hr]
  clear b0
  unfold qry
  unfold chk at hr
  by_cases h0 : nd = []
  · have e0 : (bs nd).toList.isEmpty = true := by rw [nd_empty, h0]; rfl
    rw [if_pos (Or.inl h0)] at hr
    subst hr
    clear h0
    go_enter Try.func16, Try.ntmps16
    go_wp2
    all_goals
      go_ret
      exact ⟨rfl, B0.out⟩
  · have e0 : (bs nd).toList.isEmpty = false := by rw [nd_empty]; simpa using h0
    by_cases hm : mode = 0 ∨ mode = 1
    · rw [if_neg (fun h => by rcases h with h | h; exact h0 h; omega)] at hr
      clear h0
      by_cases h1 : 100 < nd.length
      · rw [if_pos (Or.inl h1)] at hr
        subst hr
        rcases hm with rfl | rfl
        · go_enter Try.func16, Try.ntmps16
          go_wp2
          all_goals
            go_ret
            exact ⟨rfl, B0.out⟩
        · go_enter Try.func16, Try.ntmps16
          go_wp2
          all_goals
            go_ret
            exact ⟨rfl, B0.out⟩
      · by_cases h2 : 8 < np
        · rw [if_pos (Or.inr h2)] at hr
          subst hr
          rcases hm with rfl | rfl
          · go_enter Try.func16, Try.ntmps16
            go_wp2
            all_goals
              go_ret
              exact ⟨rfl, B0.out⟩
          · go_enter Try.func16, Try.ntmps16
            go_wp2
            all_goals
              go_ret
              exact ⟨rfl, B0.out⟩
        · rw [if_neg (by omega)] at hr
          subst hr
          rcases hm with rfl | rfl
          · go_enter Try.func16, Try.ntmps16
            go_wp2
            all_goals
              go_ret
              exact ⟨rfl, B0.out⟩
          · go_enter Try.func16, Try.ntmps16
            go_wp2
            all_goals
              go_ret
              exact ⟨rfl, B0.out⟩
    · rw [if_pos (Or.inr (by omega))] at hr
      subst hr
      clear h0
      have h3 : mode < 0 ∨ 1 < mode := by omega
      have m0 : (mode != 0) = true := by simp; omega
      have m1 : (mode != 1) = true := by simp; omega
      clear hm
      rcases h3 with h3 | h3
      · go_enter Try.func16, Try.ntmps16
        go_wp2
        all_goals
          go_ret
          exact ⟨rfl, B0.out⟩
      · go_enter Try.func16, Try.ntmps16
        go_wp2
        all_goals
          go_ret
          exact ⟨rfl, B0.out⟩


set_option maxRecDepth 100000 in
set_option maxHeartbeats 2000000 in
theorem plain_any (w : World) (nd : List UInt8) (mode : Int) (P : Option Addr) (np cp : Nat) :
    Calls Try.prog 17 #[qry nd mode P np cp] w fun e w' => e = .returned (qry nd mode P np cp) ∧ Below w.heap.size w w' := by
  unfold qry
  go_enter Try.func17, Try.ntmps17
  go_wp2
  try simp only [Exit.inBlock, Exit.then]
  refine bodyPost_ret (results_cell_row rfl _ _ (w.heap.size + 1) 40 #[.string (bs nd), .int .i64 mode, .slice P np cp] (0, 0) _ rfl ?_ Try.underlying40 rfl (by kernel_rfl)) rfl ?_
  · have h := heap_alloc_new (w.alloc (.cells #[.string (bs nd), .int .i64 mode, .slice P np cp] 36)) (.cells #[.string (bs nd), .int .i64 mode, .slice P np cp] 40)
    rwa [World.size_alloc] at h
  · exact ⟨rfl, ((Below.refl _ w).alloc (Nat.le_refl _) _).alloc (by simp) _⟩
end Go.Proofs.Ythhmamkphcgocaa

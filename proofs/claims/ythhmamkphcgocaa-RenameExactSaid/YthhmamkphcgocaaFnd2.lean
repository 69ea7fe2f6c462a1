/- rename.finder.exact.func1: the first source that fits, by a contract. -/
import Derived.Test.YthhmamkphcgocaaFnd
import Derived.BigRegion
namespace Go.Proofs.Ythhmamkphcgocaa
open Go.RowKit

theorem Fnd.keep {w w' : World} {B b F S K T : Nat} {A : Option Addr} {c : Nat} {l : List Chg} {s : St} (h : Fnd w B b F S K T A c l s) (hk : ∀ g, g < w.heap.size → w'.heap[g]? = w.heap[g]?) : Fnd w' B b F S K T A c l s := by
  have lt : ∀ {g : Nat} {o : Obj}, w.heap[g]? = some o → g < w.heap.size := fun h => (Array.getElem?_eq_some_iff.1 h).1
  have hb := lt h.self
  exact ⟨(hk _ hb).trans h.self, (hk _ (lt h.hF)).trans h.hF, (hk _ (lt h.hS)).trans h.hS, (hk _ (lt h.hK)).trans h.hK, (hk _ (lt h.hT)).trans h.hT, h.lF, h.lS, h.lK, h.lT, h.bb, h.bF, h.bS, h.bK, h.bT, h.FSX, h.FK, h.SK,
    h.reads.keep fun p hp => World.cell?_of_block (hk _ (by have := h.bb; omega)), h.oks, h.short⟩
theorem Fnd.drewN {w : World} {B b F S K T : Nat} {A : Option Addr} {c : Nat} {l : List Chg} {s : St} (h : Fnd w B b F S K T A c l s) (n : Nat) : Fnd (w.drewN n) B b F S K T A c l s := h.keep fun _ _ => rfl

def hit (l : List Chg) (s : St) (k : Nat) (nm : Bool) (i : Nat) : Bool := isSource l s i && decide ((l.getD i default).oid = (l.getD k default).nid) && (!nm || isNamed l i k)
def firstFrom (p : Nat → Bool) : Nat → Nat → Int
  | 0, _ => -1
  | m + 1, i => if p i then (i : Int) else firstFrom p m (i + 1)

theorem first_hit (p : Nat → Bool) (n j : Nat) (hj : j < n) (h : p j = true) : firstFrom p (n - j) j = j := by
  obtain ⟨m, hm⟩ : ∃ m, n - j = m + 1 := ⟨n - j - 1, by omega⟩
  rw [hm]; simp [firstFrom, h]
theorem first_miss (p : Nat → Bool) (n j : Nat) (hj : j < n) (h : p j = false) : firstFrom p (n - j) j = firstFrom p (n - (j + 1)) (j + 1) := by
  obtain ⟨m, hm⟩ : ∃ m, n - j = m + 1 := ⟨n - j - 1, by omega⟩
  have h2 : n - (j + 1) = m := by omega
  rw [hm, h2]; simp [firstFrom, h]

set_option maxHeartbeats 2000000 in
theorem find_any {w : World} {B b F S K T : Nat} {A : Option Addr} {c : Nat} {l : List Chg} {s : St} (h : Fnd w B b F S K T A c l s) (k : Nat) (hk : k < l.length) (nm : Bool) (fb kb : Nat)
    (cf : w.cell? ⟨fb, 0, none⟩ = some (.pointer (some ⟨b, 0, none⟩))) (ck : w.cell? ⟨kb, 0, none⟩ = some (.int .i64 k)) :
    Calls Try.prog 37 #[.bool nm, .pointer (some ⟨fb, 0, none⟩), .pointer (some ⟨kb, 0, none⟩)] w fun e w' => e = .returned (.int .i64 (firstFrom (hit l s k nm) l.length 0)) ∧ ∃ m, w' = w.drewN m := by
  have h0 : w.cell? ⟨b, 0, none⟩ = some (.slice A l.length c) := h.cell 0
  have hn40 := h.short
  have H := Lib.hid h
  clear h
  go_enter Try.func37, Try.ntmps37
  go_wp2
  go_loopw [11] (fun i wr => ∃ j : Nat, j ≤ l.length ∧ i = .int .i64 j ∧ Hid (∃ m, wr = w.drewN m) ∧ Hid (firstFrom (hit l s k nm) l.length 0 = firstFrom (hit l s k nm) (l.length - j) j)) (fun i _ => l.length - (intOf i).toNat)
  case atStart => exact ⟨0, Nat.zero_le _, rfl, ⟨0, rfl⟩, rfl⟩
  case round =>
    obtain ⟨j, hj, rfl, hm, hf⟩ := hrel
    have h := H.out
    have hr : Fnd wr B b F S K T A c l s := by obtain ⟨m, rfl⟩ := hm.out; exact h.drewN m
    have cf' : wr.cell? ⟨fb, 0, none⟩ = some (.pointer (some ⟨b, 0, none⟩)) := by obtain ⟨m, rfl⟩ := hm.out; exact cf
    have ck' : wr.cell? ⟨kb, 0, none⟩ = some (.int .i64 k) := by obtain ⟨m, rfl⟩ := hm.out; exact ck
    clear h cf ck h0
    by_cases hlt : j < l.length
    · obtain ⟨ad, rfl, _, hcs, hok⟩ := hr.at_ k hk
      obtain ⟨ad', he, _, hcs', hok'⟩ := hr.at_ j hlt
      obtain rfl : ad = ad' := by injection he
      have h0 : wr.cell? ⟨b, 0, none⟩ = some (.slice (some ad) l.length c) := hr.cell 0
      have ho : ∀ w', (∃ n, w' = wr.drewN n) → CellsAt w' ⟨(ad.add (j * 70)).block, (ad.add (j * 70)).off + 5, none⟩ (u8s (l.getD j default).oid) := by
        rintro _ ⟨n, rfl⟩
        have hp := (hcs'.part 5).take 32
        rw [Chg.oid_part _ hok'] at hp
        exact hp
      have hn : ∀ w', (∃ n, w' = wr.drewN n) → CellsAt w' ⟨(ad.add (k * 70)).block, (ad.add (k * 70)).off + 37, none⟩ (u8s (l.getD k default).nid) := by
        rintro _ ⟨n, rfl⟩
        have hp := (hcs.part 37).take 32
        rw [Chg.nid_part _ hok] at hp
        exact hp
      have hlo : (Try.prog.info? 44).map (·.size) = some (u8s (l.getD j default).oid).length := by rw [u8s_length, hok'.oid]; exact info44
      have hln : (Try.prog.info? 44).map (·.size) = some (u8s (l.getD k default).nid).length := by rw [u8s_length, hok.nid]; exact info44
      have HO := Lib.hid ho
      have HN := Lib.hid hn
      have HLO := Lib.hid hlo
      have HLN := Lib.hid hln
      have hq1 : ∀ W, (Op.equalIn 10000 44 (.agg (u8s (l.getD j default).oid).toArray) (.agg (u8s (l.getD k default).nid).toArray)).run Try.prog W = .ok (decide ((l.getD j default).oid = (l.getD k default).nid)) W := fun W => run_equalIn_u8s (P := Try.prog) (n := 32) W Try.underlying44 Try.underlying5 (Option.map_eq_some_iff.1 info5).choose_spec.1 (Option.map_eq_some_iff.1 info5).choose_spec.2 9998 (l.getD j default).oid (l.getD k default).nid hok'.oid hok.nid
      have hit_eq : hit l s k nm j = (isSource l s j && decide ((l.getD j default).oid = (l.getD k default).nid) && (!nm || isNamed l j k)) := rfl
      have HIT := Lib.hid hit_eq
      have hsrc := fun n => source_any (hr.drewN n) j hlt
      have hnam := fun n => named_any (hr.drewN n) j k hlt hk
      have HR := Lib.hid hr
      clear ho hn hlo hln hcs hcs' he hit_eq hok hok' hr H
      generalize (l.getD j default).oid = X at *
      generalize (l.getD k default).nid = Y at *
      generalize isSource l s j = bs at *
      generalize isNamed l j k = bn at *
      have HS := Lib.hid hsrc
      have HM := Lib.hid hnam
      clear hsrc hnam
      cases bs with
      | false =>
        go_wp2_with fail
        refine wp_region_quiet_lit (by kernel_rfl) (by kernel_rfl) ?_
        repeat (first
          | (go_big_quiet_want; refine quiet_load_cells 44 _ rfl _ rfl (u8s X) Try.underlying44 rfl HLO.out HO.out ?_; simp only [Act.put, List.setIfInBounds_toArray, List.set_cons_succ, List.set_cons_zero]; go_big_quiet_on)
          | (go_big_quiet_want; refine quiet_load_cells 44 _ rfl _ rfl (u8s Y) Try.underlying44 rfl HLN.out HN.out ?_; simp only [Act.put, List.setIfInBounds_toArray, List.set_cons_succ, List.set_cons_zero]; go_big_quiet_on)
          | go_big_quiet_step ((first | (go_at_call 38; exact quiet_same (HS.out _)) | (go_at_call 39; exact Calls.quiet_of (HM.out _)))))
        refine wpQuiet_nil ?_
        intro _ hw'
        obtain ⟨nq, hw''⟩ := hw'
        subst hw''
        go_wp2
        refine ⟨⟨j + 1, by omega, by go_num, ?_, ?_⟩, by simp [intOf]; omega⟩
        · obtain ⟨m, rfl⟩ := hm.out
          exact ⟨m + nq, by simp⟩
        · exact (hf.out.trans (first_miss _ _ _ hlt (by rw [HIT.out]; simp [*])) : _)
      | true =>
        by_cases hxy : decide (X = Y) = true
        · rw [hxy] at hq1
          cases nm with
          | false =>
            go_wp2_with fail
            refine wp_region_quiet_lit (by kernel_rfl) (by kernel_rfl) ?_
            repeat (first
              | (go_big_quiet_want; refine quiet_load_cells 44 _ rfl _ rfl (u8s X) Try.underlying44 rfl HLO.out HO.out ?_; simp only [Act.put, List.setIfInBounds_toArray, List.set_cons_succ, List.set_cons_zero]; go_big_quiet_on)
              | (go_big_quiet_want; refine quiet_load_cells 44 _ rfl _ rfl (u8s Y) Try.underlying44 rfl HLN.out HN.out ?_; simp only [Act.put, List.setIfInBounds_toArray, List.set_cons_succ, List.set_cons_zero]; go_big_quiet_on)
              | go_big_quiet_step ((first | (go_at_call 38; exact quiet_same (HS.out _)) | (go_at_call 39; exact Calls.quiet_of (HM.out _)))))
            refine wpQuiet_nil ?_
            intro _ hw'
            obtain ⟨nq, hw''⟩ := hw'
            subst hw''
            go_wp2
            go_ret
            obtain ⟨m, rfl⟩ := hm.out
            exact ⟨ret_int (hf.out.trans (first_hit _ _ _ hlt (by rw [HIT.out]; simp [*]))).symm, m + nq, by simp⟩
          | true =>
            cases bn with
            | true =>
              go_wp2_with fail
              refine wp_region_quiet_lit (by kernel_rfl) (by kernel_rfl) ?_
              repeat (first
                | (go_big_quiet_want; refine quiet_load_cells 44 _ rfl _ rfl (u8s X) Try.underlying44 rfl HLO.out HO.out ?_; simp only [Act.put, List.setIfInBounds_toArray, List.set_cons_succ, List.set_cons_zero]; go_big_quiet_on)
                | (go_big_quiet_want; refine quiet_load_cells 44 _ rfl _ rfl (u8s Y) Try.underlying44 rfl HLN.out HN.out ?_; simp only [Act.put, List.setIfInBounds_toArray, List.set_cons_succ, List.set_cons_zero]; go_big_quiet_on)
                | go_big_quiet_step ((first | (go_at_call 38; exact quiet_same (HS.out _)) | (go_at_call 39; exact Calls.quiet_of (HM.out _)))))
              refine wpQuiet_nil ?_
              intro _ hw'
              obtain ⟨nq, hw''⟩ := hw'
              subst hw''
              go_wp2
              go_ret
              obtain ⟨m, rfl⟩ := hm.out
              exact ⟨ret_int (hf.out.trans (first_hit _ _ _ hlt (by rw [HIT.out]; simp [*]))).symm, m + nq, by simp⟩
            | false =>
              go_wp2_with fail
              refine wp_region_quiet_lit (by kernel_rfl) (by kernel_rfl) ?_
              repeat (first
                | (go_big_quiet_want; refine quiet_load_cells 44 _ rfl _ rfl (u8s X) Try.underlying44 rfl HLO.out HO.out ?_; simp only [Act.put, List.setIfInBounds_toArray, List.set_cons_succ, List.set_cons_zero]; go_big_quiet_on)
                | (go_big_quiet_want; refine quiet_load_cells 44 _ rfl _ rfl (u8s Y) Try.underlying44 rfl HLN.out HN.out ?_; simp only [Act.put, List.setIfInBounds_toArray, List.set_cons_succ, List.set_cons_zero]; go_big_quiet_on)
                | go_big_quiet_step ((first | (go_at_call 38; exact quiet_same (HS.out _)) | (go_at_call 39; exact Calls.quiet_of (HM.out _)))))
              refine wpQuiet_nil ?_
              intro _ hw'
              obtain ⟨nq, hw''⟩ := hw'
              subst hw''
              go_wp2
              refine ⟨⟨j + 1, by omega, by go_num, ?_, ?_⟩, by simp [intOf]; omega⟩
              · obtain ⟨m, rfl⟩ := hm.out
                exact ⟨m + nq, by simp⟩
              · exact (hf.out.trans (first_miss _ _ _ hlt (by rw [HIT.out]; simp [*])) : _)
        · have hxy : decide (X = Y) = false := by simpa using hxy
          rw [hxy] at hq1
          go_wp2_with fail
          refine wp_region_quiet_lit (by kernel_rfl) (by kernel_rfl) ?_
          repeat (first
            | (go_big_quiet_want; refine quiet_load_cells 44 _ rfl _ rfl (u8s X) Try.underlying44 rfl HLO.out HO.out ?_; simp only [Act.put, List.setIfInBounds_toArray, List.set_cons_succ, List.set_cons_zero]; go_big_quiet_on)
            | (go_big_quiet_want; refine quiet_load_cells 44 _ rfl _ rfl (u8s Y) Try.underlying44 rfl HLN.out HN.out ?_; simp only [Act.put, List.setIfInBounds_toArray, List.set_cons_succ, List.set_cons_zero]; go_big_quiet_on)
            | go_big_quiet_step ((first | (go_at_call 38; exact quiet_same (HS.out _)) | (go_at_call 39; exact Calls.quiet_of (HM.out _)))))
          refine wpQuiet_nil ?_
          intro _ hw'
          obtain ⟨nq, hw''⟩ := hw'
          subst hw''
          go_wp2
          refine ⟨⟨j + 1, by omega, by go_num, ?_, ?_⟩, by simp [intOf]; omega⟩
          · obtain ⟨m, rfl⟩ := hm.out
            exact ⟨m + nq, by simp⟩
          · exact (hf.out.trans (first_miss _ _ _ hlt (by rw [HIT.out]; simp [*])) : _)
    · go_wp2
      go_ret
      obtain rfl : j = l.length := by omega
      exact ⟨ret_int (by rw [hf.out, Nat.sub_self]; rfl), hm.out⟩
end Go.Proofs.Ythhmamkphcgocaa

/- rename's finder in memory, and what its small methods answer: source, target, named, pair. rename.finder.exact.func1: the first source that fits, by a contract. rename.start makes a finder; finder.pair notes a pair: each by a contract. rename's finder.pair, by a contract. rename's finder.exact, by a contract. Plain laws: a block's cells as one row; a struct or an array loaded out of it and stored into it whole. No program. Loads, stores and new variables of type api.Change and api.ID, run whole; a change in a block of its own. sleuthref26.told, by a contract. rename's finder.changes, by a contract. -/
import Derived.Test.YtbmpidacoohdmaaGreatF15
import Derived.BigRegion
import Derived.Great.BuildSlice
namespace Go.Proofs.YtbmpidacoohdmaaGreat.Rn
open Lib renaming hid → hI
open Go.RowKit

instance : Inhabited Chg := ⟨⟨0, ByteArray.empty, ByteArray.empty, 0, 0, [], [], 0⟩⟩

/-- The slice whose array begins at A reads as the list l of changes, and lies below block B. -/
def LReads (w : World) (B : Nat) (A : Option Addr) (l : List Chg) : Prop :=
  ∀ k c, l[k]? = some c → ∃ ad, A = some ad ∧ ad.block < B ∧ CellsAt w (ad.add (k * 70)) c.cells
theorem LReads.keep {w w' : World} {B : Nat} {A : Option Addr} {l : List Chg} (h : LReads w B A l) (hk : ∀ p : Addr, p.block < B → w'.cell? p = w.cell? p) : LReads w' B A l := fun k c hc => by
  obtain ⟨ad, e, hb, hcs⟩ := h k c hc
  exact ⟨ad, e, hb, hcs.keep fun p hp => hk p (by rw [hp, block_add]; exact hb)⟩
theorem LReads.more {w : World} {B B' : Nat} {A : Option Addr} {l : List Chg} (h : LReads w B A l) (hB : B ≤ B') : LReads w B' A l := fun k c hc => by
  obtain ⟨ad, e, hb, hcs⟩ := h k c hc
  exact ⟨ad, e, by omega, hcs⟩

def intCells (l : List Int) : Array Value := (l.map (Value.int .i64)).toArray
def boolCells (l : List Bool) : Array Value := (l.map Value.bool).toArray
theorem intCells_set (l : List Int) (i : Nat) (x : Int) : (intCells l).setIfInBounds i (.int .i64 x) = intCells (l.set i x) := by simp [intCells, List.map_set]
theorem boolCells_set (l : List Bool) (i : Nat) (x : Bool) : (boolCells l).setIfInBounds i (.bool x) = boolCells (l.set i x) := by simp [boolCells, List.map_set]

structure St where
  fr : List Int
  sc : List Int
  kd : List Int
  tk : List Bool

structure Fnd (w : World) (B b F S K T : Nat) (A : Option Addr) (c : Nat) (l : List Chg) (s : St) : Prop where
  self : w.heap[b]? = some (.cells #[.slice A l.length c, .slice (some ⟨F, 0, none⟩) l.length l.length, .slice (some ⟨S, 0, none⟩) l.length l.length, .slice (some ⟨K, 0, none⟩) l.length l.length, .slice (some ⟨T, 0, none⟩) l.length l.length] 107 (0, 0))
  hF : w.heap[F]? = some (.cells (intCells s.fr) 3 (0, 0))
  hS : w.heap[S]? = some (.cells (intCells s.sc) 3 (0, 0))
  hK : w.heap[K]? = some (.cells (intCells s.kd) 3 (0, 0))
  hT : w.heap[T]? = some (.cells (boolCells s.tk) 4 (0, 0))
  lF : s.fr.length = l.length
  lS : s.sc.length = l.length
  lK : s.kd.length = l.length
  lT : s.tk.length = l.length
  bb : B ≤ b
  bF : B ≤ F
  bS : B ≤ S
  bK : B ≤ K
  bT : B ≤ T
  FSX : F ≠ S
  FK : F ≠ K
  SK : S ≠ K
  reads : LReads w B A l
  oks : ∀ (k : Nat) (x : Chg), l[k]? = some x → x.ok
  short : l.length ≤ 40

theorem ne_of_types {w : World} {g g' : Nat} {t t' : TypeId} {cs cs' : Array Value} {fr fr' : Nat × Nat} (h : w.heap[g]? = some (.cells cs t fr)) (h' : w.heap[g']? = some (.cells cs' t' fr')) (hne : t ≠ t') : g ≠ g' := by
  rintro rfl
  rw [h] at h'
  injection h' with h'
  injection h' with _ ht
  exact hne ht

def isTarget (l : List Chg) (s : St) (k : Nat) : Bool := (l.getD k default).kind == 1 && s.kd.getD k 0 == 0
def isSource (l : List Chg) (s : St) (k : Nat) : Bool := (l.getD k default).kind == 2 && !s.tk.getD k false
def isNamed (l : List Chg) (i k : Nat) : Bool := (baseB (l.getD i default).old).toList == (baseB (l.getD k default).new).toList

section
variable {w : World} {B b F S K T : Nat} {A : Option Addr} {c : Nat} {l : List Chg} {s : St}
theorem Fnd.cell (h : Fnd w B b F S K T A c l s) (j : Nat) : w.cell? ⟨b, j, none⟩ = #[Value.slice A l.length c, .slice (some ⟨F, 0, none⟩) l.length l.length, .slice (some ⟨S, 0, none⟩) l.length l.length, .slice (some ⟨K, 0, none⟩) l.length l.length, .slice (some ⟨T, 0, none⟩) l.length l.length][j]? := cell_of_row w b j _ _ _ h.self
theorem ints_cell {g : Nat} {t : TypeId} {xs : List Int} (h : w.heap[g]? = some (.cells (intCells xs) t (0, 0))) (k : Nat) (hk : k < xs.length) : w.cell? ⟨g, k, none⟩ = some (.int .i64 (xs.getD k 0)) := by
  rw [cell_of_row w g k _ _ _ h]
  simp [hk, intCells]
theorem bools_cell {g : Nat} {t : TypeId} {xs : List Bool} (h : w.heap[g]? = some (.cells (boolCells xs) t (0, 0))) (k : Nat) (hk : k < xs.length) : w.cell? ⟨g, k, none⟩ = some (.bool (xs.getD k false)) := by
  rw [cell_of_row w g k _ _ _ h]
  simp [hk, boolCells]
theorem Fnd.at_ (h : Fnd w B b F S K T A c l s) (k : Nat) (hk : k < l.length) : ∃ ad, A = some ad ∧ ad.block < B ∧ CellsAt w (ad.add (k * 70)) (l.getD k default).cells ∧ (l.getD k default).ok := by
  have hg : l[k]? = some (l.getD k default) := by simp [hk]
  obtain ⟨ad, e, hb, hcs⟩ := h.reads k _ hg
  exact ⟨ad, e, hb, hcs, h.oks k _ hg⟩

set_option maxHeartbeats 400000 in
theorem target_any (h : Fnd w B b F S K T A c l s) (k : Nat) (hk : k < l.length) :
    Calls Tryz.prog 40 #[.pointer (some ⟨b,0,none⟩), .int .i64 k] w fun e w' => e = .returned (.bool (isTarget l s k)) ∧ w = w' := by
  obtain ⟨ad, rfl, _, hcs, _⟩ := h.at_ k hk
  have h0 : w.cell? ⟨b, 0, none⟩ = some (.slice (some ad) l.length c) := h.cell 0
  have h3 : w.cell? ⟨b, 3, none⟩ = some (.slice (some ⟨K, 0, none⟩) l.length l.length) := h.cell 3
  have hx : w.cell? (ad.add (k * 70)) = some (.int .i64 (l.getD k default).kind) := hcs.zero rfl
  have hy := ints_cell h.hK k (by rw [h.lK]; exact hk)
  have hs := h.short
  unfold isTarget
  generalize (l.getD k default).kind = x at *
  generalize s.kd.getD k 0 = y at *
  generalize l.length = n at *
  clear hcs h
  go_enter Tryz.func40, Tryz.ntmps40
  by_cases hxx : (x == 1) = true
  · go_wp2
    go_ret
    simp [hxx]
  · have hxx : (x == 1) = false := by simpa using hxx
    go_wp2
    go_ret
    simp [hxx]

set_option maxHeartbeats 400000 in
theorem source_any (h : Fnd w B b F S K T A c l s) (k : Nat) (hk : k < l.length) :
    Calls Tryz.prog 42 #[.pointer (some ⟨b,0,none⟩), .int .i64 k] w fun e w' => e = .returned (.bool (isSource l s k)) ∧ w = w' := by
  obtain ⟨ad, rfl, _, hcs, _⟩ := h.at_ k hk
  have h0 : w.cell? ⟨b, 0, none⟩ = some (.slice (some ad) l.length c) := h.cell 0
  have h3 : w.cell? ⟨b, 4, none⟩ = some (.slice (some ⟨T, 0, none⟩) l.length l.length) := h.cell 4
  have hx : w.cell? (ad.add (k * 70)) = some (.int .i64 (l.getD k default).kind) := hcs.zero rfl
  have hy := bools_cell h.hT k (by rw [h.lT]; exact hk)
  have hs := h.short
  unfold isSource
  generalize (l.getD k default).kind = x at *
  generalize s.tk.getD k false = y at *
  generalize l.length = n at *
  clear hcs h
  go_enter Tryz.func42, Tryz.ntmps42
  by_cases hxx : (x == 2) = true
  · go_wp2
    go_ret
    simp [hxx]
  · have hxx : (x == 2) = false := by simpa using hxx
    go_wp2
    go_ret
    simp [hxx]

set_option maxHeartbeats 400000 in
theorem named_any (h : Fnd w B b F S K T A c l s) (i k : Nat) (hi : i < l.length) (hk : k < l.length) :
    Calls Tryz.prog 43 #[.pointer (some ⟨b,0,none⟩), .int .i64 i, .int .i64 k] w fun e w' => e = .returned (.bool (isNamed l i k)) ∧ ∃ m, w' = w.drewN m := by
  obtain ⟨ad, rfl, _, hcs, hok⟩ := h.at_ k hk
  obtain ⟨ad', he, _, hcs', hok'⟩ := h.at_ i hi
  obtain rfl : ad = ad' := by injection he
  have h0 : w.cell? ⟨b, 0, none⟩ = some (.slice (some ad) l.length c) := h.cell 0
  have hx : w.cell? ⟨(ad.add (i * 70)).block, (ad.add (i * 70)).off + 1, none⟩ = some (.string (l.getD i default).old) := hcs'.succ 0 rfl
  have hy : w.cell? ⟨(ad.add (k * 70)).block, (ad.add (k * 70)).off + 2, none⟩ = some (.string (l.getD k default).new) := hcs.succ 1 rfl
  have zx := hok'.old
  have zy := hok.new
  have hs := h.short
  unfold isNamed
  generalize (l.getD i default).old = x at *
  generalize (l.getD k default).new = y at *
  generalize l.length = n at *
  clear hcs h hcs' he hok hok'
  have hcx := fun W => base_any x W zx
  have hcy := fun W => base_any y W zy
  have HX := hI hcx
  have HY := hI hcy
  clear hcx hcy
  go_enter Tryz.func43, Tryz.ntmps43
  go_wp2_with fail
  go_quiet ((first | (go_at_call_of 97 (Value.string x); exact quiet_same (HX.out _)) | (go_at_call_of 97 (Value.string y); exact quiet_same (HY.out _))))
  go_wp2
  go_ret
  exact ⟨rfl, _, rfl⟩
end
end Go.Proofs.YtbmpidacoohdmaaGreat.Rn
namespace Go.Proofs.YtbmpidacoohdmaaGreat.Rn
open Lib renaming hid → hI
open Go.RowKit

theorem Fnd.keep {w w' : World} {B b F S K T : Nat} {A : Option Addr} {c : Nat} {l : List Chg} {s : St} (h : Fnd w B b F S K T A c l s) (hk : ∀ g, g < w.heap.size → w'.heap[g]? = w.heap[g]?) : Fnd w' B b F S K T A c l s := by
  have lt : ∀ {g : Nat} {o : Obj}, w.heap[g]? = some o → g < w.heap.size := fun h => (Array.getElem?_eq_some_iff.1 h).1
  have hb := lt h.self
  exact ⟨(hk _ hb).trans h.self, (hk _ (lt h.hF)).trans h.hF, (hk _ (lt h.hS)).trans h.hS, (hk _ (lt h.hK)).trans h.hK, (hk _ (lt h.hT)).trans h.hT, h.lF, h.lS, h.lK, h.lT, h.bb, h.bF, h.bS, h.bK, h.bT, h.FSX, h.FK, h.SK,
    h.reads.keep fun p hp => World.cell?_of_block (hk _ (by have := h.bb; omega)), h.oks, h.short⟩
theorem Fnd.drewN {w : World} {B b F S K T : Nat} {A : Option Addr} {c : Nat} {l : List Chg} {s : St} (h : Fnd w B b F S K T A c l s) (n : Nat) : Fnd (w.drewN n) B b F S K T A c l s := h.keep fun _ _ => rfl

def hit (l : List Chg) (s : St) (k : Nat) (nm : Bool) (i : Nat) : Bool := isSource l s i && decide ((l.getD i default).oid = (l.getD k default).nid) && (!nm || isNamed l i k)
def firstFrom (p : Nat → Bool) : Nat → Nat → Int
  | 0, _ => -1
  | m + 1, i => if p i then (i : Int) else firstFrom p m (i + 1)

theorem first_hit (p : Nat → Bool) (n j : Nat) (hj : j < n) (h : p j = true) : firstFrom p (n - j) j = j := by
  obtain ⟨m, hm⟩ : ∃ m, n - j = m + 1 := ⟨n - j - 1, by omega⟩
  rw [hm]; simp [firstFrom, h]
theorem first_miss (p : Nat → Bool) (n j : Nat) (hj : j < n) (h : p j = false) : firstFrom p (n - j) j = firstFrom p (n - (j + 1)) (j + 1) := by
  obtain ⟨m, hm⟩ : ∃ m, n - j = m + 1 := ⟨n - j - 1, by omega⟩
  have h2 : n - (j + 1) = m := by omega
  rw [hm, h2]; simp [firstFrom, h]

set_option maxHeartbeats 2000000 in
theorem find_any {w : World} {B b F S K T : Nat} {A : Option Addr} {c : Nat} {l : List Chg} {s : St} (h : Fnd w B b F S K T A c l s) (k : Nat) (hk : k < l.length) (nm : Bool) (fb kb : Nat)
    (cf : w.cell? ⟨fb, 0, none⟩ = some (.pointer (some ⟨b, 0, none⟩))) (ck : w.cell? ⟨kb, 0, none⟩ = some (.int .i64 k)) :
    Calls Tryz.prog 41 #[.bool nm, .pointer (some ⟨fb, 0, none⟩), .pointer (some ⟨kb, 0, none⟩)] w fun e w' => e = .returned (.int .i64 (firstFrom (hit l s k nm) l.length 0)) ∧ ∃ m, w' = w.drewN m := by
  have h0 : w.cell? ⟨b, 0, none⟩ = some (.slice A l.length c) := h.cell 0
  have hn40 := h.short
  have H := hI h
  clear h
  go_enter Tryz.func41, Tryz.ntmps41
  go_wp2
  go_loopw [11] (fun i wr => ∃ j : Nat, j ≤ l.length ∧ i = .int .i64 j ∧ Hid (∃ m, wr = w.drewN m) ∧ Hid (firstFrom (hit l s k nm) l.length 0 = firstFrom (hit l s k nm) (l.length - j) j)) (fun i _ => l.length - (intOf i).toNat)
  case atStart => exact ⟨0, Nat.zero_le _, rfl, ⟨0, rfl⟩, rfl⟩
  case round =>
    obtain ⟨j, hj, rfl, hm, hf⟩ := hrel
    have h := H.out
    have hr : Fnd wr B b F S K T A c l s := by obtain ⟨m, rfl⟩ := hm.out; exact h.drewN m
    have cf' : wr.cell? ⟨fb, 0, none⟩ = some (.pointer (some ⟨b, 0, none⟩)) := by obtain ⟨m, rfl⟩ := hm.out; exact cf
    have ck' : wr.cell? ⟨kb, 0, none⟩ = some (.int .i64 k) := by obtain ⟨m, rfl⟩ := hm.out; exact ck
    clear h cf ck h0
    by_cases hlt : j < l.length
    · obtain ⟨ad, rfl, _, hcs, hok⟩ := hr.at_ k hk
      obtain ⟨ad', he, _, hcs', hok'⟩ := hr.at_ j hlt
      obtain rfl : ad = ad' := by injection he
      have h0 : wr.cell? ⟨b, 0, none⟩ = some (.slice (some ad) l.length c) := hr.cell 0
      have ho : ∀ w', (∃ n, w' = wr.drewN n) → CellsAt w' ⟨(ad.add (j * 70)).block, (ad.add (j * 70)).off + 5, none⟩ (u8s (l.getD j default).oid) := by
        rintro _ ⟨n, rfl⟩
        have hp := (hcs'.part 5).take 32
        rw [Chg.oid_part _ hok'] at hp
        exact hp
      have hn : ∀ w', (∃ n, w' = wr.drewN n) → CellsAt w' ⟨(ad.add (k * 70)).block, (ad.add (k * 70)).off + 37, none⟩ (u8s (l.getD k default).nid) := by
        rintro _ ⟨n, rfl⟩
        have hp := (hcs.part 37).take 32
        rw [Chg.nid_part _ hok] at hp
        exact hp
      have hlo : (Tryz.prog.info? 51).map (·.size) = some (u8s (l.getD j default).oid).length := by rw [u8s_length, hok'.oid]; exact info44
      have hln : (Tryz.prog.info? 51).map (·.size) = some (u8s (l.getD k default).nid).length := by rw [u8s_length, hok.nid]; exact info44
      have HO := hI ho
      have HN := hI hn
      have HLO := hI hlo
      have HLN := hI hln
      have hq1 : ∀ W, (Op.equalIn 10000 51 (.agg (u8s (l.getD j default).oid).toArray) (.agg (u8s (l.getD k default).nid).toArray)).run Tryz.prog W = .ok (decide ((l.getD j default).oid = (l.getD k default).nid)) W := fun W => run_equalIn_u8s (P := Tryz.prog) (n := 32) W Tryz.underlying51 Tryz.underlying5 (Option.map_eq_some_iff.1 info5).choose_spec.1 (Option.map_eq_some_iff.1 info5).choose_spec.2 9998 (l.getD j default).oid (l.getD k default).nid hok'.oid hok.nid
      have hit_eq : hit l s k nm j = (isSource l s j && decide ((l.getD j default).oid = (l.getD k default).nid) && (!nm || isNamed l j k)) := rfl
      have HIT := hI hit_eq
      have hsrc := fun n => source_any (hr.drewN n) j hlt
      have hnam := fun n => named_any (hr.drewN n) j k hlt hk
      have HR := hI hr
      clear ho hn hlo hln hcs hcs' he hit_eq hok hok' hr H
      generalize (l.getD j default).oid = X at *
      generalize (l.getD k default).nid = Y at *
      generalize isSource l s j = bs at *
      generalize isNamed l j k = bn at *
      have HS := hI hsrc
      have HM := hI hnam
      clear hsrc hnam
      cases bs with
      | false =>
        go_wp2_with fail
        refine wp_region_quiet_lit (by kernel_rfl) (by kernel_rfl) ?_
        repeat (first
          | (go_big_quiet_want; refine quiet_load_cells 51 _ rfl _ rfl (u8s X) Tryz.underlying51 rfl HLO.out HO.out ?_; simp only [Act.put, List.setIfInBounds_toArray, List.set_cons_succ, List.set_cons_zero]; go_big_quiet_on)
          | (go_big_quiet_want; refine quiet_load_cells 51 _ rfl _ rfl (u8s Y) Tryz.underlying51 rfl HLN.out HN.out ?_; simp only [Act.put, List.setIfInBounds_toArray, List.set_cons_succ, List.set_cons_zero]; go_big_quiet_on)
          | go_big_quiet_step ((first | (go_at_call 42; exact quiet_same (HS.out _)) | (go_at_call 43; exact Calls.quiet_of (HM.out _)))))
        refine wpQuiet_nil ?_
        intro _ hw'
        obtain ⟨nq, hw''⟩ := hw'
        subst hw''
        go_wp2
        refine ⟨⟨j + 1, by omega, by go_num, ?_, ?_⟩, by simp [intOf]; omega⟩
        · obtain ⟨m, rfl⟩ := hm.out
          exact ⟨m + nq, by simp⟩
        · exact (hf.out.trans (first_miss _ _ _ hlt (by rw [HIT.out]; simp [*])) : _)
      | true =>
        by_cases hxy : decide (X = Y) = true
        · rw [hxy] at hq1
          cases nm with
          | false =>
            go_wp2_with fail
            refine wp_region_quiet_lit (by kernel_rfl) (by kernel_rfl) ?_
            repeat (first
              | (go_big_quiet_want; refine quiet_load_cells 51 _ rfl _ rfl (u8s X) Tryz.underlying51 rfl HLO.out HO.out ?_; simp only [Act.put, List.setIfInBounds_toArray, List.set_cons_succ, List.set_cons_zero]; go_big_quiet_on)
              | (go_big_quiet_want; refine quiet_load_cells 51 _ rfl _ rfl (u8s Y) Tryz.underlying51 rfl HLN.out HN.out ?_; simp only [Act.put, List.setIfInBounds_toArray, List.set_cons_succ, List.set_cons_zero]; go_big_quiet_on)
              | go_big_quiet_step ((first | (go_at_call 42; exact quiet_same (HS.out _)) | (go_at_call 43; exact Calls.quiet_of (HM.out _)))))
            refine wpQuiet_nil ?_
            intro _ hw'
            obtain ⟨nq, hw''⟩ := hw'
            subst hw''
            go_wp2
            go_ret
            obtain ⟨m, rfl⟩ := hm.out
            exact ⟨ret_int (hf.out.trans (first_hit _ _ _ hlt (by rw [HIT.out]; simp [*]))).symm, m + nq, by simp⟩
          | true =>
            cases bn with
            | true =>
              go_wp2_with fail
              refine wp_region_quiet_lit (by kernel_rfl) (by kernel_rfl) ?_
              repeat (first
                | (go_big_quiet_want; refine quiet_load_cells 51 _ rfl _ rfl (u8s X) Tryz.underlying51 rfl HLO.out HO.out ?_; simp only [Act.put, List.setIfInBounds_toArray, List.set_cons_succ, List.set_cons_zero]; go_big_quiet_on)
                | (go_big_quiet_want; refine quiet_load_cells 51 _ rfl _ rfl (u8s Y) Tryz.underlying51 rfl HLN.out HN.out ?_; simp only [Act.put, List.setIfInBounds_toArray, List.set_cons_succ, List.set_cons_zero]; go_big_quiet_on)
                | go_big_quiet_step ((first | (go_at_call 42; exact quiet_same (HS.out _)) | (go_at_call 43; exact Calls.quiet_of (HM.out _)))))
              refine wpQuiet_nil ?_
              intro _ hw'
              obtain ⟨nq, hw''⟩ := hw'
              subst hw''
              go_wp2
              go_ret
              obtain ⟨m, rfl⟩ := hm.out
              exact ⟨ret_int (hf.out.trans (first_hit _ _ _ hlt (by rw [HIT.out]; simp [*]))).symm, m + nq, by simp⟩
            | false =>
              go_wp2_with fail
              refine wp_region_quiet_lit (by kernel_rfl) (by kernel_rfl) ?_
              repeat (first
                | (go_big_quiet_want; refine quiet_load_cells 51 _ rfl _ rfl (u8s X) Tryz.underlying51 rfl HLO.out HO.out ?_; simp only [Act.put, List.setIfInBounds_toArray, List.set_cons_succ, List.set_cons_zero]; go_big_quiet_on)
                | (go_big_quiet_want; refine quiet_load_cells 51 _ rfl _ rfl (u8s Y) Tryz.underlying51 rfl HLN.out HN.out ?_; simp only [Act.put, List.setIfInBounds_toArray, List.set_cons_succ, List.set_cons_zero]; go_big_quiet_on)
                | go_big_quiet_step ((first | (go_at_call 42; exact quiet_same (HS.out _)) | (go_at_call 43; exact Calls.quiet_of (HM.out _)))))
              refine wpQuiet_nil ?_
              intro _ hw'
              obtain ⟨nq, hw''⟩ := hw'
              subst hw''
              go_wp2
              refine ⟨⟨j + 1, by omega, by go_num, ?_, ?_⟩, by simp [intOf]; omega⟩
              · obtain ⟨m, rfl⟩ := hm.out
                exact ⟨m + nq, by simp⟩
              · exact (hf.out.trans (first_miss _ _ _ hlt (by rw [HIT.out]; simp [*])) : _)
        · have hxy : decide (X = Y) = false := by simpa using hxy
          rw [hxy] at hq1
          go_wp2_with fail
          refine wp_region_quiet_lit (by kernel_rfl) (by kernel_rfl) ?_
          repeat (first
            | (go_big_quiet_want; refine quiet_load_cells 51 _ rfl _ rfl (u8s X) Tryz.underlying51 rfl HLO.out HO.out ?_; simp only [Act.put, List.setIfInBounds_toArray, List.set_cons_succ, List.set_cons_zero]; go_big_quiet_on)
            | (go_big_quiet_want; refine quiet_load_cells 51 _ rfl _ rfl (u8s Y) Tryz.underlying51 rfl HLN.out HN.out ?_; simp only [Act.put, List.setIfInBounds_toArray, List.set_cons_succ, List.set_cons_zero]; go_big_quiet_on)
            | go_big_quiet_step ((first | (go_at_call 42; exact quiet_same (HS.out _)) | (go_at_call 43; exact Calls.quiet_of (HM.out _)))))
          refine wpQuiet_nil ?_
          intro _ hw'
          obtain ⟨nq, hw''⟩ := hw'
          subst hw''
          go_wp2
          refine ⟨⟨j + 1, by omega, by go_num, ?_, ?_⟩, by simp [intOf]; omega⟩
          · obtain ⟨m, rfl⟩ := hm.out
            exact ⟨m + nq, by simp⟩
          · exact (hf.out.trans (first_miss _ _ _ hlt (by rw [HIT.out]; simp [*])) : _)
    · go_wp2
      go_ret
      obtain rfl : j = l.length := by omega
      exact ⟨ret_int (by rw [hf.out, Nat.sub_self]; rfl), hm.out⟩
end Go.Proofs.YtbmpidacoohdmaaGreat.Rn
namespace Go.Proofs.YtbmpidacoohdmaaGreat.Rn
open Lib renaming hid → hI
open Go.RowKit

theorem int_info : (Tryz.prog.info? 3).map (fun i => (i.zero, i.size, i.bytes)) = some (some (.int .i64 0), 1, 8) := by kernel_rfl
theorem bool_info : (Tryz.prog.info? 4).map (fun i => (i.zero, i.size, i.bytes)) = some (some (.bool false), 1, 1) := by kernel_rfl
theorem make_ints (n : Nat) (hn : n ≤ 40) (W : World) : (Instr.makeSlice 48 (.int .i64 n) (.int .i64 n)).run Tryz.prog W = .ok (.slice (some ⟨W.heap.size, 0, none⟩) n n) (W.alloc (.cells (intCells (List.replicate n 0)) 3)) := by
  obtain ⟨i0, hi0, hz0, hz1, hz2⟩ := info_parts int_info
  have h := run_make (P := Tryz.prog) W 48 3 i0 (.int .i64 0) Tryz.underlying48 hi0 hz0 .i64 .i64 n n (by omega) (by omega) (by rw [hz2]; omega) (by omega)
  rw [h, hz1]
  have e : (madeCells (Value.int .i64 0).cells ((n : Int).toNat * 1)) = intCells (List.replicate n 0) := by
    apply Array.ext'
    simp only [Int.toNat_natCast, Nat.mul_one]
    rw [show (Value.int .i64 0).cells = #[Value.int .i64 0] from rfl, toList_madeCells_one]
    simp [intCells]
  rw [e]
  simp
theorem make_bools (n : Nat) (hn : n ≤ 40) (W : World) : (Instr.makeSlice 71 (.int .i64 n) (.int .i64 n)).run Tryz.prog W = .ok (.slice (some ⟨W.heap.size, 0, none⟩) n n) (W.alloc (.cells (boolCells (List.replicate n false)) 4)) := by
  obtain ⟨i0, hi0, hz0, hz1, hz2⟩ := info_parts bool_info
  have h := run_make (P := Tryz.prog) W 71 4 i0 (.bool false) Tryz.underlying71 hi0 hz0 .i64 .i64 n n (by omega) (by omega) (by rw [hz2]; omega) (by omega)
  rw [h, hz1]
  have e : (madeCells (Value.bool false).cells ((n : Int).toNat * 1)) = boolCells (List.replicate n false) := by
    apply Array.ext'
    simp only [Int.toNat_natCast, Nat.mul_one]
    rw [show (Value.bool false).cells = #[Value.bool false] from rfl, toList_madeCells_one]
    simp [boolCells]
  rw [e]
  simp

section
variable (w : World) (o0 o1 o2 o3 o4 : Obj)
theorem at0 : ((((((w.alloc o0).alloc o1).alloc o2).alloc o3).alloc o4).drew).heap[w.heap.size]? = some o0 := by
  show (((((w.heap.push o0).push o1).push o2).push o3).push o4)[w.heap.size]? = _
  simp only [Array.getElem?_push, Array.size_push]
  repeat (first | rw [if_pos trivial] | rw [if_pos rfl] | rw [if_neg (by omega)])
theorem at1 : ((((((w.alloc o0).alloc o1).alloc o2).alloc o3).alloc o4).drew).heap[w.heap.size + 1]? = some o1 := by
  show (((((w.heap.push o0).push o1).push o2).push o3).push o4)[w.heap.size + 1]? = _
  simp only [Array.getElem?_push, Array.size_push]
  repeat (first | rw [if_pos trivial] | rw [if_pos rfl] | rw [if_neg (by omega)])
theorem at2 : ((((((w.alloc o0).alloc o1).alloc o2).alloc o3).alloc o4).drew).heap[w.heap.size + 1 + 1]? = some o2 := by
  show (((((w.heap.push o0).push o1).push o2).push o3).push o4)[w.heap.size + 1 + 1]? = _
  simp only [Array.getElem?_push, Array.size_push]
  repeat (first | rw [if_pos trivial] | rw [if_pos rfl] | rw [if_neg (by omega)])
theorem at3 : ((((((w.alloc o0).alloc o1).alloc o2).alloc o3).alloc o4).drew).heap[w.heap.size + 1 + 1 + 1]? = some o3 := by
  show (((((w.heap.push o0).push o1).push o2).push o3).push o4)[w.heap.size + 1 + 1 + 1]? = _
  simp only [Array.getElem?_push, Array.size_push]
  repeat (first | rw [if_pos trivial] | rw [if_pos rfl] | rw [if_neg (by omega)])
theorem at4 : ((((((w.alloc o0).alloc o1).alloc o2).alloc o3).alloc o4).drew).heap[w.heap.size + 1 + 1 + 1 + 1]? = some o4 := by
  show (((((w.heap.push o0).push o1).push o2).push o3).push o4)[w.heap.size + 1 + 1 + 1 + 1]? = _
  simp only [Array.getElem?_push, Array.size_push]
  repeat (first | rw [if_pos trivial] | rw [if_pos rfl] | rw [if_neg (by omega)])
theorem below5 : Below w.heap.size w (((((w.alloc o0).alloc o1).alloc o2).alloc o3).alloc o4).drew :=
  ((((((Below.refl _ _).alloc (Nat.le_refl _) _).alloc (by simp) _).alloc (by simp; omega) _).alloc (by simp; omega) _).alloc (by simp; omega) _).drew
end
def st0 (n : Nat) (f0 : Int) : St := ⟨List.replicate n f0, List.replicate n 0, List.replicate n 0, List.replicate n false⟩
set_option maxHeartbeats 2000000 in
theorem start_any (w : World) (A : Option Addr) (c : Nat) (l : List Chg) (hr : LReads w w.heap.size A l) (ho : ∀ (k : Nat) (x : Chg), l[k]? = some x → x.ok) (hn : l.length ≤ 40) :
    Calls Tryz.prog 17 #[.slice A l.length c] w fun e w' => ∃ b F S K T, e = .returned (.pointer (some ⟨b, 0, none⟩)) ∧ Fnd w' w.heap.size b F S K T A c l (st0 l.length 0) ∧ Below w.heap.size w w' := by
  have m1 := make_ints l.length hn
  have m2 := make_bools l.length hn
  have HR := hI hr
  have HO := hI ho
  clear hr ho
  have hkeep : ∀ w', Below w.heap.size w w' → LReads w' w.heap.size A l := fun w' hb => HR.out.keep fun p hp => hb.cell hp
  have HK := hI hkeep
  clear hkeep
  go_enter Tryz.func17, Tryz.ntmps17
  go_wp2_with fail
  go_region
  all_goals go_wp2
  all_goals go_ret
  all_goals clear m1 m2
  all_goals refine ⟨_, _, _, _, _, rfl, ⟨at4 _ _ _ _ _ _, ?_, ?_, ?_, ?_, by simp [st0], by simp [st0], by simp [st0], by simp [st0], by omega, by omega, by omega, by omega, by omega, by omega, by omega, by omega, HK.out _ (below5 _ _ _ _ _ _), HO.out, hn⟩, below5 _ _ _ _ _ _⟩
  all_goals first | exact at0 _ _ _ _ _ _ | exact at1 _ _ _ _ _ _ | exact at2 _ _ _ _ _ _ | exact at3 _ _ _ _ _ _

end Go.Proofs.YtbmpidacoohdmaaGreat.Rn
namespace Go.Proofs.YtbmpidacoohdmaaGreat.Rn
open Lib renaming hid → hI
open Go.RowKit

def pairSt (s : St) (src tgt : Nat) (sc : Int) : St := ⟨s.fr.set tgt src, s.sc.set tgt sc, s.kd.set tgt 4, s.tk.set src true⟩

set_option maxHeartbeats 400000 in
theorem pair_core (w : World) (b F S K T n : Nat) (sc : Int) (vF vS vK vT : Value) (tn sn : Nat)
  (h1 : w.cell? ⟨b,1,none⟩ = some (.slice (some ⟨F,0,none⟩) n n))
  (h2 : w.cell? ⟨b,2,none⟩ = some (.slice (some ⟨S,0,none⟩) n n))
  (h3 : w.cell? ⟨b,3,none⟩ = some (.slice (some ⟨K,0,none⟩) n n))
  (h4 : w.cell? ⟨b,4,none⟩ = some (.slice (some ⟨T,0,none⟩) n n))
  (cF : w.cell? ⟨F,tn,none⟩ = some vF) (cS : w.cell? ⟨S,tn,none⟩ = some vS) (cK : w.cell? ⟨K,tn,none⟩ = some vK) (cT : w.cell? ⟨T,sn,none⟩ = some vT)
  (fF : w.frozen? ⟨F,tn,none⟩ = false) (fS : w.frozen? ⟨S,tn,none⟩ = false) (fK : w.frozen? ⟨K,tn,none⟩ = false) (fT : w.frozen? ⟨T,sn,none⟩ = false)
  (bF : b ≠ F) (bS : b ≠ S) (bK : b ≠ K) (bT : b ≠ T) (FSX : F ≠ S) (FK : F ≠ K) (SK : S ≠ K) (FT : F ≠ T) (ST : S ≠ T) (KT : K ≠ T) (ht : tn < n) (hs : sn < n) :
    Calls Tryz.prog 44 #[.pointer (some ⟨b,0,none⟩), .int .i64 sn, .int .i64 tn, .int .i64 4, .int .i64 sc] w fun e w' => e = .returned (.tuple #[]) ∧ w' = ((((w.setCell ⟨F,tn,none⟩ (.int .i64 sn)).setCell ⟨K,tn,none⟩ (.int .i64 4)).setCell ⟨S,tn,none⟩ (.int .i64 sc)).setCell ⟨T,sn,none⟩ (.bool true)).drew := by
  go_enter Tryz.func44, Tryz.ntmps44
  go_wp2_with fail
  go_region
  go_wp2
  go_end0
  exact ⟨rfl, rfl⟩

theorem pair_any {w : World} {B b F S K T : Nat} {A : Option Addr} {c : Nat} {l : List Chg} {s : St} (h : Fnd w B b F S K T A c l s) (sn tn : Nat) (hs : sn < l.length) (ht : tn < l.length) (sc : Int) :
    Calls Tryz.prog 44 #[.pointer (some ⟨b,0,none⟩), .int .i64 sn, .int .i64 tn, .int .i64 4, .int .i64 sc] w fun e w' => e = .returned (.tuple #[]) ∧ Fnd w' B b F S K T A c l (pairSt s sn tn sc) ∧ Below B w w' ∧ (∀ g, g ≠ F → g ≠ S → g ≠ K → g ≠ T → w'.heap[g]? = w.heap[g]?) ∧ w'.heap.size = w.heap.size := by
  have bF : b ≠ F := ne_of_types h.self h.hF (by decide)
  have bS : b ≠ S := ne_of_types h.self h.hS (by decide)
  have bK : b ≠ K := ne_of_types h.self h.hK (by decide)
  have bT : b ≠ T := ne_of_types h.self h.hT (by decide)
  have FT : F ≠ T := ne_of_types h.hF h.hT (by decide)
  have ST : S ≠ T := ne_of_types h.hS h.hT (by decide)
  have KT : K ≠ T := ne_of_types h.hK h.hT (by decide)
  refine (pair_core w b F S K T l.length sc _ _ _ _ tn sn (h.cell 1) (h.cell 2) (h.cell 3) (h.cell 4) (ints_cell h.hF tn (by rw [h.lF]; exact ht)) (ints_cell h.hS tn (by rw [h.lS]; exact ht)) (ints_cell h.hK tn (by rw [h.lK]; exact ht)) (bools_cell h.hT sn (by rw [h.lT]; exact hs))
    (frozen_of_row w F tn _ _ h.hF) (frozen_of_row w S tn _ _ h.hS) (frozen_of_row w K tn _ _ h.hK) (frozen_of_row w T sn _ _ h.hT) bF bS bK bT h.FSX h.FK h.SK FT ST KT ht hs).mono ?_
  rintro e w' ⟨rfl, rfl⟩
  have far : ∀ g, g ≠ F → g ≠ S → g ≠ K → g ≠ T → ((((w.setCell ⟨F,tn,none⟩ (.int .i64 sn)).setCell ⟨K,tn,none⟩ (.int .i64 4)).setCell ⟨S,tn,none⟩ (.int .i64 sc)).setCell ⟨T,sn,none⟩ (.bool true)).heap[g]? = w.heap[g]? := fun g g1 g2 g3 g4 => by
    rw [heap_setCell_other _ _ _ _ g4, heap_setCell_other _ _ _ _ g2, heap_setCell_other _ _ _ _ g3, heap_setCell_other _ _ _ _ g1]
  have nF := h.bF; have nS := h.bS; have nK := h.bK; have nT := h.bT
  refine ⟨rfl, ⟨(far b bF bS bK bT).trans h.self, ?_, ?_, ?_, ?_, by simp [pairSt, h.lF], by simp [pairSt, h.lS], by simp [pairSt, h.lK], by simp [pairSt, h.lT], h.bb, h.bF, h.bS, h.bK, h.bT, h.FSX, h.FK, h.SK, ?_, h.oks, h.short⟩, ?_, far, by simp⟩
  · show ((((w.setCell ⟨F,tn,none⟩ (.int .i64 sn)).setCell ⟨K,tn,none⟩ (.int .i64 4)).setCell ⟨S,tn,none⟩ (.int .i64 sc)).setCell ⟨T,sn,none⟩ (.bool true)).heap[F]? = _
    rw [heap_setCell_other _ _ _ _ FT, heap_setCell_other _ _ _ _ h.FSX, heap_setCell_other _ _ _ _ h.FK, heap_setCell_same _ _ _ _ _ _ h.hF, intCells_set]
    rfl
  · show ((((w.setCell ⟨F,tn,none⟩ (.int .i64 sn)).setCell ⟨K,tn,none⟩ (.int .i64 4)).setCell ⟨S,tn,none⟩ (.int .i64 sc)).setCell ⟨T,sn,none⟩ (.bool true)).heap[S]? = _
    have e : ((w.setCell ⟨F,tn,none⟩ (.int .i64 sn)).setCell ⟨K,tn,none⟩ (.int .i64 4)).heap[S]? = some (.cells (intCells s.sc) 3 (0, 0)) := by
      rw [heap_setCell_other _ _ _ _ h.SK, heap_setCell_other _ _ _ _ h.FSX.symm, h.hS]
    rw [heap_setCell_other _ _ _ _ ST, heap_setCell_same _ _ _ _ _ _ e, intCells_set]
    rfl
  · show ((((w.setCell ⟨F,tn,none⟩ (.int .i64 sn)).setCell ⟨K,tn,none⟩ (.int .i64 4)).setCell ⟨S,tn,none⟩ (.int .i64 sc)).setCell ⟨T,sn,none⟩ (.bool true)).heap[K]? = _
    have e : (w.setCell ⟨F,tn,none⟩ (.int .i64 sn)).heap[K]? = some (.cells (intCells s.kd) 3 (0, 0)) := by
      rw [heap_setCell_other _ _ _ _ h.FK.symm, h.hK]
    rw [heap_setCell_other _ _ _ _ KT, heap_setCell_other _ _ _ _ h.SK.symm, heap_setCell_same _ _ _ _ _ _ e, intCells_set]
    rfl
  · show ((((w.setCell ⟨F,tn,none⟩ (.int .i64 sn)).setCell ⟨K,tn,none⟩ (.int .i64 4)).setCell ⟨S,tn,none⟩ (.int .i64 sc)).setCell ⟨T,sn,none⟩ (.bool true)).heap[T]? = _
    have e : (((w.setCell ⟨F,tn,none⟩ (.int .i64 sn)).setCell ⟨K,tn,none⟩ (.int .i64 4)).setCell ⟨S,tn,none⟩ (.int .i64 sc)).heap[T]? = some (.cells (boolCells s.tk) 4 (0, 0)) := by
      rw [heap_setCell_other _ _ _ _ ST.symm, heap_setCell_other _ _ _ _ KT.symm, heap_setCell_other _ _ _ _ FT.symm, h.hT]
    rw [heap_setCell_same _ _ _ _ _ _ e, boolCells_set]
    rfl
  · exact h.reads.keep fun p hp => World.cell?_of_block (far _ (by omega) (by omega) (by omega) (by omega))
  · exact (((((Below.refl B w).setCell (p := ⟨F, tn, none⟩) h.bF _).setCell (p := ⟨K, tn, none⟩) h.bK _).setCell (p := ⟨S, tn, none⟩) h.bS _).setCell (p := ⟨T, sn, none⟩) h.bT _).drew

end Go.Proofs.YtbmpidacoohdmaaGreat.Rn
namespace Go.Proofs.YtbmpidacoohdmaaGreat.Rn
open Lib renaming hid → hI
open Go.RowKit

def foundAt (l : List Chg) (s : St) (k : Nat) : Int :=
  if firstFrom (hit l s k true) l.length 0 < 0 then firstFrom (hit l s k false) l.length 0 else firstFrom (hit l s k true) l.length 0
def exactStep (l : List Chg) (s : St) (k : Nat) : St :=
  if isTarget l s k then (if 0 ≤ foundAt l s k then pairSt s (foundAt l s k).toNat k 1000 else s) else s
def exactTo (l : List Chg) (s : St) : Nat → St
  | 0 => s
  | k + 1 => exactStep l (exactTo l s k) k

theorem firstFrom_bd (p : Nat → Bool) (n : Nat) : ∀ m i, i + m = n → firstFrom p m i = -1 ∨ ∃ j : Nat, j < n ∧ firstFrom p m i = j := by
  intro m
  induction m with
  | zero => intro i _; exact .inl rfl
  | succ m ih =>
    intro i h
    unfold firstFrom
    split
    · exact .inr ⟨i, by omega, rfl⟩
    · exact ih (i + 1) (by omega)

theorem neg_of_nat (j : Nat) : ¬ ((j : Int) < 0) := by omega
theorem below_drewN {B : Nat} {a w : World} (h : Below B a w) (n : Nat) : Below B a (w.drewN n) := ⟨h.os, h.tape, h.output, h.size, h.block⟩
theorem Fnd.alloc {w : World} {B b F S K T : Nat} {A : Option Addr} {c : Nat} {l : List Chg} {s : St} (h : Fnd w B b F S K T A c l s) (o : Obj) : Fnd (w.alloc o) B b F S K T A c l s := h.keep fun g hg => Below.heap_alloc w o g hg

set_option maxHeartbeats 2000000 in
theorem exact_any {w : World} {B b F S K T : Nat} {A : Option Addr} {c : Nat} {l : List Chg} {s : St} (h : Fnd w B b F S K T A c l s) :
    Calls Tryz.prog 18 #[.pointer (some ⟨b, 0, none⟩)] w fun e w' => e = .returned (.tuple #[]) ∧ Fnd w' B b F S K T A c l (exactTo l s l.length) ∧ Below B w w' := by
  have h0 : w.cell? ⟨b, 0, none⟩ = some (.slice A l.length c) := h.cell 0
  have hn40 := h.short
  have hlt : b < w.heap.size := (Array.getElem?_eq_some_iff.1 h.self).1
  have hB := h.bb
  have hbx : Fnd (w.alloc (.cells #[.pointer (some ⟨b, 0, none⟩)] 67)) B b F S K T A c l s := h.alloc _
  have HB := hI hbx
  clear hbx h
  go_enter Tryz.func18, Tryz.ntmps18
  go_wp2
  go_loopw [10] (fun i wr => ∃ k : Nat, k ≤ l.length ∧ i = .int .i64 k ∧ Hid (Fnd wr B b F S K T A c l (exactTo l s k)) ∧ Hid (wr.heap[w.heap.size]? = some (.cells #[.pointer (some ⟨b, 0, none⟩)] 67 (0, 0))) ∧ Hid (Below B w wr)) (fun i _ => l.length - (intOf i).toNat)
  case atStart => exact ⟨0, Nat.zero_le _, rfl, HB.out, heap_alloc_new _ _, (Below.refl _ _).alloc (by omega) _⟩
  case round =>
    obtain ⟨k, hk, rfl, hr, hf, hb⟩ := hrel
    clear h0
    by_cases hkl : k < l.length
    · have hW : Fnd (wr.alloc (.cells #[.int .i64 k] 3)) B b F S K T A c l (exactTo l s k) := hr.out.alloc _
      have hWb : Below B w (wr.alloc (.cells #[.int .i64 k] 3)) := hb.out.alloc (by have := hr.out.bb; have := (Array.getElem?_eq_some_iff.1 hr.out.self).1; omega) _
      have hWf : (wr.alloc (.cells #[.int .i64 k] 3)).heap[w.heap.size]? = some (.cells #[.pointer (some ⟨b, 0, none⟩)] 67 (0, 0)) := by
        exact (Below.heap_alloc _ _ _ (Array.getElem?_eq_some_iff.1 hf.out).1).trans hf.out
      have cf : (wr.alloc (.cells #[.int .i64 k] 3)).cell? ⟨w.heap.size, 0, none⟩ = some (.pointer (some ⟨b, 0, none⟩)) := cell_of_row _ _ 0 _ _ _ hWf
      have ck : (wr.alloc (.cells #[.int .i64 k] 3)).cell? ⟨wr.heap.size, 0, none⟩ = some (.int .i64 k) := cell_of_row _ _ 0 _ _ _ (heap_alloc_new _ _)
      have hct := target_any hW k hkl
      have hc1 := find_any hW k hkl true w.heap.size wr.heap.size cf ck
      have hc2 : ∀ m, Calls Tryz.prog 41 #[.bool false, .pointer (some ⟨w.heap.size, 0, none⟩), .pointer (some ⟨wr.heap.size, 0, none⟩)] ((wr.alloc (.cells #[.int .i64 k] 3)).drewN m) fun e w' => e = .returned (.int .i64 (firstFrom (hit l (exactTo l s k) k false) l.length 0)) ∧ ∃ m', w' = ((wr.alloc (.cells #[.int .i64 k] 3)).drewN m).drewN m' :=
        fun m => find_any (hW.drewN m) k hkl false w.heap.size wr.heap.size cf ck
      have hst : exactTo l s (k + 1) = exactStep l (exactTo l s k) k := rfl
      have hfa : foundAt l (exactTo l s k) k = if firstFrom (hit l (exactTo l s k) k true) l.length 0 < 0 then firstFrom (hit l (exactTo l s k) k false) l.length 0 else firstFrom (hit l (exactTo l s k) k true) l.length 0 := rfl
      unfold exactStep at hst
      rw [hfa] at hst
      clear hfa
      have b1 := firstFrom_bd (hit l (exactTo l s k) k true) l.length l.length 0 (by omega)
      have b2 := firstFrom_bd (hit l (exactTo l s k) k false) l.length l.length 0 (by omega)
      generalize firstFrom (hit l (exactTo l s k) k true) l.length 0 = a1 at *
      generalize firstFrom (hit l (exactTo l s k) k false) l.length 0 = a2 at *
      generalize isTarget l (exactTo l s k) k = tg at *
      have HST := hI hst
      have HW := hI hW
      have HWB := hI hWb
      have HWF := hI hWf
      have HCT := hI hct
      have HC1 := hI hc1
      have HC2 := hI hc2
      have hfz : w.heap.size < wr.heap.size := (Array.getElem?_eq_some_iff.1 hf.out).1
      have hfc : wr.cell? ⟨w.heap.size, 0, none⟩ = some (.pointer (some ⟨b, 0, none⟩)) := cell_of_row _ _ 0 _ _ _ hf.out
      clear hst hW hWb hWf hct hc1 hc2 cf ck
      cases tg with
      | false =>
        clear b1 b2
        go_wp2_with (go_at_call 40; refine HCT.out.mono ?_; rintro e w' ⟨rfl, rfl⟩)
        refine ⟨⟨k + 1, by omega, by go_num, ?_, ?_, ?_⟩, by simp [intOf]; omega⟩
        · rw [show exactTo l s (k + 1) = exactTo l s k by rw [HST.out]; simp]; exact (HW.out : _)
        · exact (HWF.out : _)
        · exact (HWB.out : _)
      | true =>
        rcases b1 with rfl | ⟨j, hj, rfl⟩
        · rcases b2 with rfl | ⟨j, hj, rfl⟩
          · go_wp2_with (first
              | (go_at_call 40; refine HCT.out.mono ?_; rintro e w' ⟨rfl, rfl⟩)
              | (go_at_call_of 41 (Value.bool true); refine HC1.out.mono ?_; rintro e w' ⟨rfl, m1, rfl⟩)
              | (go_at_call_of 41 (Value.bool false); refine (HC2.out _).mono ?_; rintro e w' ⟨rfl, m2, rfl⟩))
            refine ⟨⟨k + 1, by omega, by go_num, ?_, ?_, ?_⟩, by simp [intOf]; omega⟩
            · rw [show exactTo l s (k + 1) = exactTo l s k by rw [HST.out]; simp]; exact (HW.out.drewN _ : _)
            · exact (HWF.out : _)
            · exact (below_drewN HWB.out _ : _)
          · go_wp2_with (first
              | (go_at_call 40; refine HCT.out.mono ?_; rintro e w' ⟨rfl, rfl⟩)
              | (go_at_call_of 41 (Value.bool true); refine HC1.out.mono ?_; rintro e w' ⟨rfl, m1, rfl⟩)
              | (go_at_call_of 41 (Value.bool false); refine (HC2.out _).mono ?_; rintro e w' ⟨rfl, m2, rfl⟩)
              | (go_at_call 44; refine (pair_any (HW.out.drewN _) j k hj hkl 1000).mono ?_; rintro e w' ⟨rfl, hp1, hp2, hp3, hp4⟩))
            refine ⟨⟨k + 1, by omega, by go_num, ?_, ?_, ?_⟩, by simp [intOf]; omega⟩
            · rw [show exactTo l s (k + 1) = pairSt (exactTo l s k) j k 1000 by rw [HST.out]; simp]; exact (hp1 : _)
            · exact ((hp3 _ (ne_of_types HWF.out HW.out.hF (by decide)) (ne_of_types HWF.out HW.out.hS (by decide)) (ne_of_types HWF.out HW.out.hK (by decide)) (ne_of_types HWF.out HW.out.hT (by decide))).trans HWF.out : _)
            · exact ((below_drewN HWB.out _).trans hp2 : _)
        · clear b2
          go_wp2_with (first
              | (go_at_call 40; refine HCT.out.mono ?_; rintro e w' ⟨rfl, rfl⟩)
              | (go_at_call_of 41 (Value.bool true); refine HC1.out.mono ?_; rintro e w' ⟨rfl, m1, rfl⟩)
              | (go_at_call 44; refine (pair_any (HW.out.drewN _) j k hj hkl 1000).mono ?_; rintro e w' ⟨rfl, hp1, hp2, hp3, hp4⟩))
          refine ⟨⟨k + 1, by omega, by go_num, ?_, ?_, ?_⟩, by simp [intOf]; omega⟩
          · rw [show exactTo l s (k + 1) = pairSt (exactTo l s k) j k 1000 by rw [HST.out]; simp [neg_of_nat]]; exact (hp1 : _)
          · exact ((hp3 _ (ne_of_types HWF.out HW.out.hF (by decide)) (ne_of_types HWF.out HW.out.hS (by decide)) (ne_of_types HWF.out HW.out.hK (by decide)) (ne_of_types HWF.out HW.out.hT (by decide))).trans HWF.out : _)
          · exact ((below_drewN HWB.out _).trans hp2 : _)
    · go_wp2
      go_end0
      obtain rfl : k = l.length := by omega
      exact ⟨rfl, hr.out, hb.out⟩
end Go.Proofs.YtbmpidacoohdmaaGreat.Rn
namespace Go.Proofs.YtbmpidacoohdmaaGreat.Rn
open Lib renaming hid → hI
open Go.RowKit

/-- The cells of block n. -/
def row (W : World) (n : Nat) : Array Value := match W.heap[n]? with
  | some (.cells cs _ _) => cs
  | _ => #[]
/-- Block n holds cells, none frozen. -/
def free (W : World) (n : Nat) : Bool := match W.heap[n]? with
  | some (.cells _ _ fr) => fr == (0, 0)
  | _ => false
/-- Each takes one cell. -/
def ones (cs : Array Value) : Bool := cs.all (·.oneCell')
/-- cs laid over cur from o on. -/
def splice (cur : Array Value) (o : Nat) (cs : Array Value) : Array Value := (cur.toList.take o ++ cs.toList ++ cur.toList.drop (o + cs.size)).toArray

theorem free_iff {W : World} {n : Nat} (h : free W n = true) : ∃ t, W.heap[n]? = some (.cells (row W n) t (0, 0)) := by
  unfold free at h
  unfold row
  split at h
  · rename_i cs t fr hh
    rw [hh]
    exact ⟨t, by simp only [beq_iff_eq] at h; rw [h]⟩
  · cases h
theorem free_of {W : World} {n : Nat} {cs : Array Value} {t : TypeId} (h : W.heap[n]? = some (.cells cs t (0, 0))) : free W n = true := by simp [free, h]
theorem row_of {W : World} {n : Nat} {cs : Array Value} {t : TypeId} {fr : Nat × Nat} (h : W.heap[n]? = some (.cells cs t fr)) : row W n = cs := by simp [row, h]

section
variable (W : World) (n : Nat)
theorem row_drew : row W.drew n = row W n := rfl
theorem row_drewN (k : Nat) : row (W.drewN k) n = row W n := rfl
theorem free_drew : free W.drew n = free W n := rfl
theorem free_drewN (k : Nat) : free (W.drewN k) n = free W n := rfl
theorem row_alloc_at (cs : Array Value) (t : TypeId) (h : n = W.heap.size) : row (W.alloc (.cells cs t)) n = cs := by subst h; exact row_of (heap_alloc_new W _)
theorem row_alloc_past (o : Obj) (h : n < W.heap.size) : row (W.alloc o) n = row W n := by unfold row; rw [Below.heap_alloc W o n h]
theorem free_alloc_at (cs : Array Value) (t : TypeId) (h : n = W.heap.size) : free (W.alloc (.cells cs t)) n = true := by subst h; exact free_of (heap_alloc_new W _)
theorem free_alloc_past (o : Obj) (h : n < W.heap.size) : free (W.alloc o) n = free W n := by unfold free; rw [Below.heap_alloc W o n h]
theorem row_setCell_past (p : Addr) (v : Value) (h : n ≠ p.block) : row (W.setCell p v) n = row W n := by unfold row; rw [Below.heap_setCell W p v n h]
theorem free_setCell_past (p : Addr) (v : Value) (h : n ≠ p.block) : free (W.setCell p v) n = free W n := by unfold free; rw [Below.heap_setCell W p v n h]
theorem setRow_drew (cs : Array Value) : W.drew.setRow n cs = (W.setRow n cs).drew := rfl
theorem setRow_alloc_at (cs cs' : Array Value) (t : TypeId) (h : n = W.heap.size) : (W.alloc (.cells cs t)).setRow n cs' = W.alloc (.cells cs' t) := by
  subst h
  unfold World.setRow World.alloc
  congr 1
  apply Array.ext
  · simp
  · intro k h1 h2
    simp only [Array.getElem_modify]
    split
    · rename_i hk; subst hk; simp
    · rename_i hk
      simp only [Array.size_modify, Array.size_push] at h1
      rw [Array.getElem_push_lt (by omega), Array.getElem_push_lt (by omega)]
theorem setRow_alloc_past (o : Obj) (cs : Array Value) (h : n < W.heap.size) : (W.alloc o).setRow n cs = (W.setRow n cs).alloc o := by
  unfold World.setRow World.alloc
  congr 1
  apply Array.ext
  · simp
  · intro k h1 h2
    simp only [Array.size_modify, Array.size_push] at h1 h2
    by_cases hk : k = W.heap.size
    · subst hk
      simp only [Array.getElem_modify, Array.getElem_push]
      rw [if_neg (by omega)]
      simp
    · simp only [Array.getElem_modify, Array.getElem_push]
      have : k < W.heap.size := by omega
      simp [this]
theorem size_setRow' (cs : Array Value) : (W.setRow n cs).heap.size = W.heap.size := by simp

theorem run_load_row {P : Program} {ty : TypeId} {d : TypeDesc} {sz : Nat} (hu : P.underlying ty = some d) (hd : multi d = true) (hi : (P.info? ty).map (·.size) = some sz) (o : Nat)
    (hf : free W n = true) (hl : o + sz ≤ (row W n).size) : (loadVar ty ⟨n, o, none⟩).run P W = .ok (.agg ((row W n).extract o (o + sz))) W := by
  obtain ⟨t, ht⟩ := free_iff hf
  have e : (row W n).extract o (o + sz) = (((row W n).extract o (o + sz)).toList).toArray := Array.toArray_toList.symm
  rw [e]
  refine run_loadVar_cells hu hd (by rw [hi]; simp; omega) ?_
  intro j v hv
  have hadd : (⟨n, o, none⟩ : Addr).add j = ⟨n, o + j, none⟩ := Addr.add_lit n o j
  rw [hadd, cell_of_row W n (o + j) _ _ _ ht]
  simp only [Array.getElem?_toList, Array.getElem?_extract] at hv
  split at hv
  · exact hv
  · cases hv
theorem run_store_row {P : Program} {ty : TypeId} {sz : Nat} (hi : (P.info? ty).map (·.size) = some sz) (o : Nat) (cs : Array Value) (h1 : ones cs = true) (hs : cs.size = sz)
    (hf : free W n = true) (hl : o + sz ≤ (row W n).size) : (storeVar ty ⟨n, o, none⟩ (.agg cs)).run P W = .ok () (W.setRow n (splice (row W n) o cs)) := by
  obtain ⟨t, ht⟩ := free_iff hf
  have h := run_storeCells_at P n o t cs.toList 0 (row W n) W ht (by simp; omega) (fun v hv => (Array.all_eq_true_iff_forall_mem.1 h1) v (by simpa using hv))
  cases hq : P.info? ty with
  | none => simp [hq] at hi
  | some i =>
    have hsz : cs.size = i.size := by simp [hq] at hi; omega
    have hst : (storeCells ⟨n, o, none⟩ cs.toList).run P W = .ok () (W.setRow n (splice (row W n) o cs)) := by
      unfold splice
      have h' := h
      simp only [Nat.add_zero, Array.length_toList] at h'
      exact h'
    simp [storeVar, sizeOf, typeInfo, hq, Value.cells, hsz, hst]
end

/-- All that lay in w lies in W as it did. -/
structure Later (w W : World) : Prop where
  size : w.heap.size ≤ W.heap.size
  same : ∀ g, g < w.heap.size → W.heap[g]? = w.heap[g]?
section
variable {w W : World}
theorem later_refl (w : World) : Later w w := ⟨Nat.le_refl _, fun _ _ => rfl⟩
theorem later_drew (h : Later w W) : Later w W.drew := ⟨h.size, h.same⟩
theorem later_drewN (h : Later w W) (k : Nat) : Later w (W.drewN k) := ⟨h.size, h.same⟩
theorem later_alloc (h : Later w W) (o : Obj) : Later w (W.alloc o) := ⟨by have := h.size; simp; omega, fun g hg => (Below.heap_alloc W o g (by have := h.size; omega)).trans (h.same g hg)⟩
theorem later_setCell (h : Later w W) (p : Addr) (v : Value) (hp : w.heap.size ≤ p.block) : Later w (W.setCell p v) := ⟨by have := h.size; simpa using this, fun g hg => (Below.heap_setCell W p v g (by omega)).trans (h.same g hg)⟩
theorem later_setRow (h : Later w W) (n : Nat) (cs : Array Value) (hp : w.heap.size ≤ n) : Later w (W.setRow n cs) := ⟨by have := h.size; simpa using this, fun g hg => (setRow_other W n g cs (by omega)).trans (h.same g hg)⟩
theorem Later.trans {V : World} (h : Later w W) (k : Later W V) : Later w V := ⟨Nat.le_trans h.size k.size, fun g hg => (k.same g (Nat.lt_of_lt_of_le hg h.size)).trans (h.same g hg)⟩
theorem Later.cell (h : Later w W) {p : Addr} (hp : p.block < w.heap.size) : W.cell? p = w.cell? p := World.cell?_of_block (h.same _ hp)
theorem later_of_below {B : Nat} (h : Below B w W) (hB : w.heap.size ≤ B) : Later w W := ⟨h.size, fun g hg => h.block g (by omega)⟩
end

theorem foldl_set (cs : List Value) : ∀ (k : Nat) (base : Array Value), k + cs.length ≤ base.size →
    (cs.zipIdx k).foldl (fun acc x => acc.setIfInBounds (0 + x.2) x.1) base = (base.toList.take k ++ cs ++ base.toList.drop (k + cs.length)).toArray := by
  induction cs with
  | nil => intro k base _; simp
  | cons c cs ih =>
    intro k base h
    simp only [List.length_cons] at h
    rw [List.zipIdx_cons, List.foldl_cons, ih (k + 1) _ (by simp; omega)]
    apply Array.ext'
    apply List.ext_getElem?
    intro j
    simp only [Nat.zero_add, Array.toList_setIfInBounds, List.getElem?_append, List.length_append, List.length_take, List.length_set, Array.length_toList, List.length_cons]
    rw [show min (k + 1) base.size = k + 1 by omega, show min k base.size = k by omega]
    by_cases h1 : j < k
    · rw [if_pos (by omega), if_pos (by omega), if_pos (by omega), if_pos h1]
      rw [List.getElem?_take, List.getElem?_take, if_pos (by omega), if_pos h1, List.getElem?_set_ne (by omega)]
    · by_cases h2 : j = k
      · subst h2
        rw [if_pos (by omega), if_pos (by omega), if_pos (by omega), if_neg (by omega)]
        rw [List.getElem?_take, if_pos (by omega), List.getElem?_set_self (by simp; omega)]
        simp
      · by_cases h3 : j < k + 1 + cs.length
        · rw [if_pos h3, if_neg (by omega), if_pos (by omega), if_neg (by omega)]
          rw [show j - k = (j - (k + 1)) + 1 by omega]
          simp
        · rw [if_neg h3, if_neg (by omega)]
          rw [List.getElem?_drop, List.getElem?_drop, List.getElem?_set_ne (by omega)]
          congr 1
          omega

theorem run_build_one {P : Program} (W : World) {t e : TypeId} {sz : Nat} (hu : P.underlying t = some (.slice e)) (hsz : (P.info? e).map (·.size) = some sz) (hz : ((P.info? e).bind (·.zero)).isSome = true)
    (cs : Array Value) (hs : cs.size = sz) (h0 : 0 < sz) (h24 : sz ≤ 2 ^ 24) :
    (Instr.buildSlice t 1 #[(0, .agg cs)]).run P W = .ok (.slice (some ⟨W.heap.size, 0, none⟩) 1 1) (W.alloc (.cells cs e)) := by
  cases hie : P.info? e with
  | none => simp [hie] at hsz
  | some ie =>
    simp only [hie, Option.map_some, Option.some.injEq, Option.bind_some] at hsz hz
    obtain ⟨z, hzz⟩ := Option.isSome_iff_exists.1 hz
    refine run_buildSlice W t e 1 _ cs ie z hu hie hzz (by rw [hsz]; omega) (by rw [hsz]; omega) ?_
    have hb : ((Array.range (1 * ie.size)).map (z.cells[· % z.cells.size]!)).size = sz := by simp [hsz]
    simp only [Instr.fill, Value.cells, Nat.zero_mul, hsz, hs]
    rw [if_neg (by simp)]
    congr 1
    rw [← Array.foldl_toList, Array.toList_zipIdx]
    have h := foldl_set cs.toList 0 ((Array.range (1 * sz)).map (z.cells[· % z.cells.size]!)) (by simp; omega)
    refine h.trans ?_
    rw [List.drop_eq_nil_of_le (by simp; omega)]
    simp
section
variable (w : World) (a b c d : Obj)
theorem later_a1 : Later w (w.alloc a) := later_alloc (later_refl w) a
theorem later_a2 : Later w ((w.alloc a).alloc b) := later_alloc (later_a1 w a) b
theorem later_a3 : Later w (((w.alloc a).alloc b).alloc c) := later_alloc (later_a2 w a b) c
theorem later_a4 : Later w ((((w.alloc a).alloc b).alloc c).alloc d) := later_alloc (later_a3 w a b c) d
theorem later_drew_iff (W : World) : Later w W.drew = Later w W := propext ⟨fun h => ⟨h.size, h.same⟩, later_drew⟩
theorem later_drewN_iff (W : World) (k : Nat) : Later w (W.drewN k) = Later w W := propext ⟨fun h => ⟨h.size, h.same⟩, fun h => later_drewN h k⟩
end
theorem new_cells (W : World) (cs : List Value) (t : TypeId) (n : Nat) (hn : n = W.heap.size) : ∀ j u, cs[j]? = some u → (W.alloc (.cells cs.toArray t)).cell? ((⟨n, 0, none⟩ : Addr).add j) = some u := by
  intro j u hu
  subst hn
  rw [Addr.add_lit, Nat.zero_add]
  simpa using hu
theorem small_len {n : Nat} (h : n ≤ 1048576) : n ≤ maxLen := by unfold maxLen; omega
end Go.Proofs.YtbmpidacoohdmaaGreat.Rn
namespace Go.Proofs.YtbmpidacoohdmaaGreat.Rn
open Lib renaming hid → hI
open Go.RowKit

def load44 (a : Addr) : Sem Value := loadVar 51 a
def load46 (a : Addr) : Sem Value := loadVar 53 a
def store44 (a : Addr) (v : Value) : Sem Unit := storeVar 51 a v
def store46 (a : Addr) (v : Value) : Sem Unit := storeVar 53 a v
theorem load44_eq (a : Addr) : loadVar 51 a = load44 a := rfl
theorem load46_eq (a : Addr) : loadVar 53 a = load46 a := rfl
theorem store44_eq (a : Addr) (v : Value) : storeVar 51 a v = store44 a v := rfl
theorem store46_eq (a : Addr) (v : Value) : storeVar 53 a v = store46 a v := rfl

section
variable (W : World) (n : Nat)
theorem run_load44 (o : Nat) (hf : free W n = true) (hl : o + 32 ≤ (row W n).size) : (load44 ⟨n, o, none⟩).run Tryz.prog W = .ok (.agg ((row W n).extract o (o + 32))) W :=
  run_load_row W n Tryz.underlying51 rfl info44 o hf hl
theorem run_load46 (o : Nat) (hf : free W n = true) (hl : o + 70 ≤ (row W n).size) : (load46 ⟨n, o, none⟩).run Tryz.prog W = .ok (.agg ((row W n).extract o (o + 70))) W :=
  run_load_row W n Tryz.underlying53 rfl info46 o hf hl
theorem run_store44 (o : Nat) (cs : Array Value) (h1 : ones cs = true) (hs : cs.size = 32) (hf : free W n = true) (hl : o + 32 ≤ (row W n).size) :
    (store44 ⟨n, o, none⟩ (.agg cs)).run Tryz.prog W = .ok () (W.setRow n (splice (row W n) o cs)) :=
  run_store_row W n info44 o cs h1 hs hf hl
theorem run_store46 (o : Nat) (cs : Array Value) (h1 : ones cs = true) (hs : cs.size = 70) (hf : free W n = true) (hl : o + 70 ≤ (row W n).size) :
    (store46 ⟨n, o, none⟩ (.agg cs)).run Tryz.prog W = .ok () (W.setRow n (splice (row W n) o cs)) :=
  run_store_row W n info46 o cs h1 hs hf hl
end

theorem Chg.ok_mk (k : Int) (o n : ByteArray) (om nm : Int) (oid nid : List Int) (s : Int) (h1 : oid.length = 32) (h2 : nid.length = 32) (h3 : o.size ≤ maxLen) (h4 : n.size ≤ maxLen) : (⟨k, o, n, om, nm, oid, nid, s⟩ : Chg).ok := ⟨h1, h2, h3, h4⟩
/-- A change as a row of cells. -/
def Chg.row (c : Chg) : Array Value := c.cells.toArray
theorem Chg.row_size (c : Chg) (h : c.ok) : c.row.size = 70 := by simp [Chg.row, c.cells_length h]
theorem u8_one (l : List Int) : ones (u8s l).toArray = true := by simp [ones, u8s, Value.oneCell']
theorem Chg.row_one (c : Chg) : ones c.row = true := by simp [ones, Chg.row, Chg.cells, u8s, Value.oneCell']
theorem Chg.cells_one (c : Chg) : ∀ u ∈ c.cells, u.oneCell' = true := by
  intro u hu
  have h := c.row_one
  simp only [ones, Chg.row, Array.all_eq_true_iff_forall_mem] at h
  exact h u (by simpa using hu)
theorem u8_size (l : List Int) : (u8s l).toArray.size = l.length := by simp [u8s]
section
variable (c : Chg)
theorem Chg.get0 : c.row[0]? = some (.int .i64 c.kind) := rfl
theorem Chg.get1 : c.row[1]? = some (.string c.old) := rfl
theorem Chg.get2 : c.row[2]? = some (.string c.new) := rfl
theorem Chg.get3 : c.row[3]? = some (.int .i64 c.om) := rfl
theorem Chg.get4 : c.row[4]? = some (.int .i64 c.nm) := rfl
theorem Chg.get69 (h : c.ok) : c.row[69]? = some (.int .i64 c.score) := by simpa [Chg.row] using c.score_at h
theorem Chg.at0 (h : 0 < c.row.size) : c.row[0] = .int .i64 c.kind := rfl
theorem Chg.at1 (h : 1 < c.row.size) : c.row[1] = .string c.old := rfl
theorem Chg.at2 (h : 2 < c.row.size) : c.row[2] = .string c.new := rfl
theorem Chg.at3 (h : 3 < c.row.size) : c.row[3] = .int .i64 c.om := rfl
theorem Chg.at4 (h : 4 < c.row.size) : c.row[4] = .int .i64 c.nm := rfl
theorem Chg.set0 (x : Int) : c.row.setIfInBounds 0 (.int .i64 x) = ({ c with kind := x } : Chg).row := by simp [Chg.row, Chg.cells]
theorem Chg.set1 (x : ByteArray) : c.row.setIfInBounds 1 (.string x) = ({ c with old := x } : Chg).row := by simp [Chg.row, Chg.cells]
theorem Chg.set3 (x : Int) : c.row.setIfInBounds 3 (.int .i64 x) = ({ c with om := x } : Chg).row := by simp [Chg.row, Chg.cells]
theorem Chg.set69 (h : c.ok) (x : Int) : c.row.setIfInBounds 69 (.int .i64 x) = ({ c with score := x } : Chg).row := by
  have e : ∀ (y : Chg), y.cells = (.int .i64 y.kind :: .string y.old :: .string y.new :: .int .i64 y.om :: .int .i64 y.nm :: (u8s y.oid ++ u8s y.nid)) ++ [.int .i64 y.score] := fun y => by simp [Chg.cells]
  have hl : (Value.int .i64 c.kind :: .string c.old :: .string c.new :: .int .i64 c.om :: .int .i64 c.nm :: (u8s c.oid ++ u8s c.nid)).length = 69 := by simp [u8s_length, h.oid, h.nid]
  simp only [Chg.row, List.setIfInBounds_toArray]
  rw [e c, e { c with score := x }, List.set_append_right _ _ (by rw [hl]; omega), hl]
  rfl
theorem Chg.part5 (h : c.ok) : c.row.extract 5 37 = (u8s c.oid).toArray := by
  have := c.oid_part h
  simp only [Chg.row, List.extract_toArray]
  rw [List.extract_eq_take_drop]
  exact congrArg _ this
theorem Chg.part0 (h : c.ok) : c.row.extract 0 70 = c.row := by
  have := c.row_size h
  rw [← this]; simp
theorem splice_all (a b : Array Value) (h : a.size = b.size) : splice a 0 b = b := by
  unfold splice
  apply Array.ext'
  simp only [List.take_zero, List.nil_append, Nat.zero_add]
  rw [List.drop_eq_nil_of_le (by simp; omega)]
  simp
theorem Chg.splice5 (h : c.ok) (y : List Int) (hy : y.length = 32) : splice c.row 5 (u8s y).toArray = ({ c with oid := y } : Chg).row := by
  unfold splice Chg.row
  simp only [List.size_toArray, u8s_length, hy]
  congr 1
  have e : c.cells.drop (5 + 32) = u8s c.nid ++ [Value.int .i64 c.score] := by
    have : c.cells.drop (5 + 32) = (u8s c.oid ++ (u8s c.nid ++ [Value.int .i64 c.score])).drop 32 := rfl
    rw [this]
    exact List.drop_left' (by rw [u8s_length, h.oid])
  rw [e]
  simp [Chg.cells]
end

def zero46 : Array Value := (⟨0, ByteArray.empty, ByteArray.empty, 0, 0, List.replicate 32 0, List.replicate 32 0, 0⟩ : Chg).row
theorem zero46_size : zero46.size = 70 := by simp [zero46, Chg.row, Chg.cells, u8s]
theorem zero46_info : (Tryz.prog.info? 53).map (·.zero) = some (some (.agg zero46)) := by kernel_rfl

def new46 : Sem Value := Instr.alloc 53 true (.tuple #[])
theorem new46_eq : Instr.alloc 53 true (.tuple #[]) = new46 := rfl
theorem run_new46 (W : World) : new46.run Tryz.prog W = .ok (.pointer (some ⟨W.heap.size, 0, none⟩)) (W.alloc (.cells zero46 53)) := by
  obtain ⟨i, hi, hz⟩ := Option.map_eq_some_iff.1 zero46_info
  simp [new46, Instr.alloc, zeroValue, typeInfo, hi, hz, newVar, newRow, Value.cells]

def lit22 (p : Nat × Value) : Sem Value := Instr.buildSlice 23 1 #[p]
theorem lit22_eq {α : Type} (f : α → Nat × Value) (p : α) : Instr.buildSlice 23 1 (Array.map f #[p]) = lit22 (f p) := by simp [lit22]
theorem zero46_some : ((Tryz.prog.info? 53).bind (·.zero)).isSome = true := by kernel_rfl
theorem run_lit22 (W : World) (cs : Array Value) (hs : cs.size = 70) : (lit22 (0, .agg cs)).run Tryz.prog W = .ok (.slice (some ⟨W.heap.size, 0, none⟩) 1 1) (W.alloc (.cells cs 53)) :=
  run_build_one W Tryz.underlying23 info46 zero46_some cs hs (by omega) (by omega)

/-- A change of the argument's list, loaded in whatever later world. -/
theorem run_load46_old {w : World} {B : Nat} {A : Option Addr} {l : List Chg} (h : LReads w B A l) (hB : B ≤ w.heap.size) (k : Nat) (hk : k < l.length) (ok : (l.getD k default).ok) :
    ∃ ad, A = some ad ∧ ad.block < B ∧ ∀ W, Later w W → (load46 (ad.add (k * 70))).run Tryz.prog W = .ok (.agg (l.getD k default).row) W := by
  have hg : l[k]? = some (l.getD k default) := by simp [hk]
  obtain ⟨ad, e, hb, hcs⟩ := h k _ hg
  refine ⟨ad, e, hb, fun W hW => ?_⟩
  exact run_loadVar_cells Tryz.underlying53 rfl (by rw [Chg.cells_length _ ok]; exact info46) (hcs.keep fun p hp => hW.cell (by rw [hp, block_add]; omega))
end Go.Proofs.YtbmpidacoohdmaaGreat.Rn
namespace Go.Proofs.YtbmpidacoohdmaaGreat.Rn
open Lib renaming hid → hI
open Go.RowKit
attribute [local go_sem ↓] load44_eq load46_eq store44_eq store46_eq new46_eq lit22_eq
attribute [local go_sem] run_load44 run_load46 run_store44 run_store46 run_new46 run_lit22 row_drew row_drewN free_drew free_drewN row_alloc_at row_alloc_past free_alloc_at free_alloc_past row_setCell_past free_setCell_past setRow_drew setRow_alloc_at setRow_alloc_past
  Chg.get0 Chg.get1 Chg.get2 Chg.get3 Chg.get4 Chg.get69 Chg.at0 Chg.at1 Chg.at2 Chg.at3 Chg.at4 Chg.set0 Chg.set1 Chg.set3 Chg.set69 Chg.part5 Chg.part0 Chg.splice5 Chg.row_size Chg.ok_mk Chg.row_one u8_one u8_size u8s_length zero46_size splice_all later_refl later_drew_iff later_drewN_iff later_a1 later_a2 later_a3 later_a4


/-- A slice of one-cell values. -/
def Rd (w : World) (A : Option Addr) (xs : List Value) : Prop := ∀ k x, xs[k]? = some x → ∃ ad : Addr, A = some ad ∧ ad.block < w.heap.size ∧ w.cell? (ad.add k) = some x
theorem Rd.later {w W : World} {A : Option Addr} {xs : List Value} (h : Rd w A xs) (hl : Later w W) : Rd W A xs := fun k x hx => by
  obtain ⟨ad, e, hb, hc⟩ := h k x hx
  exact ⟨ad, e, by have := hl.size; omega, (hl.cell (by rw [block_add]; exact hb)).trans hc⟩
theorem Rd.at_ {w : World} {A : Option Addr} {xs : List Value} (h : Rd w A xs) {k : Nat} {x : Value} (hx : xs[k]? = some x) : ∃ ad : Addr, A = some ad ∧ ∀ W, Later w W → W.cell? (ad.add k) = some x := by
  obtain ⟨ad, e, hb, hc⟩ := h k x hx
  exact ⟨ad, e, fun W hW => (hW.cell (by rw [block_add]; exact hb)).trans hc⟩
def ints (l : List Int) : List Value := l.map (Value.int .i64)
def boos (l : List Bool) : List Value := l.map Value.bool

def newChg (l : List Chg) (s : St) (k : Nat) : Chg :=
  if 0 < s.kd.getD k 0 then { l.getD k default with kind := s.kd.getD k 0, score := s.sc.getD k 0, old := (l.getD (s.fr.getD k 0).toNat default).old, om := (l.getD (s.fr.getD k 0).toNat default).om, oid := (l.getD (s.fr.getD k 0).toNat default).oid }
  else l.getD k default
def outTo (l : List Chg) (s : St) : Nat → List Chg
  | 0 => []
  | k + 1 => if s.tk.getD k false then outTo l s k else outTo l s k ++ [newChg l s k]

theorem info46b : (Tryz.prog.info? 53).map (fun i => (i.zero, i.size, i.bytes)) = some (some (.agg zero46), 70, 128) := by kernel_rfl

theorem outTo_len (l : List Chg) (s : St) (k : Nat) : (outTo l s k).length ≤ k := by
  induction k with
  | zero => simp [outTo]
  | succ k ih =>
    unfold outTo
    split
    · omega
    · simp only [List.length_append, List.length_cons, List.length_nil]
      omega

theorem int_at {xs : List Int} {k : Nat} (h : k < xs.length) : (ints xs)[k]? = some (.int .i64 (xs.getD k 0)) := by simp [ints, h]
theorem boo_at {xs : List Bool} {k : Nat} (h : k < xs.length) : (boos xs)[k]? = some (.bool (xs.getD k false)) := by simp [boos, h]

set_option maxHeartbeats 1000000 in
set_option maxRecDepth 100000 in
theorem told_any (w : World) (l : List Chg) (A AF AK AS AT : Option Addr) (c cF cK cS cT : Nat) (s : St) (hl : LReads w w.heap.size A l) (ok : ∀ (k : Nat) (x : Chg), l[k]? = some x → x.ok) (hn : l.length ≤ 40)
    (hF : Rd w AF (ints s.fr)) (hK : Rd w AK (ints s.kd)) (hS : Rd w AS (ints s.sc)) (hT : Rd w AT (boos s.tk)) (lF : s.fr.length = l.length) (lK : s.kd.length = l.length) (lS : s.sc.length = l.length) (lT : s.tk.length = l.length)
    (hfr : ∀ k, 0 < s.kd.getD k 0 → ∃ i : Nat, i < l.length ∧ s.fr.getD k 0 = i) :
    Calls Tryz.prog 25 #[.slice A l.length c, .agg #[.slice AF l.length cF, .slice AK l.length cK, .slice AS l.length cS, .slice AT l.length cT]] w
      fun e w' => ∃ v, e = .returned v ∧ w'.ownsRow w.heap.size 53 70 v (outTo l s l.length).length ((outTo l s l.length).flatMap Chg.cells) ∧ Below w.heap.size w w' := by
  have H := hI (And.intro hl (And.intro ok (And.intro hF (And.intro hK (And.intro hS hT)))))
  have HFR := hI hfr
  obtain ⟨i0, hi0', hz0', hz1', hz2'⟩ := info_parts info46b
  have hi0 := hI hi0'
  have hz0 := hI hz0'
  have hz1 := hI hz1'
  have hz2 := hI hz2'
  clear hi0' hz0' hz1' hz2'
  clear hl ok hF hK hS hT hfr
  go_enter Tryz.func25, Tryz.ntmps25
  go_wp2
  generalize hw1 : w.alloc (.cells #[.slice AF l.length cF, .slice AK l.length cK, .slice AS l.length cS, .slice AT l.length cT] 73) = w1
  have HW1 := hI hw1
  clear hw1
  go_loopw [5, 6] (fun v i wr => ∃ k : Nat, k ≤ l.length ∧ i = .int .i64 k ∧ Hid (wr.ownsRow (w.heap.size + 1) 53 70 v (outTo l s k).length ((outTo l s k).flatMap Chg.cells)) ∧ Hid (Below (w.heap.size + 1) w1 wr)) (fun _ i _ => l.length - (intOf i).toNat)
  case atStart => exact ⟨0, Nat.zero_le _, rfl, World.ownsRow_nil _ _ _ _, Below.refl _ _⟩
  case round =>
    obtain ⟨k, hk, rfl, hown, hb⟩ := hrel
    have hb0 : Later w wr := by
      have h1 : Later w w1 := by rw [← HW1.out]; exact later_alloc (later_refl w) _
      exact h1.trans (later_of_below hb.out (by rw [← HW1.out]; simp))
    have box : ∀ j : Nat, wr.cell? ⟨w.heap.size, j, none⟩ = #[Value.slice AF l.length cF, .slice AK l.length cK, .slice AS l.length cS, .slice AT l.length cT][j]? := fun j => by
      rw [hb.out.cell (p := ⟨w.heap.size, j, none⟩) (by simp), ← HW1.out, World.cell?_alloc_at _ _ _ _ rfl]
    have bx0 : wr.cell? ⟨w.heap.size, 0, none⟩ = some (.slice AF l.length cF) := box 0
    have bx1 : wr.cell? ⟨w.heap.size, 1, none⟩ = some (.slice AK l.length cK) := box 1
    have bx2 : wr.cell? ⟨w.heap.size, 2, none⟩ = some (.slice AS l.length cS) := box 2
    have bx3 : wr.cell? ⟨w.heap.size, 3, none⟩ = some (.slice AT l.length cT) := box 3
    have hsz : w.heap.size < wr.heap.size := by have := hb.out.size; rw [← HW1.out] at this; simp at this; omega
    clear box
    by_cases hkl : k < l.length
    · obtain ⟨aF, rfl, c0⟩ := (H.out.2.2.1.later hb0).at_ (k := k) (int_at (by omega))
      obtain ⟨aK, rfl, c1⟩ := (H.out.2.2.2.1.later hb0).at_ (k := k) (int_at (by omega))
      obtain ⟨aS, rfl, c2⟩ := (H.out.2.2.2.2.1.later hb0).at_ (k := k) (int_at (by omega))
      obtain ⟨aT, rfl, c3⟩ := (H.out.2.2.2.2.2.later hb0).at_ (k := k) (boo_at (by omega))
      have hok : (l.getD k default).ok := H.out.2.1 k _ (by simp [hkl])
      obtain ⟨ad, rfl, bA, hld⟩ := run_load46_old H.out.1 (Nat.le_refl _) k hkl hok
      have hld' : ∀ W, Later wr W → (load46 (ad.add (k * 70))).run Tryz.prog W = .ok (.agg (l.getD k default).row) W := fun W hW => hld W (hb0.trans hW)
      clear hld
      have hout : outTo l s (k + 1) = if s.tk.getD k false then outTo l s k else outTo l s k ++ [newChg l s k] := rfl
      have HOUT := hI hout
      clear hout
      have HB0 := hI hb0
      clear hb0
      generalize s.tk.getD k false = t at *
      cases t with
      | true =>
        go_wp2
        refine ⟨⟨k + 1, by omega, by go_num, ?_, hb⟩, by simp [intOf]; omega⟩
        rw [HOUT.out]
        exact hown
      | false =>
        have hl := outTo_len l s k
        by_cases hkd : 0 < s.kd.getD k 0
        · obtain ⟨i, hi, hfi⟩ := HFR.out k hkd
          have hoki : (l.getD i default).ok := H.out.2.1 i _ (by simp [hi])
          obtain ⟨ad', he, _, hld2⟩ := run_load46_old H.out.1 (Nat.le_refl _) i hi hoki
          obtain rfl : ad = ad' := by injection he
          have hld2' : ∀ W, Later wr W → (load46 (ad.add (i * 70))).run Tryz.prog W = .ok (.agg (l.getD i default).row) W := fun W hW => hld2 W (HB0.out.trans hW)
          have hnew : newChg l s k = ⟨s.kd.getD k 0, (l.getD i default).old, (l.getD k default).new, (l.getD i default).om, (l.getD k default).nm, (l.getD i default).oid, (l.getD k default).nid, s.sc.getD k 0⟩ := by
            simp only [newChg, if_pos hkd, hfi, Int.toNat_natCast]
          have HNEW := hI hnew
          clear hnew hld2 he
          rw [hfi] at c0
          clear hfi
          generalize l.getD k default = x at *
          generalize l.getD i default = y at *
          generalize s.kd.getD k 0 = kd at *
          generalize s.sc.getD k 0 = sc at *
          have x0 := hok.old
          have x1 := hok.oid
          have x2 := hok.nid
          have x3 := hok.new
          have y1 := hoki.oid
          have y2 := hoki.old
          have okz : (⟨kd, y.old, x.new, y.om, x.nm, y.oid, x.nid, sc⟩ : Chg).ok := ⟨y1, x2, y2, x3⟩
          have okq : (⟨kd, y.old, x.new, y.om, x.nm, x.oid, x.nid, sc⟩ : Chg).ok := ⟨x1, x2, y2, x3⟩
          have hown2 := ((hown.out.alloc (.cells (⟨kd, y.old, x.new, y.om, x.nm, y.oid, x.nid, sc⟩ : Chg).row 53)).alloc (.cells y.row 53)).alloc (.cells (⟨kd, y.old, x.new, y.om, x.nm, y.oid, x.nid, sc⟩ : Chg).row 53)
          have HOWN := hI hown2
          clear hown2
          go_wp2_with (at_builtin; refine wpList_append_own _ rfl (.tmp 59) (.tmp 61) _ rfl (w.heap.size + 1) 53 i0 (.agg zero46) 70 128 Tryz.underlying23 hi0.out hz0.out hz1.out hz2.out zero46_size (by omega) u5 _ _ rfl HOWN.out ⟨wr.heap.size + 1 + 1, 0, none⟩ 1 1 (Chg.cells ⟨kd, y.old, x.new, y.om, x.nm, y.oid, x.nid, sc⟩) rfl (Chg.cells_length _ okz) (new_cells _ _ _ _ (by simp)) (Chg.cells_one _) (small_len (by omega)) (by omega) (by simp; omega) ?_; intro v' w2 hown3 hgrow3 _)
          refine ⟨⟨k + 1, by omega, by go_num, ?_, ?_⟩, by simp [intOf]; omega⟩
          · rw [HOUT.out, HNEW.out]
            unfold Hid
            simpa using hown3
          · exact (hb.out.trans ((((((Below.refl _ _).alloc (by omega) _).alloc (by simp; omega) _).alloc (by simp; omega) _).grown hgrow3 (by simp; omega) (fun g hg => (hown.out.lt g hg).1))) : _)
        · have hnew : newChg l s k = l.getD k default := by simp only [newChg, if_neg hkd]
          have HNEW := hI hnew
          clear hnew
          generalize l.getD k default = x at *
          generalize s.kd.getD k 0 = kd at *
          have hown2 := (hown.out.alloc (.cells x.row 53)).alloc (.cells x.row 53)
          have HOWN := hI hown2
          clear hown2
          go_wp2_with (at_builtin; refine wpList_append_own _ rfl (.tmp 59) (.tmp 61) _ rfl (w.heap.size + 1) 53 i0 (.agg zero46) 70 128 Tryz.underlying23 hi0.out hz0.out hz1.out hz2.out zero46_size (by omega) u5 _ _ rfl HOWN.out ⟨wr.heap.size + 1, 0, none⟩ 1 1 (Chg.cells x) rfl (Chg.cells_length _ hok) (new_cells _ _ _ _ (by simp)) (Chg.cells_one _) (small_len (by omega)) (by omega) (by simp; omega) ?_; intro v' w2 hown3 hgrow3 _)
          refine ⟨⟨k + 1, by omega, by go_num, ?_, ?_⟩, by simp [intOf]; omega⟩
          · rw [HOUT.out, HNEW.out]
            unfold Hid
            simpa using hown3
          · exact (hb.out.trans (((((Below.refl _ _).alloc (by omega) _).alloc (by simp; omega) _).grown hgrow3 (by simp; omega) (fun g hg => (hown.out.lt g hg).1))) : _)
    · go_wp2
      go_ret
      obtain rfl : k = l.length := by omega
      refine ⟨_, rfl, ?_, ?_⟩
      · exact ⟨hown.out.1, hown.out.2.imp id (fun ⟨g, cap, cur, h1, h2, h3⟩ => ⟨g, cap, cur, h1, by omega, h3⟩)⟩
      · have hw : Below w.heap.size w w1 := by rw [← HW1.out]; exact (Below.refl _ _).alloc (Nat.le_refl _) _
        exact hw.trans (hb.out.mono (by omega))
end Go.Proofs.YtbmpidacoohdmaaGreat.Rn

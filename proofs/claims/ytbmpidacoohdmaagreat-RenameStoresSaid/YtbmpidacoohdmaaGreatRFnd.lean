/- rename's finder in memory, and what its small methods answer: source, target, named, pair. rename.finder.exact.func1: the first source that fits, by a contract. rename.start makes a finder; finder.pair notes a pair: each by a contract. rename's finder.pair, by a contract. rename's finder.exact, by a contract. -/
import Derived.Test.YtbmpidacoohdmaaGreatRBase
import Derived.BigRegion
namespace Go.Proofs.YtbmpidacoohdmaaGreat.Rn
open Go.RowKit

instance : Inhabited Chg := ⟨⟨0, ByteArray.empty, ByteArray.empty, 0, 0, [], [], 0⟩⟩

/-- The slice whose array begins at A reads as the list l of changes, and lies below block B. -/
def LReads (w : World) (B : Nat) (A : Option Addr) (l : List Chg) : Prop :=
  ∀ k c, l[k]? = some c → ∃ ad, A = some ad ∧ ad.block < B ∧ CellsAt w (ad.add (k * 70)) c.cells
theorem LReads.keep {w w' : World} {B : Nat} {A : Option Addr} {l : List Chg} (h : LReads w B A l) (hk : ∀ p : Addr, p.block < B → w'.cell? p = w.cell? p) : LReads w' B A l := fun k c hc => by
  obtain ⟨ad, e, hb, hcs⟩ := h k c hc
  exact ⟨ad, e, hb, hcs.keep fun p hp => hk p (by rw [hp, block_add]; exact hb)⟩
theorem LReads.more {w : World} {B B' : Nat} {A : Option Addr} {l : List Chg} (h : LReads w B A l) (hB : B ≤ B') : LReads w B' A l := fun k c hc => by
  obtain ⟨ad, e, hb, hcs⟩ := h k c hc
  exact ⟨ad, e, by omega, hcs⟩

def intCells (l : List Int) : Array Value := (l.map (Value.int .i64)).toArray
def boolCells (l : List Bool) : Array Value := (l.map Value.bool).toArray
theorem intCells_set (l : List Int) (i : Nat) (x : Int) : (intCells l).setIfInBounds i (.int .i64 x) = intCells (l.set i x) := by simp [intCells, List.map_set]
theorem boolCells_set (l : List Bool) (i : Nat) (x : Bool) : (boolCells l).setIfInBounds i (.bool x) = boolCells (l.set i x) := by simp [boolCells, List.map_set]

structure St where
  fr : List Int
  sc : List Int
  kd : List Int
  tk : List Bool

structure Fnd (w : World) (B b F S K T : Nat) (A : Option Addr) (c : Nat) (l : List Chg) (s : St) : Prop where
  self : w.heap[b]? = some (.cells #[.slice A l.length c, .slice (some ⟨F, 0, none⟩) l.length l.length, .slice (some ⟨S, 0, none⟩) l.length l.length, .slice (some ⟨K, 0, none⟩) l.length l.length, .slice (some ⟨T, 0, none⟩) l.length l.length] 107 (0, 0))
  hF : w.heap[F]? = some (.cells (intCells s.fr) 3 (0, 0))
  hS : w.heap[S]? = some (.cells (intCells s.sc) 3 (0, 0))
  hK : w.heap[K]? = some (.cells (intCells s.kd) 3 (0, 0))
  hT : w.heap[T]? = some (.cells (boolCells s.tk) 4 (0, 0))
  lF : s.fr.length = l.length
  lS : s.sc.length = l.length
  lK : s.kd.length = l.length
  lT : s.tk.length = l.length
  bb : B ≤ b
  bF : B ≤ F
  bS : B ≤ S
  bK : B ≤ K
  bT : B ≤ T
  FSX : F ≠ S
  FK : F ≠ K
  SK : S ≠ K
  reads : LReads w B A l
  oks : ∀ (k : Nat) (x : Chg), l[k]? = some x → x.ok
  short : l.length ≤ 40

theorem ne_of_types {w : World} {g g' : Nat} {t t' : TypeId} {cs cs' : Array Value} {fr fr' : Nat × Nat} (h : w.heap[g]? = some (.cells cs t fr)) (h' : w.heap[g']? = some (.cells cs' t' fr')) (hne : t ≠ t') : g ≠ g' := by
  rintro rfl
  rw [h] at h'
  injection h' with h'
  injection h' with _ ht
  exact hne ht

def isTarget (l : List Chg) (s : St) (k : Nat) : Bool := (l.getD k default).kind == 1 && s.kd.getD k 0 == 0
def isSource (l : List Chg) (s : St) (k : Nat) : Bool := (l.getD k default).kind == 2 && !s.tk.getD k false
def isNamed (l : List Chg) (i k : Nat) : Bool := (baseB (l.getD i default).old).toList == (baseB (l.getD k default).new).toList

section
variable {w : World} {B b F S K T : Nat} {A : Option Addr} {c : Nat} {l : List Chg} {s : St}
theorem Fnd.cell (h : Fnd w B b F S K T A c l s) (j : Nat) : w.cell? ⟨b, j, none⟩ = #[Value.slice A l.length c, .slice (some ⟨F, 0, none⟩) l.length l.length, .slice (some ⟨S, 0, none⟩) l.length l.length, .slice (some ⟨K, 0, none⟩) l.length l.length, .slice (some ⟨T, 0, none⟩) l.length l.length][j]? := cell_of_row w b j _ _ _ h.self
theorem ints_cell {g : Nat} {t : TypeId} {xs : List Int} (h : w.heap[g]? = some (.cells (intCells xs) t (0, 0))) (k : Nat) (hk : k < xs.length) : w.cell? ⟨g, k, none⟩ = some (.int .i64 (xs.getD k 0)) := by
  rw [cell_of_row w g k _ _ _ h]
  simp [hk, intCells]
theorem bools_cell {g : Nat} {t : TypeId} {xs : List Bool} (h : w.heap[g]? = some (.cells (boolCells xs) t (0, 0))) (k : Nat) (hk : k < xs.length) : w.cell? ⟨g, k, none⟩ = some (.bool (xs.getD k false)) := by
  rw [cell_of_row w g k _ _ _ h]
  simp [hk, boolCells]
theorem Fnd.at_ (h : Fnd w B b F S K T A c l s) (k : Nat) (hk : k < l.length) : ∃ ad, A = some ad ∧ ad.block < B ∧ CellsAt w (ad.add (k * 70)) (l.getD k default).cells ∧ (l.getD k default).ok := by
  have hg : l[k]? = some (l.getD k default) := by simp [hk]
  obtain ⟨ad, e, hb, hcs⟩ := h.reads k _ hg
  exact ⟨ad, e, hb, hcs, h.oks k _ hg⟩

set_option maxHeartbeats 400000 in
theorem target_any (h : Fnd w B b F S K T A c l s) (k : Nat) (hk : k < l.length) :
    Calls Tryz.prog 40 #[.pointer (some ⟨b,0,none⟩), .int .i64 k] w fun e w' => e = .returned (.bool (isTarget l s k)) ∧ w = w' := by
  obtain ⟨ad, rfl, _, hcs, _⟩ := h.at_ k hk
  have h0 : w.cell? ⟨b, 0, none⟩ = some (.slice (some ad) l.length c) := h.cell 0
  have h3 : w.cell? ⟨b, 3, none⟩ = some (.slice (some ⟨K, 0, none⟩) l.length l.length) := h.cell 3
  have hx : w.cell? (ad.add (k * 70)) = some (.int .i64 (l.getD k default).kind) := hcs.zero rfl
  have hy := ints_cell h.hK k (by rw [h.lK]; exact hk)
  have hs := h.short
  unfold isTarget
  generalize (l.getD k default).kind = x at *
  generalize s.kd.getD k 0 = y at *
  generalize l.length = n at *
  clear hcs h
  go_enter Tryz.func40, Tryz.ntmps40
  by_cases hxx : (x == 1) = true
  · go_wp2
    go_ret
    simp [hxx]
  · have hxx : (x == 1) = false := by simpa using hxx
    go_wp2
    go_ret
    simp [hxx]

set_option maxHeartbeats 400000 in
theorem source_any (h : Fnd w B b F S K T A c l s) (k : Nat) (hk : k < l.length) :
    Calls Tryz.prog 42 #[.pointer (some ⟨b,0,none⟩), .int .i64 k] w fun e w' => e = .returned (.bool (isSource l s k)) ∧ w = w' := by
  obtain ⟨ad, rfl, _, hcs, _⟩ := h.at_ k hk
  have h0 : w.cell? ⟨b, 0, none⟩ = some (.slice (some ad) l.length c) := h.cell 0
  have h3 : w.cell? ⟨b, 4, none⟩ = some (.slice (some ⟨T, 0, none⟩) l.length l.length) := h.cell 4
  have hx : w.cell? (ad.add (k * 70)) = some (.int .i64 (l.getD k default).kind) := hcs.zero rfl
  have hy := bools_cell h.hT k (by rw [h.lT]; exact hk)
  have hs := h.short
  unfold isSource
  generalize (l.getD k default).kind = x at *
  generalize s.tk.getD k false = y at *
  generalize l.length = n at *
  clear hcs h
  go_enter Tryz.func42, Tryz.ntmps42
  by_cases hxx : (x == 2) = true
  · go_wp2
    go_ret
    simp [hxx]
  · have hxx : (x == 2) = false := by simpa using hxx
    go_wp2
    go_ret
    simp [hxx]

set_option maxHeartbeats 400000 in
theorem named_any (h : Fnd w B b F S K T A c l s) (i k : Nat) (hi : i < l.length) (hk : k < l.length) :
    Calls Tryz.prog 43 #[.pointer (some ⟨b,0,none⟩), .int .i64 i, .int .i64 k] w fun e w' => e = .returned (.bool (isNamed l i k)) ∧ ∃ m, w' = w.drewN m := by
  obtain ⟨ad, rfl, _, hcs, hok⟩ := h.at_ k hk
  obtain ⟨ad', he, _, hcs', hok'⟩ := h.at_ i hi
  obtain rfl : ad = ad' := by injection he
  have h0 : w.cell? ⟨b, 0, none⟩ = some (.slice (some ad) l.length c) := h.cell 0
  have hx : w.cell? ⟨(ad.add (i * 70)).block, (ad.add (i * 70)).off + 1, none⟩ = some (.string (l.getD i default).old) := hcs'.succ 0 rfl
  have hy : w.cell? ⟨(ad.add (k * 70)).block, (ad.add (k * 70)).off + 2, none⟩ = some (.string (l.getD k default).new) := hcs.succ 1 rfl
  have zx := hok'.old
  have zy := hok.new
  have hs := h.short
  unfold isNamed
  generalize (l.getD i default).old = x at *
  generalize (l.getD k default).new = y at *
  generalize l.length = n at *
  clear hcs h hcs' he hok hok'
  have hcx := fun W => base_any x W zx
  have hcy := fun W => base_any y W zy
  have HX := Lib.hid hcx
  have HY := Lib.hid hcy
  clear hcx hcy
  go_enter Tryz.func43, Tryz.ntmps43
  go_wp2_with fail
  go_quiet ((first | (go_at_call_of 97 (Value.string x); exact quiet_same (HX.out _)) | (go_at_call_of 97 (Value.string y); exact quiet_same (HY.out _))))
  go_wp2
  go_ret
  exact ⟨rfl, _, rfl⟩
end
end Go.Proofs.YtbmpidacoohdmaaGreat.Rn
namespace Go.Proofs.YtbmpidacoohdmaaGreat.Rn
open Go.RowKit

theorem Fnd.keep {w w' : World} {B b F S K T : Nat} {A : Option Addr} {c : Nat} {l : List Chg} {s : St} (h : Fnd w B b F S K T A c l s) (hk : ∀ g, g < w.heap.size → w'.heap[g]? = w.heap[g]?) : Fnd w' B b F S K T A c l s := by
  have lt : ∀ {g : Nat} {o : Obj}, w.heap[g]? = some o → g < w.heap.size := fun h => (Array.getElem?_eq_some_iff.1 h).1
  have hb := lt h.self
  exact ⟨(hk _ hb).trans h.self, (hk _ (lt h.hF)).trans h.hF, (hk _ (lt h.hS)).trans h.hS, (hk _ (lt h.hK)).trans h.hK, (hk _ (lt h.hT)).trans h.hT, h.lF, h.lS, h.lK, h.lT, h.bb, h.bF, h.bS, h.bK, h.bT, h.FSX, h.FK, h.SK,
    h.reads.keep fun p hp => World.cell?_of_block (hk _ (by have := h.bb; omega)), h.oks, h.short⟩
theorem Fnd.drewN {w : World} {B b F S K T : Nat} {A : Option Addr} {c : Nat} {l : List Chg} {s : St} (h : Fnd w B b F S K T A c l s) (n : Nat) : Fnd (w.drewN n) B b F S K T A c l s := h.keep fun _ _ => rfl

def hit (l : List Chg) (s : St) (k : Nat) (nm : Bool) (i : Nat) : Bool := isSource l s i && decide ((l.getD i default).oid = (l.getD k default).nid) && (!nm || isNamed l i k)
def firstFrom (p : Nat → Bool) : Nat → Nat → Int
  | 0, _ => -1
  | m + 1, i => if p i then (i : Int) else firstFrom p m (i + 1)

theorem first_hit (p : Nat → Bool) (n j : Nat) (hj : j < n) (h : p j = true) : firstFrom p (n - j) j = j := by
  obtain ⟨m, hm⟩ : ∃ m, n - j = m + 1 := ⟨n - j - 1, by omega⟩
  rw [hm]; simp [firstFrom, h]
theorem first_miss (p : Nat → Bool) (n j : Nat) (hj : j < n) (h : p j = false) : firstFrom p (n - j) j = firstFrom p (n - (j + 1)) (j + 1) := by
  obtain ⟨m, hm⟩ : ∃ m, n - j = m + 1 := ⟨n - j - 1, by omega⟩
  have h2 : n - (j + 1) = m := by omega
  rw [hm, h2]; simp [firstFrom, h]

set_option maxHeartbeats 2000000 in
theorem find_any {w : World} {B b F S K T : Nat} {A : Option Addr} {c : Nat} {l : List Chg} {s : St} (h : Fnd w B b F S K T A c l s) (k : Nat) (hk : k < l.length) (nm : Bool) (fb kb : Nat)
    (cf : w.cell? ⟨fb, 0, none⟩ = some (.pointer (some ⟨b, 0, none⟩))) (ck : w.cell? ⟨kb, 0, none⟩ = some (.int .i64 k)) :
    Calls Tryz.prog 41 #[.bool nm, .pointer (some ⟨fb, 0, none⟩), .pointer (some ⟨kb, 0, none⟩)] w fun e w' => e = .returned (.int .i64 (firstFrom (hit l s k nm) l.length 0)) ∧ ∃ m, w' = w.drewN m := by
  have h0 : w.cell? ⟨b, 0, none⟩ = some (.slice A l.length c) := h.cell 0
  have hn40 := h.short
  have H := Lib.hid h
  clear h
  go_enter Tryz.func41, Tryz.ntmps41
  go_wp2
  go_loopw [11] (fun i wr => ∃ j : Nat, j ≤ l.length ∧ i = .int .i64 j ∧ Hid (∃ m, wr = w.drewN m) ∧ Hid (firstFrom (hit l s k nm) l.length 0 = firstFrom (hit l s k nm) (l.length - j) j)) (fun i _ => l.length - (intOf i).toNat)
  case atStart => exact ⟨0, Nat.zero_le _, rfl, ⟨0, rfl⟩, rfl⟩
  case round =>
    obtain ⟨j, hj, rfl, hm, hf⟩ := hrel
    have h := H.out
    have hr : Fnd wr B b F S K T A c l s := by obtain ⟨m, rfl⟩ := hm.out; exact h.drewN m
    have cf' : wr.cell? ⟨fb, 0, none⟩ = some (.pointer (some ⟨b, 0, none⟩)) := by obtain ⟨m, rfl⟩ := hm.out; exact cf
    have ck' : wr.cell? ⟨kb, 0, none⟩ = some (.int .i64 k) := by obtain ⟨m, rfl⟩ := hm.out; exact ck
    clear h cf ck h0
    by_cases hlt : j < l.length
    · obtain ⟨ad, rfl, _, hcs, hok⟩ := hr.at_ k hk
      obtain ⟨ad', he, _, hcs', hok'⟩ := hr.at_ j hlt
      obtain rfl : ad = ad' := by injection he
      have h0 : wr.cell? ⟨b, 0, none⟩ = some (.slice (some ad) l.length c) := hr.cell 0
      have ho : ∀ w', (∃ n, w' = wr.drewN n) → CellsAt w' ⟨(ad.add (j * 70)).block, (ad.add (j * 70)).off + 5, none⟩ (u8s (l.getD j default).oid) := by
        rintro _ ⟨n, rfl⟩
        have hp := (hcs'.part 5).take 32
        rw [Chg.oid_part _ hok'] at hp
        exact hp
      have hn : ∀ w', (∃ n, w' = wr.drewN n) → CellsAt w' ⟨(ad.add (k * 70)).block, (ad.add (k * 70)).off + 37, none⟩ (u8s (l.getD k default).nid) := by
        rintro _ ⟨n, rfl⟩
        have hp := (hcs.part 37).take 32
        rw [Chg.nid_part _ hok] at hp
        exact hp
      have hlo : (Tryz.prog.info? 51).map (·.size) = some (u8s (l.getD j default).oid).length := by rw [u8s_length, hok'.oid]; exact info44
      have hln : (Tryz.prog.info? 51).map (·.size) = some (u8s (l.getD k default).nid).length := by rw [u8s_length, hok.nid]; exact info44
      have HO := Lib.hid ho
      have HN := Lib.hid hn
      have HLO := Lib.hid hlo
      have HLN := Lib.hid hln
      have hq1 : ∀ W, (Op.equalIn 10000 51 (.agg (u8s (l.getD j default).oid).toArray) (.agg (u8s (l.getD k default).nid).toArray)).run Tryz.prog W = .ok (decide ((l.getD j default).oid = (l.getD k default).nid)) W := fun W => run_equalIn_u8s (P := Tryz.prog) (n := 32) W Tryz.underlying51 Tryz.underlying5 (Option.map_eq_some_iff.1 info5).choose_spec.1 (Option.map_eq_some_iff.1 info5).choose_spec.2 9998 (l.getD j default).oid (l.getD k default).nid hok'.oid hok.nid
      have hit_eq : hit l s k nm j = (isSource l s j && decide ((l.getD j default).oid = (l.getD k default).nid) && (!nm || isNamed l j k)) := rfl
      have HIT := Lib.hid hit_eq
      have hsrc := fun n => source_any (hr.drewN n) j hlt
      have hnam := fun n => named_any (hr.drewN n) j k hlt hk
      have HR := Lib.hid hr
      clear ho hn hlo hln hcs hcs' he hit_eq hok hok' hr H
      generalize (l.getD j default).oid = X at *
      generalize (l.getD k default).nid = Y at *
      generalize isSource l s j = bs at *
      generalize isNamed l j k = bn at *
      have HS := Lib.hid hsrc
      have HM := Lib.hid hnam
      clear hsrc hnam
      cases bs with
      | false =>
        go_wp2_with fail
        refine wp_region_quiet_lit (by kernel_rfl) (by kernel_rfl) ?_
        repeat (first
          | (go_big_quiet_want; refine quiet_load_cells 51 _ rfl _ rfl (u8s X) Tryz.underlying51 rfl HLO.out HO.out ?_; simp only [Act.put, List.setIfInBounds_toArray, List.set_cons_succ, List.set_cons_zero]; go_big_quiet_on)
          | (go_big_quiet_want; refine quiet_load_cells 51 _ rfl _ rfl (u8s Y) Tryz.underlying51 rfl HLN.out HN.out ?_; simp only [Act.put, List.setIfInBounds_toArray, List.set_cons_succ, List.set_cons_zero]; go_big_quiet_on)
          | go_big_quiet_step ((first | (go_at_call 42; exact quiet_same (HS.out _)) | (go_at_call 43; exact Calls.quiet_of (HM.out _)))))
        refine wpQuiet_nil ?_
        intro _ hw'
        obtain ⟨nq, hw''⟩ := hw'
        subst hw''
        go_wp2
        refine ⟨⟨j + 1, by omega, by go_num, ?_, ?_⟩, by simp [intOf]; omega⟩
        · obtain ⟨m, rfl⟩ := hm.out
          exact ⟨m + nq, by simp⟩
        · exact (hf.out.trans (first_miss _ _ _ hlt (by rw [HIT.out]; simp [*])) : _)
      | true =>
        by_cases hxy : decide (X = Y) = true
        · rw [hxy] at hq1
          cases nm with
          | false =>
            go_wp2_with fail
            refine wp_region_quiet_lit (by kernel_rfl) (by kernel_rfl) ?_
            repeat (first
              | (go_big_quiet_want; refine quiet_load_cells 51 _ rfl _ rfl (u8s X) Tryz.underlying51 rfl HLO.out HO.out ?_; simp only [Act.put, List.setIfInBounds_toArray, List.set_cons_succ, List.set_cons_zero]; go_big_quiet_on)
              | (go_big_quiet_want; refine quiet_load_cells 51 _ rfl _ rfl (u8s Y) Tryz.underlying51 rfl HLN.out HN.out ?_; simp only [Act.put, List.setIfInBounds_toArray, List.set_cons_succ, List.set_cons_zero]; go_big_quiet_on)
              | go_big_quiet_step ((first | (go_at_call 42; exact quiet_same (HS.out _)) | (go_at_call 43; exact Calls.quiet_of (HM.out _)))))
            refine wpQuiet_nil ?_
            intro _ hw'
            obtain ⟨nq, hw''⟩ := hw'
            subst hw''
            go_wp2
            go_ret
            obtain ⟨m, rfl⟩ := hm.out
            exact ⟨ret_int (hf.out.trans (first_hit _ _ _ hlt (by rw [HIT.out]; simp [*]))).symm, m + nq, by simp⟩
          | true =>
            cases bn with
            | true =>
              go_wp2_with fail
              refine wp_region_quiet_lit (by kernel_rfl) (by kernel_rfl) ?_
              repeat (first
                | (go_big_quiet_want; refine quiet_load_cells 51 _ rfl _ rfl (u8s X) Tryz.underlying51 rfl HLO.out HO.out ?_; simp only [Act.put, List.setIfInBounds_toArray, List.set_cons_succ, List.set_cons_zero]; go_big_quiet_on)
                | (go_big_quiet_want; refine quiet_load_cells 51 _ rfl _ rfl (u8s Y) Tryz.underlying51 rfl HLN.out HN.out ?_; simp only [Act.put, List.setIfInBounds_toArray, List.set_cons_succ, List.set_cons_zero]; go_big_quiet_on)
                | go_big_quiet_step ((first | (go_at_call 42; exact quiet_same (HS.out _)) | (go_at_call 43; exact Calls.quiet_of (HM.out _)))))
              refine wpQuiet_nil ?_
              intro _ hw'
              obtain ⟨nq, hw''⟩ := hw'
              subst hw''
              go_wp2
              go_ret
              obtain ⟨m, rfl⟩ := hm.out
              exact ⟨ret_int (hf.out.trans (first_hit _ _ _ hlt (by rw [HIT.out]; simp [*]))).symm, m + nq, by simp⟩
            | false =>
              go_wp2_with fail
              refine wp_region_quiet_lit (by kernel_rfl) (by kernel_rfl) ?_
              repeat (first
                | (go_big_quiet_want; refine quiet_load_cells 51 _ rfl _ rfl (u8s X) Tryz.underlying51 rfl HLO.out HO.out ?_; simp only [Act.put, List.setIfInBounds_toArray, List.set_cons_succ, List.set_cons_zero]; go_big_quiet_on)
                | (go_big_quiet_want; refine quiet_load_cells 51 _ rfl _ rfl (u8s Y) Tryz.underlying51 rfl HLN.out HN.out ?_; simp only [Act.put, List.setIfInBounds_toArray, List.set_cons_succ, List.set_cons_zero]; go_big_quiet_on)
                | go_big_quiet_step ((first | (go_at_call 42; exact quiet_same (HS.out _)) | (go_at_call 43; exact Calls.quiet_of (HM.out _)))))
              refine wpQuiet_nil ?_
              intro _ hw'
              obtain ⟨nq, hw''⟩ := hw'
              subst hw''
              go_wp2
              refine ⟨⟨j + 1, by omega, by go_num, ?_, ?_⟩, by simp [intOf]; omega⟩
              · obtain ⟨m, rfl⟩ := hm.out
                exact ⟨m + nq, by simp⟩
              · exact (hf.out.trans (first_miss _ _ _ hlt (by rw [HIT.out]; simp [*])) : _)
        · have hxy : decide (X = Y) = false := by simpa using hxy
          rw [hxy] at hq1
          go_wp2_with fail
          refine wp_region_quiet_lit (by kernel_rfl) (by kernel_rfl) ?_
          repeat (first
            | (go_big_quiet_want; refine quiet_load_cells 51 _ rfl _ rfl (u8s X) Tryz.underlying51 rfl HLO.out HO.out ?_; simp only [Act.put, List.setIfInBounds_toArray, List.set_cons_succ, List.set_cons_zero]; go_big_quiet_on)
            | (go_big_quiet_want; refine quiet_load_cells 51 _ rfl _ rfl (u8s Y) Tryz.underlying51 rfl HLN.out HN.out ?_; simp only [Act.put, List.setIfInBounds_toArray, List.set_cons_succ, List.set_cons_zero]; go_big_quiet_on)
            | go_big_quiet_step ((first | (go_at_call 42; exact quiet_same (HS.out _)) | (go_at_call 43; exact Calls.quiet_of (HM.out _)))))
          refine wpQuiet_nil ?_
          intro _ hw'
          obtain ⟨nq, hw''⟩ := hw'
          subst hw''
          go_wp2
          refine ⟨⟨j + 1, by omega, by go_num, ?_, ?_⟩, by simp [intOf]; omega⟩
          · obtain ⟨m, rfl⟩ := hm.out
            exact ⟨m + nq, by simp⟩
          · exact (hf.out.trans (first_miss _ _ _ hlt (by rw [HIT.out]; simp [*])) : _)
    · go_wp2
      go_ret
      obtain rfl : j = l.length := by omega
      exact ⟨ret_int (by rw [hf.out, Nat.sub_self]; rfl), hm.out⟩
end Go.Proofs.YtbmpidacoohdmaaGreat.Rn
namespace Go.Proofs.YtbmpidacoohdmaaGreat.Rn
open Go.RowKit

theorem int_info : (Tryz.prog.info? 3).map (fun i => (i.zero, i.size, i.bytes)) = some (some (.int .i64 0), 1, 8) := by kernel_rfl
theorem bool_info : (Tryz.prog.info? 4).map (fun i => (i.zero, i.size, i.bytes)) = some (some (.bool false), 1, 1) := by kernel_rfl
theorem make_ints (n : Nat) (hn : n ≤ 40) (W : World) : (Instr.makeSlice 48 (.int .i64 n) (.int .i64 n)).run Tryz.prog W = .ok (.slice (some ⟨W.heap.size, 0, none⟩) n n) (W.alloc (.cells (intCells (List.replicate n 0)) 3)) := by
  obtain ⟨i0, hi0, hz0, hz1, hz2⟩ := info_parts int_info
  have h := run_make (P := Tryz.prog) W 48 3 i0 (.int .i64 0) Tryz.underlying48 hi0 hz0 .i64 .i64 n n (by omega) (by omega) (by rw [hz2]; omega) (by omega)
  rw [h, hz1]
  have e : (madeCells (Value.int .i64 0).cells ((n : Int).toNat * 1)) = intCells (List.replicate n 0) := by
    apply Array.ext'
    simp only [Int.toNat_natCast, Nat.mul_one]
    rw [show (Value.int .i64 0).cells = #[Value.int .i64 0] from rfl, toList_madeCells_one]
    simp [intCells]
  rw [e]
  simp
theorem make_bools (n : Nat) (hn : n ≤ 40) (W : World) : (Instr.makeSlice 71 (.int .i64 n) (.int .i64 n)).run Tryz.prog W = .ok (.slice (some ⟨W.heap.size, 0, none⟩) n n) (W.alloc (.cells (boolCells (List.replicate n false)) 4)) := by
  obtain ⟨i0, hi0, hz0, hz1, hz2⟩ := info_parts bool_info
  have h := run_make (P := Tryz.prog) W 71 4 i0 (.bool false) Tryz.underlying71 hi0 hz0 .i64 .i64 n n (by omega) (by omega) (by rw [hz2]; omega) (by omega)
  rw [h, hz1]
  have e : (madeCells (Value.bool false).cells ((n : Int).toNat * 1)) = boolCells (List.replicate n false) := by
    apply Array.ext'
    simp only [Int.toNat_natCast, Nat.mul_one]
    rw [show (Value.bool false).cells = #[Value.bool false] from rfl, toList_madeCells_one]
    simp [boolCells]
  rw [e]
  simp

section
variable (w : World) (o0 o1 o2 o3 o4 : Obj)
theorem at0 : ((((((w.alloc o0).alloc o1).alloc o2).alloc o3).alloc o4).drew).heap[w.heap.size]? = some o0 := by
  show (((((w.heap.push o0).push o1).push o2).push o3).push o4)[w.heap.size]? = _
  simp only [Array.getElem?_push, Array.size_push]
  repeat (first | rw [if_pos trivial] | rw [if_pos rfl] | rw [if_neg (by omega)])
theorem at1 : ((((((w.alloc o0).alloc o1).alloc o2).alloc o3).alloc o4).drew).heap[w.heap.size + 1]? = some o1 := by
  show (((((w.heap.push o0).push o1).push o2).push o3).push o4)[w.heap.size + 1]? = _
  simp only [Array.getElem?_push, Array.size_push]
  repeat (first | rw [if_pos trivial] | rw [if_pos rfl] | rw [if_neg (by omega)])
theorem at2 : ((((((w.alloc o0).alloc o1).alloc o2).alloc o3).alloc o4).drew).heap[w.heap.size + 1 + 1]? = some o2 := by
  show (((((w.heap.push o0).push o1).push o2).push o3).push o4)[w.heap.size + 1 + 1]? = _
  simp only [Array.getElem?_push, Array.size_push]
  repeat (first | rw [if_pos trivial] | rw [if_pos rfl] | rw [if_neg (by omega)])
theorem at3 : ((((((w.alloc o0).alloc o1).alloc o2).alloc o3).alloc o4).drew).heap[w.heap.size + 1 + 1 + 1]? = some o3 := by
  show (((((w.heap.push o0).push o1).push o2).push o3).push o4)[w.heap.size + 1 + 1 + 1]? = _
  simp only [Array.getElem?_push, Array.size_push]
  repeat (first | rw [if_pos trivial] | rw [if_pos rfl] | rw [if_neg (by omega)])
theorem at4 : ((((((w.alloc o0).alloc o1).alloc o2).alloc o3).alloc o4).drew).heap[w.heap.size + 1 + 1 + 1 + 1]? = some o4 := by
  show (((((w.heap.push o0).push o1).push o2).push o3).push o4)[w.heap.size + 1 + 1 + 1 + 1]? = _
  simp only [Array.getElem?_push, Array.size_push]
  repeat (first | rw [if_pos trivial] | rw [if_pos rfl] | rw [if_neg (by omega)])
theorem below5 : Below w.heap.size w (((((w.alloc o0).alloc o1).alloc o2).alloc o3).alloc o4).drew :=
  ((((((Below.refl _ _).alloc (Nat.le_refl _) _).alloc (by simp) _).alloc (by simp; omega) _).alloc (by simp; omega) _).alloc (by simp; omega) _).drew
end
def st0 (n : Nat) (f0 : Int) : St := ⟨List.replicate n f0, List.replicate n 0, List.replicate n 0, List.replicate n false⟩
set_option maxHeartbeats 2000000 in
theorem start_any (w : World) (A : Option Addr) (c : Nat) (l : List Chg) (hr : LReads w w.heap.size A l) (ho : ∀ (k : Nat) (x : Chg), l[k]? = some x → x.ok) (hn : l.length ≤ 40) :
    Calls Tryz.prog 17 #[.slice A l.length c] w fun e w' => ∃ b F S K T, e = .returned (.pointer (some ⟨b, 0, none⟩)) ∧ Fnd w' w.heap.size b F S K T A c l (st0 l.length 0) ∧ Below w.heap.size w w' := by
  have m1 := make_ints l.length hn
  have m2 := make_bools l.length hn
  have HR := Lib.hid hr
  have HO := Lib.hid ho
  clear hr ho
  have hkeep : ∀ w', Below w.heap.size w w' → LReads w' w.heap.size A l := fun w' hb => HR.out.keep fun p hp => hb.cell hp
  have HK := Lib.hid hkeep
  clear hkeep
  go_enter Tryz.func17, Tryz.ntmps17
  go_wp2_with fail
  go_region
  all_goals go_wp2
  all_goals go_ret
  all_goals clear m1 m2
  all_goals refine ⟨_, _, _, _, _, rfl, ⟨at4 _ _ _ _ _ _, ?_, ?_, ?_, ?_, by simp [st0], by simp [st0], by simp [st0], by simp [st0], by omega, by omega, by omega, by omega, by omega, by omega, by omega, by omega, HK.out _ (below5 _ _ _ _ _ _), HO.out, hn⟩, below5 _ _ _ _ _ _⟩
  all_goals first | exact at0 _ _ _ _ _ _ | exact at1 _ _ _ _ _ _ | exact at2 _ _ _ _ _ _ | exact at3 _ _ _ _ _ _

end Go.Proofs.YtbmpidacoohdmaaGreat.Rn
namespace Go.Proofs.YtbmpidacoohdmaaGreat.Rn
open Go.RowKit

def pairSt (s : St) (src tgt : Nat) (sc : Int) : St := ⟨s.fr.set tgt src, s.sc.set tgt sc, s.kd.set tgt 4, s.tk.set src true⟩

set_option maxHeartbeats 400000 in
theorem pair_core (w : World) (b F S K T n : Nat) (sc : Int) (vF vS vK vT : Value) (tn sn : Nat)
  (h1 : w.cell? ⟨b,1,none⟩ = some (.slice (some ⟨F,0,none⟩) n n))
  (h2 : w.cell? ⟨b,2,none⟩ = some (.slice (some ⟨S,0,none⟩) n n))
  (h3 : w.cell? ⟨b,3,none⟩ = some (.slice (some ⟨K,0,none⟩) n n))
  (h4 : w.cell? ⟨b,4,none⟩ = some (.slice (some ⟨T,0,none⟩) n n))
  (cF : w.cell? ⟨F,tn,none⟩ = some vF) (cS : w.cell? ⟨S,tn,none⟩ = some vS) (cK : w.cell? ⟨K,tn,none⟩ = some vK) (cT : w.cell? ⟨T,sn,none⟩ = some vT)
  (fF : w.frozen? ⟨F,tn,none⟩ = false) (fS : w.frozen? ⟨S,tn,none⟩ = false) (fK : w.frozen? ⟨K,tn,none⟩ = false) (fT : w.frozen? ⟨T,sn,none⟩ = false)
  (bF : b ≠ F) (bS : b ≠ S) (bK : b ≠ K) (bT : b ≠ T) (FSX : F ≠ S) (FK : F ≠ K) (SK : S ≠ K) (FT : F ≠ T) (ST : S ≠ T) (KT : K ≠ T) (ht : tn < n) (hs : sn < n) :
    Calls Tryz.prog 44 #[.pointer (some ⟨b,0,none⟩), .int .i64 sn, .int .i64 tn, .int .i64 4, .int .i64 sc] w fun e w' => e = .returned (.tuple #[]) ∧ w' = ((((w.setCell ⟨F,tn,none⟩ (.int .i64 sn)).setCell ⟨K,tn,none⟩ (.int .i64 4)).setCell ⟨S,tn,none⟩ (.int .i64 sc)).setCell ⟨T,sn,none⟩ (.bool true)).drew := by
  go_enter Tryz.func44, Tryz.ntmps44
  go_wp2_with fail
  go_region
  go_wp2
  go_end0
  exact ⟨rfl, rfl⟩

theorem pair_any {w : World} {B b F S K T : Nat} {A : Option Addr} {c : Nat} {l : List Chg} {s : St} (h : Fnd w B b F S K T A c l s) (sn tn : Nat) (hs : sn < l.length) (ht : tn < l.length) (sc : Int) :
    Calls Tryz.prog 44 #[.pointer (some ⟨b,0,none⟩), .int .i64 sn, .int .i64 tn, .int .i64 4, .int .i64 sc] w fun e w' => e = .returned (.tuple #[]) ∧ Fnd w' B b F S K T A c l (pairSt s sn tn sc) ∧ Below B w w' ∧ (∀ g, g ≠ F → g ≠ S → g ≠ K → g ≠ T → w'.heap[g]? = w.heap[g]?) ∧ w'.heap.size = w.heap.size := by
  have bF : b ≠ F := ne_of_types h.self h.hF (by decide)
  have bS : b ≠ S := ne_of_types h.self h.hS (by decide)
  have bK : b ≠ K := ne_of_types h.self h.hK (by decide)
  have bT : b ≠ T := ne_of_types h.self h.hT (by decide)
  have FT : F ≠ T := ne_of_types h.hF h.hT (by decide)
  have ST : S ≠ T := ne_of_types h.hS h.hT (by decide)
  have KT : K ≠ T := ne_of_types h.hK h.hT (by decide)
  refine (pair_core w b F S K T l.length sc _ _ _ _ tn sn (h.cell 1) (h.cell 2) (h.cell 3) (h.cell 4) (ints_cell h.hF tn (by rw [h.lF]; exact ht)) (ints_cell h.hS tn (by rw [h.lS]; exact ht)) (ints_cell h.hK tn (by rw [h.lK]; exact ht)) (bools_cell h.hT sn (by rw [h.lT]; exact hs))
    (frozen_of_row w F tn _ _ h.hF) (frozen_of_row w S tn _ _ h.hS) (frozen_of_row w K tn _ _ h.hK) (frozen_of_row w T sn _ _ h.hT) bF bS bK bT h.FSX h.FK h.SK FT ST KT ht hs).mono ?_
  rintro e w' ⟨rfl, rfl⟩
  have far : ∀ g, g ≠ F → g ≠ S → g ≠ K → g ≠ T → ((((w.setCell ⟨F,tn,none⟩ (.int .i64 sn)).setCell ⟨K,tn,none⟩ (.int .i64 4)).setCell ⟨S,tn,none⟩ (.int .i64 sc)).setCell ⟨T,sn,none⟩ (.bool true)).heap[g]? = w.heap[g]? := fun g g1 g2 g3 g4 => by
    rw [heap_setCell_other _ _ _ _ g4, heap_setCell_other _ _ _ _ g2, heap_setCell_other _ _ _ _ g3, heap_setCell_other _ _ _ _ g1]
  have nF := h.bF; have nS := h.bS; have nK := h.bK; have nT := h.bT
  refine ⟨rfl, ⟨(far b bF bS bK bT).trans h.self, ?_, ?_, ?_, ?_, by simp [pairSt, h.lF], by simp [pairSt, h.lS], by simp [pairSt, h.lK], by simp [pairSt, h.lT], h.bb, h.bF, h.bS, h.bK, h.bT, h.FSX, h.FK, h.SK, ?_, h.oks, h.short⟩, ?_, far, by simp⟩
  · show ((((w.setCell ⟨F,tn,none⟩ (.int .i64 sn)).setCell ⟨K,tn,none⟩ (.int .i64 4)).setCell ⟨S,tn,none⟩ (.int .i64 sc)).setCell ⟨T,sn,none⟩ (.bool true)).heap[F]? = _
    rw [heap_setCell_other _ _ _ _ FT, heap_setCell_other _ _ _ _ h.FSX, heap_setCell_other _ _ _ _ h.FK, heap_setCell_same _ _ _ _ _ _ h.hF, intCells_set]
    rfl
  · show ((((w.setCell ⟨F,tn,none⟩ (.int .i64 sn)).setCell ⟨K,tn,none⟩ (.int .i64 4)).setCell ⟨S,tn,none⟩ (.int .i64 sc)).setCell ⟨T,sn,none⟩ (.bool true)).heap[S]? = _
    have e : ((w.setCell ⟨F,tn,none⟩ (.int .i64 sn)).setCell ⟨K,tn,none⟩ (.int .i64 4)).heap[S]? = some (.cells (intCells s.sc) 3 (0, 0)) := by
      rw [heap_setCell_other _ _ _ _ h.SK, heap_setCell_other _ _ _ _ h.FSX.symm, h.hS]
    rw [heap_setCell_other _ _ _ _ ST, heap_setCell_same _ _ _ _ _ _ e, intCells_set]
    rfl
  · show ((((w.setCell ⟨F,tn,none⟩ (.int .i64 sn)).setCell ⟨K,tn,none⟩ (.int .i64 4)).setCell ⟨S,tn,none⟩ (.int .i64 sc)).setCell ⟨T,sn,none⟩ (.bool true)).heap[K]? = _
    have e : (w.setCell ⟨F,tn,none⟩ (.int .i64 sn)).heap[K]? = some (.cells (intCells s.kd) 3 (0, 0)) := by
      rw [heap_setCell_other _ _ _ _ h.FK.symm, h.hK]
    rw [heap_setCell_other _ _ _ _ KT, heap_setCell_other _ _ _ _ h.SK.symm, heap_setCell_same _ _ _ _ _ _ e, intCells_set]
    rfl
  · show ((((w.setCell ⟨F,tn,none⟩ (.int .i64 sn)).setCell ⟨K,tn,none⟩ (.int .i64 4)).setCell ⟨S,tn,none⟩ (.int .i64 sc)).setCell ⟨T,sn,none⟩ (.bool true)).heap[T]? = _
    have e : (((w.setCell ⟨F,tn,none⟩ (.int .i64 sn)).setCell ⟨K,tn,none⟩ (.int .i64 4)).setCell ⟨S,tn,none⟩ (.int .i64 sc)).heap[T]? = some (.cells (boolCells s.tk) 4 (0, 0)) := by
      rw [heap_setCell_other _ _ _ _ ST.symm, heap_setCell_other _ _ _ _ KT.symm, heap_setCell_other _ _ _ _ FT.symm, h.hT]
    rw [heap_setCell_same _ _ _ _ _ _ e, boolCells_set]
    rfl
  · exact h.reads.keep fun p hp => World.cell?_of_block (far _ (by omega) (by omega) (by omega) (by omega))
  · exact (((((Below.refl B w).setCell (p := ⟨F, tn, none⟩) h.bF _).setCell (p := ⟨K, tn, none⟩) h.bK _).setCell (p := ⟨S, tn, none⟩) h.bS _).setCell (p := ⟨T, sn, none⟩) h.bT _).drew

end Go.Proofs.YtbmpidacoohdmaaGreat.Rn
namespace Go.Proofs.YtbmpidacoohdmaaGreat.Rn
open Go.RowKit

def foundAt (l : List Chg) (s : St) (k : Nat) : Int :=
  if firstFrom (hit l s k true) l.length 0 < 0 then firstFrom (hit l s k false) l.length 0 else firstFrom (hit l s k true) l.length 0
def exactStep (l : List Chg) (s : St) (k : Nat) : St :=
  if isTarget l s k then (if 0 ≤ foundAt l s k then pairSt s (foundAt l s k).toNat k 1000 else s) else s
def exactTo (l : List Chg) (s : St) : Nat → St
  | 0 => s
  | k + 1 => exactStep l (exactTo l s k) k

theorem firstFrom_bd (p : Nat → Bool) (n : Nat) : ∀ m i, i + m = n → firstFrom p m i = -1 ∨ ∃ j : Nat, j < n ∧ firstFrom p m i = j := by
  intro m
  induction m with
  | zero => intro i _; exact .inl rfl
  | succ m ih =>
    intro i h
    unfold firstFrom
    split
    · exact .inr ⟨i, by omega, rfl⟩
    · exact ih (i + 1) (by omega)

theorem neg_of_nat (j : Nat) : ¬ ((j : Int) < 0) := by omega
theorem below_drewN {B : Nat} {a w : World} (h : Below B a w) (n : Nat) : Below B a (w.drewN n) := ⟨h.os, h.tape, h.output, h.size, h.block⟩
theorem Fnd.alloc {w : World} {B b F S K T : Nat} {A : Option Addr} {c : Nat} {l : List Chg} {s : St} (h : Fnd w B b F S K T A c l s) (o : Obj) : Fnd (w.alloc o) B b F S K T A c l s := h.keep fun g hg => Below.heap_alloc w o g hg

set_option maxHeartbeats 2000000 in
theorem exact_any {w : World} {B b F S K T : Nat} {A : Option Addr} {c : Nat} {l : List Chg} {s : St} (h : Fnd w B b F S K T A c l s) :
    Calls Tryz.prog 18 #[.pointer (some ⟨b, 0, none⟩)] w fun e w' => e = .returned (.tuple #[]) ∧ Fnd w' B b F S K T A c l (exactTo l s l.length) ∧ Below B w w' := by
  have h0 : w.cell? ⟨b, 0, none⟩ = some (.slice A l.length c) := h.cell 0
  have hn40 := h.short
  have hlt : b < w.heap.size := (Array.getElem?_eq_some_iff.1 h.self).1
  have hB := h.bb
  have hbx : Fnd (w.alloc (.cells #[.pointer (some ⟨b, 0, none⟩)] 67)) B b F S K T A c l s := h.alloc _
  have HB := Lib.hid hbx
  clear hbx h
  go_enter Tryz.func18, Tryz.ntmps18
  go_wp2
  go_loopw [10] (fun i wr => ∃ k : Nat, k ≤ l.length ∧ i = .int .i64 k ∧ Hid (Fnd wr B b F S K T A c l (exactTo l s k)) ∧ Hid (wr.heap[w.heap.size]? = some (.cells #[.pointer (some ⟨b, 0, none⟩)] 67 (0, 0))) ∧ Hid (Below B w wr)) (fun i _ => l.length - (intOf i).toNat)
  case atStart => exact ⟨0, Nat.zero_le _, rfl, HB.out, heap_alloc_new _ _, (Below.refl _ _).alloc (by omega) _⟩
  case round =>
    obtain ⟨k, hk, rfl, hr, hf, hb⟩ := hrel
    clear h0
    by_cases hkl : k < l.length
    · have hW : Fnd (wr.alloc (.cells #[.int .i64 k] 3)) B b F S K T A c l (exactTo l s k) := hr.out.alloc _
      have hWb : Below B w (wr.alloc (.cells #[.int .i64 k] 3)) := hb.out.alloc (by have := hr.out.bb; have := (Array.getElem?_eq_some_iff.1 hr.out.self).1; omega) _
      have hWf : (wr.alloc (.cells #[.int .i64 k] 3)).heap[w.heap.size]? = some (.cells #[.pointer (some ⟨b, 0, none⟩)] 67 (0, 0)) := by
        exact (Below.heap_alloc _ _ _ (Array.getElem?_eq_some_iff.1 hf.out).1).trans hf.out
      have cf : (wr.alloc (.cells #[.int .i64 k] 3)).cell? ⟨w.heap.size, 0, none⟩ = some (.pointer (some ⟨b, 0, none⟩)) := cell_of_row _ _ 0 _ _ _ hWf
      have ck : (wr.alloc (.cells #[.int .i64 k] 3)).cell? ⟨wr.heap.size, 0, none⟩ = some (.int .i64 k) := cell_of_row _ _ 0 _ _ _ (heap_alloc_new _ _)
      have hct := target_any hW k hkl
      have hc1 := find_any hW k hkl true w.heap.size wr.heap.size cf ck
      have hc2 : ∀ m, Calls Tryz.prog 41 #[.bool false, .pointer (some ⟨w.heap.size, 0, none⟩), .pointer (some ⟨wr.heap.size, 0, none⟩)] ((wr.alloc (.cells #[.int .i64 k] 3)).drewN m) fun e w' => e = .returned (.int .i64 (firstFrom (hit l (exactTo l s k) k false) l.length 0)) ∧ ∃ m', w' = ((wr.alloc (.cells #[.int .i64 k] 3)).drewN m).drewN m' :=
        fun m => find_any (hW.drewN m) k hkl false w.heap.size wr.heap.size cf ck
      have hst : exactTo l s (k + 1) = exactStep l (exactTo l s k) k := rfl
      have hfa : foundAt l (exactTo l s k) k = if firstFrom (hit l (exactTo l s k) k true) l.length 0 < 0 then firstFrom (hit l (exactTo l s k) k false) l.length 0 else firstFrom (hit l (exactTo l s k) k true) l.length 0 := rfl
      unfold exactStep at hst
      rw [hfa] at hst
      clear hfa
      have b1 := firstFrom_bd (hit l (exactTo l s k) k true) l.length l.length 0 (by omega)
      have b2 := firstFrom_bd (hit l (exactTo l s k) k false) l.length l.length 0 (by omega)
      generalize firstFrom (hit l (exactTo l s k) k true) l.length 0 = a1 at *
      generalize firstFrom (hit l (exactTo l s k) k false) l.length 0 = a2 at *
      generalize isTarget l (exactTo l s k) k = tg at *
      have HST := Lib.hid hst
      have HW := Lib.hid hW
      have HWB := Lib.hid hWb
      have HWF := Lib.hid hWf
      have HCT := Lib.hid hct
      have HC1 := Lib.hid hc1
      have HC2 := Lib.hid hc2
      have hfz : w.heap.size < wr.heap.size := (Array.getElem?_eq_some_iff.1 hf.out).1
      have hfc : wr.cell? ⟨w.heap.size, 0, none⟩ = some (.pointer (some ⟨b, 0, none⟩)) := cell_of_row _ _ 0 _ _ _ hf.out
      clear hst hW hWb hWf hct hc1 hc2 cf ck
      cases tg with
      | false =>
        clear b1 b2
        go_wp2_with (go_at_call 40; refine HCT.out.mono ?_; rintro e w' ⟨rfl, rfl⟩)
        refine ⟨⟨k + 1, by omega, by go_num, ?_, ?_, ?_⟩, by simp [intOf]; omega⟩
        · rw [show exactTo l s (k + 1) = exactTo l s k by rw [HST.out]; simp]; exact (HW.out : _)
        · exact (HWF.out : _)
        · exact (HWB.out : _)
      | true =>
        rcases b1 with rfl | ⟨j, hj, rfl⟩
        · rcases b2 with rfl | ⟨j, hj, rfl⟩
          · go_wp2_with (first
              | (go_at_call 40; refine HCT.out.mono ?_; rintro e w' ⟨rfl, rfl⟩)
              | (go_at_call_of 41 (Value.bool true); refine HC1.out.mono ?_; rintro e w' ⟨rfl, m1, rfl⟩)
              | (go_at_call_of 41 (Value.bool false); refine (HC2.out _).mono ?_; rintro e w' ⟨rfl, m2, rfl⟩))
            refine ⟨⟨k + 1, by omega, by go_num, ?_, ?_, ?_⟩, by simp [intOf]; omega⟩
            · rw [show exactTo l s (k + 1) = exactTo l s k by rw [HST.out]; simp]; exact (HW.out.drewN _ : _)
            · exact (HWF.out : _)
            · exact (below_drewN HWB.out _ : _)
          · go_wp2_with (first
              | (go_at_call 40; refine HCT.out.mono ?_; rintro e w' ⟨rfl, rfl⟩)
              | (go_at_call_of 41 (Value.bool true); refine HC1.out.mono ?_; rintro e w' ⟨rfl, m1, rfl⟩)
              | (go_at_call_of 41 (Value.bool false); refine (HC2.out _).mono ?_; rintro e w' ⟨rfl, m2, rfl⟩)
              | (go_at_call 44; refine (pair_any (HW.out.drewN _) j k hj hkl 1000).mono ?_; rintro e w' ⟨rfl, hp1, hp2, hp3, hp4⟩))
            refine ⟨⟨k + 1, by omega, by go_num, ?_, ?_, ?_⟩, by simp [intOf]; omega⟩
            · rw [show exactTo l s (k + 1) = pairSt (exactTo l s k) j k 1000 by rw [HST.out]; simp]; exact (hp1 : _)
            · exact ((hp3 _ (ne_of_types HWF.out HW.out.hF (by decide)) (ne_of_types HWF.out HW.out.hS (by decide)) (ne_of_types HWF.out HW.out.hK (by decide)) (ne_of_types HWF.out HW.out.hT (by decide))).trans HWF.out : _)
            · exact ((below_drewN HWB.out _).trans hp2 : _)
        · clear b2
          go_wp2_with (first
              | (go_at_call 40; refine HCT.out.mono ?_; rintro e w' ⟨rfl, rfl⟩)
              | (go_at_call_of 41 (Value.bool true); refine HC1.out.mono ?_; rintro e w' ⟨rfl, m1, rfl⟩)
              | (go_at_call 44; refine (pair_any (HW.out.drewN _) j k hj hkl 1000).mono ?_; rintro e w' ⟨rfl, hp1, hp2, hp3, hp4⟩))
          refine ⟨⟨k + 1, by omega, by go_num, ?_, ?_, ?_⟩, by simp [intOf]; omega⟩
          · rw [show exactTo l s (k + 1) = pairSt (exactTo l s k) j k 1000 by rw [HST.out]; simp [neg_of_nat]]; exact (hp1 : _)
          · exact ((hp3 _ (ne_of_types HWF.out HW.out.hF (by decide)) (ne_of_types HWF.out HW.out.hS (by decide)) (ne_of_types HWF.out HW.out.hK (by decide)) (ne_of_types HWF.out HW.out.hT (by decide))).trans HWF.out : _)
          · exact ((below_drewN HWB.out _).trans hp2 : _)
    · go_wp2
      go_end0
      obtain rfl : k = l.length := by omega
      exact ⟨rfl, hr.out, hb.out⟩
end Go.Proofs.YtbmpidacoohdmaaGreat.Rn

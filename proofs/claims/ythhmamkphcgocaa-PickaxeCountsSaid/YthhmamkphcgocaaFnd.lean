/- rename's finder in memory, and what its small methods answer: source, target, named, pair. -/
import Derived.Test.YthhmamkphcgocaaStr
import Derived.Test.YthhmamkphcgocaaChg
namespace Go.Proofs.Ythhmamkphcgocaa
open Go.RowKit

instance : Inhabited Chg := ⟨⟨0, ByteArray.empty, ByteArray.empty, 0, 0, [], [], 0⟩⟩

/-- The slice whose array begins at A reads as the list l of changes, and lies below block B. -/
def LReads (w : World) (B : Nat) (A : Option Addr) (l : List Chg) : Prop :=
  ∀ k c, l[k]? = some c → ∃ ad, A = some ad ∧ ad.block < B ∧ CellsAt w (ad.add (k * 70)) c.cells
theorem LReads.keep {w w' : World} {B : Nat} {A : Option Addr} {l : List Chg} (h : LReads w B A l) (hk : ∀ p : Addr, p.block < B → w'.cell? p = w.cell? p) : LReads w' B A l := fun k c hc => by
  obtain ⟨ad, e, hb, hcs⟩ := h k c hc
  exact ⟨ad, e, hb, hcs.keep fun p hp => hk p (by rw [hp, block_add]; exact hb)⟩
theorem LReads.more {w : World} {B B' : Nat} {A : Option Addr} {l : List Chg} (h : LReads w B A l) (hB : B ≤ B') : LReads w B' A l := fun k c hc => by
  obtain ⟨ad, e, hb, hcs⟩ := h k c hc
  exact ⟨ad, e, by omega, hcs⟩

def intCells (l : List Int) : Array Value := (l.map (Value.int .i64)).toArray
def boolCells (l : List Bool) : Array Value := (l.map Value.bool).toArray
theorem intCells_set (l : List Int) (i : Nat) (x : Int) : (intCells l).setIfInBounds i (.int .i64 x) = intCells (l.set i x) := by simp [intCells, List.map_set]
theorem boolCells_set (l : List Bool) (i : Nat) (x : Bool) : (boolCells l).setIfInBounds i (.bool x) = boolCells (l.set i x) := by simp [boolCells, List.map_set]

structure St where
  fr : List Int
  sc : List Int
  kd : List Int
  tk : List Bool

structure Fnd (w : World) (B b F S K T : Nat) (A : Option Addr) (c : Nat) (l : List Chg) (s : St) : Prop where
  self : w.heap[b]? = some (.cells #[.slice A l.length c, .slice (some ⟨F, 0, none⟩) l.length l.length, .slice (some ⟨S, 0, none⟩) l.length l.length, .slice (some ⟨K, 0, none⟩) l.length l.length, .slice (some ⟨T, 0, none⟩) l.length l.length] 75 (0, 0))
  hF : w.heap[F]? = some (.cells (intCells s.fr) 3 (0, 0))
  hS : w.heap[S]? = some (.cells (intCells s.sc) 3 (0, 0))
  hK : w.heap[K]? = some (.cells (intCells s.kd) 3 (0, 0))
  hT : w.heap[T]? = some (.cells (boolCells s.tk) 4 (0, 0))
  lF : s.fr.length = l.length
  lS : s.sc.length = l.length
  lK : s.kd.length = l.length
  lT : s.tk.length = l.length
  bb : B ≤ b
  bF : B ≤ F
  bS : B ≤ S
  bK : B ≤ K
  bT : B ≤ T
  FSX : F ≠ S
  FK : F ≠ K
  SK : S ≠ K
  reads : LReads w B A l
  oks : ∀ (k : Nat) (x : Chg), l[k]? = some x → x.ok
  short : l.length ≤ 40

theorem ne_of_types {w : World} {g g' : Nat} {t t' : TypeId} {cs cs' : Array Value} {fr fr' : Nat × Nat} (h : w.heap[g]? = some (.cells cs t fr)) (h' : w.heap[g']? = some (.cells cs' t' fr')) (hne : t ≠ t') : g ≠ g' := by
  rintro rfl
  rw [h] at h'
  injection h' with h'
  injection h' with _ ht
  exact hne ht

def isTarget (l : List Chg) (s : St) (k : Nat) : Bool := (l.getD k default).kind == 1 && s.kd.getD k 0 == 0
def isSource (l : List Chg) (s : St) (k : Nat) : Bool := (l.getD k default).kind == 2 && !s.tk.getD k false
def isNamed (l : List Chg) (i k : Nat) : Bool := (baseB (l.getD i default).old).toList == (baseB (l.getD k default).new).toList

section
variable {w : World} {B b F S K T : Nat} {A : Option Addr} {c : Nat} {l : List Chg} {s : St}
theorem Fnd.cell (h : Fnd w B b F S K T A c l s) (j : Nat) : w.cell? ⟨b, j, none⟩ = #[Value.slice A l.length c, .slice (some ⟨F, 0, none⟩) l.length l.length, .slice (some ⟨S, 0, none⟩) l.length l.length, .slice (some ⟨K, 0, none⟩) l.length l.length, .slice (some ⟨T, 0, none⟩) l.length l.length][j]? := cell_of_row w b j _ _ _ h.self
theorem ints_cell {g : Nat} {t : TypeId} {xs : List Int} (h : w.heap[g]? = some (.cells (intCells xs) t (0, 0))) (k : Nat) (hk : k < xs.length) : w.cell? ⟨g, k, none⟩ = some (.int .i64 (xs.getD k 0)) := by
  rw [cell_of_row w g k _ _ _ h]
  simp [hk, intCells]
theorem bools_cell {g : Nat} {t : TypeId} {xs : List Bool} (h : w.heap[g]? = some (.cells (boolCells xs) t (0, 0))) (k : Nat) (hk : k < xs.length) : w.cell? ⟨g, k, none⟩ = some (.bool (xs.getD k false)) := by
  rw [cell_of_row w g k _ _ _ h]
  simp [hk, boolCells]
theorem Fnd.at_ (h : Fnd w B b F S K T A c l s) (k : Nat) (hk : k < l.length) : ∃ ad, A = some ad ∧ ad.block < B ∧ CellsAt w (ad.add (k * 70)) (l.getD k default).cells ∧ (l.getD k default).ok := by
  have hg : l[k]? = some (l.getD k default) := by simp [hk]
  obtain ⟨ad, e, hb, hcs⟩ := h.reads k _ hg
  exact ⟨ad, e, hb, hcs, h.oks k _ hg⟩

set_option maxHeartbeats 400000 in
theorem target_any (h : Fnd w B b F S K T A c l s) (k : Nat) (hk : k < l.length) :
    Calls Try.prog 36 #[.pointer (some ⟨b,0,none⟩), .int .i64 k] w fun e w' => e = .returned (.bool (isTarget l s k)) ∧ w = w' := by
  obtain ⟨ad, rfl, _, hcs, _⟩ := h.at_ k hk
  have h0 : w.cell? ⟨b, 0, none⟩ = some (.slice (some ad) l.length c) := h.cell 0
  have h3 : w.cell? ⟨b, 3, none⟩ = some (.slice (some ⟨K, 0, none⟩) l.length l.length) := h.cell 3
  have hx : w.cell? (ad.add (k * 70)) = some (.int .i64 (l.getD k default).kind) := hcs.zero rfl
  have hy := ints_cell h.hK k (by rw [h.lK]; exact hk)
  have hs := h.short
  unfold isTarget
  generalize (l.getD k default).kind = x at *
  generalize s.kd.getD k 0 = y at *
  generalize l.length = n at *
  clear hcs h
  go_enter Try.func36, Try.ntmps36
  by_cases hxx : (x == 1) = true
  · go_wp2
    go_ret
    simp [hxx]
  · have hxx : (x == 1) = false := by simpa using hxx
    go_wp2
    go_ret
    simp [hxx]

set_option maxHeartbeats 400000 in
theorem source_any (h : Fnd w B b F S K T A c l s) (k : Nat) (hk : k < l.length) :
    Calls Try.prog 38 #[.pointer (some ⟨b,0,none⟩), .int .i64 k] w fun e w' => e = .returned (.bool (isSource l s k)) ∧ w = w' := by
  obtain ⟨ad, rfl, _, hcs, _⟩ := h.at_ k hk
  have h0 : w.cell? ⟨b, 0, none⟩ = some (.slice (some ad) l.length c) := h.cell 0
  have h3 : w.cell? ⟨b, 4, none⟩ = some (.slice (some ⟨T, 0, none⟩) l.length l.length) := h.cell 4
  have hx : w.cell? (ad.add (k * 70)) = some (.int .i64 (l.getD k default).kind) := hcs.zero rfl
  have hy := bools_cell h.hT k (by rw [h.lT]; exact hk)
  have hs := h.short
  unfold isSource
  generalize (l.getD k default).kind = x at *
  generalize s.tk.getD k false = y at *
  generalize l.length = n at *
  clear hcs h
  go_enter Try.func38, Try.ntmps38
  by_cases hxx : (x == 2) = true
  · go_wp2
    go_ret
    simp [hxx]
  · have hxx : (x == 2) = false := by simpa using hxx
    go_wp2
    go_ret
    simp [hxx]

set_option maxHeartbeats 400000 in
theorem named_any (h : Fnd w B b F S K T A c l s) (i k : Nat) (hi : i < l.length) (hk : k < l.length) :
    Calls Try.prog 39 #[.pointer (some ⟨b,0,none⟩), .int .i64 i, .int .i64 k] w fun e w' => e = .returned (.bool (isNamed l i k)) ∧ ∃ m, w' = w.drewN m := by
  obtain ⟨ad, rfl, _, hcs, hok⟩ := h.at_ k hk
  obtain ⟨ad', he, _, hcs', hok'⟩ := h.at_ i hi
  obtain rfl : ad = ad' := by injection he
  have h0 : w.cell? ⟨b, 0, none⟩ = some (.slice (some ad) l.length c) := h.cell 0
  have hx : w.cell? ⟨(ad.add (i * 70)).block, (ad.add (i * 70)).off + 1, none⟩ = some (.string (l.getD i default).old) := hcs'.succ 0 rfl
  have hy : w.cell? ⟨(ad.add (k * 70)).block, (ad.add (k * 70)).off + 2, none⟩ = some (.string (l.getD k default).new) := hcs.succ 1 rfl
  have zx := hok'.old
  have zy := hok.new
  have hs := h.short
  unfold isNamed
  generalize (l.getD i default).old = x at *
  generalize (l.getD k default).new = y at *
  generalize l.length = n at *
  clear hcs h hcs' he hok hok'
  have hcx := fun W => base_any x W zx
  have hcy := fun W => base_any y W zy
  have HX := Lib.hid hcx
  have HY := Lib.hid hcy
  clear hcx hcy
  go_enter Try.func39, Try.ntmps39
  go_wp2_with fail
  go_quiet ((first | (go_at_call_of 50 (Value.string x); exact quiet_same (HX.out _)) | (go_at_call_of 50 (Value.string y); exact quiet_same (HY.out _))))
  go_wp2
  go_ret
  exact ⟨rfl, _, rfl⟩
end
end Go.Proofs.Ythhmamkphcgocaa

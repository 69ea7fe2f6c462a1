/- What sleuthlaw26's Asked reads: texts, changes, pairs of numbers, options. alike.Table's comparison of two rows, by a contract. -/
import Derived.Test.YtbmpidacoohdmaaGreatF24
import Derived.ProofKit
import Derived.Deep.Slices
import Derived.OpenShut
import Derived.Test.YtbmpidacoohdmaaGreatF12
import Derived.StillTailTactics
namespace Go.Proofs.YtbmpidacoohdmaaGreat.Inp
open Go.ChangeShapes Go.WideShapes Go.ChangeAt Go.RowKit Go.Deep
open Rn (Chg LReads CellsAt Oks)

theorem flat_at {α : Type} (f : α → List Value) (n : Nat) : ∀ (l : List α), (∀ x ∈ l, (f x).length = n) → ∀ (k : Nat) (x : α), l[k]? = some x → ∀ (j : Nat) (v : Value), (f x)[j]? = some v → (l.flatMap f)[k * n + j]? = some v
  | [], _, k, x, hk, j, v, hv => by simp at hk
  | y :: l, h, k, x, hk, j, v, hv => by
    have hy := h y (by simp)
    rw [List.flatMap_cons]
    rcases k with _ | k
    · simp only [List.getElem?_cons_zero, Option.some.injEq] at hk
      subst hk
      have hj : j < (f y).length := (List.getElem?_eq_some_iff.1 hv).1
      rw [List.getElem?_append_left (by omega), Nat.zero_mul, Nat.zero_add]
      exact hv
    · have ih := flat_at f n l (fun x hx => h x (by simp [hx])) k x (by simpa using hk) j v hv
      rw [List.getElem?_append_right (by rw [hy, Nat.succ_mul]; omega), hy, show (k + 1) * n + j - n = k * n + j by rw [Nat.succ_mul]; omega]
      exact ih
theorem flat_len {α : Type} (f : α → List Value) (n : Nat) : ∀ (l : List α), (∀ x ∈ l, (f x).length = n) → (l.flatMap f).length = l.length * n
  | [], _ => by simp
  | y :: l, h => by
    rw [List.flatMap_cons, List.length_append, h y (by simp), flat_len f n l (fun x hx => h x (by simp [hx])), List.length_cons, Nat.succ_mul]
    omega
theorem rows_rv {α : Type} {f : α → List Value} {n : Nat} {w : World} {a : Addr} (l : List α) (hl : ∀ x ∈ l, (f x).length = n) (hn : 0 < n) (each : ∀ k x, l[k]? = some x → CellsAt w (a.add (k * n)) (f x)) : Rv w.heap.size w (some a) (l.flatMap f) := by
  intro p v hv
  have hp : p < l.length * n := by
    have := (List.getElem?_eq_some_iff.1 hv).1
    rwa [flat_len f n l hl] at this
  have hk : p / n < l.length := (Nat.div_lt_iff_lt_mul hn).2 hp
  have hj : p % n < n := Nat.mod_lt _ hn
  have hx : l[p / n]? = some l[p / n] := List.getElem?_eq_getElem hk
  have hfl := hl _ (List.getElem_mem hk)
  have hfj : (f l[p / n])[p % n]? = some ((f l[p / n])[p % n]'(by omega)) := List.getElem?_eq_getElem _
  have e := flat_at f n l hl _ _ hx _ _ hfj
  have hpe : p / n * n + p % n = p := by rw [Nat.mul_comm]; exact Nat.div_add_mod p n
  rw [hpe, hv] at e
  have hc := each _ _ hx _ _ hfj
  rw [add_add, hpe, ← Option.some.inj e] at hc
  refine ⟨a, rfl, ?_, hc⟩
  have := World.block_lt_of_cell? w _ hc
  rwa [block_add] at this
section
variable {H : Type} {enc : TypeId × Value → H} {w : World} {base : Nat} {spare : Nat → Bool} {held : Bool}
theorem trod_flat {α : Type} [Inhabited α] (f : α → List Value) (ok : α → Prop) {T e : TypeId} {n : Nat} (und : Tryz.prog.underlying T = some (.slice e)) (ce : Tryz.prog.cellsOf e = n) (hn : 0 < n) (hlen : ∀ x, ok x → (f x).length = n)
    (open_e : ∀ m cs y, DataW.trod enc Tryz.prog w base spare held m e cs = some y → ∃ x, ok x ∧ cs = f x) {fu : Nat} {A : Option Addr} {len cap : Nat} {x : DataW H × List MemPlace} (h : DataW.trod enc Tryz.prog w base spare held fu T [.slice A len cap] = some x) :
    ∃ l : List α, l.length = len ∧ Rv w.heap.size w A (l.flatMap f) ∧ (∀ x ∈ l, ok x) ∧ len ≤ cap ∧ (A = none → cap = 0) ∧ len ≤ maxLen := by
  rcases open_slice und h with ⟨hcs, _⟩ | ⟨a, len', cap', m, n', D, Pl, hcs, hb, hl, hmx, hm, _, hel⟩
  · simp only [List.cons.injEq, Value.slice.injEq, and_true] at hcs
    obtain ⟨rfl, rfl, rfl⟩ := hcs
    exact ⟨[], rfl, Rv.nil, by simp, Nat.le_refl _, fun _ => rfl, Nat.zero_le _⟩
  · simp only [List.cons.injEq, Value.slice.injEq, and_true] at hcs
    obtain ⟨rfl, rfl, rfl⟩ := hcs
    have hlm : len ≤ m := by rw [hm]; split <;> omega
    have each : ∀ i, i < len → ∃ c : α, ok c ∧ CellsAt w (a.add (i * n)) (f c) := fun i hi => by
      obtain ⟨cs', h1, h2⟩ := hel i (by omega)
      obtain ⟨c, hc, rfl⟩ := open_e _ _ _ h2
      rw [ce] at h1
      obtain ⟨_, hlen2, hcell⟩ := World.cells?_some h1
      refine ⟨c, hc, fun j v hv => ?_⟩
      have hj : j < n := by
        have := (List.getElem?_eq_some_iff.1 hv).1
        omega
      rw [hcell j hj, hv]
    have pick : ∃ g : Nat → α, ∀ i, i < len → ok (g i) ∧ CellsAt w (a.add (i * n)) (f (g i)) :=
      ⟨fun i => if hi : i < len then (each i hi).choose else default, fun i hi => by
        simp only [dif_pos hi]
        exact (each i hi).choose_spec⟩
    obtain ⟨g, hg⟩ := pick
    have at' : ∀ k c, ((List.range len).map g)[k]? = some c → k < len ∧ c = g k := fun k c hc => by
      have hk : k < len := by simpa using (List.getElem?_eq_some_iff.1 hc).1
      refine ⟨hk, ?_⟩
      simp [List.getElem?_map, List.getElem?_range hk] at hc
      exact hc.symm
    have hok : ∀ x ∈ (List.range len).map g, ok x := fun x hx => by
      obtain ⟨i, hi, rfl⟩ := List.mem_map.1 hx
      exact (hg i (List.mem_range.1 hi)).1
    refine ⟨(List.range len).map g, by simp, rows_rv _ (fun x hx => hlen x (hok x hx)) hn (fun k x hx => ?_), hok, hl, fun e => (by cases e), by omega⟩
    obtain ⟨hk, rfl⟩ := at' k x hx
    exact (hg k hk).2
theorem byte_of {n : Int} (h : (Lit.int .u8 n).wf = true) : ∃ b : UInt8, n = (b.toNat : Int) := by
  have h' : 0 ≤ n ∧ n < 256 := by
    simp [Lit.wf] at h
    have e1 : IntKind.u8.min = 0 := rfl
    have e2 : IntKind.u8.max = 255 := rfl
    omega
  refine ⟨UInt8.ofNat n.toNat, ?_⟩
  simp
  omega
theorem cells5 : Tryz.prog.cellsOf 5 = 1 := by kernel_rfl
theorem cells9 : Tryz.prog.cellsOf 9 = 1 := by kernel_rfl
theorem cellsP : Tryz.prog.cellsOf 66 = 2 := by kernel_rfl
theorem cells28 : Tryz.prog.cellsOf 28 = 6 := by kernel_rfl
theorem bs_of (s : ByteArray) : bs s.data.toList = s := by
  apply ByteArray.ext
  simp [bs]
def tf (t : List UInt8) : List Value := [.string (bs t)]
def pf (p : UInt8 × UInt8) : List Value := [.int .u8 (p.1.toNat : Int), .int .u8 (p.2.toNat : Int)]
theorem strs_flat (l : List (List UInt8)) : l.flatMap tf = strs (l.map bs) := by
  induction l with
  | nil => rfl
  | cons a l ih => rw [List.flatMap_cons, ih]; rfl
theorem trod_texts {fu : Nat} {A : Option Addr} {len cap : Nat} {x : DataW H × List MemPlace} (h : DataW.trod enc Tryz.prog w base spare held fu 22 [.slice A len cap] = some x) :
    ∃ l : List (List UInt8), l.length = len ∧ Rv w.heap.size w A (strs (l.map bs)) ∧ (∀ t ∈ l, t.length ≤ maxLen) ∧ len ≤ maxLen := by
  obtain ⟨l, h1, h2, h3, _, _, h6⟩ := trod_flat tf (fun t => t.length ≤ maxLen) Tryz.underlying22 cells9 (by omega) (fun _ _ => rfl) (fun m cs y hy => by
    obtain ⟨s, e, _, hs⟩ := DataW.trod_string Tryz.underlying9 hy
    exact ⟨s.data.toList, by rw [← bs_of s, bs_size] at hs; exact hs, by rw [e]; simp [tf, bs_of]⟩) h
  rw [strs_flat] at h2
  exact ⟨l, h1, h2, h3, h6⟩
theorem trod_pair {n : Nat} {cs : List Value} {x : DataW H × List MemPlace} (h : DataW.trod enc Tryz.prog w base spare held n 66 cs = some x) : ∃ p, cs = pf p := by
  obtain ⟨xs, m, _, _, hlen, hx, hi⟩ := DataW.trod_array Tryz.underlying66 h
  rw [cellsP] at hlen
  have each : ∀ i, i < 2 → ∃ b : UInt8, cs[i]? = some (.int .u8 (b.toNat : Int)) := fun i hi' => by
    have := hi i (by omega)
    rw [cells5, Nat.mul_one, List.getElem?_eq_getElem (by omega)] at this
    obtain ⟨k, hk, _, hwf⟩ := DataW.trod_int Tryz.underlying5 this
    obtain ⟨b, rfl⟩ := byte_of hwf
    refine ⟨b, ?_⟩
    have e := congrArg (fun l => l[0]?) hk
    simpa [List.getElem?_take, List.getElem?_drop] using e
  obtain ⟨a, ha⟩ := each 0 (by omega)
  obtain ⟨b, hb⟩ := each 1 (by omega)
  refine ⟨(a, b), ?_⟩
  obtain ⟨u, v, rfl⟩ : ∃ u v, cs = [u, v] := by
    rcases cs with _ | ⟨u, _ | ⟨v, _ | ⟨z, r⟩⟩⟩
    · simp at hlen
    · simp at hlen
    · exact ⟨u, v, rfl⟩
    · simp at hlen
  have hu : u = .int .u8 (a.toNat : Int) := Option.some.inj ha
  have hv : v = .int .u8 (b.toNat : Int) := Option.some.inj hb
  rw [hu, hv]; rfl
theorem trod_pairs {fu : Nat} {A : Option Addr} {len cap : Nat} {x : DataW H × List MemPlace} (h : DataW.trod enc Tryz.prog w base spare held fu 24 [.slice A len cap] = some x) :
    ∃ l : List (UInt8 × UInt8), l.length = len ∧ Rv w.heap.size w A (l.flatMap pf) ∧ len ≤ maxLen := by
  obtain ⟨l, h1, h2, _, _, _, h6⟩ := trod_flat pf (fun _ => True) Tryz.underlying24 cellsP (by omega) (fun _ _ => rfl) (fun m cs y hy => by
    obtain ⟨p, hp⟩ := trod_pair hy
    exact ⟨p, trivial, hp⟩) h
  exact ⟨l, h1, h2, h6⟩
/-- An Asked that came in. -/
structure In (w : World) (cs : List Value) (At Al Ai : Option Addr) (ct cl ci : Nat) (ts : List (List UInt8)) (L0 : List Chg) (ps : List (UInt8 × UInt8)) (o1 o2 : Int) (o3 : Bool) : Prop where
  cells : cs = [.slice At ts.length ct, .slice Al L0.length cl, .slice Ai ps.length ci, .int .i64 o1, .int .i64 o2, .bool o3]
  ht : Rv w.heap.size w At (strs (ts.map bs))
  hl : LReads w w.heap.size Al L0
  ok : Oks L0
  by_ : BytL L0
  hp : Rv w.heap.size w Ai (ps.flatMap pf)
  htl : ts.length ≤ maxLen
  hll : L0.length ≤ maxLen
  hpl : ps.length ≤ maxLen
  hts : ∀ t ∈ ts, t.length ≤ maxLen
theorem trod_slice {T e : TypeId} (und : Tryz.prog.underlying T = some (.slice e)) {n : Nat} {cs : List Value} {x : DataW H × List MemPlace} (h : DataW.trod enc Tryz.prog w base spare held n T cs = some x) : ∃ A l c, cs = [.slice A l c] := by
  rcases open_slice und h with ⟨hcs, _⟩ | ⟨a, len', cap', m, n', D, Pl, hcs, _⟩
  · exact ⟨_, _, _, hcs⟩
  · exact ⟨_, _, _, hcs⟩
theorem trod_opts {n : Nat} {cs : List Value} {x : DataW H × List MemPlace} (h : DataW.trod enc Tryz.prog w base spare held n 26 cs = some x) : ∃ o1 o2 o3, cs = [.int .i64 o1, .int .i64 o2, .bool o3] := by
  obtain ⟨xs, m, _, _, hlen, hx, hi⟩ := DataW.trod_struct Tryz.underlying26 h
  rw [show Tryz.prog.cellsOf 26 = 3 by kernel_rfl] at hlen
  have look : ∀ i, i < 3 → xs[i]? = some (xs.getD i (.nil, [])) := fun i hi' => by
    have hx8 : xs.length = 3 := hx
    rw [List.getD_eq_getElem?_getD, List.getElem?_eq_getElem (by omega)]; rfl
  have g0 : DataW.trod enc Tryz.prog w base spare held m 3 (List.take (Tryz.prog.cellsOf 3) (List.drop 0 cs)) = some (xs.getD 0 (.nil, [])) := (hi 0 _ rfl).trans (look 0 (by decide))
  have g1 : DataW.trod enc Tryz.prog w base spare held m 3 (List.take (Tryz.prog.cellsOf 3) (List.drop 1 cs)) = some (xs.getD 1 (.nil, [])) := (hi 1 _ rfl).trans (look 1 (by decide))
  have g2 : DataW.trod enc Tryz.prog w base spare held m 4 (List.take (Tryz.prog.cellsOf 4) (List.drop 2 cs)) = some (xs.getD 2 (.nil, [])) := (hi 2 _ rfl).trans (look 2 (by decide))
  rw [show Tryz.prog.cellsOf 3 = 1 by kernel_rfl] at g0 g1
  rw [show Tryz.prog.cellsOf 4 = 1 by kernel_rfl] at g2
  obtain ⟨o1, e0, _⟩ := DataW.trod_int Tryz.underlying3 g0
  obtain ⟨o2, e1, _⟩ := DataW.trod_int Tryz.underlying3 g1
  obtain ⟨o3, e2, _⟩ := DataW.trod_bool Tryz.underlying4 g2
  refine ⟨o1, o2, o3, ?_⟩
  have t : cs.drop 3 = [] := List.drop_of_length_le (by omega)
  have s0 := Rn.cutAt cs 0 1 1 rfl
  rw [e0, Rn.cutAt cs 1 1 2 rfl, e1, Rn.cutAt cs 2 1 3 rfl, e2, t] at s0
  simpa using s0
theorem trod_asked {n : Nat} {cs : List Value} {x : DataW H × List MemPlace} (h : DataW.trod enc Tryz.prog w base spare held n 28 cs = some x) : ∃ At Al Ai ct cl ci ts L0 ps o1 o2 o3, In w cs At Al Ai ct cl ci ts L0 ps o1 o2 o3 := by
  obtain ⟨xs, m, _, _, hlen, hx, hi⟩ := DataW.trod_struct Tryz.underlying28 h
  rw [cells28] at hlen
  have look : ∀ i, i < 4 → xs[i]? = some (xs.getD i (.nil, [])) := fun i hi' => by
    have hx8 : xs.length = 4 := hx
    rw [List.getD_eq_getElem?_getD, List.getElem?_eq_getElem (by omega)]; rfl
  have g0 : DataW.trod enc Tryz.prog w base spare held m 22 (List.take (Tryz.prog.cellsOf 22) (List.drop 0 cs)) = some (xs.getD 0 (.nil, [])) := (hi 0 _ rfl).trans (look 0 (by decide))
  have g1 : DataW.trod enc Tryz.prog w base spare held m 23 (List.take (Tryz.prog.cellsOf 23) (List.drop 1 cs)) = some (xs.getD 1 (.nil, [])) := (hi 1 _ rfl).trans (look 1 (by decide))
  have g2 : DataW.trod enc Tryz.prog w base spare held m 24 (List.take (Tryz.prog.cellsOf 24) (List.drop 2 cs)) = some (xs.getD 2 (.nil, [])) := (hi 2 _ rfl).trans (look 2 (by decide))
  have g3 : DataW.trod enc Tryz.prog w base spare held m 26 (List.take (Tryz.prog.cellsOf 26) (List.drop 3 cs)) = some (xs.getD 3 (.nil, [])) := (hi 3 _ rfl).trans (look 3 (by decide))
  rw [show Tryz.prog.cellsOf 22 = 1 by kernel_rfl] at g0
  rw [show Tryz.prog.cellsOf 23 = 1 by kernel_rfl] at g1
  rw [show Tryz.prog.cellsOf 24 = 1 by kernel_rfl] at g2
  rw [show Tryz.prog.cellsOf 26 = 3 by kernel_rfl] at g3
  obtain ⟨At, lt, ct, e0⟩ := trod_slice Tryz.underlying22 g0
  obtain ⟨Al, ll, cl, e1⟩ := trod_slice Tryz.underlying23 g1
  obtain ⟨Ai, li, ci, e2⟩ := trod_slice Tryz.underlying24 g2
  obtain ⟨o1, o2, o3, e3⟩ := trod_opts g3
  rw [e0] at g0
  rw [e1] at g1
  rw [e2] at g2
  obtain ⟨ts, rfl, ht, hts, htl⟩ := trod_texts g0
  obtain ⟨L0, rfl, hl, ok, _, hby, hll⟩ := Rn.trod_chgs g1
  obtain ⟨ps, rfl, hp, hpl⟩ := trod_pairs g2
  refine ⟨At, Al, Ai, ct, cl, ci, ts, L0, ps, o1, o2, o3, ?_, ht, hl, ok, hby, hp, htl, hll, hpl, hts⟩
  have t : cs.drop 6 = [] := List.drop_of_length_le (by omega)
  have s0 := Rn.cutAt cs 0 1 1 rfl
  rw [e0, Rn.cutAt cs 1 1 2 rfl, e1, Rn.cutAt cs 2 1 3 rfl, e2, Rn.cutAt cs 3 3 6 rfl, e3, t] at s0
  simpa using s0
end
end Go.Proofs.YtbmpidacoohdmaaGreat.Inp
namespace Go.Proofs.YtbmpidacoohdmaaGreat
open Lib renaming hid → hI
open Go.RowKit Op


def cmpZ (x y : Int) : Int := if x < y then -1 else if y < x then 1 else 0
set_option maxRecDepth 100000 in
theorem nan_any (w : World) (x : Int) : Calls Tryz.prog 170 #[.int .i64 x] w fun e w2 => e = .returned (.bool false) ∧ w = w2 := by
  have hx : (x != x) = false := by simp
  go_enter Tryz.func170, Tryz.ntmps170
  go_wp2_with fail
  go_ret
  exact ⟨rfl, rfl⟩
set_option maxRecDepth 100000 in
theorem cmpi_any (w : World) (x y : Int) : Calls Tryz.prog 106 #[.int .i64 x, .int .i64 y] w fun e w2 => e = .returned (.int .i64 (cmpZ x y)) ∧ w = w2 := by
  have HC : Hid (cmpZ x y = if x < y then -1 else if y < x then 1 else 0) := hI rfl
  obtain ⟨r, hr⟩ : ∃ r, cmpZ x y = r := ⟨_, rfl⟩
  rw [hr] at HC ⊢
  clear hr
  have N := hI (fun W x => nan_any W x)
  go_enter Tryz.func106, Tryz.ntmps106
  by_cases h1 : x < y
  · rw [if_pos h1] at HC
    go_wp2_with (go_at_call 170; refine (N.out _ _).mono ?_; rintro e w2 ⟨rfl, rfl⟩)
    go_ret
    exact ⟨ret_int HC.out.symm, rfl⟩
  · rw [if_neg h1] at HC
    by_cases h2 : y < x
    · rw [if_pos h2] at HC
      go_wp2_with (go_at_call 170; refine (N.out _ _).mono ?_; rintro e w2 ⟨rfl, rfl⟩)
      go_ret
      exact ⟨ret_int HC.out.symm, rfl⟩
    · rw [if_neg h2] at HC
      go_wp2_with (go_at_call 170; refine (N.out _ _).mono ?_; rintro e w2 ⟨rfl, rfl⟩)
      go_ret
      exact ⟨ret_int HC.out.symm, rfl⟩
def orZ (x y z : Int) : Int := if x ≠ 0 then x else if y ≠ 0 then y else z
set_option maxRecDepth 100000 in
theorem or3_any (w : World) (g c : Nat) (x y z : Int) (h0 : w.cell? ⟨g, 0, none⟩ = some (.int .i64 x)) (h1 : w.cell? ⟨g, 1, none⟩ = some (.int .i64 y)) (h2 : w.cell? ⟨g, 2, none⟩ = some (.int .i64 z)) :
    Calls Tryz.prog 105 #[.slice (some ⟨g, 0, none⟩) 3 c] w fun e w2 => e = .returned (.int .i64 (orZ x y z)) ∧ w = w2 := by
  have HC : Hid (orZ x y z = if x ≠ 0 then x else if y ≠ 0 then y else z) := hI rfl
  obtain ⟨r, hr⟩ : ∃ r, orZ x y z = r := ⟨_, rfl⟩
  rw [hr] at HC ⊢
  clear hr
  go_enter Tryz.func105, Tryz.ntmps105
  go_wp2_with fail
  go_loop [8] (fun kv => ∃ k : Nat, k ≤ 3 ∧ kv = .int .i64 k ∧ Hid (0 < k → x = 0) ∧ Hid (1 < k → y = 0) ∧ Hid (2 < k → z = 0)) (fun kv => 3 - (intOf kv).toNat)
  case atStart => exact ⟨0, by omega, rfl, hI (fun h => by omega), hI (fun h => by omega), hI (fun h => by omega)⟩
  case round =>
    obtain ⟨k, hk, rfl, z1, z2, z3⟩ := hrel
    have hc : k = 0 ∨ k = 1 ∨ k = 2 ∨ k = 3 := by omega
    rcases hc with rfl | rfl | rfl | rfl
    · by_cases q : x = 0
      · have b1 : (x != 0) = false := by simp [q]
        have Q := hI q
        clear q
        go_wp2_with fail
        exact ⟨⟨1, by omega, rfl, hI (fun _ => Q.out), hI (fun h => by omega), hI (fun h => by omega)⟩, by simp [intOf]⟩
      · have b1 : (x != 0) = true := by simp [q]
        rw [if_pos q] at HC
        clear q
        go_wp2_with fail
        go_ret
        exact ⟨ret_int HC.out.symm, rfl⟩
    · have Z1 := hI (z1.out (by omega))
      rw [if_neg (fun h => h Z1.out)] at HC
      by_cases q : y = 0
      · have b1 : (y != 0) = false := by simp [q]
        have Q := hI q
        clear q
        go_wp2_with fail
        exact ⟨⟨2, by omega, rfl, hI (fun _ => Z1.out), hI (fun _ => Q.out), hI (fun h => by omega)⟩, by simp [intOf]⟩
      · have b1 : (y != 0) = true := by simp [q]
        rw [if_pos q] at HC
        clear q
        go_wp2_with fail
        go_ret
        exact ⟨ret_int HC.out.symm, rfl⟩
    · have Z1 := hI (z1.out (by omega))
      have Z2 := hI (z2.out (by omega))
      rw [if_neg (fun h => h Z1.out), if_neg (fun h => h Z2.out)] at HC
      by_cases q : z = 0
      · have b1 : (z != 0) = false := by simp [q]
        have Q := hI q
        clear q
        go_wp2_with fail
        exact ⟨⟨3, by omega, rfl, hI (fun _ => Z1.out), hI (fun _ => Z2.out), hI (fun _ => Q.out)⟩, by simp [intOf]⟩
      · have b1 : (z != 0) = true := by simp [q]
        clear q
        go_wp2_with fail
        go_ret
        exact ⟨ret_int HC.out.symm, rfl⟩
    · have Z1 := hI (z1.out (by omega))
      have Z2 := hI (z2.out (by omega))
      have Z3 := hI (z3.out (by omega))
      rw [if_neg (fun h => h Z1.out), if_neg (fun h => h Z2.out)] at HC
      go_wp2_with fail
      go_ret
      exact ⟨ret_int (Z3.out.symm.trans HC.out.symm), rfl⟩
/-- A row's three cells. -/
def encR (x : Nat × Nat × Nat) : List Value := [.int .i64 (x.1 : Int), .int .i64 (x.2.1 : Int), .int .i64 (x.2.2 : Int)]
def cfT (x y : Nat × Nat × Nat) : Int := orZ (cmpZ y.2.2 x.2.2) (cmpZ x.1 y.1) (cmpZ x.2.1 y.2.1)
structure TC (W0 : World) (n : Nat) (x y : List Value) (W : World) : Prop where
  grow : ∃ q os, W = Sort.grow (W0.drewN q) os
  x : Ar W n 120 x
  y : Ar W (n + 1) 120 y
theorem TC.drew {W0 W : World} {n : Nat} {x y : List Value} (h : TC W0 n x y W) : TC W0 n x y W.drew := by
  obtain ⟨q, os, e⟩ := h.grow
  exact ⟨⟨q + 1, os, by rw [e]; rfl⟩, h.x.drewN 1, h.y.drewN 1⟩
theorem TC.alloc {W0 W : World} {n : Nat} {x y : List Value} (h : TC W0 n x y W) (o : Obj) : TC W0 n x y (W.alloc o) := by
  obtain ⟨q, os, e⟩ := h.grow
  exact ⟨⟨q, os ++ #[o], by rw [e, Sort.alloc_eq_grow, Sort.grow_grow]⟩, h.x.alloc o, h.y.alloc o⟩
set_option maxRecDepth 100000 in
set_option maxHeartbeats 1000000 in
theorem tabc_any (W : World) (x y : Nat × Nat × Nat) : Calls Tryz.prog 104 #[.agg (encR x).toArray, .agg (encR y).toArray] W fun e w2 => e = .returned (.int .i64 (cfT x y)) ∧ ∃ q os, w2 = Sort.grow (W.drewN q) os := by
  obtain ⟨x1, x2, x3⟩ := x
  obtain ⟨y1, y2, y3⟩ := y
  have hsz : (W.alloc (.cells (encR (x1, x2, x3)).toArray 120)).heap.size = W.heap.size + 1 := by simp
  have H0 : Hid (TC W W.heap.size (encR (x1, x2, x3)) (encR (y1, y2, y3)) ((W.alloc (.cells (encR (x1, x2, x3)).toArray 120)).alloc (.cells (encR (y1, y2, y3)).toArray 120))) := hI ⟨⟨0, _, by rw [Sort.alloc_eq_grow, Sort.alloc_eq_grow, Sort.grow_grow]; rfl⟩, (Ar.new W (encR (x1, x2, x3)) 120).alloc _, by
    have := Ar.new (W.alloc (.cells (encR (x1, x2, x3)).toArray 120)) (encR (y1, y2, y3)) 120
    rwa [hsz] at this⟩
  have HR : Hid (cfT (x1, x2, x3) (y1, y2, y3) = orZ (cmpZ y3 x3) (cmpZ x1 y1) (cmpZ x2 y2)) := hI rfl
  obtain ⟨r, hr⟩ : ∃ r, cfT (x1, x2, x3) (y1, y2, y3) = r := ⟨_, rfl⟩
  rw [hr] at HR ⊢
  clear hr hsz
  have C0 := hI (fun W x y => cmpi_any W x y)
  go_enter Tryz.func104, Tryz.ntmps104
  go_wp2_with fail
  refine region_of (fun V => TC W W.heap.size (encR (x1, x2, x3)) (encR (y1, y2, y3)) V) (by kernel_rfl) ?_
  have H1 := hI H0.out.drew
  generalize hw0 : ((W.alloc (.cells (encR (x1, x2, x3)).toArray 120)).alloc (.cells (encR (y1, y2, y3)).toArray 120)).drew = w0 at *
  clear hw0 H0
  refine anyC_take 0 (v := ?_) H1.out rfl (by kernel_rfl) (by kernel_rfl) (by kernel_rfl) (fun c a w h => by exact h) rfl (fun W hW => ?_) ?_
  rotate_left
  · go_simp
    try rfl
  simp only [Act.put]
  refine anyC_take 1 (v := ?_) H1.out rfl (by kernel_rfl) (by kernel_rfl) (by kernel_rfl) (fun c a w h => by exact h) rfl (fun W hW => ?_) ?_
  rotate_left
  · have := hW.y.cell (k := 2) rfl; go_simp
    try rfl
  simp only [Act.put]
  refine anyC_take 2 (v := ?_) H1.out rfl (by kernel_rfl) (by kernel_rfl) (by kernel_rfl) (fun c a w h => by exact h) rfl (fun W hW => ?_) ?_
  rotate_left
  · go_simp
    try rfl
  simp only [Act.put]
  refine anyC_take 3 (v := ?_) H1.out rfl (by kernel_rfl) (by kernel_rfl) (by kernel_rfl) (fun c a w h => by exact h) rfl (fun W hW => ?_) ?_
  rotate_left
  · have := hW.x.cell (k := 2) rfl; go_simp
    try rfl
  simp only [Act.put]
  refine anyC_take 5 (v := ?_) H1.out rfl (by kernel_rfl) (by kernel_rfl) (by kernel_rfl) (fun c a w h => by exact h) rfl (fun W hW => ?_) ?_
  rotate_left
  · go_simp
    try rfl
  simp only [Act.put]
  refine anyC_take 6 (v := ?_) H1.out rfl (by kernel_rfl) (by kernel_rfl) (by kernel_rfl) (fun c a w h => by exact h) rfl (fun W hW => ?_) ?_
  rotate_left
  · have := hW.x.cell (k := 0) rfl; go_simp
    try rfl
  simp only [Act.put]
  refine anyC_take 7 (v := ?_) H1.out rfl (by kernel_rfl) (by kernel_rfl) (by kernel_rfl) (fun c a w h => by exact h) rfl (fun W hW => ?_) ?_
  rotate_left
  · go_simp
    try rfl
  simp only [Act.put]
  refine anyC_take 8 (v := ?_) H1.out rfl (by kernel_rfl) (by kernel_rfl) (by kernel_rfl) (fun c a w h => by exact h) rfl (fun W hW => ?_) ?_
  rotate_left
  · have := hW.y.cell (k := 0) rfl; go_simp
    try rfl
  simp only [Act.put]
  refine anyC_take 10 (v := ?_) H1.out rfl (by kernel_rfl) (by kernel_rfl) (by kernel_rfl) (fun c a w h => by exact h) rfl (fun W hW => ?_) ?_
  rotate_left
  · go_simp
    try rfl
  simp only [Act.put]
  refine anyC_take 11 (v := ?_) H1.out rfl (by kernel_rfl) (by kernel_rfl) (by kernel_rfl) (fun c a w h => by exact h) rfl (fun W hW => ?_) ?_
  rotate_left
  · have := hW.x.cell (k := 1) rfl; go_simp
    try rfl
  simp only [Act.put]
  refine anyC_take 12 (v := ?_) H1.out rfl (by kernel_rfl) (by kernel_rfl) (by kernel_rfl) (fun c a w h => by exact h) rfl (fun W hW => ?_) ?_
  rotate_left
  · go_simp
    try rfl
  simp only [Act.put]
  refine anyC_take 13 (v := ?_) H1.out rfl (by kernel_rfl) (by kernel_rfl) (by kernel_rfl) (fun c a w h => by exact h) rfl (fun W hW => ?_) ?_
  rotate_left
  · have := hW.y.cell (k := 1) rfl; go_simp
    try rfl
  simp only [Act.put]
  refine anyC_one 4 H1.out (by kernel_rfl) rfl ?_
  go_wp2_with (go_at_call 106; refine (C0.out _ _ _).mono ?_; rintro e w2 ⟨rfl, rfl⟩)
  refine anyC_one 9 H1.out (by kernel_rfl) rfl ?_
  go_wp2_with (go_at_call 106; refine (C0.out _ _ _).mono ?_; rintro e w2 ⟨rfl, rfl⟩)
  refine anyC_one 14 H1.out (by kernel_rfl) rfl ?_
  go_wp2_with (go_at_call 106; refine (C0.out _ _ _).mono ?_; rintro e w2 ⟨rfl, rfl⟩)
  clear C0
  refine anyC_one 15 H1.out (by kernel_rfl) rfl ?_
  have N1 := hI (Ar.new w0 [.int .i64 (cmpZ y3 x3), .int .i64 (cmpZ x1 y1), .int .i64 (cmpZ x2 y2)] 3)
  have H2 := hI (H1.out.alloc (.cells #[.int .i64 (cmpZ y3 x3), .int .i64 (cmpZ x1 y1), .int .i64 (cmpZ x2 y2)] 3))
  generalize cmpZ (y3 : Int) x3 = c1 at *
  generalize cmpZ (x1 : Int) y1 = c2 at *
  generalize cmpZ (x2 : Int) y2 = c3 at *
  go_wp2_with fail
  refine anyC_one 16 H2.out (by kernel_rfl) rfl ?_
  have HO := hI (or3_any (w0.alloc (.cells #[.int .i64 c1, .int .i64 c2, .int .i64 c3] 3)) w0.heap.size 3 c1 c2 c3 (N1.out.cell (k := 0) rfl) (N1.out.cell (k := 1) rfl) (N1.out.cell (k := 2) rfl))
  rw [← HR.out] at HO
  go_wp2_with (go_at_call 105; refine HO.out.mono ?_; rintro e w2 ⟨rfl, rfl⟩)
  refine anyC_one 17 H2.out (by kernel_rfl) rfl ?_
  go_wp2_with fail
  refine anyC_done H2.out (by kernel_rfl) ?_ _
  go_wp2_with fail
  go_ret
  exact ⟨rfl, H2.out.grow⟩
end Go.Proofs.YtbmpidacoohdmaaGreat

/- The cache's rows as data and as cells, and what they are as bytes. Plain. -/
import Derived.Test.YthhmamkphcgocaaDoorRid
import Derived.Test.YthhmamkphcgocaaDoorRte
import Derived.Test.YthhmamkphcgocaaDoorCfl
namespace Go.Proofs.YthhmamkphcgocaaDoor
open Go.RowKit

/-- An origin. -/
structure Org where
  id : List UInt8
  path : List UInt8
  line : Int
/-- A row. -/
structure Lot where
  id : List UInt8
  path : List UInt8
  algo : Int
  de : Bool
  mo : Bool
  co : Bool
  os : List Org
/-- A row in memory: its origins lie from A on. -/
structure Mot where
  r : Lot
  A : Option Addr
  c : Nat
instance : Inhabited Org := ⟨⟨[], [], 0⟩⟩
instance : Inhabited Lot := ⟨⟨[], [], 0, false, false, false, []⟩⟩
instance : Inhabited Mot := ⟨⟨default, none, 0⟩⟩
def Org.cells (o : Org) : List Value := bys o.id ++ [.string (bs o.path), .int .i64 o.line]
def Lot.head (r : Lot) : List Value := bys r.id ++ [.string (bs r.path), .int .i64 r.algo, .bool r.de, .bool r.mo, .bool r.co]
def Mot.cells (m : Mot) : List Value := m.r.head ++ [.slice m.A m.r.os.length m.c]
structure Org.ok (o : Org) : Prop where
  id : o.id.length = 32
  path : o.path.length ≤ maxLen
structure Lot.ok (r : Lot) : Prop where
  id : r.id.length = 32
  path : r.path.length ≤ maxLen
  os : ∀ o ∈ r.os, o.ok
def orgs (os : List Org) : List Value := os.flatMap Org.cells
def mots (ms : List Mot) : List Value := ms.flatMap Mot.cells
theorem Org.len {o : Org} (h : o.id.length = 32) : o.cells.length = 34 := by simp [Org.cells, bys_len, h]
theorem Lot.len {r : Lot} (h : r.id.length = 32) : r.head.length = 37 := by simp [Lot.head, bys_len, h]
theorem Mot.len {m : Mot} (h : m.r.id.length = 32) : m.cells.length = 38 := by simp [Mot.cells, Lot.len h]
theorem Org.one (o : Org) : ∀ u ∈ o.cells, u.oneCell' = true := by
  intro u hu
  simp only [Org.cells, List.mem_append, List.mem_cons, List.not_mem_nil, or_false] at hu
  rcases hu with hu | rfl | rfl
  · exact bys_one _ u hu
  · rfl
  · rfl
theorem Lot.one (r : Lot) : ∀ u ∈ r.head, u.oneCell' = true := by
  intro u hu
  simp only [Lot.head, List.mem_append, List.mem_cons, List.not_mem_nil, or_false] at hu
  rcases hu with hu | rfl | rfl | rfl | rfl | rfl
  · exact bys_one _ u hu
  all_goals rfl
theorem Mot.one (m : Mot) : ∀ u ∈ m.cells, u.oneCell' = true := by
  intro u hu
  simp only [Mot.cells, List.mem_append, List.mem_cons, List.not_mem_nil, or_false] at hu
  rcases hu with hu | rfl
  · exact m.r.one u hu
  · rfl
section
variable {o : Org} {r : Lot} {m : Mot}
theorem Org.c_id (h : o.id.length = 32) : o.cells.take 32 = bys o.id := List.take_left' (by rw [bys_len, h])
theorem Org.c_tail (h : o.id.length = 32) (j : Nat) : o.cells[32 + j]? = [Value.string (bs o.path), .int .i64 o.line][j]? := by
  rw [Org.cells, List.getElem?_append_right (by rw [bys_len, h]; omega), bys_len, h, Nat.add_sub_cancel_left]
theorem Org.c_path (h : o.id.length = 32) : o.cells[32]? = some (.string (bs o.path)) := Org.c_tail h 0
theorem Org.c_line (h : o.id.length = 32) : o.cells[33]? = some (.int .i64 o.line) := Org.c_tail h 1
theorem Lot.c_tail (h : r.id.length = 32) (j : Nat) : r.head[32 + j]? = [Value.string (bs r.path), .int .i64 r.algo, .bool r.de, .bool r.mo, .bool r.co][j]? := by
  rw [Lot.head, List.getElem?_append_right (by rw [bys_len, h]; omega), bys_len, h, Nat.add_sub_cancel_left]
theorem Mot.eq : m.cells = bys m.r.id ++ [.string (bs m.r.path), .int .i64 m.r.algo, .bool m.r.de, .bool m.r.mo, .bool m.r.co, .slice m.A m.r.os.length m.c] := by simp [Mot.cells, Lot.head]
theorem Mot.c_id (h : m.r.id.length = 32) : m.cells.take 32 = bys m.r.id := by rw [Mot.eq]; exact List.take_left' (by rw [bys_len, h])
theorem Mot.c_head (h : m.r.id.length = 32) : m.cells.take 37 = m.r.head := List.take_left' (Lot.len h)
theorem Mot.c_tail (h : m.r.id.length = 32) (j : Nat) : m.cells[32 + j]? = [Value.string (bs m.r.path), .int .i64 m.r.algo, .bool m.r.de, .bool m.r.mo, .bool m.r.co, .slice m.A m.r.os.length m.c][j]? := by
  rw [Mot.eq, List.getElem?_append_right (by rw [bys_len, h]; omega), bys_len, h, Nat.add_sub_cancel_left]
theorem Mot.c_opt (h : m.r.id.length = 32) : (m.cells.drop 33).take 4 = [.int .i64 m.r.algo, .bool m.r.de, .bool m.r.mo, .bool m.r.co] := by
  have e : m.cells = (bys m.r.id ++ [.string (bs m.r.path)]) ++ [.int .i64 m.r.algo, .bool m.r.de, .bool m.r.mo, .bool m.r.co, .slice m.A m.r.os.length m.c] := by simp [Mot.eq]
  rw [e, List.drop_left' (by simp [bys_len, h])]
  rfl
end
/-- Rows of n cells each, one after another. -/
theorem flat_at {α : Type} (f : α → List Value) (n : Nat) : ∀ (l : List α), (∀ x ∈ l, (f x).length = n) → ∀ (k : Nat) (x : α), l[k]? = some x → ∀ (j : Nat) (v : Value), (f x)[j]? = some v → (l.flatMap f)[k * n + j]? = some v
  | [], _, k, x, hk, j, v, hv => by simp at hk
  | y :: l, h, k, x, hk, j, v, hv => by
    have hy := h y (by simp)
    rw [List.flatMap_cons]
    rcases k with _ | k
    · simp only [List.getElem?_cons_zero, Option.some.injEq] at hk
      subst hk
      have hj : j < (f y).length := (List.getElem?_eq_some_iff.1 hv).1
      rw [List.getElem?_append_left (by omega), Nat.zero_mul, Nat.zero_add]
      exact hv
    · have ih := flat_at f n l (fun x hx => h x (by simp [hx])) k x (by simpa using hk) j v hv
      rw [List.getElem?_append_right (by rw [hy, Nat.succ_mul]; omega), hy, show (k + 1) * n + j - n = k * n + j by rw [Nat.succ_mul]; omega]
      exact ih
theorem flat_len {α : Type} (f : α → List Value) (n : Nat) : ∀ (l : List α), (∀ x ∈ l, (f x).length = n) → (l.flatMap f).length = l.length * n
  | [], _ => by simp
  | y :: l, h => by
    rw [List.flatMap_cons, List.length_append, h y (by simp), flat_len f n l (fun x hx => h x (by simp [hx])), List.length_cons, Nat.succ_mul]
    omega
theorem flat_rv {α : Type} {f : α → List Value} {n : Nat} {l : List α} {B : Nat} {w : World} {A : Option Addr} (h : Rv B w A (l.flatMap f)) (hl : ∀ x ∈ l, (f x).length = n) (hn : 0 < n) {k : Nat} {x : α} (hk : l[k]? = some x) :
    ∃ ad, A = some ad ∧ ad.block < B ∧ CellsAt w (ad.add (k * n)) (f x) := by
  have hx := hl x (List.mem_of_getElem? hk)
  obtain ⟨ad, e, hb, _⟩ := h.at_ (flat_at f n l hl k x hk 0 ((f x)[0]'(by omega)) (List.getElem?_eq_getElem _))
  refine ⟨ad, e, hb, fun j v hv => ?_⟩
  obtain ⟨ad2, e2, _, hc⟩ := h.at_ (flat_at f n l hl k x hk j v hv)
  rw [e] at e2
  injection e2 with e2
  subst e2
  rw [add_add]
  exact hc
theorem orgs_app (a b : List Org) : orgs a ++ orgs b = orgs (a ++ b) := by simp [orgs]
theorem mots_app (a b : List Mot) : mots a ++ mots b = mots (a ++ b) := by simp [mots]
theorem orgs_single (o : Org) : orgs [o] = o.cells := by simp [orgs]
theorem mots_single (m : Mot) : mots [m] = m.cells := by simp [mots]
theorem orgs_one (os : List Org) : ∀ u ∈ orgs os, u.oneCell' = true := by
  intro u hu
  obtain ⟨o, _, h⟩ := List.mem_flatMap.1 hu
  exact o.one u h
theorem mots_one (ms : List Mot) : ∀ u ∈ mots ms, u.oneCell' = true := by
  intro u hu
  obtain ⟨m, _, h⟩ := List.mem_flatMap.1 hu
  exact m.one u h
theorem orgs_len {os : List Org} (h : ∀ o ∈ os, o.ok) : (orgs os).length = os.length * 34 := flat_len _ _ _ fun o ho => Org.len (h o ho).id
theorem mots_len {ms : List Mot} (h : ∀ m ∈ ms, m.r.ok) : (mots ms).length = ms.length * 38 := flat_len _ _ _ fun m hm => Mot.len (h m hm).id

/-- The slice at A reads the origins os. -/
structure Ov (w : World) (A : Option Addr) (c : Nat) (os : List Org) : Prop where
  rv : Rv w.heap.size w A (orgs os)
  ok : ∀ o ∈ os, o.ok
  cap : os.length ≤ c
  nil : A = none → c = 0
/-- The slice at A reads the rows ms, and each of these its origins. -/
structure Mv (w : World) (A : Option Addr) (ms : List Mot) : Prop where
  rv : Rv w.heap.size w A (mots ms)
  ok : ∀ m ∈ ms, m.r.ok
  os : ∀ m ∈ ms, Ov w m.A m.c m.r.os
section
variable {w w2 : World} {A : Option Addr} {c : Nat} {os : List Org} {ms : List Mot}
theorem Rv.low {xs : List Value} {B : Nat} (h : Rv B w A xs) (hb : Below B w w2) {C : Nat} (hC : B ≤ C) : Rv C w2 A xs := (h.below hb).more hC
theorem Ov.below (h : Ov w A c os) (hb : Below w.heap.size w w2) : Ov w2 A c os := ⟨h.rv.low hb hb.size, h.ok, h.cap, h.nil⟩
theorem Mv.below (h : Mv w A ms) (hb : Below w.heap.size w w2) : Mv w2 A ms := ⟨h.rv.low hb hb.size, h.ok, fun m hm => (h.os m hm).below hb⟩
theorem Ov.at_ (h : Ov w A c os) {k : Nat} (hk : k < os.length) : ∃ ad, A = some ad ∧ ad.block < w.heap.size ∧ CellsAt w (ad.add (k * 34)) (os.getD k default).cells ∧ (os.getD k default).ok := by
  have hg : os[k]? = some (os.getD k default) := by simp [hk]
  obtain ⟨ad, e, hb, hc⟩ := flat_rv h.rv (fun o ho => Org.len (h.ok o ho).id) (by omega) hg
  exact ⟨ad, e, hb, hc, h.ok _ (List.mem_of_getElem? hg)⟩
theorem Mv.at_ (h : Mv w A ms) {k : Nat} (hk : k < ms.length) : ∃ ad, A = some ad ∧ ad.block < w.heap.size ∧ CellsAt w (ad.add (k * 38)) (ms.getD k default).cells ∧ (ms.getD k default).r.ok ∧ Ov w (ms.getD k default).A (ms.getD k default).c (ms.getD k default).r.os := by
  have hg : ms[k]? = some (ms.getD k default) := by simp [hk]
  obtain ⟨ad, e, hb, hc⟩ := flat_rv h.rv (fun m hm => Mot.len (h.ok m hm).id) (by omega) hg
  exact ⟨ad, e, hb, hc, h.ok _ (List.mem_of_getElem? hg), h.os _ (List.mem_of_getElem? hg)⟩
theorem Mv.take (h : Mv w A ms) (k : Nat) : Mv w A (ms.take k) := by
  refine ⟨fun j x hx => h.rv j x ?_, fun m hm => h.ok m (List.mem_of_mem_take hm), fun m hm => h.os m (List.mem_of_mem_take hm)⟩
  have e : mots ms = mots (ms.take k) ++ mots (ms.drop k) := by rw [mots_app, List.take_append_drop]
  have hj : j < (mots (ms.take k)).length := (List.getElem?_eq_some_iff.1 hx).1
  rw [e, List.getElem?_append_left hj]
  exact hx
end
/-- What the checks say of rows. -/
def rightO (o : Org) : Bool := rightS o.path && (decide (0 ≤ o.line) && decide (o.line < 400))
def rightL (r : Lot) : Bool := (rightS r.path && (decide (0 ≤ r.algo) && decide (r.algo ≤ 2))) && r.os.all rightO
def keyE (a b : Lot) : Bool := decide (a.id = b.id) && (decide (a.path = b.path) && (decide (a.algo = b.algo) && ((a.de == b.de) && ((a.mo == b.mo) && (a.co == b.co)))))
/-- Is the k-th row one before it? -/
def again (l : List Lot) (k : Nat) : Bool := (l.take k).any fun x => keyE x (l.getD k default)
def checkP (l : List Lot) : Nat := if 64 < l.length then 5 else if l.any (fun r => decide (400 < r.os.length)) then 3 else if !l.all rightL then 2 else if (List.range l.length).any (again l) then 17 else 0
/-- Rows as bytes. -/
def orgB (o : Org) : List UInt8 := o.id ++ ((varB o.path.length ++ o.path) ++ varB o.line.toNat)
def lotB (r : Lot) : List UInt8 := r.id ++ ((varB r.path.length ++ r.path) ++ (by8 r.algo.toNat :: by8 (flN r.de r.mo r.co 3) :: (varB r.os.length ++ r.os.flatMap orgB)))
def headB (n : Nat) : List UInt8 := [66, 76, 77, 67] ++ (be4 1 ++ be4 n)
def bodyB (l : List Lot) : List UInt8 := headB l.length ++ l.flatMap lotB
def fileB (l : List Lot) : List UInt8 := bodyB l ++ shaOf (bodyB l)
/-- Bytes as rows: what has been read, the place, the error. -/
def orgP (l : List UInt8) (k e : Nat) : Org × Nat × Nat :=
  let a := rTake l 32 k e
  let b := rText l 120 a.2.1 a.2.2
  let c := rVar l 399 b.2.1 b.2.2
  (⟨padI a.1, b.1, c.1⟩, c.2.1, c.2.2)
def orgsP (l : List UInt8) : Nat → List Org → Nat → Nat → List Org × Nat × Nat
  | 0, acc, k, e => (acc, k, e)
  | n + 1, acc, k, e => if e ≠ 0 then (acc, k, e) else orgsP l n (acc ++ [(orgP l k e).1]) (orgP l k e).2.1 (orgP l k e).2.2
/-- A row's head: up to the number of its origins. -/
structure Hed where
  id : List UInt8
  path : List UInt8
  algo : Nat
  mark : Nat
  k : Nat
  e : Nat
def hedP (l : List UInt8) (k e : Nat) : Hed :=
  let a := rTake l 32 k e
  let b := rText l 120 a.2.1 a.2.2
  let c := rBig l 1 b.2.1 b.2.2
  let d := rBig l 1 c.2.1 c.2.2
  ⟨padI a.1, b.1, c.1, d.1, d.2.1, d.2.2⟩
def bitP (n i : Nat) : Bool := decide (n / 2 ^ i % 2 = 1)
def lotP (l : List UInt8) (k e : Nat) : Lot × Nat × Nat :=
  let h := hedP l k e
  if h.e ≠ 0 then (default, h.k, h.e) else
  if 7 < h.mark then (default, h.k, 12) else
  let v := rVar l 400 h.k h.e
  let o := orgsP l v.1 [] v.2.1 v.2.2
  (⟨h.id, h.path, h.algo, bitP h.mark 0, bitP h.mark 1, bitP h.mark 2, o.1⟩, o.2.1, o.2.2)
def lotsP (l : List UInt8) : Nat → List Lot → Nat → List Lot × Nat × Nat
  | 0, acc, k => (acc, k, 0)
  | n + 1, acc, k => if (lotP l k 0).2.2 ≠ 0 then ([], 0, (lotP l k 0).2.2) else lotsP l n (acc ++ [(lotP l k 0).1]) (lotP l k 0).2.1
def readP (b : List UInt8) : List Lot × Nat :=
  if b.length < 44 then ([], 10) else
  let l := b.take (b.length - 32)
  if ¬ (l.take 4 = [66, 76, 77, 67] ∧ (l.drop 4).take 4 = be4 1) then ([], 12) else
  if shaOf l ≠ b.drop (b.length - 32) then ([], 13) else
  let n := bigN ((l.drop 8).take 4)
  if 64 < n then ([], 5) else
  let r := lotsP l n [] 12
  if r.2.2 ≠ 0 then ([], r.2.2) else
  if r.2.1 < l.length then ([], 11) else
  if checkP r.1 ≠ 0 then ([], checkP r.1) else (r.1, 0)
end Go.Proofs.YthhmamkphcgocaaDoor

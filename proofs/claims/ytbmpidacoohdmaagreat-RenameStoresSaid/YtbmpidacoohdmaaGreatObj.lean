/- Plain laws: bytes as cells; appending what is read onto one's own; frames; a struct in a block of its own that owns one slice. No program. -/
import Derived.Test.YtbmpidacoohdmaaGreatBas
import Derived.Deep.RegionLaw
import Derived.Laws.IdiomStrings
import Derived.Lib.BufferRead
namespace Go.Proofs.YtbmpidacoohdmaaGreat
open Go.RowKit

def bs (l : List UInt8) : ByteArray := ⟨l.toArray⟩
def bys (l : List UInt8) : List Value := l.map fun b => Value.int .u8 (b.toNat : Int)
theorem bs_size (l : List UInt8) : (bs l).size = l.length := by simp [bs, ByteArray.size]
theorem bs_append (l k : List UInt8) : bs l ++ bs k = bs (l ++ k) := by
  apply ByteArray.ext
  simp [bs]
theorem bs_inj {l k : List UInt8} (h : bs l = bs k) : l = k := by
  have := congrArg (fun b => b.data.toList) h
  simpa [bs] using this
theorem bs_of (s : ByteArray) : bs s.data.toList = s := by
  apply ByteArray.ext
  simp [bs]
theorem bs_at {p : List UInt8} {k : Nat} (h : k < (bs p).size) : (bs p)[k] = p.getD k 0 := by
  have hp : k < p.length := by rw [bs_size] at h; exact h
  simp [bs, hp, ByteArray.getElem_eq_getElem_data]
theorem bys_at {l : List UInt8} {k : Nat} (h : k < l.length) : (bys l)[k]? = some (.int .u8 ((l.getD k 0).toNat : Int)) := by simp [bys, h]
theorem bys_len (l : List UInt8) : (bys l).length = l.length := by simp [bys]
theorem bys_app (a b : List UInt8) : bys a ++ bys b = bys (a ++ b) := by simp [bys]
theorem bys_one (l : List UInt8) : ∀ u ∈ bys l, u.oneCell' = true := by simp [bys, Value.oneCell']
theorem bys_part (l : List UInt8) (k n : Nat) : ((bys l).drop k).take n = bys ((l.drop k).take n) := by simp [bys, List.map_take, List.map_drop]
theorem u8_lt (x : UInt8) : (x.toNat : Int) < 256 := by have := x.toNat_lt; omega

def by8 (n : Nat) : UInt8 := UInt8.ofNat (n % 256)
theorem by8_nat (n : Nat) : (by8 n).toNat = n % 256 := by simp [by8]
/-- A slice type t of elements e, each of so many cells and bytes. -/
structure Sl (P : Program) (t e : TypeId) (size bytes : Nat) : Prop where
  und : P.underlying t = some (.slice e)
  inf : (P.info? e).map (fun i => (i.zero.map (·.cells.size), i.size, i.bytes)) = some (some size, size, bytes)
  pos : 0 < size
theorem Sl.parts {P : Program} {t e : TypeId} {size bytes : Nat} (h : Sl P t e size bytes) : ∃ i z, P.info? e = some i ∧ i.zero = some z ∧ i.size = size ∧ i.bytes = bytes ∧ z.cells.size = size := by
  have h2 := h.inf
  cases hq : P.info? e with
  | none => simp [hq] at h2
  | some i =>
    simp only [hq, Option.map_some, Option.some.injEq, Prod.mk.injEq] at h2
    obtain ⟨a, b, c⟩ := h2
    obtain ⟨z, hz, hs⟩ := Option.map_eq_some_iff.1 a
    exact ⟨i, z, rfl, hz, b, c, hs⟩

/-- What an append does to the value and to the world. -/
structure Apd (v v2 : Value) (w w2 : World) : Prop where
  grown : w.grownBy w2 v.ownBlock
  here : v2.ownBlock = v.ownBlock ∨ v2.ownBlock = some w.heap.size

section
variable {P : Program} {w : World}
theorem run_app {t e : TypeId} {size bytes : Nat} (sl : Sl P t e size bytes) (ty : TypeId) (base : Nat) (v : Value) (n : Nat) (xs : List Value) (hown : w.ownsRow base e size v n xs)
    {B : Nat} (A : Option Addr) (m c : Nat) (news : List Value) (hnone : A = none → c = 0) (hl : news.length = m * size) (hr : Rv B w A news) (h1 : ∀ u ∈ news, u.oneCell' = true)
    (h63 : n + m ≤ maxLen) (hbytes : (n + m) * bytes ≤ 140737488355328) (hbase : base ≤ w.heap.size) :
    ∃ v2 w2, (Builtin.append_ #[t, t] ty #[v, .slice A m c]).run P w = .ok v2 w2 ∧ w2.ownsRow base e size v2 (n + m) (xs ++ news) ∧ Apd v v2 w w2 := by
  obtain ⟨i, z, hi, hz, hs1, hb, hzs⟩ := sl.parts
  rcases A with _ | ad
  · have hm : m = 0 := by
      rcases Nat.eq_zero_or_pos m with h0 | h0
      · exact h0
      · have : 0 < news.length := by rw [hl]; exact Nat.mul_pos h0 sl.pos
        obtain ⟨_, e, _⟩ := hr 0 _ (List.getElem?_eq_getElem this)
        cases e
    subst hm
    obtain rfl := hnone rfl
    have hn : news = [] := List.eq_nil_of_length_eq_zero (by simpa using hl)
    subst hn
    refine ⟨v, w, run_append_owned_none (P := P) (w := w) base t ty e i size sl.und hi v n xs hown, by simpa using hown, ⟨⟨rfl, rfl, rfl, Nat.le_refl _, fun _ _ _ => rfl⟩, .inl rfl⟩⟩
  · obtain ⟨v2, w2, hr2, h2, h3, _, h5⟩ := run_append_own_at (P := P) (w := w) base t ty e i z size bytes sl.und hi hz hs1 hb hzs sl.pos v n xs hown ad m c news hl (fun j u hu => by
      obtain ⟨ad2, e, _, hc⟩ := hr j u hu
      cases e
      exact hc) h1 h63 hbytes hbase
    exact ⟨v2, w2, hr2, h2, h3, h5⟩
theorem wpList_app {ops : Array Oper} {rest : List Oper} {o : Oper} {a : Act} {Q : Exit → Act → World → Prop} {t e : TypeId} {size bytes : Nat} (sl : Sl P t e size bytes) (hgd : o.guard = none) (s x : Operand)
    (ho : o.op = .call { callee := .builtin .append, args := #[s, x], argTypes := #[t, t] }) (base : Nat) (v : Value) (n : Nat) (xs : List Value) (hs : a.eval s = v) (hown : w.ownsRow base e size v n xs)
    {B : Nat} (A : Option Addr) (m c : Nat) (news : List Value) (hx : a.eval x = .slice A m c) (hnone : A = none → c = 0) (hl : news.length = m * size) (hr : Rv B w A news) (h1 : ∀ u ∈ news, u.oneCell' = true)
    (h63 : n + m ≤ maxLen) (hbytes : (n + m) * bytes ≤ 140737488355328) (hbase : base ≤ w.heap.size)
    (h : ∀ v2 w2, w2.ownsRow base e size v2 (n + m) (xs ++ news) → Apd v v2 w w2 → wpList P ops Q rest (a.put o.dst v2) w2) : wpList P ops Q (o :: rest) a w := by
  refine wpList_plain hgd fun K hK => ?_
  obtain ⟨v2, w2, hr2, h2, h3⟩ := run_app sl o.type base v n xs hown A m c news hnone hl hr h1 h63 hbytes hbase
  unfold Oper.wp execOp
  simp only [ho, resolve, invoke, builtin, Sem.run_bind, Sem.run_pure, Result.andThen_ok, List.map_toArray, List.map_cons, List.map_nil, hs, hx, hr2]
  exact hK _ _ (h v2 w2 h2 h3)
theorem step_app {ops : Array Oper} {o : Oper} {a : Act} {K : Act → World → Prop} {Q : Exit → Act → World → Prop} {E : Prop} {t e : TypeId} {size bytes : Nat} (sl : Sl P t e size bytes) (hgd : o.guard = none) (s x : Operand)
    (ho : o.op = .call { callee := .builtin .append, args := #[s, x], argTypes := #[t, t] }) (base : Nat) (v : Value) (n : Nat) (xs : List Value) (hs : a.eval s = v) (hown : w.ownsRow base e size v n xs)
    {B : Nat} (A : Option Addr) (m c : Nat) (news : List Value) (hx : a.eval x = .slice A m c) (hnone : A = none → c = 0) (hl : news.length = m * size) (hr : Rv B w A news) (h1 : ∀ u ∈ news, u.oneCell' = true)
    (h63 : n + m ≤ maxLen) (hbytes : (n + m) * bytes ≤ 140737488355328) (hbase : base ≤ w.heap.size)
    (h : ∀ v2 w2, w2.ownsRow base e size v2 (n + m) (xs ++ news) → Apd v v2 w w2 → K (a.put o.dst v2) w2) : if Region.wanted o (yielded ops a.tmps) = true then Oper.wp P o a w K Q else E := by
  have hw : Region.wanted o (yielded ops a.tmps) = true := by simp [Region.wanted, hgd]
  rw [if_pos hw]
  obtain ⟨v2, w2, hr2, h2, h3⟩ := run_app sl o.type base v n xs hown A m c news hnone hl hr h1 h63 hbytes hbase
  unfold Oper.wp execOp
  simp only [ho, resolve, invoke, builtin, Sem.run_bind, Sem.run_pure, Result.andThen_ok, List.map_toArray, List.map_cons, List.map_nil, hs, hx, hr2]
  exact h v2 w2 h2 h3
/-- A slice of n zeros. -/
theorem make_zero {t e bytes : Nat} {z : Value} (sl : Sl P t e 1 bytes) (hz : (P.info? e).bind (·.zero) = some z) (h1 : z.cells = #[z]) (lo n : Nat) (hlo : lo ≤ n) (hb : n * bytes ≤ 140737488355328) (hm : n ≤ 4611686018427387904) (W : World) :
    (Instr.makeSlice t (.int .i64 lo) (.int .i64 n)).run P W = .ok (.slice (some ⟨W.heap.size, 0, none⟩) lo n) (W.alloc (.cells (List.replicate n z).toArray e)) := by
  obtain ⟨i, z2, hi, hz2, hs1, hb2, hzs⟩ := sl.parts
  obtain rfl : z2 = z := by simpa [hi, hz2] using hz
  have h := run_make (P := P) W t e i z2 sl.und hi hz2 .i64 .i64 lo n (by omega) (by omega) (by rw [hb2, Int.mul_comm]; exact Int.le_trans (by rw [← Int.natCast_mul]; exact Int.ofNat_le.2 hb) (by decide : ((140737488355328 : Nat) : Int) ≤ 281474976710656)) (by omega)
  rw [h, hs1]
  have e : (madeCells z2.cells ((n : Int).toNat * 1)) = (List.replicate n z2).toArray := by
    apply Array.ext'
    simp only [Int.toNat_natCast, Nat.mul_one]
    rw [h1, toList_madeCells_one]
  rw [e]
  simp
/-- An operation whose run is known. -/
theorem wpList_conv {ops : Array Oper} {rest : List Oper} {o : Oper} {a : Act} {Q : Exit → Act → World → Prop} (hgd : o.guard = none) (src dst : TypeId) (x : Operand) (ho : o.op = .convert src dst x) (u : Value) (hx : a.eval x = u)
    {v : Value} {w2 : World} (hr : (convert src dst u).run P w = .ok v w2) (h : wpList P ops Q rest (a.put o.dst v) w2) : wpList P ops Q (o :: rest) a w := by
  refine wpList_plain hgd fun K hK => ?_
  unfold Oper.wp execOp
  simp only [ho, hx, Sem.run_bind, hr, Result.andThen_ok, Sem.run_pure]
  exact hK _ _ h
theorem run_bytes {src dst e : TypeId} (w : World) (l : List UInt8) (hs : P.underlying src = some .string) (hd : P.underlying dst = some (.slice e)) (he : P.underlying e = some (.int .u8)) :
    ∃ c w2, (convert src dst (.string (bs l))).run P w = .ok (.slice (some ⟨w.heap.size, 0, none⟩) l.length c) w2 ∧ Rv (w.heap.size + 1) w2 (some ⟨w.heap.size, 0, none⟩) (bys l) ∧ w.grownBy w2 none ∧ l.length ≤ c ∧ w2.heap.size = w.heap.size + 1 := by
  have h := run_bytes_of_string (P := P) w src dst e (bs l) hs hd he
  have hc := grownCap_ge w (bs l).size 0 e
  rw [bs_size] at h hc
  refine ⟨_, _, h, fun k x hx => ⟨_, rfl, by simp, ?_⟩, ⟨rfl, rfl, rfl, by simp, fun k hk _ => ?_⟩, hc, by simp⟩
  · have hk : k < l.length := by have := (List.getElem?_eq_some_iff.1 hx).1; rwa [bys_len] at this
    have hb := bytesRow_at (bs l) (grownCap w l.length 0 e) k (by simpa [bs] using hk)
    have hn : (w.drew.alloc (.cells (bytesRow (bs l) (grownCap w l.length 0 e)) e ((bytesRow (bs l) (grownCap w l.length 0 e)).size, (bytesRow (bs l) (grownCap w l.length 0 e)).size + 1))).heap[w.heap.size]? = some (.cells (bytesRow (bs l) (grownCap w l.length 0 e)) e ((bytesRow (bs l) (grownCap w l.length 0 e)).size, (bytesRow (bs l) (grownCap w l.length 0 e)).size + 1)) := heap_alloc_new w.drew _
    rw [Addr.add_lit, Nat.zero_add, cell_of_row _ _ _ _ _ _ hn, hb, ← hx]
    simp [bys, bs, hk]
  · exact Below.heap_alloc w.drew _ k hk
end

theorem own_all {w : World} {C : Nat} {e : TypeId} {size : Nat} {v : Value} {n : Nat} {xs : List Value} (h : w.ownsRow C e size v n xs) : ∃ D d, v = .slice D n d ∧ (D = none → d = 0) ∧ n ≤ d ∧ Rv w.heap.size w D xs ∧ ∀ ad, D = some ad → C ≤ ad.block ∧ ad.block < w.heap.size := by
  obtain ⟨D, d, rfl, hD, hR⟩ := own_rv h
  refine ⟨D, d, rfl, hD, ?_, hR, ?_⟩
  · rcases h.2 with ⟨e1, e2⟩ | ⟨g, cap, cur, e1, _, _, hc, _⟩
    · omega
    · injection e1 with _ _ e3; omega
  · rcases h.2 with ⟨e1, e2⟩ | ⟨g, cap, cur, e1, hb, hg, hc, _⟩
    · intro ad e3; subst e3; cases e1
    · intro ad e3
      injection e1 with e4 _ _
      rw [e3] at e4
      injection e4 with e4
      subst e4
      exact ⟨hb, (Array.getElem?_eq_some_iff.1 hg).1⟩
theorem own_block {w : World} {C : Nat} {e : TypeId} {v : Value} {n : Nat} {xs : List Value} (h : w.ownsRow C e 1 v n xs) (hn : 0 < n) : ∃ b cap, v = .slice (some ⟨b, 0, none⟩) n cap ∧ C ≤ b ∧ b < w.heap.size ∧ n ≤ cap ∧ ∀ j x, xs[j]? = some x → w.cell? ⟨b, j, none⟩ = some x := by
  rcases h.2 with ⟨_, h0⟩ | ⟨b, cap, cur, rfl, hb, hh, hc, hrest⟩
  · omega
  · refine ⟨b, cap, rfl, hb, (Array.getElem?_eq_some_iff.1 hh).1, hc, fun j x hx => ?_⟩
    have hj : j < xs.length := (List.getElem?_eq_some_iff.1 hx).1
    have h1 := h.cellAt (g := b) j (by rw [h.1] at hj; exact hj)
    exact h1.trans hx
theorem own_far {w : World} {C : Nat} {e : TypeId} {size : Nat} {v : Value} {n : Nat} {xs : List Value} (h : w.ownsRow C e size v n xs) {g : Nat} (hg : g < C) : some g ≠ v.ownBlock := fun e1 => by have := (h.lt g e1.symm).1; omega
theorem own_less {w : World} {B C : Nat} {e : TypeId} {size : Nat} {v : Value} {n : Nat} {xs : List Value} (h : w.ownsRow C e size v n xs) (hb : B ≤ C) : w.ownsRow B e size v n xs := by
  refine ⟨h.1, ?_⟩
  rcases h.2 with h2 | ⟨b, cap, cur, hv, hc, hrest⟩
  · exact .inl h2
  · exact .inr ⟨b, cap, cur, hv, by omega, hrest⟩
theorem conv_rv {P : Program} {src dst e : TypeId} (hs : P.underlying src = some (.slice e)) (he : P.underlying e = some (.int .u8)) (hd : P.underlying dst = some .string) {B : Nat} {w : World} {D : Option Addr} {l : List UInt8} (d : Nat) (h : Rv B w D (bys l)) :
    (convert src dst (.slice D l.length d)).run P w = .ok (.string (bs l)) w := by
  rcases D with _ | ad
  · have hl : l = [] := by
      rcases l with _ | ⟨x, l⟩
      · rfl
      · obtain ⟨_, e, _⟩ := h 0 _ rfl
        cases e
    subst hl
    exact Lib.run_convert_nil_bytes w src dst e d hs he hd
  · refine run_convert_bytes_back w src dst e ad d l hs he hd (fun j hj => ?_)
    obtain ⟨ad2, e2, _, hc⟩ := h j (.int .u8 (l[j].toNat : Int)) (by simp [bys, hj])
    cases e2
    exact hc
theorem new_rv (w : World) (cs : List Value) (t : TypeId) (ad : Addr) (h : ad = ⟨w.heap.size, 0, none⟩) : Rv (w.heap.size + 1) (w.alloc (.cells cs.toArray t)) (some ad) cs := fun k x hx =>
  ⟨ad, rfl, by subst h; simp, by subst h; exact new_cells w cs t _ rfl k x hx⟩
theorem cell_heap {w w2 : World} {p : Addr} (h : w2.heap[p.block]? = w.heap[p.block]?) : w2.cell? p = w.cell? p := World.cell?_of_block h
theorem below_of_grown {B : Nat} {w w2 : World} {r : Option Nat} (h : w.grownBy w2 r) (hB : B ≤ w.heap.size) (hr : ∀ k, r = some k → B ≤ k) : Below B w w2 :=
  ⟨h.os, h.tape, h.output, h.size, fun k hk => h.block k (by omega) (fun e => by have := hr k e.symm; omega)⟩

/-- A struct (of type t) in block g whose one field is a slice v of elements e (one cell each) that it owns: xs. -/
structure Box1 (w : World) (B g : Nat) (t e : TypeId) (v : Value) (xs : List Value) : Prop where
  blk : w.heap[g]? = some (.cells #[v] t (0, 0))
  own : w.ownsRow B e 1 v xs.length xs
  off : v.ownBlock ≠ some g
/-- From v in w to v2 in w2: only block g and the slice's own array have turned. -/
structure Stp (g : Nat) (v : Value) (w : World) (v2 : Value) (w2 : World) : Prop where
  os : w2.os = w.os
  tape : w2.tape = w.tape
  output : w2.output = w.output
  size : w.heap.size ≤ w2.heap.size
  block : ∀ k, k < w.heap.size → k ≠ g → v.ownBlock ≠ some k → w2.heap[k]? = w.heap[k]?
  here : v2.ownBlock = v.ownBlock ∨ ∃ b, v2.ownBlock = some b ∧ w.heap.size ≤ b
section
variable {w w2 w3 : World} {B g : Nat} {t e : TypeId} {v v2 v3 : Value} {xs : List Value}
theorem Box1.lt (h : Box1 w B g t e v xs) : g < w.heap.size := (Array.getElem?_eq_some_iff.1 h.blk).1
theorem Box1.cell (h : Box1 w B g t e v xs) : w.cell? ⟨g, 0, none⟩ = some v := by rw [cell_of_row w g 0 _ _ _ h.blk]; rfl
theorem Box1.frozen (h : Box1 w B g t e v xs) : w.frozen? ⟨g, 0, none⟩ = false := frozen_of_row w g 0 _ _ h.blk
theorem Box1.keep (h : Box1 w B g t e v xs) (hk : ∀ k, (k = g ∨ v.ownBlock = some k) → k < w.heap.size → w2.heap[k]? = w.heap[k]?) : Box1 w2 B g t e v xs := by
  refine ⟨(hk g (.inl rfl) h.lt).trans h.blk, ?_, h.off⟩
  refine ⟨h.own.1, ?_⟩
  rcases h.own.2 with h2 | ⟨b, cap, cur, hv, hb, hh, hrest⟩
  · exact .inl h2
  · exact .inr ⟨b, cap, cur, hv, hb, (hk b (.inr (by rw [hv]; rfl)) (Array.getElem?_eq_some_iff.1 hh).1).trans hh, hrest⟩
theorem Box1.alloc (h : Box1 w B g t e v xs) (o : Obj) : Box1 (w.alloc o) B g t e v xs := h.keep fun k _ hk => Below.heap_alloc w o k hk
theorem Box1.drewN (h : Box1 w B g t e v xs) (n : Nat) : Box1 (w.drewN n) B g t e v xs := h.keep fun _ _ _ => rfl
theorem Box1.old (h : Box1 w B g t e v xs) {k : Nat} (hk : v.ownBlock = some k) : B ≤ k ∧ k < w.heap.size := h.own.lt k hk
theorem Stp.refl (g : Nat) (v : Value) (w : World) : Stp g v w v w := ⟨rfl, rfl, rfl, Nat.le_refl _, fun _ _ _ _ => rfl, .inl rfl⟩
theorem Stp.trans (h : Stp g v w v2 w2) (k : Stp g v2 w2 v3 w3) : Stp g v w v3 w3 := by
  refine ⟨k.os.trans h.os, k.tape.trans h.tape, k.output.trans h.output, Nat.le_trans h.size k.size, fun j hj hg hv => ?_, ?_⟩
  · refine (k.block j (Nat.lt_of_lt_of_le hj h.size) hg (fun e => ?_)).trans (h.block j hj hg hv)
    rcases h.here with e2 | ⟨b, e2, hb⟩
    · exact hv (e2 ▸ e)
    · rw [e2] at e; injection e with e; omega
  · have hs := h.size
    rcases k.here with e2 | ⟨b, e2, hb⟩
    · rw [e2]; exact h.here
    · exact .inr ⟨b, e2, by omega⟩
theorem Stp.alloc (h : Stp g v w v2 w2) (o : Obj) : Stp g v w v2 (w2.alloc o) := by
  refine ⟨h.os, h.tape, h.output, by have := h.size; simp; omega, fun j hj hg hv => ?_, h.here⟩
  exact (Below.heap_alloc w2 o j (Nat.lt_of_lt_of_le hj h.size)).trans (h.block j hj hg hv)
theorem Stp.drewN (h : Stp g v w v2 w2) (n : Nat) : Stp g v w v2 (w2.drewN n) := ⟨h.os, h.tape, h.output, h.size, h.block, h.here⟩
theorem Stp.below (h : Stp g v w v2 w2) (C : Nat) (hC : C ≤ w.heap.size) (hg : C ≤ g) (hv : ∀ k, v.ownBlock = some k → C ≤ k) : Below C w w2 :=
  ⟨h.os, h.tape, h.output, h.size, fun k hk => h.block k (by omega) (by omega) (fun e => by have := hv k e; omega)⟩
/-- What lies in no block that turns stays. -/
theorem Stp.keep (h : Stp g v w v2 w2) {k : Nat} (hk : k < w.heap.size) (hg : k ≠ g) (hv : v.ownBlock ≠ some k) : w2.heap[k]? = w.heap[k]? := h.block k hk hg hv
/-- The field has been appended to, and is stored back. -/
theorem Box1.appended (h : Box1 w B g t e v xs) {ys : List Value} (hown : w2.ownsRow B e 1 v2 (xs ++ ys).length (xs ++ ys)) (ha : Apd v v2 w w2) :
    Box1 (w2.setCell ⟨g, 0, none⟩ v2) B g t e v2 (xs ++ ys) ∧ Stp g v w v2 (w2.setCell ⟨g, 0, none⟩ v2) := by
  have hlt := h.lt
  have hblk : w2.heap[g]? = some (.cells #[v] t (0, 0)) := (ha.grown.block g hlt (fun e => h.off e.symm)).trans h.blk
  have hng : v2.ownBlock ≠ some g := by
    rcases ha.here with e1 | e1 <;> rw [e1]
    · exact h.off
    · intro e2; injection e2 with e2; omega
  have hset := heap_setCell_same w2 g 0 #[v] t v2 hblk
  refine ⟨⟨by simpa using hset, ?_, hng⟩, ha.grown.os, ha.grown.tape, ha.grown.output, by have := ha.grown.size; simpa using this, fun k hk hg hv => ?_, ?_⟩
  · refine ⟨hown.1, ?_⟩
    rcases hown.2 with h2 | ⟨b, cap, cur, hv, hb, hh, hrest⟩
    · exact .inl h2
    · refine .inr ⟨b, cap, cur, hv, hb, ?_, hrest⟩
      rw [Below.heap_setCell w2 ⟨g, 0, none⟩ v2 b (fun e => hng (by rw [hv, e]; rfl))]
      exact hh
  · rw [Below.heap_setCell w2 ⟨g, 0, none⟩ v2 k hg]
    exact ha.grown.block k hk (fun e => hv e.symm)
  · rcases ha.here with e1 | e1
    · exact .inl e1
    · exact .inr ⟨_, e1, Nat.le_refl _⟩
theorem Box1.mid (h : Box1 w B g t e v xs) (ha : Apd v v2 w w2) : w2.cell? ⟨g, 0, none⟩ = some v ∧ w2.frozen? ⟨g, 0, none⟩ = false := by
  have hblk : w2.heap[g]? = some (.cells #[v] t (0, 0)) := (ha.grown.block g h.lt (fun e => h.off e.symm)).trans h.blk
  exact ⟨by rw [cell_of_row w2 g 0 _ _ _ hblk]; rfl, frozen_of_row w2 g 0 _ _ hblk⟩
end
theorem below_row {B : Nat} {a w : World} (h : Below B a w) (g : Nat) (cs : Array Value) (hg : B ≤ g) : Below B a (w.setRow g cs) :=
  ⟨h.os, h.tape, h.output, by have := h.size; simpa using this, fun k hk => (setRow_other w g k cs (by omega)).trans (h.block k hk)⟩
/-- Block g (of type t) holds just the cells cs. -/
def Ar (W : World) (g : Nat) (t : TypeId) (cs : List Value) : Prop := W.heap[g]? = some (.cells cs.toArray t (0, 0))
section
variable {P : Program} {W V : World} {g : Nat} {t : TypeId} {cs ds : List Value}
theorem Ar.lt (h : Ar W g t cs) : g < W.heap.size := (Array.getElem?_eq_some_iff.1 h).1
theorem Ar.cell (h : Ar W g t cs) {k : Nat} {v : Value} (hv : cs[k]? = some v) : W.cell? ⟨g, k, none⟩ = some v := by rw [cell_of_row W g k _ _ _ h]; simpa using hv
theorem Ar.frozen (h : Ar W g t cs) (k : Nat) : W.frozen? ⟨g, k, none⟩ = false := frozen_of_row W g k _ _ h
theorem Ar.load (h : Ar W g t cs) {n : Nat} (hn : cs.length = n) {ty : TypeId} {d : TypeDesc} (hu : P.underlying ty = some d) (hd : multi d = true) (hi : (P.info? ty).map (·.size) = some n) : (loadVar ty ⟨g, 0, none⟩).run P W = .ok (.agg cs.toArray) W :=
  run_loadVar_cells hu hd (by rw [hi, hn]) (fun j v hv => by rw [Addr.add_lit, Nat.zero_add]; exact h.cell hv)
theorem Ar.store (h : Ar W g t cs) {n : Nat} (hn : cs.length = n) (hm : ds.length = n) (h1 : ∀ u ∈ ds, u.oneCell' = true) {ty : TypeId} (hi : (P.info? ty).map (·.size) = some n) : (storeVar ty ⟨g, 0, none⟩ (.agg ds.toArray)).run P W = .ok () (W.setRow g ds.toArray) :=
  run_storeVar_row W g t ty cs.toArray ds.toArray h (by rw [hi]; simp [hm]) (by simp [hn, hm]) (by simpa using h1)
theorem Ar.setRow (h : Ar W g t cs) (ds : List Value) : Ar (W.setRow g ds.toArray) g t ds := setRow_heap W g _ _ t (0, 0) h
theorem Ar.past (h : Ar W g t cs) (m : Nat) (ds : Array Value) (hm : g ≠ m) : Ar (W.setRow m ds) g t cs := (setRow_other W m g ds hm).trans h
theorem Ar.new (W : World) (cs : List Value) (t : TypeId) : Ar (W.alloc (.cells cs.toArray t)) W.heap.size t cs := heap_alloc_new W _
theorem Ar.alloc (h : Ar W g t cs) (o : Obj) : Ar (W.alloc o) g t cs := (Below.heap_alloc W o g h.lt).trans h
theorem Ar.other (h : Ar W g t cs) (p : Addr) (v : Value) (hp : g ≠ p.block) : Ar (W.setCell p v) g t cs := (Below.heap_setCell W p v g hp).trans h
theorem Ar.set (h : Ar W g t cs) (k : Nat) (v : Value) : Ar (W.setCell ⟨g, k, none⟩ v) g t (cs.set k v) := by
  have := heap_setCell_same W g k _ t v h
  rw [List.setIfInBounds_toArray] at this
  exact this
theorem Ar.drewN (h : Ar W g t cs) (k : Nat) : Ar (W.drewN k) g t cs := h
theorem Ar.below (h : Ar W g t cs) {B : Nat} (hb : Below B W V) (hg : g < B) : Ar V g t cs := (hb.block g hg).trans h
theorem Ar.later (h : Ar W g t cs) {r : Option Nat} (hb : W.grownBy V r) (hg : some g ≠ r) : Ar V g t cs := (hb.block g h.lt hg).trans h
theorem Ar.rv (h : Ar W g t cs) : Rv W.heap.size W (some ⟨g, 0, none⟩) cs := fun k x hx => ⟨_, rfl, h.lt, by rw [Addr.add_lit, Nat.zero_add]; exact h.cell hx⟩
end
end Go.Proofs.YtbmpidacoohdmaaGreat

/- Drawn arguments opened: bytes, and rows with their origins. The wrap for a row with laid variables, the world's shape kept. Plain. -/
import Derived.Test.YthhmamkphcgocaaDoorLot
import Derived.ProofKit
import Derived.Deep.Slices
import Derived.OpenShut
import Derived.HandedShaped
import Derived.Handed
import Derived.LaidMore
namespace Go.Proofs.YthhmamkphcgocaaDoor
section
open Go.ChangeShapes Go.WideShapes Go.ChangeAt Go.RowKit Go.Deep

theorem cutAt {α : Type} (cs : List α) (a n b : Nat) (h : b = a + n) : cs.drop a = (cs.drop a).take n ++ cs.drop b := by
  subst h
  rw [← List.drop_drop, List.take_append_drop]
theorem rows_rv {α : Type} {f : α → List Value} {n : Nat} {w : World} {a : Addr} (l : List α) (hl : ∀ x ∈ l, (f x).length = n) (hn : 0 < n) (each : ∀ k x, l[k]? = some x → CellsAt w (a.add (k * n)) (f x)) : Rv w.heap.size w (some a) (l.flatMap f) := by
  intro p v hv
  have hp : p < l.length * n := by
    have := (List.getElem?_eq_some_iff.1 hv).1
    rwa [flat_len f n l hl] at this
  have hk : p / n < l.length := (Nat.div_lt_iff_lt_mul hn).2 hp
  have hj : p % n < n := Nat.mod_lt _ hn
  have hx : l[p / n]? = some l[p / n] := List.getElem?_eq_getElem hk
  have hfl := hl _ (List.getElem_mem hk)
  have hfj : (f l[p / n])[p % n]? = some ((f l[p / n])[p % n]'(by omega)) := List.getElem?_eq_getElem _
  have e := flat_at f n l hl _ _ hx _ _ hfj
  have hpe : p / n * n + p % n = p := by rw [Nat.mul_comm]; exact Nat.div_add_mod p n
  rw [hpe, hv] at e
  have hc := each _ _ hx _ _ hfj
  rw [add_add, hpe, ← Option.some.inj e] at hc
  refine ⟨a, rfl, ?_, hc⟩
  have := World.block_lt_of_cell? w _ hc
  rwa [block_add] at this
section
variable {H : Type} {enc : TypeId × Value → H} {w : World} {base : Nat} {spare : Nat → Bool} {held : Bool}
theorem trod_flat {α : Type} [Inhabited α] (f : α → List Value) (ok : α → Prop) {T e : TypeId} {n : Nat} (und : Tryd.prog.underlying T = some (.slice e)) (ce : Tryd.prog.cellsOf e = n) (hn : 0 < n) (hlen : ∀ x, ok x → (f x).length = n)
    (open_e : ∀ m cs y, DataW.trod enc Tryd.prog w base spare held m e cs = some y → ∃ x, ok x ∧ cs = f x) {fu : Nat} {A : Option Addr} {len cap : Nat} {x : DataW H × List MemPlace} (h : DataW.trod enc Tryd.prog w base spare held fu T [.slice A len cap] = some x) :
    ∃ l : List α, l.length = len ∧ Rv w.heap.size w A (l.flatMap f) ∧ (∀ x ∈ l, ok x) ∧ len ≤ cap ∧ (A = none → cap = 0) ∧ len ≤ maxLen := by
  rcases open_slice und h with ⟨hcs, _⟩ | ⟨a, len', cap', m, n', D, Pl, hcs, hb, hl, hmx, hm, _, hel⟩
  · simp only [List.cons.injEq, Value.slice.injEq, and_true] at hcs
    obtain ⟨rfl, rfl, rfl⟩ := hcs
    exact ⟨[], rfl, Rv.nil, by simp, Nat.le_refl _, fun _ => rfl, Nat.zero_le _⟩
  · simp only [List.cons.injEq, Value.slice.injEq, and_true] at hcs
    obtain ⟨rfl, rfl, rfl⟩ := hcs
    have hlm : len ≤ m := by rw [hm]; split <;> omega
    have each : ∀ i, i < len → ∃ c : α, ok c ∧ CellsAt w (a.add (i * n)) (f c) := fun i hi => by
      obtain ⟨cs', h1, h2⟩ := hel i (by omega)
      obtain ⟨c, hc, rfl⟩ := open_e _ _ _ h2
      rw [ce] at h1
      obtain ⟨_, hlen2, hcell⟩ := World.cells?_some h1
      refine ⟨c, hc, fun j v hv => ?_⟩
      have hj : j < n := by
        have := (List.getElem?_eq_some_iff.1 hv).1
        omega
      rw [hcell j hj, hv]
    have pick : ∃ g : Nat → α, ∀ i, i < len → ok (g i) ∧ CellsAt w (a.add (i * n)) (f (g i)) :=
      ⟨fun i => if hi : i < len then (each i hi).choose else default, fun i hi => by
        simp only [dif_pos hi]
        exact (each i hi).choose_spec⟩
    obtain ⟨g, hg⟩ := pick
    have at' : ∀ k c, ((List.range len).map g)[k]? = some c → k < len ∧ c = g k := fun k c hc => by
      have hk : k < len := by simpa using (List.getElem?_eq_some_iff.1 hc).1
      refine ⟨hk, ?_⟩
      simp [List.getElem?_map, List.getElem?_range hk] at hc
      exact hc.symm
    have hok : ∀ x ∈ (List.range len).map g, ok x := fun x hx => by
      obtain ⟨i, hi, rfl⟩ := List.mem_map.1 hx
      exact (hg i (List.mem_range.1 hi)).1
    refine ⟨(List.range len).map g, by simp, rows_rv _ (fun x hx => hlen x (hok x hx)) hn (fun k x hx => ?_), hok, hl, fun e => (by cases e), by omega⟩
    obtain ⟨hk, rfl⟩ := at' k x hx
    exact (hg k hk).2
theorem cells5 : Tryd.prog.cellsOf 5 = 1 := by kernel_rfl
theorem cells3 : Tryd.prog.cellsOf 3 = 1 := by kernel_rfl
theorem cells4 : Tryd.prog.cellsOf 4 = 1 := by kernel_rfl
theorem cells9 : Tryd.prog.cellsOf 9 = 1 := by kernel_rfl
theorem cells42 : Tryd.prog.cellsOf 42 = 32 := by kernel_rfl
theorem cells44 : Tryd.prog.cellsOf 44 = 4 := by kernel_rfl
theorem cells45 : Tryd.prog.cellsOf 45 = 1 := by kernel_rfl
theorem cells47 : Tryd.prog.cellsOf 47 = 38 := by kernel_rfl
theorem cells52 : Tryd.prog.cellsOf 52 = 34 := by kernel_rfl
theorem byte_of {n : Int} (h : (Lit.int .u8 n).wf = true) : ∃ b : UInt8, n = (b.toNat : Int) := by
  have h' : 0 ≤ n ∧ n < 256 := by
    simp [Lit.wf] at h
    have e1 : IntKind.u8.min = 0 := rfl
    have e2 : IntKind.u8.max = 255 := rfl
    omega
  refine ⟨UInt8.ofNat n.toNat, ?_⟩
  simp
  omega
theorem trod_byte {m : Nat} {cs : List Value} {x : DataW H × List MemPlace} (h : DataW.trod enc Tryd.prog w base spare held m 5 cs = some x) : ∃ b : UInt8, cs = [.int .u8 (b.toNat : Int)] := by
  obtain ⟨n, e, _, hw⟩ := DataW.trod_int Tryd.underlying5 h
  obtain ⟨b, rfl⟩ := byte_of hw
  exact ⟨b, e⟩
theorem bys_flat (l : List UInt8) : l.flatMap (fun b => [Value.int .u8 (b.toNat : Int)]) = bys l := by
  induction l with
  | nil => rfl
  | cons b l ih => rw [List.flatMap_cons, ih]; rfl
theorem trod_bytes {fu : Nat} {A : Option Addr} {len cap : Nat} {x : DataW H × List MemPlace} (h : DataW.trod enc Tryd.prog w base spare held fu 22 [.slice A len cap] = some x) :
    ∃ l : List UInt8, l.length = len ∧ Rv w.heap.size w A (bys l) ∧ len ≤ cap ∧ (A = none → cap = 0) ∧ len ≤ maxLen := by
  obtain ⟨l, h1, h2, _, h4, h5, h6⟩ := trod_flat (fun b : UInt8 => [Value.int .u8 (b.toNat : Int)]) (fun _ => True) Tryd.underlying22 cells5 (by omega) (fun _ _ => rfl) (fun m cs y hy => by
    obtain ⟨b, hb⟩ := trod_byte hy
    exact ⟨b, trivial, hb⟩) h
  rw [bys_flat] at h2
  exact ⟨l, h1, h2, h4, h5, h6⟩
theorem all_u8 : ∀ (cs : List Value), (∀ i, i < cs.length → ∃ b : UInt8, cs[i]? = some (.int .u8 (b.toNat : Int))) → ∃ l : List UInt8, cs = bys l ∧ l.length = cs.length
  | [], _ => ⟨[], rfl, rfl⟩
  | c :: cs, h => by
    obtain ⟨b, hb⟩ := h 0 (by simp)
    obtain ⟨l, hl, hs⟩ := all_u8 cs (fun i hi => by
      obtain ⟨m, hm⟩ := h (i + 1) (by simpa using hi)
      exact ⟨m, by simpa using hm⟩)
    simp only [List.getElem?_cons_zero, Option.some.injEq] at hb
    refine ⟨b :: l, ?_, by simp [hs]⟩
    rw [hb, hl]; rfl
theorem trod_id {n : Nat} {cs : List Value} {x : DataW H × List MemPlace} (h : DataW.trod enc Tryd.prog w base spare held n 42 cs = some x) : ∃ l : List UInt8, cs = bys l ∧ l.length = 32 := by
  obtain ⟨xs, m, _, _, hlen, hx, hi⟩ := DataW.trod_array Tryd.underlying42 h
  rw [cells42] at hlen
  obtain ⟨l, h1, h2⟩ := all_u8 cs (fun i hi' => by
    have := hi i (by omega)
    rw [cells5, Nat.mul_one, List.getElem?_eq_getElem (by omega)] at this
    obtain ⟨k, hk⟩ := trod_byte this
    refine ⟨k, ?_⟩
    have e := congrArg (fun l => l[0]?) hk
    simpa [List.getElem?_take, List.getElem?_drop] using e)
  exact ⟨l, h1, by omega⟩
theorem trod_org {n : Nat} {cs : List Value} {x : DataW H × List MemPlace} (h : DataW.trod enc Tryd.prog w base spare held n 52 cs = some x) : ∃ o : Org, o.ok ∧ cs = o.cells := by
  obtain ⟨xs, m, _, _, hlen, hx, hi⟩ := DataW.trod_struct Tryd.underlying52 h
  rw [cells52] at hlen
  have look : ∀ i, i < 3 → xs[i]? = some (xs.getD i (.nil, [])) := fun i hi' => by
    have hx3 : xs.length = 3 := hx
    rw [List.getD_eq_getElem?_getD, List.getElem?_eq_getElem (by omega)]; rfl
  have g0 : DataW.trod enc Tryd.prog w base spare held m 42 (List.take (Tryd.prog.cellsOf 42) (List.drop 0 cs)) = some (xs.getD 0 (.nil, [])) := (hi 0 _ rfl).trans (look 0 (by decide))
  have g1 : DataW.trod enc Tryd.prog w base spare held m 9 (List.take (Tryd.prog.cellsOf 9) (List.drop 32 cs)) = some (xs.getD 1 (.nil, [])) := (hi 1 _ rfl).trans (look 1 (by decide))
  have g2 : DataW.trod enc Tryd.prog w base spare held m 3 (List.take (Tryd.prog.cellsOf 3) (List.drop 33 cs)) = some (xs.getD 2 (.nil, [])) := (hi 2 _ rfl).trans (look 2 (by decide))
  rw [cells42] at g0
  rw [cells9] at g1
  rw [cells3] at g2
  obtain ⟨id, e0, l0⟩ := trod_id g0
  obtain ⟨path, e1, _, o1⟩ := DataW.trod_string Tryd.underlying9 g1
  obtain ⟨line, e2, _⟩ := DataW.trod_int Tryd.underlying3 g2
  refine ⟨⟨id, path.data.toList, line⟩, ⟨l0, by dsimp only; rwa [← bs_of path, bs_size] at o1⟩, ?_⟩
  have t : cs.drop 34 = [] := List.drop_of_length_le (by omega)
  have s0 := cutAt cs 0 32 32 rfl
  rw [e0, cutAt cs 32 1 33 rfl, e1, cutAt cs 33 1 34 rfl, e2, t] at s0
  simpa [Org.cells, bs_of] using s0
theorem trod_row {n : Nat} {cs : List Value} {x : DataW H × List MemPlace} (h : DataW.trod enc Tryd.prog w base spare held n 47 cs = some x) : ∃ m : Mot, (m.r.ok ∧ Ov w m.A m.c m.r.os ∧ m.r.os.length ≤ maxLen) ∧ cs = m.cells := by
  obtain ⟨xs, m, _, _, hlen, hx, hi⟩ := DataW.trod_struct Tryd.underlying47 h
  rw [cells47] at hlen
  have look : ∀ i, i < 4 → xs[i]? = some (xs.getD i (.nil, [])) := fun i hi' => by
    have hx4 : xs.length = 4 := hx
    rw [List.getD_eq_getElem?_getD, List.getElem?_eq_getElem (by omega)]; rfl
  have g0 : DataW.trod enc Tryd.prog w base spare held m 42 (List.take (Tryd.prog.cellsOf 42) (List.drop 0 cs)) = some (xs.getD 0 (.nil, [])) := (hi 0 _ rfl).trans (look 0 (by decide))
  have g1 : DataW.trod enc Tryd.prog w base spare held m 9 (List.take (Tryd.prog.cellsOf 9) (List.drop 32 cs)) = some (xs.getD 1 (.nil, [])) := (hi 1 _ rfl).trans (look 1 (by decide))
  have g2 : DataW.trod enc Tryd.prog w base spare held m 44 (List.take (Tryd.prog.cellsOf 44) (List.drop 33 cs)) = some (xs.getD 2 (.nil, [])) := (hi 2 _ rfl).trans (look 2 (by decide))
  have g3 : DataW.trod enc Tryd.prog w base spare held m 45 (List.take (Tryd.prog.cellsOf 45) (List.drop 37 cs)) = some (xs.getD 3 (.nil, [])) := (hi 3 _ rfl).trans (look 3 (by decide))
  rw [cells42] at g0
  rw [cells9] at g1
  rw [cells44] at g2
  rw [cells45] at g3
  obtain ⟨id, e0, l0⟩ := trod_id g0
  obtain ⟨path, e1, _, o1⟩ := DataW.trod_string Tryd.underlying9 g1
  obtain ⟨ys, m2, _, _, hlen2, hy, hi2⟩ := DataW.trod_struct Tryd.underlying44 g2
  rw [cells44] at hlen2
  have look2 : ∀ i, i < 4 → ys[i]? = some (ys.getD i (.nil, [])) := fun i hi' => by
    have hy4 : ys.length = 4 := hy
    rw [List.getD_eq_getElem?_getD, List.getElem?_eq_getElem (by omega)]; rfl
  generalize hop : List.take 4 (List.drop 33 cs) = op at *
  have p0 : DataW.trod enc Tryd.prog w base spare held m2 3 (List.take (Tryd.prog.cellsOf 3) (List.drop 0 op)) = some (ys.getD 0 (.nil, [])) := (hi2 0 _ rfl).trans (look2 0 (by decide))
  have p1 : DataW.trod enc Tryd.prog w base spare held m2 4 (List.take (Tryd.prog.cellsOf 4) (List.drop 1 op)) = some (ys.getD 1 (.nil, [])) := (hi2 1 _ rfl).trans (look2 1 (by decide))
  have p2 : DataW.trod enc Tryd.prog w base spare held m2 4 (List.take (Tryd.prog.cellsOf 4) (List.drop 2 op)) = some (ys.getD 2 (.nil, [])) := (hi2 2 _ rfl).trans (look2 2 (by decide))
  have p3 : DataW.trod enc Tryd.prog w base spare held m2 4 (List.take (Tryd.prog.cellsOf 4) (List.drop 3 op)) = some (ys.getD 3 (.nil, [])) := (hi2 3 _ rfl).trans (look2 3 (by decide))
  rw [cells3] at p0
  rw [cells4] at p1 p2 p3
  obtain ⟨algo, f0, _⟩ := DataW.trod_int Tryd.underlying3 p0
  obtain ⟨de, f1, _⟩ := DataW.trod_bool Tryd.underlying4 p1
  obtain ⟨mo, f2, _⟩ := DataW.trod_bool Tryd.underlying4 p2
  obtain ⟨co, f3, _⟩ := DataW.trod_bool Tryd.underlying4 p3
  have t4 : op.drop 4 = [] := List.drop_of_length_le (by omega)
  have so := cutAt op 0 1 1 rfl
  rw [f0, cutAt op 1 1 2 rfl, f1, cutAt op 2 1 3 rfl, f2, cutAt op 3 1 4 rfl, f3, t4] at so
  have so2 : op = [.int .i64 algo, .bool de, .bool mo, .bool co] := by simpa using so
  obtain ⟨A, len, cap, e3⟩ : ∃ A len cap, List.take 1 (List.drop 37 cs) = [Value.slice A len cap] := by
    rcases open_slice Tryd.underlying45 g3 with ⟨hcs, _⟩ | ⟨a, len, cap, _, _, _, _, hcs, _⟩
    · exact ⟨_, _, _, hcs⟩
    · exact ⟨_, _, _, hcs⟩
  rw [e3] at g3
  obtain ⟨os, q1, q2, q3, q4, q5, q6⟩ := trod_flat Org.cells Org.ok Tryd.underlying45 cells52 (by omega) (fun o ho => Org.len ho.id) (fun _ _ _ hy => trod_org hy) g3
  subst q1
  refine ⟨⟨⟨id, path.data.toList, algo, de, mo, co, os⟩, A, cap⟩, ⟨⟨l0, by dsimp only; rwa [← bs_of path, bs_size] at o1, q3⟩, ⟨q2, q3, q4, q5⟩, q6⟩, ?_⟩
  have t : cs.drop 38 = [] := List.drop_of_length_le (by omega)
  have s0 := cutAt cs 0 32 32 rfl
  rw [e0, cutAt cs 32 1 33 rfl, e1, cutAt cs 33 4 37 rfl, hop, so2, cutAt cs 37 1 38 rfl, e3, t] at s0
  rw [Mot.eq]
  simpa [bs_of] using s0
theorem trod_rows {fu : Nat} {A : Option Addr} {len cap : Nat} {x : DataW H × List MemPlace} (h : DataW.trod enc Tryd.prog w base spare held fu 24 [.slice A len cap] = some x) :
    ∃ ms : List Mot, ms.length = len ∧ Mv w A ms ∧ len ≤ cap ∧ (A = none → cap = 0) ∧ len ≤ maxLen ∧ ∀ m ∈ ms, m.r.os.length ≤ maxLen := by
  obtain ⟨ms, q1, q2, q3, q4, q5, q6⟩ := trod_flat Mot.cells (fun m => m.r.ok ∧ Ov w m.A m.c m.r.os ∧ m.r.os.length ≤ maxLen) Tryd.underlying24 cells47 (by omega) (fun m hm => Mot.len hm.1.id) (fun _ _ _ hy => trod_row hy) h
  exact ⟨ms, q1, ⟨q2, fun m hm => (q3 m hm).1, fun m hm => (q3 m hm).2.1⟩, q4, q5, q6, fun m hm => (q3 m hm).2.2⟩
end
end
section
open Go
variable {H : Type} {enc : TypeId × Value → H}

/-- The contract is handed the reach, what the row lists, and the shape of the world. -/
theorem handed_shaped_laid {C : Checked} {os : Os} {f : FuncId} {fn : Func} {s : ChangeSpec} {conds : List PathCond} {X : World → Array Value → Prop}
    (hX : ∀ (w w' : World) (args : Array Value), w.heap = w'.heap → X w args → X w' args)
    (own : ownKnob C.prog.godebug = none) (started : os.Started) (noInit : C.prog.inits.idxOf? f = none) (hfn : C.prog.funcs[f]? = some fn)
    (witness : ∃ (w : World) (tape : Tape) (i : Input), w.os = os ∧ (w.forCall tape i).Shaped C.prog ∧ i.vars = [] ∧ Input.okWide C.prog (w.forCall tape i) .any w.heap.size f i ∧
      ((s.pre enc C.prog fn conds false (w.forCall tape i).memory i.args ∧ X (w.forCall tape i).memory i.args) ∧ sizedMet enc C.prog fn (OpenSpec.ofChange s) false (w.forCall tape i).memory i.args) ∧ ({} : Assume).holds C.prog (lone (Frame.enter C.prog f i.args .normal) [] (w.forCall tape i)))
    (contract : ∀ (W : World) (base : Nat) (args : Array Value) (ds gs : List (DataW H)) (before : List MemPlace),
      (∀ (j : Nat) t v, fn.params[j]? = some t → args[j]? = some v → Value.okWide C.prog W .any base t v) →
      DataW.Whole enc C.prog fn.params.toList s.vars false W args.toList ds gs before → X W args → W.ShapedOpen C.prog →
      Calls C.prog f args W fun e W' => ∃ v, e = .returned v ∧ s.post enc C.prog fn false true false false W args v W') :
    ReturnsInHanded {} C os f .any (fun w args => (s.pre enc C.prog fn conds false w args ∧ X w args) ∧ sizedMet enc C.prog fn (OpenSpec.ofChange s) false w args) (s.post enc C.prog fn false true false false) := by
  refine returnsInHanded_of_calls own started noInit witness ?_
  rintro w tape i _ shape _ ⟨_, _, _, fn2, hfn2, _, _, _, _, hval⟩ ⟨⟨⟨ds, gs, before, hw, _⟩, hx⟩, _⟩ _
  obtain rfl := Option.some.inj (hfn2.symm.trans hfn)
  refine (contract (w.forCall tape i) w.heap.size i.args ds gs before hval (DataW.Whole.of_heap (w' := w.forCall tape i) (by rfl) hw) (hX _ _ _ (by rfl) hx) shape).mono fun e W' ⟨v, he, hp⟩ => ?_
  subst he
  exact ChangeSpec.post_blind hp
end
end Go.Proofs.YthhmamkphcgocaaDoor

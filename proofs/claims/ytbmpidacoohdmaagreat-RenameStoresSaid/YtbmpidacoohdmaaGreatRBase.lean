/- Plain laws on memory that the walks of this claim use: values of several cells (structs, arrays) loaded whole, equality of arrays of bytes. No program. The last stroke of a text: strings.LastIndexByte, route.Base and the references' Last and Base, each by a contract. A change as data and as cells; that two are compared as their parts are. -/
import Derived.WalkKit
import Derived.WalkSpells
import Derived.Lib.Hide
import Derived.Deep.QuietTactic
import Derived.BigQuiet
import Derived.Deep.RegionWith
import Derived.Test.YtbmpidacoohdmaaGreatProg
namespace Go.Proofs.YtbmpidacoohdmaaGreat.Rn
open Go.RowKit

theorem ret_int {k : IntKind} {a b : Int} (h : a = b) : Ending.returned (.int k a) = .returned (.int k b) := by rw [h]
theorem ret_bool {a b : Bool} (h : a = b) : Ending.returned (.bool a) = .returned (.bool b) := by rw [h]

theorem quiet_same {P : Program} {f : FuncId} {args : Array Value} {w : World} {n : Nat} {v : Value}
    (h : Calls P f args (w.drewN n) fun e w' => e = .returned v ∧ w.drewN n = w') : Calls P f args (w.drewN n) fun e w'' => e = .returned v ∧ ∃ m, w'' = w.drewN m :=
  h.mono fun _ _ ⟨he, hm⟩ => ⟨he, n, hm.symm⟩
theorem quiet_more {P : Program} {f : FuncId} {args : Array Value} {w : World} {a n : Nat} {v : Value}
    (h : Calls P f args (w.drewN (a + n)) fun e w' => e = .returned v ∧ ∃ m, w' = (w.drewN (a + n)).drewN m) :
    Calls P f args (w.drewN (a + n)) fun e w'' => e = .returned v ∧ ∃ m, w'' = w.drewN (a + m) :=
  h.mono fun _ _ ⟨he, m, hm⟩ => ⟨he, n + m, by rw [hm, World.drewN_drewN, Nat.add_assoc]⟩

/-- Is a value of this type laid in several cells? -/
def multi : TypeDesc → Bool
  | .struct _ | .array _ _ => true
  | _ => false

theorem str_beq (a b : ByteArray) : (a.toList == b.toList) = decide (a = b) := by
  rw [Bool.eq_iff_iff, beq_iff_eq, decide_eq_true_eq, ByteArray.toList_eq, ByteArray.toList_eq]
  constructor
  · intro h
    obtain ⟨⟨x⟩⟩ := a
    obtain ⟨⟨y⟩⟩ := b
    simp only at h
    rw [h]
  · rintro rfl; rfl

/-- From address a on the cells cs lie. -/
def CellsAt (w : World) (a : Addr) (cs : List Value) : Prop := ∀ j v, cs[j]? = some v → w.cell? (a.add j) = some v

section
variable {P : Program} {w w' : World} {a : Addr} {cs : List Value}
theorem CellsAt.zero (h : CellsAt w a cs) {v : Value} (hv : cs[0]? = some v) : w.cell? a = some v := by
  have := h 0 v hv
  rwa [Addr.add_zero'] at this
theorem CellsAt.succ (h : CellsAt w a cs) (j : Nat) {v : Value} (hv : cs[j + 1]? = some v) : w.cell? ⟨a.block, a.off + (j + 1), none⟩ = some v := by
  have := h (j + 1) v hv
  rwa [Addr.add_succ'] at this
theorem block_add (a : Addr) (n : Nat) : (a.add n).block = a.block := by unfold Addr.add; split <;> rfl
theorem add_add (a : Addr) (i j : Nat) : (a.add i).add j = a.add (i + j) := by
  unfold Addr.add
  by_cases hi : i = 0 <;> by_cases hj : j = 0 <;> simp [hi, hj, Nat.add_assoc]
theorem CellsAt.keep (h : CellsAt w a cs) (hk : ∀ p : Addr, p.block = a.block → w'.cell? p = w.cell? p) : CellsAt w' a cs :=
  fun j v hv => (hk _ (block_add a j)).trans (h j v hv)
theorem CellsAt.part (h : CellsAt w a cs) (k : Nat) : CellsAt w (a.add k) (cs.drop k) := fun j v hv => by
  rw [add_add]
  exact h (k + j) v (by simpa using hv)
theorem CellsAt.take (h : CellsAt w a cs) (k : Nat) : CellsAt w a (cs.take k) := fun j v hv => by
  refine h j v ?_
  rw [List.getElem?_take] at hv
  split at hv
  · exact hv
  · cases hv

theorem run_loadVar_cells {ty : TypeId} {d : TypeDesc} (hu : P.underlying ty = some d) (hd : multi d = true)
    (hi : (P.info? ty).map (·.size) = some cs.length) (h : CellsAt w a cs) : (loadVar ty a).run P w = .ok (.agg cs.toArray) w := by
  have hl : (loadCells a cs.length).run P w = .ok cs.toArray w := run_loadCells_list (P := P) w a cs h
  cases hq : P.info? ty with
  | none => simp [hq] at hi
  | some i =>
    have hs : i.size = cs.length := by simpa [hq] using hi
    have hagg : (isAgg ty).run P w = .ok true w := by
      unfold isAgg
      rw [Sem.run_bind, run_underlying hu w]
      cases d <;> simp_all [multi]
    simp [loadVar, Sem.run_bind, hagg, sizeOf, typeInfo, hq, hs, hl]

theorem wp_load_cells {o : Oper} {act : Act} {K : Act → World → Prop} {Q : Exit → Act → World → Prop} (ty : TypeId) (x : Operand) (ho : o.op = .load ty x)
    (hx : act.eval x = .pointer (some a)) {d : TypeDesc} (hu : P.underlying ty = some d) (hd : multi d = true)
    (hi : (P.info? ty).map (·.size) = some cs.length) (hc : CellsAt w a cs) (h : K (act.put o.dst (.agg cs.toArray)) w) : o.wp P act w K Q := by
  unfold Oper.wp execOp
  simp only [ho, hx, Instr.loadAt, Instr.sureAddr, Sem.run_bind, Sem.run_pure, Result.andThen_ok, run_loadVar_cells hu hd hi hc]
  exact h

theorem wpList_load_cells {ops : Array Oper} {rest : List Oper} {o : Oper} {act : Act} {Q : Exit → Act → World → Prop} (hgd : o.guard = none) (ty : TypeId) (x : Operand) (ho : o.op = .load ty x)
    (a : Addr) (hx : act.eval x = .pointer (some a)) (cs : List Value) {d : TypeDesc} (hu : P.underlying ty = some d) (hd : multi d = true)
    (hi : (P.info? ty).map (·.size) = some cs.length) (hc : CellsAt w a cs) (h : wpList P ops Q rest (act.put o.dst (.agg cs.toArray)) w) : wpList P ops Q (o :: rest) act w :=
  wpList_plain hgd fun _ hK => wp_load_cells ty x ho hx hu hd hi hc (hK _ _ h)

theorem quiet_load_cells {o : Oper} {act : Act} {C : World → Prop} {K : Act → Prop} (ty : TypeId) (x : Operand) (ho : o.op = .load ty x)
    (a : Addr) (hx : act.eval x = .pointer (some a)) (cs : List Value) {d : TypeDesc} (hu : P.underlying ty = some d) (hd : multi d = true)
    (hi : (P.info? ty).map (·.size) = some cs.length) (hc : ∀ w, C w → CellsAt w a cs) (h : K (act.put o.dst (.agg cs.toArray))) : o.quiet P act C K := by
  refine ⟨.agg cs.toArray, fun w hw => ?_, h⟩
  unfold Oper.quietAt execOp
  simp only [ho, hx, Instr.loadAt, Instr.sureAddr, Sem.run_bind, Sem.run_pure, Result.andThen_ok, run_loadVar_cells hu hd hi (hc w hw)]
  exact ⟨rfl, rfl⟩
end

/-- Bytes as cells. -/
def u8s (l : List Int) : List Value := l.map (Value.int .u8)
theorem u8s_length (l : List Int) : (u8s l).length = l.length := by simp [u8s]

section
variable {P : Program} {n : Nat} (w : World)
theorem run_part_u8 {e : TypeId} {k : IntKind} (he : P.underlying e = some (.int k)) (xs : List Int) (i : Nat) (hi : i < xs.length) :
    (part e (u8s xs).toArray i).run P w = .ok (.int .u8 xs[i]) w := by
  have hagg : (isAgg e).run P w = .ok false w := by
    unfold isAgg
    rw [Sem.run_bind, run_underlying he w]
    rfl
  have hg : (u8s xs).toArray[i]? = some (.int .u8 xs[i]) := by simp [u8s, hi]
  simp [part, Sem.run_bind, hagg, hg]

theorem run_eq_loop {e : TypeId} {k : IntKind} (he : P.underlying e = some (.int k)) (d : Nat) (xs ys : List Int) :
    ∀ (m i : Nat), i + m = xs.length → i + m = ys.length →
      (forIn (List.range' i m) ((none, ()) : Option Bool × Unit) fun i _ => do
        let a ← part e (u8s xs).toArray (i * 1)
        let b ← part e (u8s ys).toArray (i * 1)
        let r ← Op.equalIn (d + 1) e a b
        if (!r) = true then pure (ForInStep.done (some false, ())) else pure (ForInStep.yield (none, ())) : Sem _).run P w =
      .ok (if xs.drop i = ys.drop i then (none, ()) else (some false, ())) w := by
  intro m
  induction m with
  | zero =>
    intro i h1 h2
    have e1 : xs.drop i = [] := List.drop_eq_nil_of_le (by omega)
    have e2 : ys.drop i = [] := List.drop_eq_nil_of_le (by omega)
    simp [e1, e2]
  | succ m ih =>
    intro i h1 h2
    have hx : i < xs.length := by omega
    have hy : i < ys.length := by omega
    rw [List.range'_succ, List.forIn_cons]
    have hd : (xs.drop i = ys.drop i) ↔ (xs[i] = ys[i] ∧ xs.drop (i + 1) = ys.drop (i + 1)) := by
      conv => lhs; rw [List.drop_eq_getElem_cons hx, List.drop_eq_getElem_cons hy]
      exact List.cons_eq_cons
    simp only [Nat.mul_one, Sem.run_bind, run_part_u8 w he xs i hx, run_part_u8 w he ys i hy, Result.andThen_ok, run_equalIn_int w d e .u8 k _ _ he]
    by_cases hxy : xs[i] = ys[i]
    · have hih := ih (i + 1) (by omega) (by omega)
      simp only [Nat.mul_one] at hih
      have hb : (!(xs[i] == ys[i])) = false := by simp [hxy]
      simp only [hb, Bool.false_eq_true, if_false, Sem.run_pure, Result.andThen_ok, hih]
      by_cases hr : xs.drop (i + 1) = ys.drop (i + 1)
      · rw [if_pos hr, if_pos (hd.2 ⟨hxy, hr⟩)]
      · rw [if_neg hr, if_neg (fun h => hr (hd.1 h).2)]
    · have hb : (!(xs[i] == ys[i])) = true := by simp [hxy]
      simp only [hb, if_true, Sem.run_pure, Result.andThen_ok]
      rw [if_neg (fun h => hxy (hd.1 h).1)]

theorem run_equalIn_u8s {t e : TypeId} {k : IntKind} {i : TypeInfo} (ht : P.underlying t = some (.array n e)) (he : P.underlying e = some (.int k)) (hi : P.info? e = some i) (hs : i.size = 1) (d : Nat) (xs ys : List Int)
    (hx : xs.length = n) (hy : ys.length = n) : (Op.equalIn (d + 2) t (.agg (u8s xs).toArray) (.agg (u8s ys).toArray)).run P w = .ok (decide (xs = ys)) w := by
  have hl := run_eq_loop w he d xs ys n 0 (by omega) (by omega)
  simp only [List.drop_zero] at hl
  rw [show d + 2 = d + 1 + 1 from rfl, Op.equalIn]
  simp only [Sem.run_bind, run_underlying ht, Result.andThen_ok, sizeOf, typeInfo, run_program, hi, Sem.run_pure, hs]
  simp only [Std.Legacy.Range.forIn_eq_forIn_range', Std.Legacy.Range.size]
  have hn : (n - 0 + 1 - 1) / 1 = n := by simp
  rw [hn, hl]
  simp only [Result.andThen_ok]
  by_cases hxy : xs = ys
  · simp [hxy]
  · simp [hxy]

theorem run_eql_u8s {t e : TypeId} {k : IntKind} {i : TypeInfo} (ht : P.underlying t = some (.array n e)) (he : P.underlying e = some (.int k)) (hi : P.info? e = some i) (hs : i.size = 1) (xs ys : List Int)
    (hx : xs.length = n) (hy : ys.length = n) : (binOp .eql t (.agg (u8s xs).toArray) (.agg (u8s ys).toArray)).run P w = .ok (.bool (decide (xs = ys))) w := by
  simp only [binOp]
  simp [Op.equal, Op.maxDepth, run_equalIn_u8s w ht he hi hs 9998 xs ys hx hy]
theorem run_neq_u8s {t e : TypeId} {k : IntKind} {i : TypeInfo} (ht : P.underlying t = some (.array n e)) (he : P.underlying e = some (.int k)) (hi : P.info? e = some i) (hs : i.size = 1) (xs ys : List Int)
    (hx : xs.length = n) (hy : ys.length = n) : (binOp .neq t (.agg (u8s xs).toArray) (.agg (u8s ys).toArray)).run P w = .ok (.bool (!decide (xs = ys))) w := by
  simp only [binOp]
  simp [Op.equal, Op.maxDepth, run_equalIn_u8s w ht he hi hs 9998 xs ys hx hy]
/-- A part that is an array, out of a struct's cells. -/
theorem run_part_cells {t : TypeId} {d : TypeDesc} {i : TypeInfo} (hu : P.underlying t = some d) (hd : multi d = true) (hi : P.info? t = some i)
    (cs : List Value) (off : Nat) : (part t cs.toArray off).run P w = .ok (.agg ((cs.drop off).take i.size).toArray) w := by
  have hagg : (isAgg t).run P w = .ok true w := by
    unfold isAgg
    rw [Sem.run_bind, run_underlying hu w]
    cases d <;> simp_all [multi]
  simp [part, Sem.run_bind, hagg, sizeOf, typeInfo, hi]
theorem run_part_one {t : TypeId} {d : TypeDesc} (hu : P.underlying t = some d) (hd : multi d = false)
    (cs : List Value) (off : Nat) {v : Value} (hv : cs[off]? = some v) : (part t cs.toArray off).run P w = .ok v w := by
  have hagg : (isAgg t).run P w = .ok false w := by
    unfold isAgg
    rw [Sem.run_bind, run_underlying hu w]
    cases d <;> simp_all [multi]
  have hg : cs.toArray[off]? = some v := by simpa using hv
  simp [part, Sem.run_bind, hagg, hg]

/-- The fields' comparison, by the three things of a field that it looks at. -/
def eqF (d : Nat) (xs ys : Array Value) : List (String × TypeId × Nat) → Sem Bool
  | [] => pure true
  | f :: fs =>
    if f.1 ≠ "_" then do
      let a ← part f.2.1 xs f.2.2
      let b ← part f.2.1 ys f.2.2
      let r ← Op.equalIn d f.2.1 a b
      if (!r) = true then pure false else eqF d xs ys fs
    else eqF d xs ys fs
theorem eqFields_eq (d : Nat) (xs ys : Array Value) (fs : List Field) : Op.eqFields d xs ys fs = eqF d xs ys (fs.map fun f => (f.name, f.type, f.offset)) := by
  induction fs with
  | nil => rfl
  | cons f fs ih => simp only [Op.eqFields, List.map_cons, eqF, ih]
theorem run_eqF_cons {d : Nat} {xs ys : Array Value} {n : String} {t : TypeId} {o : Nat} {fs : List (String × TypeId × Nat)} {a b : Value} {r x : Bool} (hn : n ≠ "_")
    (ha : (part t xs o).run P w = .ok a w) (hb : (part t ys o).run P w = .ok b w) (hr : (Op.equalIn d t a b).run P w = .ok r w)
    (hx : r = true → (eqF d xs ys fs).run P w = .ok x w) : (eqF d xs ys ((n, t, o) :: fs)).run P w = .ok (r && x) w := by
  simp only [eqF, ne_eq, hn, not_false_eq_true, if_true, Sem.run_bind, ha, hb, hr, Result.andThen_ok]
  cases r
  · simp
  · simp [hx rfl]
theorem run_eqF_nil {d : Nat} {xs ys : Array Value} : (eqF d xs ys []).run P w = .ok true w := rfl
end
end Go.Proofs.YtbmpidacoohdmaaGreat.Rn
namespace Go.Proofs.YtbmpidacoohdmaaGreat.Rn
open Go.RowKit

def lastTo (c : UInt8) (l : List UInt8) : Nat → Int
  | 0 => -1
  | n+1 => if l.getD n 0 = c then (n : Int) else lastTo c l n

theorem lastTo_bd (c : UInt8) (l : List UInt8) (n : Nat) : -1 ≤ lastTo c l n ∧ lastTo c l n < n := by
  induction n with
  | zero => simp [lastTo]
  | succ n ih => unfold lastTo; split <;> omega

theorem byte_eq {a b : UInt8} (h : ((a.toNat : Int) == (b.toNat : Int)) = true) : a = b := by
  have h' : (a.toNat : Int) = b.toNat := by simpa using h
  exact UInt8.toNat_inj.1 (by omega)
theorem byte_ne {a b : UInt8} (h : ((a.toNat : Int) == (b.toNat : Int)) = false) : a ≠ b := by
  rintro rfl
  simp at h
theorem getD_data (s : ByteArray) (k : Nat) (h : k < s.size) : s.data.toList.getD k 0 = s[k] := by
  have h' : k < s.data.toList.length := by simpa using h
  rw [List.getD_eq_getElem?_getD, List.getElem?_eq_getElem h']
  rfl
theorem lastTo_hit (c : UInt8) (s : ByteArray) (k : Nat) (h : k < s.size) (hc : s[k] = c) : lastTo c s.data.toList (k + 1) = k := by
  unfold lastTo; rw [getD_data s k h, if_pos hc]
theorem lastTo_miss (c : UInt8) (s : ByteArray) (k : Nat) (h : k < s.size) (hc : s[k] ≠ c) : lastTo c s.data.toList (k + 1) = lastTo c s.data.toList k := by
  conv => lhs; unfold lastTo
  rw [getD_data s k h, if_neg hc]

def baseB (s : ByteArray) : ByteArray := s.extract (lastTo 47 s.data.toList s.size + 1).toNat s.size

set_option maxHeartbeats 400000 in
theorem libs_any (s : ByteArray) (c : UInt8) (w : World) (hs : s.size ≤ maxLen) :
    Calls Tryz.prog 221 #[.string s, .int .u8 c.toNat] w fun e w' => e = .returned (.int .i64 (lastTo c s.data.toList s.size)) ∧ w = w' := by
  unfold maxLen at hs
  go_enter Tryz.func221, Tryz.ntmps221
  go_wp2
  go_loop [5] (fun i => ∃ k : Nat, k ≤ s.size ∧ i = .int .i64 ((k : Int) - 1) ∧ Hid (lastTo c s.data.toList s.size = lastTo c s.data.toList k)) (fun i => (intOf i + 1).toNat)
  case atStart => exact ⟨s.size, Nat.le_refl _, rfl, rfl⟩
  case round =>
    obtain ⟨k, hk, rfl, hl⟩ := hrel
    rcases k with _ | k
    · go_wp2
      go_ret
      exact ⟨ret_int (hl.out.trans rfl).symm, rfl⟩
    · have hkk : (((k + 1 : Nat) : Int) - 1) = k := by omega
      rw [hkk]
      clear hkk
      go_wp2
      · go_ret
        exact ⟨ret_int (hl.out.trans (lastTo_hit c s k (by assumption) (byte_eq (by assumption)))).symm, rfl⟩
      · refine ⟨⟨k, by omega, rfl, ?_⟩, by simp [intOf]⟩
        exact (hl.out.trans (lastTo_miss c s k (by assumption) (byte_ne (by assumption))) : _)

theorem lib_any (s : ByteArray) (c : UInt8) (w : World) (hs : s.size ≤ maxLen) :
    Calls Tryz.prog 167 #[.string s, .int .u8 c.toNat] w fun e w' => e = .returned (.int .i64 (lastTo c s.data.toList s.size)) ∧ w = w' := by
  go_enter Tryz.func167, Tryz.ntmps167
  go_wp2_with (go_at_call 221; refine (libs_any _ _ _ hs).mono ?_; rintro e w' ⟨rfl, rfl⟩)
  go_ret
  exact ⟨rfl, rfl⟩

set_option maxHeartbeats 400000 in
theorem last_any (s : ByteArray) (w : World) (hs : s.size ≤ maxLen) :
    Calls Tryz.prog 173 #[.string s] w fun e w' => e = .returned (.int .i64 (lastTo 47 s.data.toList s.size)) ∧ w = w' := by
  unfold maxLen at hs
  go_enter Tryz.func173, Tryz.ntmps173
  go_wp2
  go_loop [3, 4] (fun at' i => ∃ k : Nat, k ≤ s.size ∧ i = .int .i64 (k : Int) ∧ at' = .int .i64 (lastTo 47 s.data.toList k)) (fun _ i => s.size - (intOf i).toNat)
  case atStart => exact ⟨0, Nat.zero_le _, rfl, rfl⟩
  case round =>
    obtain ⟨k, hk, rfl, rfl⟩ := hrel
    by_cases hlt : k < s.size
    · go_wp2
      · go_round
        case rel => exact ⟨k + 1, by omega, by go_num, by rw [lastTo_hit 47 s k hlt (byte_eq (by assumption))]⟩
        case measure => simp [intOf]; omega
      · go_round
        case rel => exact ⟨k + 1, by omega, by go_num, by rw [lastTo_miss 47 s k hlt (byte_ne (by assumption))]⟩
        case measure => simp [intOf]; omega
    · go_wp2
      go_ret
      obtain rfl : k = s.size := by omega
      exact ⟨rfl, rfl⟩

set_option maxHeartbeats 400000 in
theorem base_any (s : ByteArray) (w : World) (hs : s.size ≤ maxLen) :
    Calls Tryz.prog 97 #[.string s] w fun e w' => e = .returned (.string (baseB s)) ∧ w = w' := by
  have hc := lib_any s 47 w hs
  have hb := lastTo_bd 47 s.data.toList s.size
  unfold baseB
  generalize lastTo 47 s.data.toList s.size = x at *
  have HC := Lib.hid hc
  clear hc
  unfold maxLen at hs
  obtain ⟨hb1, hb2⟩ := hb
  go_enter Tryz.func97, Tryz.ntmps97
  go_wp2_with (go_at_call 167; refine HC.out.mono ?_; rintro e w' ⟨rfl, rfl⟩)
  go_ret
  exact ⟨rfl, rfl⟩

set_option maxHeartbeats 400000 in
theorem rbase_any (s : ByteArray) (w : World) (hs : s.size ≤ maxLen) :
    Calls Tryz.prog 108 #[.string s] w fun e w' => e = .returned (.string (baseB s)) ∧ w = w' := by
  have hc := last_any s w hs
  have hb := lastTo_bd 47 s.data.toList s.size
  unfold baseB
  generalize lastTo 47 s.data.toList s.size = x at *
  have HC := Lib.hid hc
  clear hc
  unfold maxLen at hs
  obtain ⟨hb1, hb2⟩ := hb
  go_enter Tryz.func108, Tryz.ntmps108
  go_wp2_with (go_at_call 173; refine HC.out.mono ?_; rintro e w' ⟨rfl, rfl⟩)
  go_ret
  exact ⟨rfl, rfl⟩
end Go.Proofs.YtbmpidacoohdmaaGreat.Rn
namespace Go.Proofs.YtbmpidacoohdmaaGreat.Rn
open Go.RowKit

structure Chg where
  kind : Int
  old : ByteArray
  new : ByteArray
  om : Int
  nm : Int
  oid : List Int
  nid : List Int
  score : Int
  deriving DecidableEq

def Chg.cells (c : Chg) : List Value :=
  .int .i64 c.kind :: .string c.old :: .string c.new :: .int .i64 c.om :: .int .i64 c.nm :: (u8s c.oid ++ (u8s c.nid ++ [.int .i64 c.score]))
structure Chg.ok (c : Chg) : Prop where
  oid : c.oid.length = 32
  nid : c.nid.length = 32
  old : c.old.size ≤ maxLen
  new : c.new.size ≤ maxLen
theorem Chg.cells_length (c : Chg) (h : c.ok) : c.cells.length = 70 := by simp [Chg.cells, u8s_length, h.oid, h.nid]
theorem Chg.oid_part (c : Chg) (h : c.ok) : ((c.cells.drop 5).take 32) = u8s c.oid := by
  simp only [Chg.cells, List.drop_succ_cons, List.drop_zero]
  exact List.take_left' (by rw [u8s_length, h.oid])
theorem Chg.nid_part (c : Chg) (h : c.ok) : ((c.cells.drop 37).take 32) = u8s c.nid := by
  have e : c.cells.drop 37 = (u8s c.oid ++ (u8s c.nid ++ [Value.int .i64 c.score])).drop 32 := rfl
  rw [e, List.drop_left' (by rw [u8s_length, h.oid])]
  exact List.take_left' (by rw [u8s_length, h.nid])
theorem Chg.score_at (c : Chg) (h : c.ok) : c.cells[69]? = some (.int .i64 c.score) := by
  have e : c.cells[69]? = (u8s c.oid ++ (u8s c.nid ++ [Value.int .i64 c.score]))[64]? := rfl
  rw [e, List.getElem?_append_right (by rw [u8s_length, h.oid]; omega), List.getElem?_append_right (by rw [u8s_length, u8s_length, h.oid, h.nid]; omega)]
  simp [u8s_length, h.oid, h.nid]

theorem info5 : (Tryz.prog.info? 5).map (·.size) = some 1 := by kernel_rfl
theorem info44 : (Tryz.prog.info? 51).map (·.size) = some 32 := by kernel_rfl
theorem info46 : (Tryz.prog.info? 53).map (·.size) = some 70 := by kernel_rfl
theorem stood46 : Tryz.prog.stoodInHeld 53 = false := by kernel_rfl
theorem stood44 : Tryz.prog.stoodInHeld 51 = false := by kernel_rfl
theorem fields46 : (Tryz.prog.fieldsOf 53).toList.map (fun f => (f.name, f.type, f.offset)) = [("Kind", 3, 0), ("Old", 9, 1), ("New", 9, 2), ("OldMode", 3, 3), ("NewMode", 3, 4), ("OldID", 51, 5), ("NewID", 51, 37), ("Score", 3, 69)] := by kernel_rfl

theorem run_eql_id (xs ys : List Int) (hx : xs.length = 32) (hy : ys.length = 32) (w : World) :
    (binOp .eql 51 (.agg (u8s xs).toArray) (.agg (u8s ys).toArray)).run Tryz.prog w = .ok (.bool (decide (xs = ys))) w := by
  obtain ⟨i, hi, hs⟩ := Option.map_eq_some_iff.1 info5
  exact run_eql_u8s w Tryz.underlying51 Tryz.underlying5 hi hs xs ys hx hy
theorem run_neq_id (xs ys : List Int) (hx : xs.length = 32) (hy : ys.length = 32) (w : World) :
    (binOp .neq 51 (.agg (u8s xs).toArray) (.agg (u8s ys).toArray)).run Tryz.prog w = .ok (.bool (!decide (xs = ys))) w := by
  obtain ⟨i, hi, hs⟩ := Option.map_eq_some_iff.1 info5
  exact run_neq_u8s w Tryz.underlying51 Tryz.underlying5 hi hs xs ys hx hy

theorem run_equalIn_chg (c d : Chg) (hc : c.ok) (hd : d.ok) (w : World) : (Op.equalIn 10000 53 (.agg c.cells.toArray) (.agg d.cells.toArray)).run Tryz.prog w = .ok (decide (c = d)) w := by
  obtain ⟨i5, hi5, hs5⟩ := Option.map_eq_some_iff.1 info5
  obtain ⟨i44, hi44, hs44⟩ := Option.map_eq_some_iff.1 info44
  rw [run_equalIn_struct w 9999 53 c.cells.toArray d.cells.toArray (by kernel_rfl) stood46, eqFields_eq, fields46]
  have u3 := Tryz.underlying3
  have u9 := Tryz.underlying9
  have u44 := Tryz.underlying51
  have po : ∀ (x : Chg), x.ok → (part 51 x.cells.toArray 5).run Tryz.prog w = .ok (.agg (u8s x.oid).toArray) w := fun x hx => by
    rw [run_part_cells w u44 rfl hi44, hs44, x.oid_part hx]
  have pn : ∀ (x : Chg), x.ok → (part 51 x.cells.toArray 37).run Tryz.prog w = .ok (.agg (u8s x.nid).toArray) w := fun x hx => by
    rw [run_part_cells w u44 rfl hi44, hs44, x.nid_part hx]
  have eqi : ∀ (a b : Int), (Op.equalIn 9999 3 (.int .i64 a) (.int .i64 b)).run Tryz.prog w = .ok (a == b) w := fun a b => run_equalIn_int w 9998 3 .i64 _ a b u3
  have eqs : ∀ (a b : ByteArray), (Op.equalIn 9999 9 (.string a) (.string b)).run Tryz.prog w = .ok (a.toList == b.toList) w := fun a b => run_equalIn_string w 9998 9 a b u9
  have eqa : ∀ (a b : List Int), a.length = 32 → b.length = 32 → (Op.equalIn 9999 51 (.agg (u8s a).toArray) (.agg (u8s b).toArray)).run Tryz.prog w = .ok (decide (a = b)) w := fun a b ha hb => run_equalIn_u8s w u44 Tryz.underlying5 hi5 hs5 9997 a b ha hb
  have h := run_eqF_cons w (P := Tryz.prog) (d := 9999) (n := "Kind") (by decide) (run_part_one w u3 rfl c.cells 0 rfl) (run_part_one w u3 rfl d.cells 0 rfl) (eqi _ _) fun _ =>
    run_eqF_cons w (n := "Old") (by decide) (run_part_one w u9 rfl c.cells 1 rfl) (run_part_one w u9 rfl d.cells 1 rfl) (eqs _ _) fun _ =>
    run_eqF_cons w (n := "New") (by decide) (run_part_one w u9 rfl c.cells 2 rfl) (run_part_one w u9 rfl d.cells 2 rfl) (eqs _ _) fun _ =>
    run_eqF_cons w (n := "OldMode") (by decide) (run_part_one w u3 rfl c.cells 3 rfl) (run_part_one w u3 rfl d.cells 3 rfl) (eqi _ _) fun _ =>
    run_eqF_cons w (n := "NewMode") (by decide) (run_part_one w u3 rfl c.cells 4 rfl) (run_part_one w u3 rfl d.cells 4 rfl) (eqi _ _) fun _ =>
    run_eqF_cons w (n := "OldID") (by decide) (po c hc) (po d hd) (eqa _ _ hc.oid hd.oid) fun _ =>
    run_eqF_cons w (n := "NewID") (by decide) (pn c hc) (pn d hd) (eqa _ _ hc.nid hd.nid) fun _ =>
    run_eqF_cons w (n := "Score") (by decide) (run_part_one w u3 rfl c.cells 69 (c.score_at hc)) (run_part_one w u3 rfl d.cells 69 (d.score_at hd)) (eqi _ _) fun _ => run_eqF_nil w
  refine h.trans (congrArg (fun b => Result.ok b w) ?_)
  simp only [str_beq]
  rw [Bool.eq_iff_iff]
  simp only [Bool.and_eq_true, beq_iff_eq, decide_eq_true_eq, and_true]
  cases c; cases d
  simp only [Chg.mk.injEq]

theorem run_neq_chg (c d : Chg) (hc : c.ok) (hd : d.ok) (w : World) : (binOp .neq 53 (.agg c.cells.toArray) (.agg d.cells.toArray)).run Tryz.prog w = .ok (.bool (!decide (c = d))) w := by
  rw [run_neq_struct, run_equalIn_chg c d hc hd]; rfl
theorem run_eql_chg (c d : Chg) (hc : c.ok) (hd : d.ok) (w : World) : (binOp .eql 53 (.agg c.cells.toArray) (.agg d.cells.toArray)).run Tryz.prog w = .ok (.bool (decide (c = d))) w := by
  rw [run_eql_struct, run_equalIn_chg c d hc hd]; rfl
end Go.Proofs.YtbmpidacoohdmaaGreat.Rn

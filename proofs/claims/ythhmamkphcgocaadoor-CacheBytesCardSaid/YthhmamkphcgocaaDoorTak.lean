/- cache.take by a contract. -/
import Derived.Test.YthhmamkphcgocaaDoorPid
import Derived.Test.YthhmamkphcgocaaDoorMrw
import Derived.Test.YthhmamkphcgocaaDoorOrd
import Derived.Laws.ResultCell
namespace Go.Proofs.YthhmamkphcgocaaDoor
open Go.RowKit

theorem mset (id : List UInt8) (tl : List Value) (hid : id.length = 32) (j : Nat) (v : Value) : (bys id ++ tl).set (32 + j) v = bys id ++ tl.set j v := by
  rw [List.set_append_right _ _ (by rw [bys_len, hid]; omega), bys_len, hid, Nat.add_sub_cancel_left]
theorem setAlgo_at (m : Mot) (h : m.r.id.length = 32) : m.cells[33]? = some (.int .i64 m.r.algo) := Mot.c_tail h 1
section
variable {m : Mot} (h : m.r.id.length = 32)
include h
theorem setAlgo (a : Int) : m.cells.set 33 (.int .i64 a) = (Mot.mk { m.r with algo := a } m.A m.c).cells := by
  rw [Mot.eq, Mot.eq]; exact mset m.r.id _ h 1 _
theorem setDe (b : Bool) : m.cells.set 34 (.bool b) = (Mot.mk { m.r with de := b } m.A m.c).cells := by
  rw [Mot.eq, Mot.eq]; exact mset m.r.id _ h 2 _
theorem setMo (b : Bool) : m.cells.set 35 (.bool b) = (Mot.mk { m.r with mo := b } m.A m.c).cells := by
  rw [Mot.eq, Mot.eq]; exact mset m.r.id _ h 3 _
theorem setCo (b : Bool) : m.cells.set 36 (.bool b) = (Mot.mk { m.r with co := b } m.A m.c).cells := by
  rw [Mot.eq, Mot.eq]; exact mset m.r.id _ h 4 _
theorem setOs (os : List Org) (D : Option Addr) (d n : Nat) (hn : os.length = n) : m.cells.set 37 (.slice D n d) = (Mot.mk { m.r with os := os } D d).cells := by
  subst hn
  rw [Mot.eq, Mot.eq]; exact mset m.r.id _ h 5 _
end
theorem setPath (id path : List UInt8) (a : Int) (b c d : Bool) (os : List Org) (A : Option Addr) (n : Nat) (h : id.length = 32) (p : List UInt8) : (Mot.mk ⟨id, path, a, b, c, d, os⟩ A n).cells.set 32 (.string (bs p)) = (Mot.mk ⟨id, p, a, b, c, d, os⟩ A n).cells := by
  rw [Mot.eq, Mot.eq]; exact mset id _ h 0 _
/-- A Reader, where only a block has turned that was not there at first. -/
theorem Rd.past {w0 w w2 : World} {g X : Nat} {t : TypeId} {A : Option Addr} {c : Nat} {l : List UInt8} {k0 e0 k e : Nat} (h0 : Rd w0 g t A c l k0 e0) (h : Rd w g t A c l k e) (hg : w.grownBy w2 (some X)) (hX : w0.heap.size ≤ X) : Rd w2 g t A c l k e := by
  have hg0 := h0.lt
  refine ⟨(hg.block g h.lt (by intro q; have := Option.some.inj q; omega)).trans h.blk, fun j x hx => ?_, h.far, h.cap, h.nil, h.le, h.small⟩
  obtain ⟨ad, e1, hb, _⟩ := h0.rv j x hx
  obtain ⟨ad2, e2, hb2, hc⟩ := h.rv j x hx
  obtain rfl : ad = ad2 := Option.some.inj (e1.symm.trans e2)
  refine ⟨ad, e2, by have := hg.size; omega, ?_⟩
  rw [← hc]
  refine cell_heap ?_
  rw [block_add]
  exact hg.block _ hb2 (by intro q; have := Option.some.inj q; omega)
theorem and1_fin : ∀ n : Fin 8, ∀ i : Fin 3, decide (0 < Go.bits BinOp.and IntKind.u8 (n.val : Int) (2 ^ i.val)) = bitP n.val i.val := by decide +kernel
theorem bit_and (n : Nat) (h : n ≤ 7) (i : Fin 3) : decide (0 < Go.bits BinOp.and IntKind.u8 (n : Int) (2 ^ i.val)) = bitP n i.val := and1_fin ⟨n, by omega⟩ i
/-- Blocks but g that were there stay. -/
theorem grown_past {w0 w w2 : World} {g X : Nat} (h : w0.grownBy w (some g)) (hg : w.grownBy w2 (some X)) (hX : w0.heap.size ≤ X) : w0.grownBy w2 (some g) :=
  ⟨hg.os.trans h.os, hg.tape.trans h.tape, hg.output.trans h.output, Nat.le_trans h.size hg.size, fun q hq hne => (hg.block q (by have := h.size; omega) (by intro e; have := Option.some.inj e; omega)).trans (h.block q hq hne)⟩
theorem big_one' (x : UInt8) : bigN [x] = x.toNat := by simp [bigN]
/-- Within take: the Reader, the row that is being made (at X), the result's cell. -/
structure Ts (w W : World) (g : Nat) (A : Option Addr) (c : Nat) (l : List UInt8) (X : Nat) (m : Mot) (k e : Nat) : Prop where
  rp : Rp W g A c l k e
  gr : w.grownBy W (some g)
  r0 : Ar W w.heap.size 47 zM.cells
  rx : Ar W X 47 m.cells
  hX : w.heap.size + 1 ≤ X
section
variable {w W W2 : World} {g : Nat} {A : Option Addr} {c : Nat} {l : List UInt8} {X : Nat} {m m2 : Mot} {k e k2 e2 : Nat}
theorem Ts.read (h : Ts w W g A c l X m k e) (hp : Rp W2 g A c l k2 e2) (hg : W.grownBy W2 (some g)) (hgl : g < w.heap.size) : Ts w W2 g A c l X m k2 e2 := by
  have hX := h.hX
  exact ⟨hp, grown_trans h.gr hg, h.r0.later hg (by intro q; have := Option.some.inj q; omega), h.rx.later hg (by intro q; have := Option.some.inj q; omega), hX⟩
theorem Ts.set (h : Ts w W g A c l X m k e) {k0 e0 : Nat} (h0 : Rp w g A c l k0 e0) (j : Nat) (v : Value) (hs : m.cells.set j v = m2.cells) : Ts w (W.setCell ⟨X, j, none⟩ v) g A c l X m2 k e := by
  have hX := h.hX
  refine ⟨Rd.past h0 h.rp (grown_cell W X j v) (by omega), grown_past h.gr (grown_cell W X j v) (by omega), h.r0.other _ _ (by show w.heap.size ≠ X; omega), ?_, hX⟩
  rw [← hs]
  exact h.rx.set j v
theorem Ts.beside (h : Ts w W g A c l X m k e) {k0 e0 : Nat} (h0 : Rp w g A c l k0 e0) {r : Option Nat} (hg : W.grownBy W2 r) (hr : ∀ q, r = some q → X < q) : Ts w W2 g A c l X m k e := by
  have hX := h.hX
  rcases r with _ | q
  · exact ⟨h.rp.later hg, grown_trans h.gr (grown_any hg _), h.r0.later hg (by simp), h.rx.later hg (by simp), h.hX⟩
  · have hq := hr q rfl
    exact ⟨Rd.past h0 h.rp hg (by omega), grown_past h.gr hg (by omega), h.r0.later hg (by intro e; have := Option.some.inj e; omega), h.rx.later hg (by intro e; have := Option.some.inj e; omega), hX⟩
theorem Ts.grown (h : Ts w W g A c l X m k e) (hg : W.grownBy W2 none) : Ts w W2 g A c l X m k e :=
  ⟨h.rp.later hg, grown_trans h.gr (grown_any hg _), h.r0.later hg (by simp), h.rx.later hg (by simp), h.hX⟩
end
theorem rVar_le (l : List UInt8) (most k e : Nat) : (rVar l most k e).1 ≤ most := by
  unfold rVar
  split
  · exact Nat.zero_le _
  · generalize numF 0 0 (l.drop k) = q
    obtain ⟨n, s, f⟩ := q
    dsimp only
    split
    · exact Nat.zero_le _
    · split
      · exact Nat.zero_le _
      · dsimp only; omega
theorem rText_le (l : List UInt8) (k e : Nat) : (rText l 120 k e).1.length ≤ 120 := by
  unfold rText
  split
  · exact Nat.zero_le _
  · generalize numF 0 0 (l.drop k) = q
    obtain ⟨n, s, f⟩ := q
    dsimp only
    split
    · exact Nat.zero_le _
    · split
      · exact Nat.zero_le _
      · split
        · exact Nat.zero_le _
        · dsimp only
          rw [List.length_take]
          omega
theorem orgsP_end (l : List UInt8) (n : Nat) (acc : List Org) (k e : Nat) (h : n = 0 ∨ e ≠ 0) : orgsP l n acc k e = (acc, k, e) := by
  rcases n with _ | n
  · rfl
  · rw [orgsP, if_pos (by omega)]
theorem big1_lt (l : List UInt8) (k e : Nat) : (rBig l 1 k e).1 < 256 := by
  have h := rTake_small l 1 k e
  unfold rBig
  dsimp only
  generalize (rTake l 1 k e).1 = x at *
  rcases x with _ | ⟨a, _ | ⟨b, x⟩⟩
  · simp [bigN]
  · rw [big_one']; exact a.toNat_lt
  · simp at h
attribute [local go_sem ↓] load42_eq store42_eq new42_eq run_new42 ldT47 ldT73 ldT52 ldT44 ldT71 ldT94 stT47 stT73 stT52 stT94 nwT47 nwT73 nwT52 nwT94 bxT47 bxT73 bxT52 bxT42 bxT44 bdT47 bdT73 bdT52 bdT94 run_nw47 run_nw73 run_nw52 run_nw94 bsT24 bsT28 bsT45
attribute [local go_sem] run_bxT bs_toList run_bd47z
theorem results_cell2 {P : Program} {fn : Func} {p u : Tmp} {ty : TypeId} (h : fn.results = #[.cell p ty, .tmp u]) (tmps : Array Value) (w : World) (a : Addr) {v : Value} (hp : tmps.getD p undef = .pointer (some a)) (hl : (loadVar ty a).run P w = .ok v w) :
    (results fn tmps).run P w = .ok (.tuple #[v, tmps.getD u undef]) w := by
  rw [results_cell_tmp h, hp]
  simp [asAddr, hl]
theorem m_at (m : Mot) (h : m.r.id.length = 32) (j : Nat) {v : Value} (hv : [Value.string (bs m.r.path), .int .i64 m.r.algo, .bool m.r.de, .bool m.r.mo, .bool m.r.co, .slice m.A m.r.os.length m.c][j]? = some v) : m.cells[32 + j]? = some v := (Mot.c_tail h j).trans hv
set_option maxRecDepth 100000 in
set_option maxHeartbeats 4000000 in
theorem take21_any (w : World) (g : Nat) (A : Option Addr) (c : Nat) (l : List UInt8) (k : Nat) (h : Rp w g A c l k 0) :
    Calls Tryd.prog 21 #[.pointer (some ⟨g, 0, none⟩)] w fun en w2 => ∃ m : Mot, en = .returned (.tuple #[.agg m.cells.toArray, .int .i64 ((lotP l k 0).2.2 : Int)]) ∧ m.r.id.length = 32 ∧ w.grownBy w2 (some g) ∧
      ((lotP l k 0).2.2 = 0 → m.r = (lotP l k 0).1 ∧ w2.ownsRow w.heap.size 52 34 (.slice m.A m.r.os.length m.c) m.r.os.length (orgs m.r.os) ∧ Rp w2 g A c l (lotP l k 0).2.1 0) := by
  have H0 := Lib.hid h
  have hglt : g < w.heap.size := h.lt
  have hs0 : (w.alloc (.cells zM.cells.toArray 47)).heap.size = w.heap.size + 1 := World.size_alloc _ _
  have hg0 : w.grownBy (w.alloc (.cells zM.cells.toArray 47)) none := grown_alloc (grown_refl w none) _
  have HP := Lib.hid (h.later hg0)
  have G0 := Lib.hid (grown_any hg0 (some g))
  have R0 := Lib.hid (Ar.new w zM.cells 47)
  have hle : k ≤ l.length := h.le
  clear h hg0
  obtain ⟨hd, hhd⟩ : ∃ hd, hedP l k 0 = hd := ⟨_, rfl⟩
  have hlot : lotP l k 0 = (if hd.e ≠ 0 then (default, hd.k, hd.e) else if 7 < hd.mark then (default, hd.k, 12) else
    (⟨hd.id, hd.path, hd.algo, bitP hd.mark 0, bitP hd.mark 1, bitP hd.mark 2, (orgsP l (rVar l 400 hd.k hd.e).1 [] (rVar l 400 hd.k hd.e).2.1 (rVar l 400 hd.k hd.e).2.2).1⟩, (orgsP l (rVar l 400 hd.k hd.e).1 [] (rVar l 400 hd.k hd.e).2.1 (rVar l 400 hd.k hd.e).2.2).2.1, (orgsP l (rVar l 400 hd.k hd.e).1 [] (rVar l 400 hd.k hd.e).2.1 (rVar l 400 hd.k hd.e).2.2).2.2)) := by unfold lotP; rw [hhd]
  have HLOT := Lib.hid hlot
  have HHD := Lib.hid hhd
  clear hlot hhd
  generalize lotP l k 0 = res at *
  unfold hedP at HHD
  dsimp only at HHD
  have HC1 := Lib.hid (pid_any _ g A c l k 0 HP.out)
  have hsm1 := rTake_small l 32 k 0
  generalize rTake l 32 k 0 = q1 at *
  obtain ⟨x1, k1, e1⟩ := q1
  dsimp only at HHD HC1 hsm1
  have hx1 := padI_len x1 hsm1
  generalize padI x1 = id at *
  generalize hq2 : rText l 120 k1 e1 = q2 at *
  obtain ⟨x2, k2, e2⟩ := q2
  dsimp only at HHD
  have HQ2 := Lib.hid hq2
  generalize hq3 : rBig l 1 k2 e2 = q3 at *
  obtain ⟨x3, k3, e3⟩ := q3
  dsimp only at HHD
  have HQ3 := Lib.hid hq3
  generalize hq4 : rBig l 1 k3 e3 = q4 at *
  obtain ⟨x4, k4, e4⟩ := q4
  dsimp only at HHD
  have HQ4 := Lib.hid hq4
  have HDD := HHD.out
  subst HDD
  dsimp only at HLOT
  have l1 := run_bd47 id x2 hx1
  clear hq2 hq3 hq4
  go_enter Tryd.func21, Tryd.ntmps21
  go_wp2_with fail
  refine HC1.out.mono ?_
  rintro en w1 ⟨rfl, hp1, hg1⟩
  have G1 := Lib.hid (grown_trans G0.out hg1)
  have R1 := Lib.hid (R0.out.later hg1 (by intro q; have := Option.some.inj q; omega))
  have hc2 := rtext_any w1 g A c l k1 e1 120 hp1 (by omega)
  have hq2 : rText l ((120 : Nat) : Int) k1 e1 = (x2, k2, e2) := HQ2.out
  rw [hq2] at hc2
  dsimp only at hc2
  have HC2 := Lib.hid hc2
  clear hc2 hq2 hp1 hg1 HC1 HP G0 R0
  go_wp2_with fail
  refine HC2.out.mono ?_
  rintro en w2 ⟨rfl, hp2, hg2⟩
  have G2 := Lib.hid (grown_trans G1.out hg2)
  have R2 := Lib.hid (R1.out.later hg2 (by intro q; have := Option.some.inj q; omega))
  have hw2 := G2.out.size
  have hw2' := R2.out.lt
  have n0 : Ar (w2.alloc (.cells zM.cells.toArray 47)) w2.heap.size 47 zM.cells := Ar.new w2 _ _
  have hst := stM47 (n := ⟨⟨id, x2, 0, false, false, false, []⟩, none, 0⟩) n0 rfl hx1
  have hga : w2.grownBy (w2.alloc (.cells zM.cells.toArray 47)) none := grown_alloc (grown_refl w2 none) _
  have hgr := grown_row (w2.alloc (.cells zM.cells.toArray 47)) w2.heap.size (Mot.mk ⟨id, x2, 0, false, false, false, []⟩ none 0).cells.toArray
  have T2 : Hid (Ts w ((w2.alloc (.cells zM.cells.toArray 47)).setRow w2.heap.size (Mot.mk ⟨id, x2, 0, false, false, false, []⟩ none 0).cells.toArray) g A c l w2.heap.size ⟨⟨id, x2, 0, false, false, false, []⟩, none, 0⟩ k2 e2) := Lib.hid
    ⟨Rd.past H0.out (hp2.later hga) hgr (by omega), grown_past (grown_trans G2.out (grown_any hga _)) hgr (by omega), (R2.out.alloc _).past _ _ (by omega), n0.setRow _, by omega⟩
  clear hp2 hg2 n0 hga hgr HC2 R1 G1 R2 G2
  go_wp2_with fail
  generalize (w2.alloc (.cells zM.cells.toArray 47)).setRow w2.heap.size (Mot.mk ⟨id, x2, 0, false, false, false, []⟩ none 0).cells.toArray = w3 at *
  generalize hX : w2.heap.size = X at *
  clear hst hX l1
  have hb3 := big1_lt l k2 e2
  have hb4 := big1_lt l k3 e3
  have hc3 := rbyte_any w3 g A c l k2 e2 T2.out.rp
  rw [HQ3.out] at hc3 hb3
  rw [HQ4.out] at hb4
  dsimp only at hc3 hb3 hb4
  have HC3 := Lib.hid hc3
  clear hc3
  refine HC3.out.mono ?_
  rintro en w4 ⟨rfl, hp4, hg4⟩
  have T4 := Lib.hid (T2.out.read hp4 hg4 hglt)
  have c33 := T4.out.rx.cell (setAlgo_at _ hx1)
  have f33 := T4.out.rx.frozen 33
  clear HC3 T2 hp4 hg4
  go_wp2_with fail
  have T5 := Lib.hid (T4.out.set H0.out 33 (.int .i64 (x3 : Int)) (setAlgo (m := ⟨⟨id, x2, 0, false, false, false, []⟩, none, 0⟩) hx1 (x3 : Int)))
  clear T4 c33 f33
  generalize w4.setCell ⟨X, 33, none⟩ (.int .i64 (x3 : Int)) = w5 at *
  have hc5 := rbyte_any w5 g A c l k3 e3 T5.out.rp
  rw [HQ4.out] at hc5
  dsimp only at hc5
  have HC5 := Lib.hid hc5
  clear hc5
  refine HC5.out.mono ?_
  rintro en w6 ⟨rfl, hp6, hg6⟩
  have T6 : Hid (Ts w w6 g A c l X ⟨⟨id, x2, (x3 : Int), false, false, false, []⟩, none, 0⟩ k4 e4) := Lib.hid (T5.out.read hp6 hg6 hglt)
  have HE6 := Lib.hid (rerr_any w6 g A c l k4 e4 hp6)
  clear hp6 hg6 HC5 T5
  by_cases he4 : e4 = 0
  · by_cases h7 : 7 < x4
    · have RES : Hid (res = (default, k4, 12)) := Lib.hid (by rw [HLOT.out, if_neg (by omega), if_pos h7])
      have hst := stM47 (n := zM) T6.out.r0 rfl rfl
      have R9 := Lib.hid (T6.out.r0.setRow zM.cells)
      have G9 := Lib.hid (grown_past T6.out.gr (grown_row w6 w.heap.size zM.cells.toArray) (Nat.le_refl _))
      clear HLOT
      subst he4
      go_wp2_with (go_at_call 57; refine HE6.out.mono ?_; rintro e w1 ⟨rfl, hw1⟩; subst w1)
      refine bodyPost_ret (results_cell2 rfl _ _ ⟨w.heap.size, 0, none⟩ rfl (R9.out.load zM_len Tryd.underlying47 rfl inf47)) rfl ?_
      exact ⟨zM, by rw [RES.out]; rfl, rfl, G9.out, fun h0 => absurd (show (12 : Nat) = 0 by rw [RES.out] at h0; exact h0) (by omega)⟩
    · have hx4 : x4 ≤ 7 := by omega
      have b0 : decide (0 < Go.bits BinOp.and IntKind.u8 (x4 : Int) 1) = bitP x4 0 := bit_and x4 hx4 0
      have b1 : decide (0 < Go.bits BinOp.and IntKind.u8 (x4 : Int) 2) = bitP x4 1 := bit_and x4 hx4 1
      have b2 : decide (0 < Go.bits BinOp.and IntKind.u8 (x4 : Int) 4) = bitP x4 2 := bit_and x4 hx4 2
      have t7 := T6.out.set H0.out 34 (.bool (bitP x4 0)) (setDe (m := ⟨⟨id, x2, (x3 : Int), false, false, false, []⟩, none, 0⟩) hx1 (bitP x4 0))
      have t8 := t7.set H0.out 35 (.bool (bitP x4 1)) (setMo hx1 (bitP x4 1))
      have t9 := t8.set H0.out 36 (.bool (bitP x4 2)) (setCo hx1 (bitP x4 2))
      have d0 := T6.out.rx.cell (m_at _ hx1 2 rfl)
      have f0 := T6.out.rx.frozen 34
      have d1 := t7.rx.cell (m_at _ hx1 3 rfl)
      have f1 := t7.rx.frozen 35
      have d2 := t8.rx.cell (m_at _ hx1 4 rfl)
      have f2 := t8.rx.frozen 36
      have T9 := Lib.hid t9
      have RES := Lib.hid (HLOT.out.trans ((if_neg (by omega)).trans (if_neg h7)))
      subst he4
      clear HLOT t7 t8 t9
      go_wp2_with (go_at_call 57; refine HE6.out.mono ?_; rintro e w1 ⟨rfl, hw1⟩; subst w1)
      have hn0 := rVar_le l 400 k4 0
      have hc10 := rvar_any _ g A c l k4 0 400 T9.out.rp
      generalize hq5 : rVar l 400 k4 0 = q5 at *
      obtain ⟨n0, k5, e5⟩ := q5
      dsimp only at hn0 hc10 RES
      have HC10 := Lib.hid hc10
      clear hc10 hq5 b0 b1 b2 d0 d1 d2 f0 f1 f2 HE6 T6
      generalize ((w6.setCell ⟨X, 34, none⟩ (.bool (bitP x4 0))).setCell ⟨X, 35, none⟩ (.bool (bitP x4 1))).setCell ⟨X, 36, none⟩ (.bool (bitP x4 2)) = w9 at *
      refine HC10.out.mono ?_
      rintro en w10 ⟨rfl, hp10, hg10⟩
      have T10 : Hid (Ts w w10 g A c l X ⟨⟨id, x2, (x3 : Int), bitP x4 0, bitP x4 1, bitP x4 2, []⟩, none, 0⟩ k5 e5) := Lib.hid (T9.out.read hp10 hg10 hglt)
      clear hp10 hg10 HC10 T9
      generalize bitP x4 0 = b0 at *
      generalize bitP x4 1 = b1 at *
      generalize bitP x4 2 = b2 at *
      generalize hOP : orgsP l n0 [] k5 e5 = op at *
      have HOP := Lib.hid hOP
      clear hOP HQ2 HQ3 HQ4
      go_wp2_with fail
      go_loopw [7] (fun nv wr => ∃ (n : Nat) (acc : List Org) (D : Option Addr) (d k' e' : Nat), nv = .int .u64 n ∧ acc.length + n ≤ 400 ∧ Hid (orgsP l n acc k' e' = op) ∧ Hid (Ts w wr g A c l X ⟨⟨id, x2, (x3 : Int), b0, b1, b2, acc⟩, D, d⟩ k' e') ∧ Hid (wr.ownsRow (X + 1) 52 34 (.slice D acc.length d) acc.length (orgs acc)) ∧ Hid (∀ o ∈ acc, o.ok)) (fun nv _ => (intOf nv).toNat)
      case atStart => exact ⟨n0, [], none, 0, k5, e5, rfl, by simp; omega, HOP, T10, World.ownsRow_nil _ _ _ _, Lib.hid (by simp)⟩
      case round =>
        clear T10 HOP hn0
        obtain ⟨n, acc, D, d, k', e', rfl, hlen, hop, ts, ho, hoks⟩ := hrel
        have HE := Lib.hid (rerr_any wr g A c l k' e' ts.out.rp)
        by_cases hex : n = 0 ∨ e' ≠ 0
        · have hend := orgsP_end l n acc k' e' hex
          rw [hop.out] at hend
          have RS : Hid (res = (⟨id, x2, (x3 : Int), b0, b1, b2, acc⟩, k', e')) := Lib.hid (by rw [RES.out, hend])
          have TD : Hid (Ts w wr.drew g A c l X ⟨⟨id, x2, (x3 : Int), b0, b1, b2, acc⟩, D, d⟩ k' e') := Lib.hid (ts.out.grown (grown_drew (grown_refl wr none)))
          have OD : Hid (wr.drew.ownsRow (X + 1) 52 34 (.slice D acc.length d) acc.length (orgs acc)) := ho
          clear hend hop
          rcases Nat.eq_zero_or_pos n with hz | hpos
          · subst hz
            go_wp2_with fail
            refine region_ofz 3 (fun W => W = wr.drew) (by kernel_rfl) ?_
            have LD : ∀ W, W = wr.drew → (ldT 47 ⟨X, 0, none⟩).run Tryd.prog W = .ok (.agg (Mot.mk ⟨id, x2, (x3 : Int), b0, b1, b2, acc⟩ D d).cells.toArray) W := fun W hW => by rw [hW]; exact b47 TD.out.rx hx1
            have HE2 := Lib.hid (rerr_any wr.drew g A c l k' e' TD.out.rp)
            have hst := stM47 (n := ⟨⟨id, x2, (x3 : Int), b0, b1, b2, acc⟩, D, d⟩) TD.out.r0 rfl hx1
            have R9 := Lib.hid (TD.out.r0.setRow (Mot.mk ⟨id, x2, (x3 : Int), b0, b1, b2, acc⟩ D d).cells)
            have G9 := Lib.hid (grown_past TD.out.gr (grown_row wr.drew w.heap.size (Mot.mk ⟨id, x2, (x3 : Int), b0, b1, b2, acc⟩ D d).cells.toArray) (Nat.le_refl _))
            have O9 := Lib.hid (own_row OD.out w.heap.size (Mot.mk ⟨id, x2, (x3 : Int), b0, b1, b2, acc⟩ D d).cells.toArray (fun q => by have := (OD.out.lt _ q).1; have := TD.out.hX; omega))
            have P9 := Lib.hid (Rd.past H0.out TD.out.rp (grown_row wr.drew w.heap.size (Mot.mk ⟨id, x2, (x3 : Int), b0, b1, b2, acc⟩ D d).cells.toArray) (Nat.le_refl _))
            have HXX := TD.out.hX
            have HML := Lib.hid (Mot.len (m := ⟨⟨id, x2, (x3 : Int), b0, b1, b2, acc⟩, D, d⟩) hx1)
            refine anyZ_take 0 (v := ?_) rfl rfl (by kernel_rfl) (by kernel_rfl) (by kernel_rfl) (by kernel_rfl) (by kernel_rfl) (fun _ _ _ h => h) rfl (fun W hW => ?_) ?_
            rotate_left
            · go_simp
              try rfl
            simp only [Act.put]
            refine anyZ_free 1 (v := ?_) (.inr rfl) rfl (by kernel_rfl) (by kernel_rfl) (by kernel_rfl) (by decide) (fun _ _ _ h => h) rfl (fun W => ?_) ?_
            rotate_left
            · go_simp
              try rfl
            simp only [Act.put]
            refine anyZ_one 2 (.inr rfl) (by kernel_rfl) rfl ?_
            go_wp2_with (go_at_call 57; refine HE2.out.mono ?_; rintro e w1 ⟨rfl, hw1⟩; subst w1)
            refine anyZ_one 3 (.inr rfl) (by kernel_rfl) rfl ?_
            go_wp2_with fail
            refine anyZ_one 4 (.inl (by kernel_rfl)) (by kernel_rfl) rfl ?_
            go_wp2_with fail
            refine anyZ_done (by kernel_rfl) (by kernel_rfl) ?_ _
            go_wp2_with fail
            refine bodyPost_ret (results_cell2 rfl _ _ ⟨w.heap.size, 0, none⟩ rfl (R9.out.load HML.out Tryd.underlying47 rfl inf47)) rfl ?_
            refine ⟨⟨⟨id, x2, (x3 : Int), b0, b1, b2, acc⟩, D, d⟩, by rw [RS.out]; rfl, hx1, G9.out, fun h0 => ?_⟩
            rw [RS.out] at h0 ⊢
            dsimp only at h0 ⊢
            exact ⟨rfl, own_less O9.out (by omega), by rw [← h0]; exact P9.out⟩
          · have hne : e' ≠ 0 := by omega
            have q1 : ((e' : Int) == 0) = false := beq_eq_false_iff_ne.2 (by omega)
            go_wp2_with (go_at_call 57; refine HE.out.mono ?_; rintro e w1 ⟨rfl, hw1⟩; subst w1)
            refine region_ofz 3 (fun W => W = wr.drew) (by kernel_rfl) ?_
            have LD : ∀ W, W = wr.drew → (ldT 47 ⟨X, 0, none⟩).run Tryd.prog W = .ok (.agg (Mot.mk ⟨id, x2, (x3 : Int), b0, b1, b2, acc⟩ D d).cells.toArray) W := fun W hW => by rw [hW]; exact b47 TD.out.rx hx1
            have HE2 := Lib.hid (rerr_any wr.drew g A c l k' e' TD.out.rp)
            have hst := stM47 (n := ⟨⟨id, x2, (x3 : Int), b0, b1, b2, acc⟩, D, d⟩) TD.out.r0 rfl hx1
            have R9 := Lib.hid (TD.out.r0.setRow (Mot.mk ⟨id, x2, (x3 : Int), b0, b1, b2, acc⟩ D d).cells)
            have G9 := Lib.hid (grown_past TD.out.gr (grown_row wr.drew w.heap.size (Mot.mk ⟨id, x2, (x3 : Int), b0, b1, b2, acc⟩ D d).cells.toArray) (Nat.le_refl _))
            have O9 := Lib.hid (own_row OD.out w.heap.size (Mot.mk ⟨id, x2, (x3 : Int), b0, b1, b2, acc⟩ D d).cells.toArray (fun q => by have := (OD.out.lt _ q).1; have := TD.out.hX; omega))
            have P9 := Lib.hid (Rd.past H0.out TD.out.rp (grown_row wr.drew w.heap.size (Mot.mk ⟨id, x2, (x3 : Int), b0, b1, b2, acc⟩ D d).cells.toArray) (Nat.le_refl _))
            have HXX := TD.out.hX
            have HML := Lib.hid (Mot.len (m := ⟨⟨id, x2, (x3 : Int), b0, b1, b2, acc⟩, D, d⟩) hx1)
            refine anyZ_take 0 (v := ?_) rfl rfl (by kernel_rfl) (by kernel_rfl) (by kernel_rfl) (by kernel_rfl) (by kernel_rfl) (fun _ _ _ h => h) rfl (fun W hW => ?_) ?_
            rotate_left
            · go_simp
              try rfl
            simp only [Act.put]
            refine anyZ_free 1 (v := ?_) (.inr rfl) rfl (by kernel_rfl) (by kernel_rfl) (by kernel_rfl) (by decide) (fun _ _ _ h => h) rfl (fun W => ?_) ?_
            rotate_left
            · go_simp
              try rfl
            simp only [Act.put]
            refine anyZ_one 2 (.inr rfl) (by kernel_rfl) rfl ?_
            go_wp2_with (go_at_call 57; refine HE2.out.mono ?_; rintro e w1 ⟨rfl, hw1⟩; subst w1)
            refine anyZ_one 3 (.inr rfl) (by kernel_rfl) rfl ?_
            go_wp2_with fail
            refine anyZ_one 4 (.inl (by kernel_rfl)) (by kernel_rfl) rfl ?_
            go_wp2_with fail
            refine anyZ_done (by kernel_rfl) (by kernel_rfl) ?_ _
            go_wp2_with fail
            refine bodyPost_ret (results_cell2 rfl _ _ ⟨w.heap.size, 0, none⟩ rfl (R9.out.load HML.out Tryd.underlying47 rfl inf47)) rfl ?_
            refine ⟨⟨⟨id, x2, (x3 : Int), b0, b1, b2, acc⟩, D, d⟩, by rw [RS.out]; rfl, hx1, G9.out, fun h0 => ?_⟩
            rw [RS.out] at h0 ⊢
            dsimp only at h0 ⊢
            exact ⟨rfl, own_less O9.out (by omega), by rw [← h0]; exact P9.out⟩
        · have he0 : e' = 0 := by omega
          subst he0
          obtain ⟨n', rfl⟩ : ∃ n', n = n' + 1 := ⟨n - 1, by omega⟩
          have TD : Hid (Ts w wr.drew g A c l X ⟨⟨id, x2, (x3 : Int), b0, b1, b2, acc⟩, D, d⟩ k' 0) := Lib.hid (ts.out.grown (grown_drew (grown_refl wr none)))
          have OD : Hid (wr.drew.ownsRow (X + 1) 52 34 (.slice D acc.length d) acc.length (orgs acc)) := ho
          have HC0 := Lib.hid (TD.out.rx.cell (m_at _ hx1 5 rfl))
          have hc3 := pid_any wr.drew g A c l k' 0 TD.out.rp
          have hp := hop.out
          rw [orgsP, if_neg (by omega)] at hp
          unfold orgP at hp
          dsimp only at hp
          have hys := rTake_small l 32 k' 0
          generalize rTake l 32 k' 0 = p1 at *
          obtain ⟨y1, ka, ea⟩ := p1
          dsimp only at hp hc3 hys
          have hy1 := padI_len y1 hys
          generalize padI y1 = yid at *
          have hyt := rText_le l ka ea
          generalize hp2 : rText l 120 ka ea = p2 at *
          obtain ⟨y2, kb, eb⟩ := p2
          dsimp only at hp hyt
          have hyv := rVar_le l 399 kb eb
          generalize hp3 : rVar l 399 kb eb = p3 at *
          obtain ⟨y3, kc, ec⟩ := p3
          dsimp only at hp hyv
          have HPN := Lib.hid hp
          have HP2 := Lib.hid hp2
          have HP3 := Lib.hid hp3
          have HC3 := Lib.hid hc3
          have HOK : Hid (∀ o ∈ acc ++ [(⟨yid, y2, (y3 : Int)⟩ : Org)], o.ok) := Lib.hid fun o ho => by
            rcases List.mem_append.1 ho with h | h
            · exact hoks.out o h
            · rw [List.mem_singleton.1 h]
              exact ⟨hy1, by dsimp only; unfold maxLen; omega⟩
          have HOA := Lib.hid (show orgs acc ++ (Org.mk yid y2 (y3 : Int)).cells = orgs (acc ++ [⟨yid, y2, (y3 : Int)⟩]) by rw [← orgs_single, orgs_app])
          have wy3 : IntKind.i64.wrap (y3 : Int) = (y3 : Int) := IntWalk.i64_in _ (by omega)
          have l9 := fun W => run_bd52 yid y2 (y3 : Int) hy1 W
          clear hp hp2 hp3 hc3 hop ts ho hoks hys
          go_wp2_with (go_at_call 57; refine HE.out.mono ?_; rintro e w1 ⟨rfl, hw1⟩; subst w1)
          clear HE
          refine region_ofz 13 (fun W => W.cell? ⟨X, 37, none⟩ = some (.slice D acc.length d)) (by kernel_rfl) ?_
          refine anyZ_free 0 (v := ?_) (.inr HC0.out) rfl (by kernel_rfl) (by kernel_rfl) (by kernel_rfl) (by decide) (fun _ _ _ h => h) rfl (fun W => ?_) ?_
          rotate_left
          · go_simp
            try rfl
          simp only [Act.put]
          refine anyZ_take 1 (v := ?_) HC0.out rfl (by kernel_rfl) (by kernel_rfl) (by kernel_rfl) (by kernel_rfl) (by kernel_rfl) (fun _ _ _ h => h) rfl (fun W hW => ?_) ?_
          rotate_left
          · go_simp
            try rfl
          simp only [Act.put]
          refine anyZ_free 2 (v := ?_) (.inr HC0.out) rfl (by kernel_rfl) (by kernel_rfl) (by kernel_rfl) (by decide) (fun _ _ _ h => h) rfl (fun W => ?_) ?_
          rotate_left
          · go_simp
            try rfl
          simp only [Act.put]
          refine anyZ_free 4 (v := ?_) (.inr HC0.out) rfl (by kernel_rfl) (by kernel_rfl) (by kernel_rfl) (by decide) (fun _ _ _ h => h) rfl (fun W => ?_) ?_
          rotate_left
          · go_simp
            try rfl
          simp only [Act.put]
          refine anyZ_free 6 (v := ?_) (.inr HC0.out) rfl (by kernel_rfl) (by kernel_rfl) (by kernel_rfl) (by decide) (fun _ _ _ h => h) rfl (fun W => ?_) ?_
          rotate_left
          · go_simp
            try rfl
          simp only [Act.put]
          refine anyZ_one 3 (.inr HC0.out) (by kernel_rfl) rfl ?_
          go_wp2_with (go_at_call 54; refine HC3.out.mono ?_; rintro en w11 ⟨rfl, hp11, hg11⟩; have T11 := Lib.hid (TD.out.read hp11 hg11 hglt); have O11 := Lib.hid (own_low OD.out hg11 (by have := TD.out.hX; omega)); clear hp11 hg11 HC3)
          have HC0 := Lib.hid (T11.out.rx.cell (m_at _ hx1 5 rfl))
          have hc4 := rtext_any w11 g A c l ka ea 120 T11.out.rp (by omega)
          have hq4 : rText l ((120 : Nat) : Int) ka ea = (y2, kb, eb) := HP2.out
          rw [hq4] at hc4
          dsimp only at hc4
          have HC4 := Lib.hid hc4
          clear hc4 hq4 TD OD
          refine anyZ_one 5 (.inr HC0.out) (by kernel_rfl) rfl ?_
          go_wp2_with (go_at_call 55; refine HC4.out.mono ?_; rintro en w12 ⟨rfl, hp12, hg12⟩; have T12 := Lib.hid (T11.out.read hp12 hg12 hglt); have O12 := Lib.hid (own_low O11.out hg12 (by have := T11.out.hX; omega)); clear hp12 hg12 HC4)
          have HC0 := Lib.hid (T12.out.rx.cell (m_at _ hx1 5 rfl))
          have hc5 := rvar_any w12 g A c l kb eb 399 T12.out.rp
          rw [HP3.out] at hc5
          dsimp only at hc5
          have HC5 := Lib.hid hc5
          clear hc5 T11 O11
          refine anyZ_one 7 (.inr HC0.out) (by kernel_rfl) rfl ?_
          go_wp2_with (go_at_call 58; refine HC5.out.mono ?_; rintro en w13 ⟨rfl, hp13, hg13⟩; have T13 := Lib.hid (T12.out.read hp13 hg13 hglt); have O13 := Lib.hid (own_low O12.out hg13 (by have := T12.out.hX; omega)); clear hp13 hg13 HC5)
          have HC0 := Lib.hid (T13.out.rx.cell (m_at _ hx1 5 rfl))
          clear T12 O12
          refine anyZ_free 8 (v := ?_) (.inr HC0.out) rfl (by kernel_rfl) (by kernel_rfl) (by kernel_rfl) (by decide) (fun _ _ _ h => h) rfl (fun W => ?_) ?_
          rotate_left
          · go_simp
            try rfl
          simp only [Act.put]
          refine anyZ_free 9 (v := ?_) (.inr HC0.out) rfl (by kernel_rfl) (by kernel_rfl) (by kernel_rfl) (by decide) (fun _ _ _ h => h) rfl (fun W => ?_) ?_
          rotate_left
          · go_simp
            try rfl
          simp only [Act.put]
          have l10 := run_bs45 (o := ⟨yid, y2, (y3 : Int)⟩) hy1 w13
          have NW := Lib.hid (new_rv w13 (Org.mk yid y2 (y3 : Int)).cells 52 _ rfl)
          have T14 := Lib.hid (T13.out.grown (grown_alloc (grown_refl w13 none) (.cells (Org.mk yid y2 (y3 : Int)).cells.toArray 52)))
          have O14 := Lib.hid (O13.out.alloc (.cells (Org.mk yid y2 (y3 : Int)).cells.toArray 52))
          have HML := Lib.hid (Org.len (o := ⟨yid, y2, (y3 : Int)⟩) hy1)
          have HON := Lib.hid (Org.one ⟨yid, y2, (y3 : Int)⟩)
          have hXs := T13.out.rx.lt
          have hs14 : (w13.alloc (.cells (Org.mk yid y2 (y3 : Int)).cells.toArray 52)).heap.size = w13.heap.size + 1 := World.size_alloc _ _
          refine anyZ_one 10 (.inr HC0.out) (by kernel_rfl) rfl ?_
          go_wp2_with fail
          have HC0 := Lib.hid (T14.out.rx.cell (m_at _ hx1 5 rfl))
          refine anyZ_one 11 (.inr HC0.out) (by kernel_rfl) rfl ?_
          refine wpList_app sl45 rfl (.tmp 56) (.tmp 65) rfl (X + 1) (.slice D acc.length d) acc.length (orgs acc) rfl O14.out (some ⟨w13.heap.size, 0, none⟩) 1 1 (Org.mk yid y2 (y3 : Int)).cells rfl (fun e => by cases e) (by rw [HML.out]) NW.out HON.out (by unfold maxLen; omega) (by omega) (by rw [hs14]; omega) ?_
          intro v16 w16 ho16 ha16
          rw [HOA.out] at ho16
          have T16 := Lib.hid (T14.out.beside H0.out ha16.grown (fun q hq => (O14.out.lt q hq).1))
          obtain ⟨D2, d2, hv16, _⟩ := own_all ho16
          subst hv16
          have O16 := Lib.hid ho16
          have HC0 := Lib.hid (T16.out.rx.cell (m_at _ hx1 5 rfl))
          have c37 := T16.out.rx.cell (m_at _ hx1 5 rfl)
          have f37 := T16.out.rx.frozen 37
          have T17 : Hid (Ts w (w16.setCell ⟨X, 37, none⟩ (.slice D2 (acc.length + 1) d2)) g A c l X ⟨⟨id, x2, (x3 : Int), b0, b1, b2, acc ++ [⟨yid, y2, (y3 : Int)⟩]⟩, D2, d2⟩ kc ec) := Lib.hid (T16.out.set H0.out 37 _ (setOs hx1 (acc ++ [⟨yid, y2, (y3 : Int)⟩]) D2 d2 (acc.length + 1) (by simp)))
          have O17 := Lib.hid (own_low O16.out (grown_cell w16 X 37 (.slice D2 (acc.length + 1) d2)) (by omega))
          clear ho16 ha16 T13 O13 T14 O14 l9 l10 NW
          go_wp2_with fail
          refine anyZ_one 12 (.inr HC0.out) (by kernel_rfl) rfl ?_
          go_wp2_with fail
          refine anyZ_one 13 (.inr HC0.out) (by kernel_rfl) rfl ?_
          go_wp2_with fail
          refine anyZ_done (by kernel_rfl) (by kernel_rfl) ?_ _
          go_wp2_with fail
          refine ⟨⟨n', acc ++ [⟨yid, y2, (y3 : Int)⟩], D2, d2, kc, ec, by go_num, by simp only [List.length_append, List.length_cons, List.length_nil]; omega, HPN, T17, ?_, HOK⟩, by simp [intOf]⟩
          rw [List.length_append]
          exact O17
  · have RES : Hid (res = (default, k4, e4)) := Lib.hid (by rw [HLOT.out, if_pos he4])
    have hst := stM47 (n := zM) T6.out.r0 rfl rfl
    have R9 := Lib.hid (T6.out.r0.setRow zM.cells)
    have G9 := Lib.hid (grown_past T6.out.gr (grown_row w6 w.heap.size zM.cells.toArray) (Nat.le_refl _))
    have b1 : ((e4 : Int) == 0) = false := beq_eq_false_iff_ne.2 (by omega)
    clear HLOT
    go_wp2_with (go_at_call 57; refine HE6.out.mono ?_; rintro e w1 ⟨rfl, hw1⟩; subst w1)
    refine bodyPost_ret (results_cell2 rfl _ _ ⟨w.heap.size, 0, none⟩ rfl (R9.out.load zM_len Tryd.underlying47 rfl inf47)) rfl ?_
    exact ⟨zM, by rw [RES.out]; rfl, rfl, G9.out, fun h0 => absurd (show e4 = 0 by rw [RES.out] at h0; exact h0) he4⟩
end Go.Proofs.YthhmamkphcgocaaDoor

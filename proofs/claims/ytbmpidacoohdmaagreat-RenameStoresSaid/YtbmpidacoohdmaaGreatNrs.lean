/- rename: near, where no text can be read. -/
import Derived.Test.YtbmpidacoohdmaaGreatNro
namespace Go.Proofs.YtbmpidacoohdmaaGreat
open Go.RowKit Op
open Rn (Chg LReads CellsAt Fnd St isSource isTarget)

theorem Rn.Fnd.chsg {w w2 : World} {g B b F S K T : Nat} {A : Option Addr} {c : Nat} {l : List Chg} {s : St} (h : Fnd w B b F S K T A c l s) (hc : Chs (fun q => q = g) w w2) (hgB : g < B) (hA : ∀ ad, A = some ad → ad.block ≠ g) : Fnd w2 B b F S K T A c l s := by
  have lt : ∀ {q : Nat} {o : Obj}, w.heap[q]? = some o → q < w.heap.size := fun h => (Array.getElem?_eq_some_iff.1 h).1
  have up : ∀ {q : Nat} {o : Obj}, w.heap[q]? = some o → B ≤ q → w2.heap[q]? = some o := fun {q} {o} h hq => (hc.block q (lt h) (fun e => by omega)).trans h
  refine ⟨up h.self h.bb, up h.hF h.bF, up h.hS h.bS, up h.hK h.bK, up h.hT h.bT, h.lF, h.lS, h.lK, h.lT, h.bb, h.bF, h.bS, h.bK, h.bT, h.FSX, h.FK, h.SK, fun k x hx => ?_, h.oks, h.short⟩
  obtain ⟨ad, e, hb, hcs⟩ := h.reads k x hx
  refine ⟨ad, e, hb, hcs.keep fun p hp => ?_⟩
  rw [block_add] at hp
  have hB : B ≤ w.heap.size := Nat.le_trans h.bb (Nat.le_of_lt (lt h.self))
  exact World.cell?_of_block (hc.block p.block (by rw [hp]; omega) (fun q => hA ad e (by rw [← hp]; exact q)))
def limN (o : Int) : Int := if o < 0 ∨ 32 < o then 32 else o
/-- Is nothing held against anything? -/
def earlyN (o1 o2 : Int) (a b : Nat) : Prop := 1000 < o1 ∨ a = 0 ∨ b = 0 ∨ limN o2 < a ∨ limN o2 < b
instance (o1 o2 : Int) (a b : Nat) : Decidable (earlyN o1 o2 a b) := by unfold earlyN; infer_instance
def srcs (l : List Chg) (s : St) : List Nat := pls (isSource l s) l.length
def tgts (l : List Chg) (s : St) : List Nat := pls (isTarget l s) l.length
def oldI (l : List Chg) (s : St) : List (List UInt8) := (srcs l s).map fun k => u8b (l.getD k default).oid
def newI (l : List Chg) (s : St) : List (List UInt8) := (tgts l s).map fun k => u8b (l.getD k default).nid
theorem Rn.Fnd.blt {w : World} {B b F S K T : Nat} {A : Option Addr} {c : Nat} {l : List Chg} {s : St} (h : Fnd w B b F S K T A c l s) : B ≤ w.heap.size := Nat.le_trans h.bb (Nat.le_of_lt (Array.getElem?_eq_some_iff.1 h.self).1)
structure NPost (w : World) (g m : Nat) (l0 : List Ent) (t : Int) (B b F S K T : Nat) (A : Option Addr) (c : Nat) (l : List Chg) (s : St) (w2 : World) : Prop where
  st : ∃ kn, Psp w2 g m l0 t kn
  fd : Fnd w2 B b F S K T A c l s
  chs : Chs (fun k => k = g) w w2
attribute [local go_sem ↓] bsI_eq load42_eq
set_option maxRecDepth 100000 in
set_option maxHeartbeats 1000000 in
theorem near_short (w : World) (g m : Nat) (l0 : List Ent) (t kn : Int) (f : List UInt8 → Option (List UInt8)) (hs : Psp w g m l0 t kn) (hc : Cnt l0 f) (B b F S K T : Nat) (A : Option Addr) (c : Nat) (l : List Chg) (s : St) (hf : Fnd w B b F S K T A c l s) (hby : BytL l) (hgB : g < B) (hA : ∀ ad, A = some ad → ad.block ≠ g) (o1 o2 : Int) (o3 : Bool) (hno : ¬ earlyN o1 o2 (srcs l s).length (tgts l s).length → txs f (oldI l s) = none) :
    Calls Tryz.prog 19 #[.pointer (some ⟨b, 0, none⟩), .pointer (some ⟨g, 0, none⟩), .agg #[.int .i64 o1, .int .i64 o2, .bool o3]] w fun e w2 => e = .returned (.int .i64 (if earlyN o1 o2 (srcs l s).length (tgts l s).length then 0 else 30)) ∧ NPost w g m l0 t B b F S K T A c l s w2 := by
  obtain ⟨r, hr⟩ : ∃ r : Int, (if earlyN o1 o2 (srcs l s).length (tgts l s).length then 0 else 30) = r := ⟨_, rfl⟩
  rw [hr]
  have HR0 := Lib.hid (fun h : earlyN o1 o2 (srcs l s).length (tgts l s).length => hr.symm.trans (if_pos h))
  have HR1 := Lib.hid (fun h : ¬ earlyN o1 o2 (srcs l s).length (tgts l s).length => hr.symm.trans (if_neg h))
  clear hr
  have HC := Lib.hid hc
  have HY := Lib.hid hby
  have HA := Lib.hid hA
  have HGB := Lib.hid hgB
  have HNO := Lib.hid hno
  have B0 := Lib.hid (((Below.refl w.heap.size w).alloc (Nat.le_refl _) (.cells #[.pointer (some ⟨b, 0, none⟩)] 67)).alloc (by simp) (.cells #[.int .i64 o1, .int .i64 o2, .bool o3] 26))
  have H0 := Lib.hid ((Ar.new w [.pointer (some ⟨b, 0, none⟩)] 67).alloc (.cells #[.int .i64 o1, .int .i64 o2, .bool o3] 26))
  have O0 := Lib.hid (Ar.new (w.alloc (.cells #[.pointer (some ⟨b, 0, none⟩)] 67)) [.int .i64 o1, .int .i64 o2, .bool o3] 26)
  have hsz : (w.alloc (.cells #[.pointer (some ⟨b, 0, none⟩)] 67)).heap.size = w.heap.size + 1 := by simp
  rw [hsz] at O0
  have P0 := Lib.hid (hs.below B0.out)
  have F0 : Hid (Fnd ((w.alloc (.cells #[.pointer (some ⟨b, 0, none⟩)] 67)).alloc (.cells #[.int .i64 o1, .int .i64 o2, .bool o3] 26)) B b F S K T A c l s) := Lib.hid (hf.keep fun q hq => B0.out.block q hq)
  have hc1 := O0.out.cell (k := 1) rfl
  clear hs hc hf hby hgB hA hno
  generalize hw0 : (w.alloc (.cells #[.pointer (some ⟨b, 0, none⟩)] 67)).alloc (.cells #[.int .i64 o1, .int .i64 o2, .bool o3] 26) = w0 at *
  go_enter Tryz.func19, Tryz.ntmps19
  by_cases c1 : o2 < 0
  · have LM : Hid (limN o2 = 32) := Lib.hid (by unfold limN; rw [if_pos (.inl c1)])
    go_upto_region 4 with fail
    clear hc1
    refine near4 w0 B b F S K T A c l s w.heap.size F0.out H0.out _ _ _ _ _ _ _ _ _ _ _ _ _ _ _ _ _ _ _ _ _ _ _ _ _ _ _ _ _ _ _ _ _ _ _ _ _ _ _ _ _ _ _ _ _ _ _ _ _ _ _ _ _ _ _ _ _ _ _ _ _ _ _ _ _ _ _ _ _ _ _ _ _ _ _ _ _ _ _ _ _ _ _ _ _ _ _ _ _ _ _ _ _ _ _ _ _ _ _ _ _ _ _ _ _ _ _ _ _ _ _ _ _ _ _ _ _ _ _ _ _ _ _ _ _ _ _ _ _ _ _ _ _ _ _ _ _ _ _ _ _ _ _ _ _ _ _ _ _ _ _ _ _ _ _ _ _ _ (fun _ _ o _ _ h => by cases o <;> exact h) ?_
    refine Lib.hid ?_
    intro p8 p9 D3 D7 d3 d7 w2
    intros
    rename_i h8 h9 o3 o7 hb2
    have P2 := Lib.hid (P0.out.below hb2.out)
    have F2 : Hid (Fnd w2 B b F S K T A c l s) := Lib.hid (F0.out.keep fun q hq => hb2.out.block q hq)
    have B2 := Lib.hid (B0.out.trans (hb2.out.mono B0.out.size))
    have H2 := Lib.hid (H0.out.below hb2.out H0.out.lt)
    have O2 := Lib.hid (O0.out.below hb2.out O0.out.lt)
    have hc0 := O2.out.cell (k := 0) rfl
    have hc8 := h8.out.cell (k := 0) rfl
    have hc9 := h9.out.cell (k := 0) rfl
    change Hid (w2.ownsRow w0.heap.size 3 1 (.slice D3 (srcs l s).length d3) (srcs l s).length (ntI2 (srcs l s))) at o3
    change Hid (w2.ownsRow w0.heap.size 3 1 (.slice D7 (tgts l s).length d7) (tgts l s).length (ntI2 (tgts l s))) at o7
    change w2.cell? ⟨p8, 0, none⟩ = some (.slice D3 (srcs l s).length d3) at hc8
    change w2.cell? ⟨p9, 0, none⟩ = some (.slice D7 (tgts l s).length d7) at hc9
    have hns : (srcs l s).length ≤ l.length := pls_len _ _
    have hnt : (tgts l s).length ≤ l.length := pls_len _ _
    have h40 := F0.out.short
    by_cases e1 : 1000 < o1
    · go_wp2_with fail
      go_ret
      exact ⟨ret_int (HR0.out (.inl e1)).symm, ⟨kn, P2.out⟩, F2.out, Chs.of_below B2.out _⟩
    by_cases e2 : (srcs l s).length = 0
    · have q2 : (((srcs l s).length : Int) == 0) = true := by simp [e2]
      have E2 := Lib.hid e2
      clear e2
      go_wp2_with fail
      go_ret
      exact ⟨ret_int (HR0.out (.inr (.inl E2.out))).symm, ⟨kn, P2.out⟩, F2.out, Chs.of_below B2.out _⟩
    have q2 : (((srcs l s).length : Int) == 0) = false := beq_eq_false_iff_ne.2 (by omega)
    by_cases e3 : (tgts l s).length = 0
    · have q3 : (((tgts l s).length : Int) == 0) = true := by simp [e3]
      have E3 := Lib.hid e3
      clear e3
      go_wp2_with fail
      go_ret
      exact ⟨ret_int (HR0.out (.inr (.inr (.inl E3.out)))).symm, ⟨kn, P2.out⟩, F2.out, Chs.of_below B2.out _⟩
    have q3 : (((tgts l s).length : Int) == 0) = false := beq_eq_false_iff_ne.2 (by omega)
    by_cases e4 : 32 < ((srcs l s).length : Int)
    · go_wp2_with fail
      go_ret
      exact ⟨ret_int (HR0.out (.inr (.inr (.inr (.inl (by rw [LM.out]; exact e4)))))).symm, ⟨kn, P2.out⟩, F2.out, Chs.of_below B2.out _⟩
    by_cases e5 : 32 < ((tgts l s).length : Int)
    · go_wp2_with fail
      go_ret
      exact ⟨ret_int (HR0.out (.inr (.inr (.inr (.inr (by rw [LM.out]; exact e5)))))).symm, ⟨kn, P2.out⟩, F2.out, Chs.of_below B2.out _⟩
    have NE : Hid (¬ earlyN o1 o2 (srcs l s).length (tgts l s).length) := Lib.hid (by unfold earlyN; rw [LM.out]; rintro (h | h | h | h | h) <;> omega)
    have TN := Lib.hid (HNO.out NE.out)
    obtain ⟨_, _, hv3, _, _, hr3, _⟩ := own_all o3.out
    injection hv3 with ha _ hb
    subst ha hb
    obtain ⟨_, _, hv7, _, _, hr7, _⟩ := own_all o7.out
    injection hv7 with ha _ hb
    subst ha hb
    have R7 := Lib.hid hr7
    have R3 := Lib.hid hr3
    have HL3 := Lib.hid (fun k (hk : k ∈ srcs l s) => (pls_mem _ _ k hk).1)
    have HL7 := Lib.hid (fun k (hk : k ∈ tgts l s) => (pls_mem _ _ k hk).1)
    clear e2 e3 hr3 hr7
    go_wp2_with fail
    refine near_o w2 B b F S K T A c l s w.heap.size F2.out H2.out HY.out (srcs l s) D3 d3 HL3.out (by omega) R3.out _ _ _ _ _ _ _ _ _ _ _ _ _ _ _ _ _ _ _ _ _ _ _ _ _ _ _ _ _ _ _ _ _ _ _ _ _ _ _ _ _ _ _ _ _ _ _ _ _ _ _ _ _ _ _ _ _ _ _ _ _ _ _ _ _ _ _ _ _ _ _ _ _ _ _ _ _ _ _ _ _ _ _ _ _ _ _ _ _ _ _ _ _ _ _ _ _ _ _ _ _ _ _ _ _ _ _ _ _ _ _ _ _ _ _ _ _ _ _ _ _ _ _ _ _ _ _ _ _ _ _ _ _ _ _ _ _ _ _ _ _ _ _ _ _ _ _ _ _ _ _ _ _ _ ?_
    refine Lib.hid ?_
    intro ov w3
    intros
    rename_i ho3 hb3
    have hc93 := (h9.out.below hb3.out h9.out.lt).cell (k := 0) rfl
    change w3.cell? ⟨p9, 0, none⟩ = some (.slice D7 (tgts l s).length d7) at hc93
    have F3 : Hid (Fnd w3 B b F S K T A c l s) := Lib.hid (F2.out.keep fun q hq => hb3.out.block q hq)
    have H3 := Lib.hid (H2.out.below hb3.out H2.out.lt)
    have P3 := Lib.hid (P2.out.below hb3.out)
    have B3 := Lib.hid (B2.out.trans (hb3.out.mono B2.out.size))
    have R73 := Lib.hid (R7.out.low hb3.out hb3.out.size)
    clear hc8 hc9 hc0
    go_wp2_with fail
    refine near_n w3 B b F S K T A c l s w.heap.size F3.out H3.out HY.out (tgts l s) D7 d7 HL7.out (by omega) R73.out _ _ _ _ _ _ _ _ _ _ _ _ _ _ _ _ _ _ _ _ _ _ _ _ _ _ _ _ _ _ _ _ _ _ _ _ _ _ _ _ _ _ _ _ _ _ _ _ _ _ _ _ _ _ _ _ _ _ _ _ _ _ _ _ _ _ _ _ _ _ _ _ _ _ _ _ _ _ _ _ _ _ _ _ _ _ _ _ _ _ _ _ _ _ _ _ _ _ _ _ _ _ _ _ _ _ _ _ _ _ _ _ _ _ _ _ _ _ _ _ _ _ _ _ _ _ _ _ _ _ _ _ _ _ _ _ _ _ _ _ _ _ _ _ _ _ _ _ _ _ _ _ _ _ ?_
    refine Lib.hid ?_
    intro ov4 w4
    intros
    rename_i ho4 hb4
    have F4 : Hid (Fnd w4 B b F S K T A c l s) := Lib.hid (F3.out.keep fun q hq => hb4.out.block q hq)
    have P4 := Lib.hid (P3.out.below hb4.out)
    have B4 := Lib.hid (B3.out.trans (hb4.out.mono B3.out.size))
    have O34 := Lib.hid (own_below ho3.out hb4.out)
    have hgw : g < w2.heap.size := Nat.lt_of_lt_of_le HGB.out F2.out.blt
    have TX := Lib.hid (texts_any w4 g m l0 t kn f P4.out HC.out w2.heap.size (oldI l s) ov (fun x hx => by obtain ⟨k, hk, rfl⟩ := List.mem_map.1 hx; rw [u8b_len]; exact (oks_at F0.out.oks (HL3.out k hk)).oid) (by rw [show (oldI l s).length = (srcs l s).length by simp [oldI]]; omega) (by rw [show (oldI l s).length = (srcs l s).length by simp [oldI]]; exact O34.out) hgw)
    obtain ⟨Do, do_, hvo, _⟩ := own_all O34.out
    subst hvo
    clear hc93
    go_wp2_with fail
    refine TX.out.mono ?_
    rintro e w5 ⟨kn5, hp5, hc5, ⟨bs, v2, us, htx, _⟩ | ⟨_, rfl⟩⟩
    · rw [TN.out] at htx
      cases htx
    · have P5 := Lib.hid hp5
      have F5 := Lib.hid (F4.out.chsg hc5 HGB.out HA.out)
      have C5 := Lib.hid ((Chs.of_below B4.out (fun q => q = g)).trans hc5)
      clear hp5 hc5
      go_wp2_with fail
      go_ret
      exact ⟨ret_int (HR1.out NE.out).symm, ⟨kn5, P5.out⟩, F5.out, C5.out⟩
  by_cases c2 : 32 < o2
  · have LM : Hid (limN o2 = 32) := Lib.hid (by unfold limN; rw [if_pos (.inr c2)])
    go_upto_region 4 with fail
    clear hc1
    refine near4 w0 B b F S K T A c l s w.heap.size F0.out H0.out _ _ _ _ _ _ _ _ _ _ _ _ _ _ _ _ _ _ _ _ _ _ _ _ _ _ _ _ _ _ _ _ _ _ _ _ _ _ _ _ _ _ _ _ _ _ _ _ _ _ _ _ _ _ _ _ _ _ _ _ _ _ _ _ _ _ _ _ _ _ _ _ _ _ _ _ _ _ _ _ _ _ _ _ _ _ _ _ _ _ _ _ _ _ _ _ _ _ _ _ _ _ _ _ _ _ _ _ _ _ _ _ _ _ _ _ _ _ _ _ _ _ _ _ _ _ _ _ _ _ _ _ _ _ _ _ _ _ _ _ _ _ _ _ _ _ _ _ _ _ _ _ _ _ _ _ _ _ (fun _ _ o _ _ h => by cases o <;> exact h) ?_
    refine Lib.hid ?_
    intro p8 p9 D3 D7 d3 d7 w2
    intros
    rename_i h8 h9 o3 o7 hb2
    have P2 := Lib.hid (P0.out.below hb2.out)
    have F2 : Hid (Fnd w2 B b F S K T A c l s) := Lib.hid (F0.out.keep fun q hq => hb2.out.block q hq)
    have B2 := Lib.hid (B0.out.trans (hb2.out.mono B0.out.size))
    have H2 := Lib.hid (H0.out.below hb2.out H0.out.lt)
    have O2 := Lib.hid (O0.out.below hb2.out O0.out.lt)
    have hc0 := O2.out.cell (k := 0) rfl
    have hc8 := h8.out.cell (k := 0) rfl
    have hc9 := h9.out.cell (k := 0) rfl
    change Hid (w2.ownsRow w0.heap.size 3 1 (.slice D3 (srcs l s).length d3) (srcs l s).length (ntI2 (srcs l s))) at o3
    change Hid (w2.ownsRow w0.heap.size 3 1 (.slice D7 (tgts l s).length d7) (tgts l s).length (ntI2 (tgts l s))) at o7
    change w2.cell? ⟨p8, 0, none⟩ = some (.slice D3 (srcs l s).length d3) at hc8
    change w2.cell? ⟨p9, 0, none⟩ = some (.slice D7 (tgts l s).length d7) at hc9
    have hns : (srcs l s).length ≤ l.length := pls_len _ _
    have hnt : (tgts l s).length ≤ l.length := pls_len _ _
    have h40 := F0.out.short
    by_cases e1 : 1000 < o1
    · go_wp2_with fail
      go_ret
      exact ⟨ret_int (HR0.out (.inl e1)).symm, ⟨kn, P2.out⟩, F2.out, Chs.of_below B2.out _⟩
    by_cases e2 : (srcs l s).length = 0
    · have q2 : (((srcs l s).length : Int) == 0) = true := by simp [e2]
      have E2 := Lib.hid e2
      clear e2
      go_wp2_with fail
      go_ret
      exact ⟨ret_int (HR0.out (.inr (.inl E2.out))).symm, ⟨kn, P2.out⟩, F2.out, Chs.of_below B2.out _⟩
    have q2 : (((srcs l s).length : Int) == 0) = false := beq_eq_false_iff_ne.2 (by omega)
    by_cases e3 : (tgts l s).length = 0
    · have q3 : (((tgts l s).length : Int) == 0) = true := by simp [e3]
      have E3 := Lib.hid e3
      clear e3
      go_wp2_with fail
      go_ret
      exact ⟨ret_int (HR0.out (.inr (.inr (.inl E3.out)))).symm, ⟨kn, P2.out⟩, F2.out, Chs.of_below B2.out _⟩
    have q3 : (((tgts l s).length : Int) == 0) = false := beq_eq_false_iff_ne.2 (by omega)
    by_cases e4 : 32 < ((srcs l s).length : Int)
    · go_wp2_with fail
      go_ret
      exact ⟨ret_int (HR0.out (.inr (.inr (.inr (.inl (by rw [LM.out]; exact e4)))))).symm, ⟨kn, P2.out⟩, F2.out, Chs.of_below B2.out _⟩
    by_cases e5 : 32 < ((tgts l s).length : Int)
    · go_wp2_with fail
      go_ret
      exact ⟨ret_int (HR0.out (.inr (.inr (.inr (.inr (by rw [LM.out]; exact e5)))))).symm, ⟨kn, P2.out⟩, F2.out, Chs.of_below B2.out _⟩
    have NE : Hid (¬ earlyN o1 o2 (srcs l s).length (tgts l s).length) := Lib.hid (by unfold earlyN; rw [LM.out]; rintro (h | h | h | h | h) <;> omega)
    have TN := Lib.hid (HNO.out NE.out)
    obtain ⟨_, _, hv3, _, _, hr3, _⟩ := own_all o3.out
    injection hv3 with ha _ hb
    subst ha hb
    obtain ⟨_, _, hv7, _, _, hr7, _⟩ := own_all o7.out
    injection hv7 with ha _ hb
    subst ha hb
    have R7 := Lib.hid hr7
    have R3 := Lib.hid hr3
    have HL3 := Lib.hid (fun k (hk : k ∈ srcs l s) => (pls_mem _ _ k hk).1)
    have HL7 := Lib.hid (fun k (hk : k ∈ tgts l s) => (pls_mem _ _ k hk).1)
    clear e2 e3 hr3 hr7
    go_wp2_with fail
    refine near_o w2 B b F S K T A c l s w.heap.size F2.out H2.out HY.out (srcs l s) D3 d3 HL3.out (by omega) R3.out _ _ _ _ _ _ _ _ _ _ _ _ _ _ _ _ _ _ _ _ _ _ _ _ _ _ _ _ _ _ _ _ _ _ _ _ _ _ _ _ _ _ _ _ _ _ _ _ _ _ _ _ _ _ _ _ _ _ _ _ _ _ _ _ _ _ _ _ _ _ _ _ _ _ _ _ _ _ _ _ _ _ _ _ _ _ _ _ _ _ _ _ _ _ _ _ _ _ _ _ _ _ _ _ _ _ _ _ _ _ _ _ _ _ _ _ _ _ _ _ _ _ _ _ _ _ _ _ _ _ _ _ _ _ _ _ _ _ _ _ _ _ _ _ _ _ _ _ _ _ _ _ _ _ ?_
    refine Lib.hid ?_
    intro ov w3
    intros
    rename_i ho3 hb3
    have hc93 := (h9.out.below hb3.out h9.out.lt).cell (k := 0) rfl
    change w3.cell? ⟨p9, 0, none⟩ = some (.slice D7 (tgts l s).length d7) at hc93
    have F3 : Hid (Fnd w3 B b F S K T A c l s) := Lib.hid (F2.out.keep fun q hq => hb3.out.block q hq)
    have H3 := Lib.hid (H2.out.below hb3.out H2.out.lt)
    have P3 := Lib.hid (P2.out.below hb3.out)
    have B3 := Lib.hid (B2.out.trans (hb3.out.mono B2.out.size))
    have R73 := Lib.hid (R7.out.low hb3.out hb3.out.size)
    clear hc8 hc9 hc0
    go_wp2_with fail
    refine near_n w3 B b F S K T A c l s w.heap.size F3.out H3.out HY.out (tgts l s) D7 d7 HL7.out (by omega) R73.out _ _ _ _ _ _ _ _ _ _ _ _ _ _ _ _ _ _ _ _ _ _ _ _ _ _ _ _ _ _ _ _ _ _ _ _ _ _ _ _ _ _ _ _ _ _ _ _ _ _ _ _ _ _ _ _ _ _ _ _ _ _ _ _ _ _ _ _ _ _ _ _ _ _ _ _ _ _ _ _ _ _ _ _ _ _ _ _ _ _ _ _ _ _ _ _ _ _ _ _ _ _ _ _ _ _ _ _ _ _ _ _ _ _ _ _ _ _ _ _ _ _ _ _ _ _ _ _ _ _ _ _ _ _ _ _ _ _ _ _ _ _ _ _ _ _ _ _ _ _ _ _ _ _ ?_
    refine Lib.hid ?_
    intro ov4 w4
    intros
    rename_i ho4 hb4
    have F4 : Hid (Fnd w4 B b F S K T A c l s) := Lib.hid (F3.out.keep fun q hq => hb4.out.block q hq)
    have P4 := Lib.hid (P3.out.below hb4.out)
    have B4 := Lib.hid (B3.out.trans (hb4.out.mono B3.out.size))
    have O34 := Lib.hid (own_below ho3.out hb4.out)
    have hgw : g < w2.heap.size := Nat.lt_of_lt_of_le HGB.out F2.out.blt
    have TX := Lib.hid (texts_any w4 g m l0 t kn f P4.out HC.out w2.heap.size (oldI l s) ov (fun x hx => by obtain ⟨k, hk, rfl⟩ := List.mem_map.1 hx; rw [u8b_len]; exact (oks_at F0.out.oks (HL3.out k hk)).oid) (by rw [show (oldI l s).length = (srcs l s).length by simp [oldI]]; omega) (by rw [show (oldI l s).length = (srcs l s).length by simp [oldI]]; exact O34.out) hgw)
    obtain ⟨Do, do_, hvo, _⟩ := own_all O34.out
    subst hvo
    clear hc93
    go_wp2_with fail
    refine TX.out.mono ?_
    rintro e w5 ⟨kn5, hp5, hc5, ⟨bs, v2, us, htx, _⟩ | ⟨_, rfl⟩⟩
    · rw [TN.out] at htx
      cases htx
    · have P5 := Lib.hid hp5
      have F5 := Lib.hid (F4.out.chsg hc5 HGB.out HA.out)
      have C5 := Lib.hid ((Chs.of_below B4.out (fun q => q = g)).trans hc5)
      clear hp5 hc5
      go_wp2_with fail
      go_ret
      exact ⟨ret_int (HR1.out NE.out).symm, ⟨kn5, P5.out⟩, F5.out, C5.out⟩
  have LM : Hid (limN o2 = o2) := Lib.hid (by unfold limN; rw [if_neg (by omega)])
  go_upto_region 4 with fail
  clear hc1
  refine near4 w0 B b F S K T A c l s w.heap.size F0.out H0.out _ _ _ _ _ _ _ _ _ _ _ _ _ _ _ _ _ _ _ _ _ _ _ _ _ _ _ _ _ _ _ _ _ _ _ _ _ _ _ _ _ _ _ _ _ _ _ _ _ _ _ _ _ _ _ _ _ _ _ _ _ _ _ _ _ _ _ _ _ _ _ _ _ _ _ _ _ _ _ _ _ _ _ _ _ _ _ _ _ _ _ _ _ _ _ _ _ _ _ _ _ _ _ _ _ _ _ _ _ _ _ _ _ _ _ _ _ _ _ _ _ _ _ _ _ _ _ _ _ _ _ _ _ _ _ _ _ _ _ _ _ _ _ _ _ _ _ _ _ _ _ _ _ _ _ _ _ _ (fun _ _ o _ _ h => by cases o <;> exact h) ?_
  refine Lib.hid ?_
  intro p8 p9 D3 D7 d3 d7 w2
  intros
  rename_i h8 h9 o3 o7 hb2
  have P2 := Lib.hid (P0.out.below hb2.out)
  have F2 : Hid (Fnd w2 B b F S K T A c l s) := Lib.hid (F0.out.keep fun q hq => hb2.out.block q hq)
  have B2 := Lib.hid (B0.out.trans (hb2.out.mono B0.out.size))
  have H2 := Lib.hid (H0.out.below hb2.out H0.out.lt)
  have O2 := Lib.hid (O0.out.below hb2.out O0.out.lt)
  have hc0 := O2.out.cell (k := 0) rfl
  have hc8 := h8.out.cell (k := 0) rfl
  have hc9 := h9.out.cell (k := 0) rfl
  change Hid (w2.ownsRow w0.heap.size 3 1 (.slice D3 (srcs l s).length d3) (srcs l s).length (ntI2 (srcs l s))) at o3
  change Hid (w2.ownsRow w0.heap.size 3 1 (.slice D7 (tgts l s).length d7) (tgts l s).length (ntI2 (tgts l s))) at o7
  change w2.cell? ⟨p8, 0, none⟩ = some (.slice D3 (srcs l s).length d3) at hc8
  change w2.cell? ⟨p9, 0, none⟩ = some (.slice D7 (tgts l s).length d7) at hc9
  have hns : (srcs l s).length ≤ l.length := pls_len _ _
  have hnt : (tgts l s).length ≤ l.length := pls_len _ _
  have h40 := F0.out.short
  by_cases e1 : 1000 < o1
  · go_wp2_with fail
    go_ret
    exact ⟨ret_int (HR0.out (.inl e1)).symm, ⟨kn, P2.out⟩, F2.out, Chs.of_below B2.out _⟩
  by_cases e2 : (srcs l s).length = 0
  · have q2 : (((srcs l s).length : Int) == 0) = true := by simp [e2]
    have E2 := Lib.hid e2
    clear e2
    go_wp2_with fail
    go_ret
    exact ⟨ret_int (HR0.out (.inr (.inl E2.out))).symm, ⟨kn, P2.out⟩, F2.out, Chs.of_below B2.out _⟩
  have q2 : (((srcs l s).length : Int) == 0) = false := beq_eq_false_iff_ne.2 (by omega)
  by_cases e3 : (tgts l s).length = 0
  · have q3 : (((tgts l s).length : Int) == 0) = true := by simp [e3]
    have E3 := Lib.hid e3
    clear e3
    go_wp2_with fail
    go_ret
    exact ⟨ret_int (HR0.out (.inr (.inr (.inl E3.out)))).symm, ⟨kn, P2.out⟩, F2.out, Chs.of_below B2.out _⟩
  have q3 : (((tgts l s).length : Int) == 0) = false := beq_eq_false_iff_ne.2 (by omega)
  by_cases e4 : o2 < ((srcs l s).length : Int)
  · go_wp2_with fail
    go_ret
    exact ⟨ret_int (HR0.out (.inr (.inr (.inr (.inl (by rw [LM.out]; exact e4)))))).symm, ⟨kn, P2.out⟩, F2.out, Chs.of_below B2.out _⟩
  by_cases e5 : o2 < ((tgts l s).length : Int)
  · go_wp2_with fail
    go_ret
    exact ⟨ret_int (HR0.out (.inr (.inr (.inr (.inr (by rw [LM.out]; exact e5)))))).symm, ⟨kn, P2.out⟩, F2.out, Chs.of_below B2.out _⟩
  have NE : Hid (¬ earlyN o1 o2 (srcs l s).length (tgts l s).length) := Lib.hid (by unfold earlyN; rw [LM.out]; rintro (h | h | h | h | h) <;> omega)
  have TN := Lib.hid (HNO.out NE.out)
  obtain ⟨_, _, hv3, _, _, hr3, _⟩ := own_all o3.out
  injection hv3 with ha _ hb
  subst ha hb
  obtain ⟨_, _, hv7, _, _, hr7, _⟩ := own_all o7.out
  injection hv7 with ha _ hb
  subst ha hb
  have R7 := Lib.hid hr7
  have R3 := Lib.hid hr3
  have HL3 := Lib.hid (fun k (hk : k ∈ srcs l s) => (pls_mem _ _ k hk).1)
  have HL7 := Lib.hid (fun k (hk : k ∈ tgts l s) => (pls_mem _ _ k hk).1)
  clear e2 e3 hr3 hr7
  go_wp2_with fail
  refine near_o w2 B b F S K T A c l s w.heap.size F2.out H2.out HY.out (srcs l s) D3 d3 HL3.out (by omega) R3.out _ _ _ _ _ _ _ _ _ _ _ _ _ _ _ _ _ _ _ _ _ _ _ _ _ _ _ _ _ _ _ _ _ _ _ _ _ _ _ _ _ _ _ _ _ _ _ _ _ _ _ _ _ _ _ _ _ _ _ _ _ _ _ _ _ _ _ _ _ _ _ _ _ _ _ _ _ _ _ _ _ _ _ _ _ _ _ _ _ _ _ _ _ _ _ _ _ _ _ _ _ _ _ _ _ _ _ _ _ _ _ _ _ _ _ _ _ _ _ _ _ _ _ _ _ _ _ _ _ _ _ _ _ _ _ _ _ _ _ _ _ _ _ _ _ _ _ _ _ _ _ _ _ _ ?_
  refine Lib.hid ?_
  intro ov w3
  intros
  rename_i ho3 hb3
  have hc93 := (h9.out.below hb3.out h9.out.lt).cell (k := 0) rfl
  change w3.cell? ⟨p9, 0, none⟩ = some (.slice D7 (tgts l s).length d7) at hc93
  have F3 : Hid (Fnd w3 B b F S K T A c l s) := Lib.hid (F2.out.keep fun q hq => hb3.out.block q hq)
  have H3 := Lib.hid (H2.out.below hb3.out H2.out.lt)
  have P3 := Lib.hid (P2.out.below hb3.out)
  have B3 := Lib.hid (B2.out.trans (hb3.out.mono B2.out.size))
  have R73 := Lib.hid (R7.out.low hb3.out hb3.out.size)
  clear hc8 hc9 hc0
  go_wp2_with fail
  refine near_n w3 B b F S K T A c l s w.heap.size F3.out H3.out HY.out (tgts l s) D7 d7 HL7.out (by omega) R73.out _ _ _ _ _ _ _ _ _ _ _ _ _ _ _ _ _ _ _ _ _ _ _ _ _ _ _ _ _ _ _ _ _ _ _ _ _ _ _ _ _ _ _ _ _ _ _ _ _ _ _ _ _ _ _ _ _ _ _ _ _ _ _ _ _ _ _ _ _ _ _ _ _ _ _ _ _ _ _ _ _ _ _ _ _ _ _ _ _ _ _ _ _ _ _ _ _ _ _ _ _ _ _ _ _ _ _ _ _ _ _ _ _ _ _ _ _ _ _ _ _ _ _ _ _ _ _ _ _ _ _ _ _ _ _ _ _ _ _ _ _ _ _ _ _ _ _ _ _ _ _ _ _ _ ?_
  refine Lib.hid ?_
  intro ov4 w4
  intros
  rename_i ho4 hb4
  have F4 : Hid (Fnd w4 B b F S K T A c l s) := Lib.hid (F3.out.keep fun q hq => hb4.out.block q hq)
  have P4 := Lib.hid (P3.out.below hb4.out)
  have B4 := Lib.hid (B3.out.trans (hb4.out.mono B3.out.size))
  have O34 := Lib.hid (own_below ho3.out hb4.out)
  have hgw : g < w2.heap.size := Nat.lt_of_lt_of_le HGB.out F2.out.blt
  have TX := Lib.hid (texts_any w4 g m l0 t kn f P4.out HC.out w2.heap.size (oldI l s) ov (fun x hx => by obtain ⟨k, hk, rfl⟩ := List.mem_map.1 hx; rw [u8b_len]; exact (oks_at F0.out.oks (HL3.out k hk)).oid) (by rw [show (oldI l s).length = (srcs l s).length by simp [oldI]]; omega) (by rw [show (oldI l s).length = (srcs l s).length by simp [oldI]]; exact O34.out) hgw)
  obtain ⟨Do, do_, hvo, _⟩ := own_all O34.out
  subst hvo
  clear hc93
  go_wp2_with fail
  refine TX.out.mono ?_
  rintro e w5 ⟨kn5, hp5, hc5, ⟨bs, v2, us, htx, _⟩ | ⟨_, rfl⟩⟩
  · rw [TN.out] at htx
    cases htx
  · have P5 := Lib.hid hp5
    have F5 := Lib.hid (F4.out.chsg hc5 HGB.out HA.out)
    have C5 := Lib.hid ((Chs.of_below B4.out (fun q => q = g)).trans hc5)
    clear hp5 hc5
    go_wp2_with fail
    go_ret
    exact ⟨ret_int (HR1.out NE.out).symm, ⟨kn5, P5.out⟩, F5.out, C5.out⟩
end Go.Proofs.YtbmpidacoohdmaaGreat

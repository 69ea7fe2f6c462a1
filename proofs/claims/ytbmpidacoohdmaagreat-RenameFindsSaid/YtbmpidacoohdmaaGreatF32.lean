/- What the states of a search for renames keep: sources and targets, their numbers, the scores; in plain Lean. rename's near: the loop over the pairs, as a law of the loop. -/
import Derived.Test.YtbmpidacoohdmaaGreatF27
import Derived.Test.YtbmpidacoohdmaaGreatF31
namespace Go.Proofs.YtbmpidacoohdmaaGreat
open Rn (Chg St pairSt pairC isSource isTarget copTo copStep copyAt copHit exactTo exactStep foundAt hit firstFrom stP newChg outTo)

/-- How many numbers below k have it. -/
def cntN (p : Nat → Bool) : Nat → Nat
  | 0 => 0
  | k + 1 => cntN p k + if p k then 1 else 0
theorem cntN_pos (p : Nat → Bool) : ∀ n, 0 < cntN p n → ∃ j, j < n ∧ p j = true
  | 0, h => by simp [cntN] at h
  | n + 1, h => by
    cases hp : p n with
    | true => exact ⟨n, by omega, hp⟩
    | false =>
      rw [cntN, hp] at h
      obtain ⟨j, hj, e⟩ := cntN_pos p n (by simpa using h)
      exact ⟨j, by omega, e⟩
theorem cntN_has (p : Nat → Bool) : ∀ n j, j < n → p j = true → 0 < cntN p n
  | n + 1, j, hj, hp => by
    unfold cntN
    rcases Nat.lt_succ_iff_lt_or_eq.1 hj with h | rfl
    · have := cntN_has p n j h hp
      omega
    · rw [hp]; simp
theorem count_set {α : Type} [BEq α] [LawfulBEq α] (a x d : α) : ∀ (l : List α) (k : Nat), k < l.length → (l.set k x).count a + (if l.getD k d == a then 1 else 0) = l.count a + if x == a then 1 else 0
  | [], k, h => by simp at h
  | y :: l, 0, _ => by
    simp only [List.set_cons_zero, List.count_cons, List.getD_cons_zero]
    omega
  | y :: l, k + 1, h => by
    have := count_set a x d l k (by simpa using h)
    rw [List.set_cons_succ, List.count_cons, List.getD_cons_succ, List.count_cons]
    omega
/-- What holds of a state. -/
structure Kst (l : List Chg) (s : St) : Prop where
  lT : s.tk.length = l.length
  lK : s.kd.length = l.length
  lS : s.sc.length = l.length
  src : ∀ i, s.tk.getD i false = true → (l.getD i default).kind = 2
  tgt : ∀ j, s.kd.getD j 0 ≠ 0 → (l.getD j default).kind = 1 ∧ (s.kd.getD j 0 = 4 ∨ s.kd.getD j 0 = 5)
  cnt : s.tk.count true = s.kd.count 4
  sc : ∀ j, s.kd.getD j 0 ≠ 0 → 1 ≤ s.sc.getD j 0 ∧ s.sc.getD j 0 ≤ 1000
  cop : ∀ j, s.kd.getD j 0 = 5 → ∃ i, i < l.length ∧ (l.getD i default).kind = 3
theorem Kst.pair {l : List Chg} {s : St} (h : Kst l s) {a b : Nat} {c : Int} (ha : a < l.length) (hb : b < l.length) (h1 : (l.getD a default).kind = 2) (h2 : s.tk.getD a false = false) (h3 : (l.getD b default).kind = 1) (h4 : s.kd.getD b 0 = 0) (h5 : 1 ≤ c) (h6 : c ≤ 1000) : Kst l (pairSt s a b c) := by
  have hT := h.lT
  have hK := h.lK
  have hS := h.lS
  refine ⟨by simp [pairSt, hT], by simp [pairSt, hK], by simp [pairSt, hS], fun i hi => ?_, fun j hj => ?_, ?_, fun j hj => ?_, fun j hj => ?_⟩
  · by_cases e : a = i
    · subst e; exact h1
    · simp only [pairSt, List.getD_eq_getElem?_getD, List.getElem?_set_ne e] at hi
      exact h.src i (by rw [List.getD_eq_getElem?_getD]; exact hi)
  · by_cases e : b = j
    · subst e
      exact ⟨h3, .inl (by simp [pairSt, List.getD_eq_getElem?_getD, hK, hb])⟩
    · simp only [pairSt, List.getD_eq_getElem?_getD, List.getElem?_set_ne e] at hj ⊢
      have := h.tgt j (by rw [List.getD_eq_getElem?_getD]; exact hj)
      simpa only [List.getD_eq_getElem?_getD] using this
  · have e1 := count_set true true false s.tk a (by omega)
    have e2 := count_set (4 : Int) 4 0 s.kd b (by omega)
    rw [h2] at e1
    rw [h4] at e2
    have e3 := h.cnt
    simp only [pairSt]
    simp at e1 e2
    omega
  · by_cases e : b = j
    · subst e
      simp [pairSt, List.getD_eq_getElem?_getD, hS, hb, h5, h6]
    · simp only [pairSt, List.getD_eq_getElem?_getD, List.getElem?_set_ne e] at hj ⊢
      have := h.sc j (by rw [List.getD_eq_getElem?_getD]; exact hj)
      simpa only [List.getD_eq_getElem?_getD] using this
  · by_cases e : b = j
    · subst e
      simp [pairSt, List.getD_eq_getElem?_getD, hK, hb] at hj
    · simp only [pairSt, List.getD_eq_getElem?_getD, List.getElem?_set_ne e] at hj
      exact h.cop j (by rw [List.getD_eq_getElem?_getD]; exact hj)
theorem Kst.copy {l : List Chg} {s : St} (h : Kst l s) {a b : Nat} (ha : a < l.length) (hb : b < l.length) (h1 : (l.getD a default).kind = 3) (h3 : (l.getD b default).kind = 1) (h4 : s.kd.getD b 0 = 0) : Kst l (pairC s a b) := by
  have hT := h.lT
  have hK := h.lK
  have hS := h.lS
  refine ⟨by simp [pairC, hT], by simp [pairC, hK], by simp [pairC, hS], h.src, fun j hj => ?_, ?_, fun j hj => ?_, fun j hj => ?_⟩
  · by_cases e : b = j
    · subst e
      exact ⟨h3, .inr (by simp [pairC, List.getD_eq_getElem?_getD, hK, hb])⟩
    · simp only [pairC, List.getD_eq_getElem?_getD, List.getElem?_set_ne e] at hj ⊢
      have := h.tgt j (by rw [List.getD_eq_getElem?_getD]; exact hj)
      simpa only [List.getD_eq_getElem?_getD] using this
  · have e2 := count_set (4 : Int) 5 0 s.kd b (by omega)
    rw [h4] at e2
    have e3 := h.cnt
    simp only [pairC]
    simp at e2
    omega
  · by_cases e : b = j
    · subst e
      simp [pairC, List.getD_eq_getElem?_getD, hS, hb]
    · simp only [pairC, List.getD_eq_getElem?_getD, List.getElem?_set_ne e] at hj ⊢
      have := h.sc j (by rw [List.getD_eq_getElem?_getD]; exact hj)
      simpa only [List.getD_eq_getElem?_getD] using this
  · by_cases e : b = j
    · exact ⟨a, ha, h1⟩
    · simp only [pairC, List.getD_eq_getElem?_getD, List.getElem?_set_ne e] at hj
      exact h.cop j (by rw [List.getD_eq_getElem?_getD]; exact hj)
theorem kst_start (l : List Chg) : Kst l (Rn.st0 l.length 0) := by
  have e0 : ∀ j, (List.replicate l.length (0 : Int)).getD j 0 = 0 := fun j => by
    simp only [List.getD_eq_getElem?_getD, List.getElem?_replicate]; split <;> rfl
  have e1 : ∀ j, (List.replicate l.length false).getD j false = false := fun j => by
    simp only [List.getD_eq_getElem?_getD, List.getElem?_replicate]; split <;> rfl
  refine ⟨by simp [Rn.st0], by simp [Rn.st0], by simp [Rn.st0], fun i hi => ?_, fun j hj => absurd (e0 j) hj, ?_, fun j hj => absurd (e0 j) hj, fun j hj => ?_⟩
  · rw [show (Rn.st0 l.length 0).tk = List.replicate l.length false from rfl, e1] at hi; cases hi
  · simp [Rn.st0, List.count_replicate]
  · rw [show (Rn.st0 l.length 0).kd = List.replicate l.length 0 from rfl, e0] at hj; cases hj
theorem first_hit (p : Nat → Bool) : ∀ n i (k : Nat), firstFrom p n i = k → p k = true ∧ i ≤ k ∧ k < i + n
  | 0, i, k, h => by simp only [firstFrom] at h; omega
  | n + 1, i, k, h => by
    unfold firstFrom at h
    split at h
    · obtain rfl : i = k := by omega
      exact ⟨by assumption, Nat.le_refl _, by omega⟩
    · obtain ⟨h1, h2, h3⟩ := first_hit p n (i + 1) k h
      exact ⟨h1, by omega, by omega⟩
theorem kst_exact (l : List Chg) : ∀ k, k ≤ l.length → Kst l (exactTo l (Rn.st0 l.length 0) k)
  | 0, _ => kst_start l
  | k + 1, hk => by
    have h := kst_exact l k (by omega)
    show Kst l (exactStep l (exactTo l (Rn.st0 l.length 0) k) k)
    generalize exactTo l (Rn.st0 l.length 0) k = s at *
    unfold exactStep
    split
    · rename_i ht
      split
      · rename_i hf
        simp only [isTarget, Bool.and_eq_true, beq_iff_eq] at ht
        obtain ⟨a, ha⟩ : ∃ a : Nat, foundAt l s k = a := ⟨(foundAt l s k).toNat, by omega⟩
        have hh : ∃ b, hit l s k b a = true ∧ a < l.length := by
          unfold foundAt at ha
          split at ha
          · obtain ⟨h1, _, h2⟩ := first_hit _ _ _ _ ha
            exact ⟨false, h1, by omega⟩
          · obtain ⟨h1, _, h2⟩ := first_hit _ _ _ _ ha
            exact ⟨true, h1, by omega⟩
        obtain ⟨b, hh, hal⟩ := hh
        unfold hit isSource at hh
        simp only [Bool.and_eq_true, beq_iff_eq, Bool.not_eq_true'] at hh
        rw [ha, Int.toNat_natCast]
        exact h.pair hal (by omega) hh.1.1.1 hh.1.1.2 ht.1 ht.2 (by omega) (by omega)
      · exact h
    · exact h
theorem kst_P (l : List Chg) : Kst l (stP l) := kst_exact l l.length (Nat.le_refl _)
/-- A row whose source and target are of the right kinds. -/
def RowOk (l : List Chg) (r : Rw) : Prop := r.1 < l.length ∧ r.2.1 < l.length ∧ (l.getD r.1 default).kind = 2 ∧ (l.getD r.2.1 default).kind = 1 ∧ 1 ≤ r.2.2.1 ∧ r.2.2.1 ≤ 1000
/-- The two numbers of the law. -/
def unt (s : St) (j : Nat) : Bool := !s.tk.getD j false
def copP (s : St) (j : Nat) : Bool := unt s j && s.kd.getD j 0 == 5
def kndP (l : List Chg) (c : Int) (j : Nat) : Bool := (l.getD j default).kind == c
theorem Kst.copied {l : List Chg} {s : St} (h : Kst l s) : 0 < cntN (kndP l 3) l.length ∨ cntN (copP s) l.length = 0 := by
  rcases Nat.eq_zero_or_pos (cntN (copP s) l.length) with e | e
  · exact .inr e
  · obtain ⟨j, _, hj⟩ := cntN_pos _ _ e
    unfold copP at hj
    simp only [Bool.and_eq_true, beq_iff_eq] at hj
    obtain ⟨i, hi, hk⟩ := h.cop j hj.2
    exact .inl (cntN_has _ _ i hi (by unfold kndP; rw [hk]; rfl))
end Go.Proofs.YtbmpidacoohdmaaGreat
namespace Go.Proofs.YtbmpidacoohdmaaGreat
open Lib renaming hid → hI
open Go.RowKit Op
open Go.Sort (HoldsK PermIn SortedIn SWO)
open Rn (Chg LReads CellsAt Fnd St isSource isTarget isNamed)

/-- The finder's four rows. -/
def Four (F S K T q : Nat) : Prop := q = F ∨ q = S ∨ q = K ∨ q = T
def foldK (l : List Chg) (Sl Tl : List Nat) (d : List (Nat × Nat × Nat)) (s : St) (k : Nat) : St := ((d.take k).map (conv l Sl Tl)).foldl grS s
theorem foldK_next (l : List Chg) (Sl Tl : List Nat) (d : List (Nat × Nat × Nat)) (s : St) {k : Nat} (h : k < d.length) : foldK l Sl Tl d s (k + 1) = grS (foldK l Sl Tl d s k) (conv l Sl Tl (d.getD k default)) := by
  unfold foldK
  rw [List.take_add_one, List.getElem?_eq_getElem h, Option.toList_some, List.map_append, List.foldl_append]
  simp [h]
/-- No row's kind is anything but nought or four. -/
def K04 (s : St) : Prop := ∀ j : Nat, s.kd.getD j 0 = 0 ∨ s.kd.getD j 0 = 4
theorem K04.put {s : St} (h : K04 s) (r : Rw) : K04 (putR s r) := fun j => by
  show ((s.kd.set r.2.1 4).getD j 0 = 0) ∨ ((s.kd.set r.2.1 4).getD j 0 = 4)
  have := h j
  simp only [List.getD_eq_getElem?_getD, List.getElem?_set] at this ⊢
  split
  · split
    · exact .inr rfl
    · exact .inl rfl
  · exact this
theorem K04.step {s : St} (h : K04 s) (r : Rw) : K04 (grS s r) := by
  unfold grS
  split
  · exact h.put r
  · exact h
theorem K04.fold {s : St} (h : K04 s) : ∀ rs : List Rw, K04 (rs.foldl grS s)
  | [] => h
  | r :: rs => (h.step r).fold rs
/-- Both asks together are the one of the plain law. -/
theorem elig_is (l : List Chg) (s : St) (h : K04 s) (i t : Nat) (z : Nat) (nm : Bool) (hi : (l.getD i default).kind = 2) (ht : (l.getD t default).kind = 1) : elig s (i, t, z, nm) = (isSource l s i && isTarget l s t) := by
  unfold isSource isTarget
  show (!s.tk.getD i false && !decide (0 < s.kd.getD t 0)) = _
  rw [hi, ht]
  rcases h t with e | e <;> rw [e] <;> simp
/-- What the loop over the pairs needs. -/
structure Nlw (w : World) (B b F S K T : Nat) (A : Option Addr) (c : Nat) (l : List Chg) (pf p8 p9 g : Nat) (D3 D7 : Option Addr) (d3 d7 : Nat) (Sl Tl : List Nat) (d : Array (Nat × Nat × Nat)) : Prop where
  cf : Ar w pf 67 [.pointer (some ⟨b, 0, none⟩)]
  c8 : Ar w p8 48 [.slice D3 Sl.length d3]
  c9 : Ar w p9 48 [.slice D7 Tl.length d7]
  h3 : Rv w.heap.size w D3 (ntI2 Sl)
  h7 : Rv w.heap.size w D7 (ntI2 Tl)
  f3 : ∀ ad, D3 = some ad → ¬ Four F S K T ad.block
  f7 : ∀ ad, D7 = some ad → ¬ Four F S K T ad.block
  hS : ∀ k ∈ Sl, k < l.length ∧ (l.getD k default).kind = 2
  hT : ∀ k ∈ Tl, k < l.length ∧ (l.getD k default).kind = 1
  row : HoldsK encR 3 w g 0 d
  glt : g < w.heap.size
  gn : ¬ Four F S K T g
  all : ∀ k, k < d.size → (d.toList.getD k default).1 < Sl.length ∧ (d.toList.getD k default).2.1 < Tl.length
theorem Nlw.keep {w w2 : World} {B b F S K T : Nat} {A : Option Addr} {c : Nat} {l : List Chg} {pf p8 p9 g : Nat} {D3 D7 : Option Addr} {d3 d7 : Nat} {Sl Tl : List Nat} {d : Array (Nat × Nat × Nat)} (h : Nlw w B b F S K T A c l pf p8 p9 g D3 D7 d3 d7 Sl Tl d) (hc : Chs (Four F S K T) w w2) (h1 : ¬ Four F S K T pf) (h2 : ¬ Four F S K T p8) (h3 : ¬ Four F S K T p9) : Nlw w2 B b F S K T A c l pf p8 p9 g D3 D7 d3 d7 Sl Tl d where
  cf := (hc.block pf h.cf.lt h1).trans h.cf
  c8 := (hc.block p8 h.c8.lt h2).trans h.c8
  c9 := (hc.block p9 h.c9.lt h3).trans h.c9
  h3 := fun k x hx => by
    obtain ⟨ad, e, hl, hcell⟩ := h.h3.at_ hx
    exact ⟨ad, e, Nat.lt_of_lt_of_le hl hc.size, (World.cell?_of_block (hc.block _ (by rw [block_add]; exact hl) (by rw [block_add]; exact h.f3 ad e))).trans hcell⟩
  h7 := fun k x hx => by
    obtain ⟨ad, e, hl, hcell⟩ := h.h7.at_ hx
    exact ⟨ad, e, Nat.lt_of_lt_of_le hl hc.size, (World.cell?_of_block (hc.block _ (by rw [block_add]; exact hl) (by rw [block_add]; exact h.f7 ad e))).trans hcell⟩
  f3 := h.f3
  f7 := h.f7
  hS := h.hS
  hT := h.hT
  row := fun t ht => by
    have hb := hc.block g h.glt h.gn
    obtain ⟨q1, q2⟩ := h.row t ht
    exact ⟨(World.cell?_of_block (a := ⟨g, 0 + t, none⟩) hb).trans q1, (World.frozen?_of_block (a := ⟨g, 0 + t, none⟩) hb).trans q2⟩
  glt := Nat.lt_of_lt_of_le h.glt hc.size
  gn := h.gn
  all := h.all
noncomputable def near_l_code : Code := ((Tryz.f19.body.map loopsIn).getD []).getD 2 .skip
set_option maxRecDepth 100000 in
set_option maxHeartbeats 1000000 in
theorem near_l (w : World) (B b F S K T : Nat) (A : Option Addr) (c : Nat) (l : List Chg) (s : St) (pf p8 p9 g : Nat) (D3 D7 : Option Addr) (d3 d7 cap : Nat) (Sl Tl : List Nat) (d : Array (Nat × Nat × Nat)) (hf : Fnd w B b F S K T A c l s) (hw : Nlw w B b F S K T A c l pf p8 p9 g D3 D7 d3 d7 Sl Tl d) (n1 : ¬ Four F S K T pf) (n2 : ¬ Four F S K T p8) (n3 : ¬ Four F S K T p9) (h04 : K04 s) (hn : d.size ≤ 1000) (vD : Value) (hvD : 0 < d.size → vD = .slice (some ⟨g, 0, none⟩) d.size cap) (Q0 : Exit → Act → World → Prop) (z0 z1 z2 z4 z5 z6 z7 z10 z11 z12 z13 z14 z15 z16 z17 z18 z19 z20 z21 z22 z23 z24 z25 z26 z27 z28 z29 z30 z31 z32 z33 z34 z35 z36 z37 z38 z39 z40 z41 z42 z43 z44 z45 z46 z47 z48 z49 z50 z51 z52 z53 z54 z55 z56 z57 z58 z59 z60 z61 z62 z63 z64 z65 z66 z67 z68 z69 z70 z71 z72 z73 z74 z75 z76 z77 z78 z79 z80 z81 z82 z83 z84 z85 z86 z87 z88 z89 z90 z91 z92 z93 z94 z95 z96 z97 z98 z99 z100 z101 z102 z103 z104 z105 z106 z107 z108 z109 z110 z111 z112 z113 z114 z115 z116 z117 z118 z119 z120 z121 z122 z123 z124 z125 z126 z130 z131 z132 z133 z134 z135 z136 z137 z138 z139 z140 z141 z142 z143 z144 z145 z146 z147 z148 z149 z150 z151 z152 z153 z154 z155 z156 z157 : Value)
    (hexit : Hid (∀ (wr : World) (y21 y22 y23 y130 y131 y132 y133 y134 y135 y136 y137 y138 y139 y140 y141 y142 y143 y144 y145 y146 y147 y148 y149 y150 y151 y152 y153 y154 y155 y156 y157 : Value), Hid (Fnd wr B b F S K T A c l (foldK l Sl Tl d.toList s d.size)) → Hid (Chs (Four F S K T) w wr) → Q0 (.exit 4) ⟨List.toArray (z0::z1::z2::(.pointer (some ⟨pf, 0, none⟩))::z4::z5::z6::z7::(.pointer (some ⟨p8, 0, none⟩))::(.pointer (some ⟨p9, 0, none⟩))::z10::z11::z12::z13::z14::z15::z16::z17::z18::z19::z20::y21::y22::y23::z24::z25::z26::z27::z28::z29::z30::z31::z32::z33::z34::z35::z36::z37::z38::z39::z40::z41::z42::z43::z44::z45::z46::z47::z48::z49::z50::z51::z52::z53::z54::z55::z56::z57::z58::z59::z60::z61::z62::z63::z64::z65::z66::z67::z68::z69::z70::z71::z72::z73::z74::z75::z76::z77::z78::z79::z80::z81::z82::z83::z84::z85::z86::z87::z88::z89::z90::z91::z92::z93::z94::z95::z96::z97::z98::z99::z100::z101::z102::z103::z104::z105::z106::z107::z108::z109::z110::z111::z112::z113::z114::z115::z116::z117::z118::z119::z120::z121::z122::z123::z124::z125::z126::vD::(.int .i64 (d.size : Int))::(.int .i64 (d.size : Int))::y130::y131::y132::y133::y134::y135::y136::y137::y138::y139::y140::y141::y142::y143::y144::y145::y146::y147::y148::y149::y150::y151::y152::y153::y154::y155::y156::y157::[]), []⟩ wr)) :
    Code.wp Tryz.prog (Code.loop near_l_code) Q0 ⟨List.toArray (z0::z1::z2::(.pointer (some ⟨pf, 0, none⟩))::z4::z5::z6::z7::(.pointer (some ⟨p8, 0, none⟩))::(.pointer (some ⟨p9, 0, none⟩))::z10::z11::z12::z13::z14::z15::z16::z17::z18::z19::z20::z21::z22::z23::z24::z25::z26::z27::z28::z29::z30::z31::z32::z33::z34::z35::z36::z37::z38::z39::z40::z41::z42::z43::z44::z45::z46::z47::z48::z49::z50::z51::z52::z53::z54::z55::z56::z57::z58::z59::z60::z61::z62::z63::z64::z65::z66::z67::z68::z69::z70::z71::z72::z73::z74::z75::z76::z77::z78::z79::z80::z81::z82::z83::z84::z85::z86::z87::z88::z89::z90::z91::z92::z93::z94::z95::z96::z97::z98::z99::z100::z101::z102::z103::z104::z105::z106::z107::z108::z109::z110::z111::z112::z113::z114::z115::z116::z117::z118::z119::z120::z121::z122::z123::z124::z125::z126::vD::(.int .i64 (d.size : Int))::(.int .i64 0)::z130::z131::z132::z133::z134::z135::z136::z137::z138::z139::z140::z141::z142::z143::z144::z145::z146::z147::z148::z149::z150::z151::z152::z153::z154::z155::z156::z157::[]), []⟩ w := by
  conv => arg 2; arg 1; whnf
  have HF := hI hf
  have HW := hI hw
  have N1 := hI (And.intro n1 (And.intro n2 n3))
  have H4 := hI h04
  have HVD := hI hvD
  clear hf hw n1 n2 n3 h04 hvD
  go_loopw [129] (fun kv wr => ∃ k : Nat, k ≤ d.size ∧ kv = .int .i64 k ∧ Hid (Fnd wr B b F S K T A c l (foldK l Sl Tl d.toList s k)) ∧ Hid (Chs (Four F S K T) w wr)) (fun kv _ => d.size - (intOf kv).toNat)
  case atStart => exact ⟨0, Nat.zero_le _, rfl, HF, hI ⟨rfl, rfl, rfl, Nat.le_refl _, fun _ _ _ => rfl⟩⟩
  case round =>
    obtain ⟨k, hk, rfl, hf, hc⟩ := hrel
    by_cases hlt : k < d.size
    · obtain rfl := HVD.out (by omega)
      have W2 := hI (HW.out.keep hc.out N1.out.1 N1.out.2.1 N1.out.2.2)
      have NX := hI (foldK_next l Sl Tl d.toList s (k := k) (by simpa using hlt))
      obtain ⟨ha1, ha2⟩ := HW.out.all k hlt
      obtain ⟨x, hx⟩ : ∃ x, d.toList.getD k default = x := ⟨_, rfl⟩
      rw [hx] at NX ha1 ha2
      have hca : CellsAt wr ⟨g, k * 3, none⟩ (encR x) := fun j v hj => by
        have hj3 : j < 3 := by have := (List.getElem?_eq_some_iff.1 hj).1; simpa [encR] using this
        have h2 := rv_of_holds (enc := encR) (k := 3) (fun _ => rfl) W2.out.row W2.out.glt
        have h4 := flat_at encR 3 (fun _ => rfl) d.toList k j (by simpa using hlt) hj3
        rw [show d.toList[k]! = x by rw [← hx]; simp [hlt], hj] at h4
        obtain ⟨ad, e, _, hcell⟩ := h2.at_ h4
        obtain rfl := Option.some.inj e
        rw [Addr.add_lit, Nat.zero_add] at hcell
        rw [Addr.add_lit]
        exact hcell
      have hld : (loadVar 120 ⟨g, k * 3, none⟩).run Tryz.prog wr = .ok (.agg (encR x).toArray) wr := run_loadVar_cells Tryz.underlying120 rfl (by kernel_rfl) hca
      have a0 := hca.zero rfl
      have a1 : wr.cell? ⟨g, k * 3 + 1, none⟩ = some (.int .i64 (x.2.1 : Int)) := by have := hca 1 _ rfl; rwa [Addr.add_lit] at this
      have a2 : wr.cell? ⟨g, k * 3 + 2, none⟩ = some (.int .i64 (x.2.2 : Int)) := by have := hca 2 _ rfl; rwa [Addr.add_lit] at this
      obtain ⟨i, hie⟩ : ∃ i, Sl.getD x.1 0 = i := ⟨_, rfl⟩
      obtain ⟨t, hte⟩ : ∃ t, Tl.getD x.2.1 0 = t := ⟨_, rfl⟩
      obtain ⟨a3, e3, hl3, hc3⟩ := W2.out.h3.at_ (k := x.1) (x := .int .i64 (i : Int)) (by rw [← hie]; simp [ntI2, ha1])
      obtain ⟨a7, e7, hl7, hc7⟩ := W2.out.h7.at_ (k := x.2.1) (x := .int .i64 (t : Int)) (by rw [← hte]; simp [ntI2, ha2])
      have hil := (HW.out.hS i (by rw [← hie, List.getD_eq_getElem?_getD, List.getElem?_eq_getElem ha1]; exact List.getElem_mem ha1))
      have htl := (HW.out.hT t (by rw [← hte, List.getD_eq_getElem?_getD, List.getElem?_eq_getElem ha2]; exact List.getElem_mem ha2))
      have CV : Hid (conv l Sl Tl x = (i, t, x.2.2, isNamed l i t)) := hI (by unfold conv; rw [hie, hte])
      have cpf := W2.out.cf.cell (k := 0) rfl
      have cp8 := W2.out.c8.cell (k := 0) rfl
      have cp9 := W2.out.c9.cell (k := 0) rfl
      subst e3 e7
      obtain ⟨x1, x2, x3⟩ := x
      simp only at ha1 ha2 hc3 hc7
      have HX := hI hx
      clear hx hie hte
      have EL := hI (elig_is l (foldK l Sl Tl d.toList s k) (H4.out.fold _) i t x3 (isNamed l i t) hil.2 htl.2)
      go_wp2_with fail
      have BL := hI ((Below.refl wr.heap.size wr).alloc (Nat.le_refl _) (.cells #[.int .i64 x1, .int .i64 x2, .int .i64 x3] 120))
      have RW := hI (Ar.new wr [.int .i64 (x1 : Int), .int .i64 (x2 : Int), .int .i64 (x3 : Int)] 120)
      have F3 := hI (hf.out.keep fun q hq => BL.out.block q hq)
      have C3 := hI (hc.out.trans (Chs.of_below BL.out (Four F S K T)))
      have P3 := hI (W2.out.cf.below BL.out W2.out.cf.lt)
      have g8 := (W2.out.c8.below BL.out W2.out.c8.lt).cell (k := 0) rfl
      have g9 := (W2.out.c9.below BL.out W2.out.c9.lt).cell (k := 0) rfl
      have g3 := (World.cell?_of_block (BL.out.block _ (show (a3.add x1).block < wr.heap.size by rw [block_add]; exact hl3))).trans hc3
      have g7 := (World.cell?_of_block (BL.out.block _ (show (a7.add x2).block < wr.heap.size by rw [block_add]; exact hl7))).trans hc7
      have r0 := RW.out.cell (k := 0) rfl
      have r1 := RW.out.cell (k := 1) rfl
      clear hf hc hca hld a0 a1 a2 cpf cp8 cp9 hc3 hc7 BL W2
      generalize (wr.alloc (.cells #[.int .i64 x1, .int .i64 x2, .int .i64 x3] 120)) = w3 at *
      generalize wr.heap.size = R at *
      refine wp_region_quiet_lit (by kernel_rfl) (by kernel_rfl) ?_
      repeat (go_big_quiet_step (fail))
      refine wpQuiet_nil ?_
      rintro _ ⟨n1, rfl⟩
      have F4 := hI (F3.out.keep (w' := w3.drewN n1) fun q hq => rfl)
      have C4 : Hid (Chs (Four F S K T) w (w3.drewN n1)) := hI ⟨C3.out.os, C3.out.tape, C3.out.output, C3.out.size, C3.out.block⟩
      have P4 : (w3.drewN n1).cell? ⟨pf, 0, none⟩ = some (.pointer (some ⟨b, 0, none⟩)) := P3.out.cell (k := 0) rfl
      have R4 : (w3.drewN n1).cell? ⟨R, 2, none⟩ = some (.int .i64 (x3 : Int)) := RW.out.cell (k := 2) rfl
      clear F3 C3 P3 RW g8 g9 g3 g7 r0 r1 hl3 hl7
      generalize w3.drewN n1 = w4 at *
      have SA := hI (Rn.source_any F4.out i hil.1)
      have TA := hI (Rn.target_any F4.out t htl.1)
      have PA := hI (Rn.pair_any F4.out i t hil.1 htl.1 (x3 : Int))
      rw [CV.out] at NX
      generalize hs4 : foldK l Sl Tl d.toList s k = s4 at *
      clear hs4
      cases hsr : isSource l s4 i
      · rw [hsr] at SA EL
        have GR : foldK l Sl Tl d.toList s (k + 1) = s4 := by rw [NX.out]; unfold grS; rw [EL.out]; rfl
        have F5 := F4
        rw [← GR] at F5
        clear NX EL TA PA
        go_wp2_with (go_at_call 42; refine SA.out.mono ?_; rintro _ _ ⟨rfl, rfl⟩)
        exact ⟨⟨k + 1, by omega, by push_cast; rfl, F5, C4⟩, by simp [intOf]; omega⟩
      · cases htr : isTarget l s4 t
        · rw [hsr] at SA EL
          rw [htr] at TA EL
          have GR : foldK l Sl Tl d.toList s (k + 1) = s4 := by rw [NX.out]; unfold grS; rw [EL.out]; rfl
          have F5 := F4
          rw [← GR] at F5
          clear NX EL PA
          go_wp2_with (first | (go_at_call 42; refine SA.out.mono ?_; rintro _ _ ⟨rfl, rfl⟩) | (go_at_call 40; refine TA.out.mono ?_; rintro _ _ ⟨rfl, rfl⟩))
          exact ⟨⟨k + 1, by omega, by push_cast; rfl, F5, C4⟩, by simp [intOf]; omega⟩
        · rw [hsr] at SA EL
          rw [htr] at TA EL
          have GR : foldK l Sl Tl d.toList s (k + 1) = Rn.pairSt s4 i t (x3 : Int) := by rw [NX.out]; unfold grS; rw [EL.out]; rfl
          rw [← GR] at PA
          clear NX EL
          go_wp2_with (first | (go_at_call 42; refine SA.out.mono ?_; rintro _ _ ⟨rfl, rfl⟩) | (go_at_call 40; refine TA.out.mono ?_; rintro _ _ ⟨rfl, rfl⟩) | (go_at_call 44; refine PA.out.mono ?_; rintro _ w6 ⟨rfl, hf6, hb6, hg6, hz6⟩; have F6 := hI hf6; have C6 := hI (C4.out.trans (w3 := w6) ⟨hb6.os, hb6.tape, hb6.output, Nat.le_of_eq hz6.symm, fun q hq hn => hg6 q (fun e => hn (.inl e)) (fun e => hn (.inr (.inl e))) (fun e => hn (.inr (.inr (.inl e)))) (fun e => hn (.inr (.inr (.inr e))))⟩); clear hf6 hb6 hg6 hz6))
          exact ⟨⟨k + 1, by omega, by push_cast; rfl, F6, C6⟩, by simp [intOf]; omega⟩
    · have hke : k = d.size := by omega
      subst hke
      go_wp2_with fail
      exact hexit.out _ _ _ _ _ _ _ _ _ _ _ _ _ _ _ _ _ _ _ _ _ _ _ _ _ _ _ _ _ _ _ _ hf hc
end Go.Proofs.YtbmpidacoohdmaaGreat

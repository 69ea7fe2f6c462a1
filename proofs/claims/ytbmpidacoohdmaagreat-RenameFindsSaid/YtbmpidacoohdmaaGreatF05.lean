/- Numbers as decimal digits: rev.Digits and sleuthref07.Digits by contracts; slices.Reverse of bytes. A region that draws its order, where each operation keeps the worlds in a class: what reads alike in all worlds of the class may be taken first. Plain; no program. As Ord, where the class is kept up to one last operation that waits for what was taken first. Plain; no program. A region that draws its order, whose operations only read and whose callees only make new memory: walked once, in the order of the text. No program. -/
import Derived.Test.YtbmpidacoohdmaaGreatF04
import Derived.BigRegion
import Derived.RegionTactic
import Derived.Orders
import Derived.Tactics2
import Derived.RegionCalls
import Derived.Test.YtbmpidacoohdmaaGreatF00
namespace Go.Proofs.YtbmpidacoohdmaaGreat
open Lib renaming hid → hI
open Go.RowKit

/-- A number's digits. -/
def decB (n : Nat) : List UInt8 := if n < 10 then [by8 (48 + n)] else decB (n / 10) ++ [by8 (48 + n % 10)]
  termination_by n
  decreasing_by omega
theorem decB_step (n : Nat) : decB n = (if 0 < n / 10 then decB (n / 10) else []) ++ [by8 (48 + n % 10)] := by
  conv => lhs; rw [decB]
  by_cases h : n < 10
  · rw [if_pos h, if_neg (by omega), Nat.mod_eq_of_lt h]; rfl
  · rw [if_neg h, if_pos (by omega)]
def numV (l : List UInt8) : Nat := l.foldl (fun a c => a * 10 + (c.toNat - 48)) 0
theorem numV_snoc (l : List UInt8) (c : UInt8) : numV (l ++ [c]) = numV l * 10 + (c.toNat - 48) := by simp [numV]
theorem decB_dig (n : Nat) : ∀ c ∈ decB n, 48 ≤ c.toNat ∧ c.toNat ≤ 57 := by
  induction n using Nat.strongRecOn with
  | _ n ih =>
    intro c hc
    rw [decB] at hc
    by_cases h : n < 10
    · rw [if_pos h, List.mem_singleton] at hc
      rw [hc, by8_nat]; omega
    · rw [if_neg h, List.mem_append, List.mem_singleton] at hc
      rcases hc with hc | hc
      · exact ih (n / 10) (by omega) c hc
      · rw [hc, by8_nat]; omega
theorem numV_dec (n : Nat) : numV (decB n) = n := by
  induction n using Nat.strongRecOn with
  | _ n ih =>
    rw [decB]
    by_cases h : n < 10
    · rw [if_pos h]
      simp only [numV, List.foldl_cons, List.foldl_nil, by8_nat]; omega
    · rw [if_neg h, numV_snoc, ih (n / 10) (by omega), by8_nat]; omega
theorem decB_pos (n : Nat) : 0 < (decB n).length := by
  rw [decB]
  split <;> simp
theorem decB_len {n : Nat} (h : n < 1000) : (decB n).length ≤ 3 := by
  rw [decB]
  by_cases h1 : n < 10
  · rw [if_pos h1]; simp
  · rw [if_neg h1, decB]
    by_cases h2 : n / 10 < 10
    · rw [if_pos h2]; simp
    · rw [if_neg h2, decB, if_pos (by omega)]; simp
theorem decB_head (n : Nat) : 1 < (decB n).length → (decB n).getD 0 0 ≠ 48 := by
  induction n using Nat.strongRecOn with
  | _ n ih =>
    rw [decB]
    by_cases h : n < 10
    · rw [if_pos h]; simp
    · rw [if_neg h]
      intro _
      have hp := decB_pos (n / 10)
      rw [List.getD_eq_getElem?_getD, List.getElem?_append_left hp, ← List.getD_eq_getElem?_getD]
      by_cases h2 : 1 < (decB (n / 10)).length
      · exact ih (n / 10) (by omega) h2
      · have h3 : n / 10 < 10 := by
          rcases Nat.lt_or_ge (n / 10) 10 with h4 | h4
          · exact h4
          · rw [decB, if_neg (by omega), List.length_append] at h2
            have := decB_pos (n / 10 / 10)
            simp only [List.length_cons, List.length_nil] at h2; omega
        rw [decB, if_pos h3]
        intro e
        have e2 := congrArg UInt8.toNat e
        simp only [List.getD_cons_zero, by8_nat] at e2
        change _ = 48 at e2
        omega
theorem own_new (w : World) (cs : List Value) (e : TypeId) (n : Nat) (hn : cs.length = n) (hm : n ≤ maxLen) : (w.alloc (.cells cs.toArray e)).ownsRow w.heap.size e 1 (.slice (some ⟨w.heap.size, 0, none⟩) n n) n cs :=
  ⟨by omega, .inr ⟨w.heap.size, n, cs.toArray, rfl, Nat.le_refl _, heap_alloc_new w _, Nat.le_refl _, hm, by simp [hn], by simp [← hn]⟩⟩
/-- A list of bytes, its first k and its last k exchanged. -/
def rvK (l : List UInt8) (k : Nat) : List UInt8 := (List.range l.length).map fun i => if i < k ∨ l.length ≤ i + k then l.getD (l.length - 1 - i) 0 else l.getD i 0
theorem rvK_len (l : List UInt8) (k : Nat) : (rvK l k).length = l.length := by simp [rvK]
theorem rvK_at (l : List UInt8) (k i : Nat) (hi : i < l.length) : (rvK l k).getD i 0 = if i < k ∨ l.length ≤ i + k then l.getD (l.length - 1 - i) 0 else l.getD i 0 := by simp [rvK, hi]
theorem rvK_zero (l : List UInt8) : rvK l 0 = l := by
  refine List.ext_getElem (by simp [rvK]) fun i h1 h2 => ?_
  simp [rvK]
  rw [if_neg (Nat.not_le.2 h2)]
  simp [h2]
theorem rvK_step (l : List UInt8) (k : Nat) (h : 2 * k + 1 < l.length) : ((rvK l k).set k (l.getD (l.length - 1 - k) 0)).set (l.length - 1 - k) (l.getD k 0) = rvK l (k + 1) := by
  refine List.ext_getElem (by simp [rvK]) fun i h1 h2 => ?_
  have hi : i < l.length := by simpa [rvK] using h2
  simp only [List.getElem_set, rvK, List.getElem_map, List.getElem_range]
  by_cases e1 : l.length - 1 - k = i
  · rw [if_pos e1, if_pos (by omega)]
    congr 1; omega
  · rw [if_neg e1]
    by_cases e2 : k = i
    · rw [if_pos e2, if_pos (by omega)]
      congr 1; omega
    · rw [if_neg e2]
      by_cases e3 : i < k ∨ l.length ≤ i + k
      · rw [if_pos e3, if_pos (by omega)]
      · rw [if_neg e3, if_neg (by omega)]
theorem rvK_end (l : List UInt8) (k : Nat) (h : l.length ≤ 2 * k + 1) : rvK l k = l.reverse := by
  refine List.ext_getElem (by simp [rvK]) fun i h1 h2 => ?_
  have hi : i < l.length := by simpa [rvK] using h1
  simp only [rvK, List.getElem_map, List.getElem_range, List.getElem_reverse]
  by_cases e : i < k ∨ l.length ≤ i + k
  · rw [if_pos e]; simp [show l.length - 1 - i < l.length by omega]
  · rw [if_neg e]
    have : i = l.length - 1 - i := by omega
    simp [hi]
    congr 1
/-- A block of cells that begins with the bytes l. -/
theorem Ar.setTail {W : World} {g : Nat} {t : TypeId} {cs tl : List Value} (h : Ar W g t (cs ++ tl)) {k : Nat} (hk : k < cs.length) (v : Value) : Ar (W.setCell ⟨g, k, none⟩ v) g t (cs.set k v ++ tl) := by
  have := h.set k v
  rwa [List.set_append_left _ _ hk] at this
set_option maxRecDepth 100000 in
set_option maxHeartbeats 1000000 in
theorem reverse_any (w : World) (g : Nat) (l : List UInt8) (tl : List Value) (cap : Nat) (h : Ar w g 5 (bys l ++ tl)) (h0 : 0 < l.length) (hl : l.length ≤ 1000000) :
    Calls Tryz.prog 127 #[.slice (some ⟨g, 0, none⟩) l.length cap] w fun e w2 => e = .returned (.tuple #[]) ∧ Ar w2 g 5 (bys l.reverse ++ tl) ∧ w.grownBy w2 (some g) := by
  have H0 : Hid (Ar w g 5 (bys (rvK l 0) ++ tl)) := hI (by rw [rvK_zero]; exact h)
  obtain ⟨m, hm⟩ : ∃ m, l.length = m + 1 := ⟨l.length - 1, by omega⟩
  have HM := hI hm
  rw [hm]
  have hmm : m ≤ 1000000 := by omega
  clear h hm
  go_enter Tryz.func127, Tryz.ntmps127
  go_wp2_with fail
  go_loopw [2, 3] (fun iv jv wr => ∃ k j : Nat, iv = .int .i64 k ∧ jv = .int .i64 j ∧ k + j = m ∧ Hid (Ar wr g 5 (bys (rvK l k) ++ tl)) ∧ Hid (w.grownBy wr (some g))) (fun _ jv _ => (intOf jv).toNat)
  case atStart => exact ⟨0, m, rfl, by first | rfl | simp, by omega, H0, grown_refl _ _⟩
  case round =>
    clear H0
    obtain ⟨k, j, rfl, rfl, hkj, ha, hg⟩ := hrel
    by_cases hlt : k < j
    · have hlen : (bys (rvK l k)).length = m + 1 := by rw [bys_len, rvK_len]; exact HM.out
      have ek : (bys (rvK l k) ++ tl)[k]? = some (.int .u8 ((l.getD k 0).toNat : Int)) := by
        rw [List.getElem?_append_left (by omega), bys_at (by rw [rvK_len]; have := HM.out; omega), rvK_at _ _ _ (by have := HM.out; omega), if_neg (by have := HM.out; omega)]
      have ej : (bys (rvK l k) ++ tl)[j]? = some (.int .u8 ((l.getD j 0).toNat : Int)) := by
        rw [List.getElem?_append_left (by omega), bys_at (by rw [rvK_len]; have := HM.out; omega), rvK_at _ _ _ (by have := HM.out; omega), if_neg (by have := HM.out; omega)]
      have ca := ha.out.cell ek
      have cb := ha.out.cell ej
      have fa := ha.out.frozen k
      have fb := ha.out.frozen j
      have A2 : Hid (Ar ((wr.setCell ⟨g, k, none⟩ (.int .u8 ((l.getD j 0).toNat : Int))).setCell ⟨g, j, none⟩ (.int .u8 ((l.getD k 0).toNat : Int))).drew g 5 (bys (rvK l (k + 1)) ++ tl)) := hI (by
        have h1 := Ar.setTail ha.out (k := k) (by omega) (.int .u8 ((l.getD j 0).toNat : Int))
        rw [bys_set] at h1
        have h2 := Ar.setTail h1 (k := j) (by rw [bys_len, List.length_set, rvK_len]; have := HM.out; omega) (.int .u8 ((l.getD k 0).toNat : Int))
        rw [bys_set] at h2
        have e := rvK_step l k (by have := HM.out; omega)
        rw [show l.length - 1 - k = j by have := HM.out; omega] at e
        rwa [e] at h2)
      have G2 : Hid (w.grownBy ((wr.setCell ⟨g, k, none⟩ (.int .u8 ((l.getD j 0).toNat : Int))).setCell ⟨g, j, none⟩ (.int .u8 ((l.getD k 0).toNat : Int))).drew (some g)) := hI (grown_drew (grown_trans (grown_trans hg.out (grown_cell _ _ _ _)) (grown_cell _ _ _ _)))
      have hne : k ≠ j := by omega
      have hjk : j ≠ k := by omega
      generalize l.getD k 0 = x at *
      generalize l.getD j 0 = y at *
      clear ek ej hlen
      go_wp2_with fail
      go_region
      go_wp2_with fail
      exact ⟨⟨k + 1, j - 1, by go_num, by rw [Int.natCast_sub (by omega)]; rfl, by omega, A2, G2⟩, by simp [intOf]; omega⟩
    · have HE : Hid (rvK l k = l.reverse) := hI (rvK_end l k (by have := HM.out; omega))
      rw [HE.out] at ha
      go_wp2_with fail
      go_end0
      exact ⟨rfl, ha.out, hg.out⟩
theorem own_ar {w : World} {B : Nat} {e : TypeId} {v : Value} {n : Nat} {xs : List Value} (h : w.ownsRow B e 1 v n xs) (hn : 0 < n) : ∃ g cap tl, v = .slice (some ⟨g, 0, none⟩) n cap ∧ B ≤ g ∧ n ≤ cap ∧ cap ≤ maxLen ∧ Ar w g e (xs ++ tl) ∧ (xs ++ tl).length = cap := by
  obtain ⟨hl, h | ⟨g, cap, cur, rfl, hb, hg, hc, hm, hs, ht⟩⟩ := h
  · omega
  · refine ⟨g, cap, cur.toList.drop (n * 1), rfl, hb, hc, hm, ?_, ?_⟩
    · rw [← ht, List.take_append_drop]
      unfold Ar
      rw [hg]
    · rw [← ht, List.take_append_drop]
      simp [hs]
theorem dig_u8 (n : Nat) : IntKind.u8.wrap (48 + (n : Int) % 10) = ((by8 (48 + n % 10)).toNat : Int) := by
  rw [by8_nat, IntKind.wrap_u8]; omega
set_option maxRecDepth 100000 in
set_option maxHeartbeats 1000000 in
theorem digits_any (w : World) (n : Nat) (hn : n ≤ 1000000) :
    Calls Tryz.prog 80 #[.int .i64 n] w fun e w2 => e = .returned (.string (bs (decB n))) ∧ Below w.heap.size w w2 := by
  have H0 := hI (own_new w [.int .u8 ((by8 (48 + n % 10)).toNat : Int)] 5 1 rfl (by unfold maxLen; omega))
  have HD := hI (decB_step n)
  have B0 := hI ((Below.refl w.heap.size w).alloc (Nat.le_refl _) (.cells #[.int .u8 ((by8 (48 + n % 10)).toNat : Int)] 5))
  have e1 := dig_u8 n
  go_enter Tryz.func80, Tryz.ntmps80
  go_wp2_with fail
  clear e1
  go_loopw [0, 3] (fun nv sv wr => ∃ (m : Nat) (l : List UInt8), m ≤ 1000000 ∧ l.length + m ≤ 500000 ∧ 0 < l.length ∧ nv = .int .i64 m ∧ Hid (decB n = (if 0 < m then decB m else []) ++ l.reverse) ∧ Hid (wr.ownsRow w.heap.size 5 1 sv l.length (bys l)) ∧ Hid (Below w.heap.size w wr)) (fun nv _ _ => (intOf nv).toNat)
  case atStart => exact ⟨n / 10, [by8 (48 + n % 10)], by omega, by simp; omega, by simp, by first | rfl | simp, HD, H0, B0⟩
  case round =>
    clear H0 HD B0
    obtain ⟨m, l, hm, hlm, hl0, rfl, hd, ho, hb⟩ := hrel
    have hbs := hb.out.size
    by_cases hlt : 0 < m
    · have HS : Hid (decB n = (if 0 < m / 10 then decB (m / 10) else []) ++ (l ++ [by8 (48 + m % 10)]).reverse) := hI (by
        have := hd.out
        rw [if_pos hlt, decB_step m] at this
        rw [this]; simp)
      have e1 := dig_u8 m
      have HA := hI (bys_app l [by8 (48 + m % 10)])
      have O1 := hI (ho.out.alloc (.cells #[.int .u8 ((by8 (48 + m % 10)).toNat : Int)] 5))
      have NW := hI (new_rv wr (bys [by8 (48 + m % 10)]) 5 ⟨wr.heap.size, 0, none⟩ rfl)
      have hs1 : (wr.alloc (.cells #[.int .u8 ((by8 (48 + m % 10)).toNat : Int)] 5)).heap.size = wr.heap.size + 1 := World.size_alloc _ _
      have HS1 := hI hs1
      clear hs1
      go_wp2_with (at_builtin; refine wpList_app sl22 rfl (.tmp 17) (.tmp 22) rfl w.heap.size u3 l.length (bys l) rfl O1.out (some ⟨wr.heap.size, 0, none⟩) 1 1 (bys [by8 (48 + m % 10)]) rfl (fun e => by cases e) rfl NW.out (bys_one _) (by unfold maxLen; omega) (by omega) (by rw [HS1.out]; omega) ?_; intro v2 w2 ho2 ha; rw [HA.out] at ho2; have O2 := hI ho2; have A2 := hI ha; clear ho2 ha)
      have HB2 := hI ((hb.out.alloc hbs (.cells #[.int .u8 ((by8 (48 + m % 10)).toNat : Int)] 5)).trans (below_of_grown A2.out.grown (by rw [HS1.out]; omega) (fun k hk => (O1.out.lt k hk).1)))
      refine ⟨⟨m / 10, l ++ [by8 (48 + m % 10)], by omega, by simp; omega, by simp, by first | rfl | simp, HS, by rw [List.length_append]; exact O2, HB2⟩, by simp [intOf]; omega⟩
    · obtain ⟨g, cap, tl, hv, hg, hc, hcm, har, hcl⟩ := own_ar ho.out hl0
      subst hv
      have HRV := hI (reverse_any wr g l tl cap har hl0 (by omega))
      have HE : Hid (decB n = l.reverse) := hI (by rw [hd.out, if_neg hlt]; rfl)
      clear har hd
      go_wp2_with fail
      refine HRV.out.mono ?_
      rintro en w2 ⟨rfl, ha2, hg2⟩
      have B2 := hI (hb.out.trans (below_of_grown hg2 hbs (fun k hk => by have := Option.some.inj hk; omega)))
      have hcv := conv22 cap (l := l.reverse) (D := some ⟨g, 0, none⟩) (B := w2.heap.size) (w := w2) (fun k x hx => ha2.rv k x (by rw [List.getElem?_append_left (List.getElem?_eq_some_iff.1 hx).1]; exact hx))
      rw [List.length_reverse] at hcv
      clear ha2 hg2 HRV
      go_wp2_with fail
      go_ret
      rw [HE.out]
      exact ⟨rfl, B2.out⟩
theorem bs_empty (l : List UInt8) : (bs l).toList.isEmpty = l.isEmpty := by rw [bs_toList]
def emp : Value → Nat
  | .string s => if s.size = 0 then 1 else 0
  | _ => 0
theorem emp_nil : emp (.string (bs [])) = 1 := rfl
theorem emp_cons (c : UInt8) (l : List UInt8) : emp (.string (bs (c :: l))) = 0 := by simp [emp, bs_size]
attribute [local go_sem] bs_append bs_empty
def FdR (n : Nat) (w : World) (nv sv : Value) (wr : World) : Prop := ∃ (m : Nat) (l : List UInt8), m ≤ 1000000 ∧ l.length + m ≤ 1000000 ∧ nv = .int .i64 m ∧ sv = .string (bs l) ∧ Hid ((l = [] ∧ m = n) ∨ (l ≠ [] ∧ decB n = (if 0 < m then decB m else []) ++ l)) ∧ Hid (Below w.heap.size w wr)
set_option maxRecDepth 100000 in
set_option maxHeartbeats 1000000 in
theorem fdigits_any (w : World) (n : Nat) (hn : n ≤ 1000000) :
    Calls Tryz.prog 68 #[.int .i64 n] w fun e w2 => e = .returned (.string (bs (decB n))) ∧ Below w.heap.size w w2 := by
  go_enter Tryz.func68, Tryz.ntmps68
  go_wp2_with fail
  go_loopw [0, 3] (fun nv sv wr => FdR n w nv sv wr) (fun nv sv _ => (intOf nv).toNat + emp sv)
  case atStart => exact ⟨n, [], by omega, by simp; omega, rfl, by first | rfl | simp [bs], hI (.inl ⟨rfl, rfl⟩), hI (Below.refl _ _)⟩
  case round =>
    obtain ⟨m, l, hm, hlm, rfl, rfl, hd, hb⟩ := hrel
    have hbs := hb.out.size
    by_cases h0 : 0 < m
    · have HS : Hid (decB n = (if 0 < m / 10 then decB (m / 10) else []) ++ ([by8 (48 + m % 10)] ++ l)) := hI (by
        rcases hd.out with ⟨rfl, rfl⟩ | ⟨hl, he⟩
        · rw [decB_step]; simp
        · rw [if_pos h0, decB_step m] at he
          rw [he]; simp)
      have e1 := dig_u8 m
      have hcv : (convert 57 9 (.slice (some ⟨wr.heap.size, 0, none⟩) 1 1)).run Tryz.prog (wr.alloc (.cells #[.int .u8 ((by8 (48 + m % 10)).toNat : Int)] 5)) = .ok (.string (bs [by8 (48 + m % 10)])) (wr.alloc (.cells #[.int .u8 ((by8 (48 + m % 10)).toNat : Int)] 5)) :=
        conv22 1 (l := [by8 (48 + m % 10)]) (new_rv wr (bys [by8 (48 + m % 10)]) 5 ⟨wr.heap.size, 0, none⟩ rfl)
      have B1 := hI (hb.out.alloc hbs (.cells #[.int .u8 ((by8 (48 + m % 10)).toNat : Int)] 5))
      generalize by8 (48 + m % 10) = c at *
      have hsz : (bs [c]).size + (bs l).size ≤ 1000001 := by rw [bs_size, bs_size]; simp; omega
      go_wp2_with fail
      exact ⟨⟨m / 10, c :: l, by omega, by simp; omega, rfl, rfl, hI (.inr ⟨by simp, HS.out⟩), B1⟩, by rw [emp_cons]; simp [intOf]; omega⟩
    · obtain rfl : m = 0 := by omega
      cases l with
      | nil =>
        have hn0 : n = 0 := by
          rcases hd.out with ⟨_, h⟩ | ⟨h, _⟩
          · exact h.symm
          · exact absurd rfl h
        subst hn0
        have HS : Hid (decB 0 = (if 0 < 0 then decB 0 else []) ++ ([48] : List UInt8)) := hI (by rw [decB]; rfl)
        have hcv : (convert 57 9 (.slice (some ⟨wr.heap.size, 0, none⟩) 1 1)).run Tryz.prog (wr.alloc (.cells #[.int .u8 48] 5)) = .ok (.string (bs [48])) (wr.alloc (.cells #[.int .u8 48] 5)) :=
          conv22 1 (l := [48]) (new_rv wr (bys [48]) 5 ⟨wr.heap.size, 0, none⟩ rfl)
        have B1 := hI (hb.out.alloc hbs (.cells #[.int .u8 48] 5))
        have ht : ([] : List UInt8).isEmpty = true := rfl
        have hsz : (bs [48]).size + (bs []).size ≤ 1000001 := by rw [bs_size, bs_size]; simp
        go_wp2_with fail
        exact ⟨⟨0, [48], by omega, by simp, rfl, rfl, hI (.inr ⟨by simp, HS.out⟩), B1⟩, by rw [emp_cons, emp_nil]; simp⟩
      | cons c k =>
        have HE : Hid (decB n = c :: k) := hI (by
          rcases hd.out with ⟨h, _⟩ | ⟨_, h⟩
          · cases h
          · rw [h]; rfl)
        have ht : (c :: k).isEmpty = false := rfl
        generalize c :: k = l at *
        go_wp2_with fail
        go_ret
        rw [HE.out]
        exact ⟨rfl, hb.out⟩
end Go.Proofs.YtbmpidacoohdmaaGreat
namespace Go.Proofs.YtbmpidacoohdmaaGreat
section
open Go

section
variable {P : Program} {ops : Array Oper} {md : Region.Mode} {C : World → Prop} {Q : Exit → Act → World → Prop}

/-- In each world of the class the operation gives v and leaves the world as it is. -/
def Gives (P : Program) (ops : Array Oper) (C : World → Prop) (o : Oper) (v : Value) (a : Act) : Prop :=
  (Region.wanted o (yielded ops a.tmps) = true ∧ ∀ w, C w → (execOp a.eval o).run P w = .ok (.value v) w) ∨
  (Region.wanted o (yielded ops a.tmps) = false ∧ v = undef)
theorem Gives.alike {o : Oper} {v : Value} {a b : Act} (h : Gives P ops C o v a) (he : execOp b.eval o = execOp a.eval o) (hw : Region.wanted o (yielded ops b.tmps) = Region.wanted o (yielded ops a.tmps)) : Gives P ops C o v b := by
  unfold Gives at *
  rwa [he, hw]
theorem Gives.op {i : Nat} {o : Oper} {v : Value} {a : Act} {w : World} {K : Act → World → Prop} (hi : ops[i]? = some o) (h : Gives P ops C o v a) (hC : C w) (hk : K (a.put o.dst v) w) : wpOp P ops Q i K a w := by
  rcases h with ⟨h1, h2⟩ | ⟨h1, rfl⟩
  · simp only [wpOp, hi, h1, if_true]
    exact .inl (by unfold Oper.wp; rw [h2 w hC]; exact hk)
  · simp only [wpOp, hi, h1, Bool.false_eq_true, if_false]
    exact hk
/-- What another operation does is the same whether v stands in its slot already. -/
theorem Gives.past {j : Nat} {oi oj : Oper} {v : Value} {K : Act → World → Prop} {a : Act} {w : World} (hj : ops[j]? = some oj) (hap : oi.apart ops oj = true)
    (hsi : ∀ cs b, oi.op ≠ .select cs b) (hsj : ∀ cs b, oj.op ≠ .select cs b) (hQ : ∀ c a w, Q (.panic c) (a.put oi.dst v) w → Q (.panic c) a w)
    (hy : Gives P ops C oi v a) (h : wpOp P ops Q j K (a.put oi.dst v) w) : wpOp P ops Q j (fun b u => Gives P ops C oi v b ∧ K (b.put oi.dst v) u) a w := by
  obtain ⟨p1, p2, p3⟩ := Oper.apart_spec hap
  have still : ∀ b : Act, Gives P ops C oi v b → ∀ x, Gives P ops C oi v (b.put oj.dst x) := fun b hb x => hb.alike (execOp_put oi hsi b oj.dst x p3) (wanted_put oi b oj.dst x p3)
  have swap : ∀ (b : Act) (x : Value), (b.put oi.dst v).put oj.dst x = (b.put oj.dst x).put oi.dst v := fun b x => Act.put_comm b v x p2
  have each : ∀ r : Result Next, oj.upon P (a.put oi.dst v) K Q r → oj.upon P a (fun b u => Gives P ops C oi v b ∧ K (b.put oi.dst v) u) Q r := by
    intro r hr
    rcases r with ⟨n, u⟩ | ⟨x, u⟩
    · cases n
      case value y =>
        simp only [Oper.upon] at hr ⊢
        exact ⟨still a hy y, by rw [← swap]; exact hr⟩
      case skip =>
        simp only [Oper.upon] at hr ⊢
        exact ⟨still a hy _, by rw [← swap]; exact hr⟩
      case defer d =>
        simp only [Oper.upon] at hr ⊢
        refine ⟨still { a with defers := d :: a.defers } (hy.alike rfl rfl) _, ?_⟩
        rw [← swap, ← Act.put_defers]
        exact hr
      case enter f args =>
        simp only [Oper.upon] at hr ⊢
        refine hr.mono fun e u' he => ?_
        rcases e with y | c | _
        · exact ⟨still a hy y, by rw [← swap]; exact he⟩
        · exact hQ _ _ _ he
        · exact he
      case row row args =>
        simp only [Oper.upon] at hr ⊢
        exact Rows.mono hr fun y u' he => ⟨still a hy y, by rw [← swap]; exact he⟩
      all_goals exact hr.elim
    · cases x
      case panic y =>
        simp only [Oper.upon] at hr ⊢
        exact hQ _ _ _ hr
      all_goals exact hr.elim
  have ew := wanted_put oj a oi.dst v p1
  have eo := execOp_put oj hsj a oi.dst v p1
  unfold wpOp at *
  simp only [hj] at *
  rw [ew] at h
  by_cases hw : Region.wanted oj (yielded ops a.tmps) = true
  · rw [if_pos hw] at h ⊢
    rcases h with h | ⟨h1, h2⟩
    · refine .inl ?_
      unfold Oper.wp at *
      rw [eo] at h
      exact each _ h
    · refine .inr ⟨?_, h2⟩
      unfold Oper.asks at *
      rwa [eo] at h1
  · rw [if_neg hw] at h ⊢
    exact ⟨still a hy _, by rw [← swap]; exact h⟩

/-- As wpAny; and each world that is come to is of the class. -/
def anyC (P : Program) (md : Region.Mode) (ops : Array Oper) (C : World → Prop) (Q : Exit → Act → World → Prop) : Nat → Array Bool → Act → World → Prop
  | 0, listed, a, w => C w ∧ Region.ready md ops listed = [] ∧ Q .normal a w
  | f + 1, listed, a, w => C w ∧ (Region.ready md ops listed = [] → Q .normal a w) ∧ ∀ i ∈ Region.ready md ops listed, wpOp P ops Q i (anyC P md ops C Q f (listed.setIfInBounds i true)) a w
theorem anyC.c : ∀ {f : Nat} {listed : Array Bool} {a : Act} {w : World}, anyC P md ops C Q f listed a w → C w
  | 0, _, _, _, h => h.1
  | _ + 1, _, _, _, h => h.1
theorem any_of : ∀ (f : Nat) (listed : Array Bool) (a : Act) (w : World), anyC P md ops C Q f listed a w → wpAny P md ops Q f listed a w
  | 0, _, _, _, h => h.2
  | f + 1, _, _, _, h => ⟨h.2.1, fun i hi => wpOp_mono (fun a w h => any_of f _ a w h) (h.2.2 i hi)⟩
theorem first_of {i : Nat} {oi : Oper} {v : Value} (hi : ops[i]? = some oi) (hsel : ∀ (j : Nat) (o : Oper) cs b, ops[j]? = some o → o.op ≠ .select cs b) (hQ : ∀ c a w, Q (.panic c) (a.put oi.dst v) w → Q (.panic c) a w) :
    ∀ (f : Nat) (listed : Array Bool) (a : Act) (w : World), C w →
      (∀ j oj, ops[j]? = some oj → j ≠ i → listed.getD j true = false → (∀ e ∈ oj.after, Region.binds md e = true → e.on ≠ i) → oi.apart ops oj = true) →
      i ∈ Region.ready md ops listed → Gives P ops C oi v a → anyC P md ops C Q f (listed.setIfInBounds i true) (a.put oi.dst v) w → anyC P md ops C Q (f + 1) listed a w := by
  intro f
  induction f with
  | zero =>
    intro listed a w hC _ hr hy H
    refine ⟨hC, fun h => (by rw [h] at hr; cases hr), fun j hj => ?_⟩
    by_cases hji : j = i
    · subst hji
      exact hy.op hi hC H
    · exact absurd (ready_mono hj hji) (by rw [H.2.1]; exact List.not_mem_nil)
  | succ f ih =>
    intro listed a w hC hfree hr hy H
    refine ⟨hC, fun h => (by rw [h] at hr; cases hr), fun j hj => ?_⟩
    by_cases hji : j = i
    · subst hji
      exact hy.op hi hC H
    · obtain ⟨hu, oj, hoj, hall⟩ := mem_ready.1 hj
      have hno : ∀ e ∈ oj.after, Region.binds md e = true → e.on ≠ i := fun e he hb heq => by
        have h1 := hall e he hb
        have h0 := (mem_ready.1 hr).1
        rw [heq] at h1
        by_cases hlt : i < listed.size
        · simp [hlt] at h0 h1
          rw [h0] at h1
          cases h1
        · simp [Array.getElem?_eq_none (Nat.le_of_not_lt hlt)] at h1
      have h2 := Gives.past hoj (hfree j oj hoj hji hu hno) (fun cs b => hsel i oi cs b hi) (fun cs b => hsel j oj cs b hoj) hQ hy (H.2.2 j (ready_mono hj hji))
      refine wpOp_mono (fun b u h3 => ?_) h2
      refine ih (listed.setIfInBounds j true) b u h3.2.c (fun k ok hk hki hun hn => ?_) (ready_mono hr (Ne.symm hji)) h3.1 (by rw [Array.setIfInBounds_comm _ _ hji]; exact h3.2)
      refine hfree k ok hk hki ?_ hn
      by_cases hjk : j = k
      · subst hjk; exact hu
      · rwa [getD_set_ne true hjk] at hun
/-- One that reads alike is taken. -/
theorem anyC_take {oi : Oper} {v : Value} {f : Nat} {listed : Array Bool} {a : Act} {w : World} (i : Nat) (hC : C w) (hi : ops[i]? = some oi) (hs : Region.noSelect ops = true) (hf : Region.free md ops listed i = true)
    (hr : (Region.ready md ops listed).contains i = true) (hQ : ∀ c a w, Q (.panic c) (a.put oi.dst v) w → Q (.panic c) a w) (hw : Region.wanted oi (yielded ops a.tmps) = true) (hy : ∀ w, C w → (execOp a.eval oi).run P w = .ok (.value v) w)
    (h : anyC P md ops C Q f (listed.setIfInBounds i true) (a.put oi.dst v) w) : anyC P md ops C Q (f + 1) listed a w :=
  first_of hi (Region.noSelect_spec hs) hQ f listed a w hC (Region.free_spec hi hf) (by simpa using hr) (.inl ⟨hw, hy⟩) h
theorem upon_then {o : Oper} {a : Act} {K : Act → World → Prop} {r : Result Next} (h : o.upon P a (fun a w => Exit.then K Q .normal a w) (Exit.then K Q) r) : o.upon P a K Q r := by
  rcases r with ⟨n, u⟩ | ⟨x, u⟩
  · cases n
    case enter f args =>
      simp only [Oper.upon] at h ⊢
      refine h.mono fun e u' he => ?_
      rcases e with y | c | _
      · exact he
      · exact he
      · exact he
    all_goals exact h
  · cases x <;> exact h
/-- One of some that may come up is walked as a list of one. -/
theorem anyC_step {f : Nat} {listed : Array Bool} {a : Act} {w : World} {o : Oper} (i : Nat) (hi : ops[i]? = some o) (h : wpList P ops (Exit.then (anyC P md ops C Q f (listed.setIfInBounds i true)) Q) [o] a w) :
    wpOp P ops Q i (anyC P md ops C Q f (listed.setIfInBounds i true)) a w := by
  unfold wpOp
  simp only [hi]
  have e : wpList P ops (Exit.then (anyC P md ops C Q f (listed.setIfInBounds i true)) Q) [o] a w = (if Region.wanted o (yielded ops a.tmps) = true then o.wp P a w (fun a w => Exit.then (anyC P md ops C Q f (listed.setIfInBounds i true)) Q .normal a w) (Exit.then (anyC P md ops C Q f (listed.setIfInBounds i true)) Q) ∨ (o.asks P a w ∧ LetsOut (Exit.then (anyC P md ops C Q f (listed.setIfInBounds i true)) Q)) else anyC P md ops C Q f (listed.setIfInBounds i true) (a.put o.dst undef) w) := rfl
  rw [e] at h
  by_cases hw : Region.wanted o (yielded ops a.tmps) = true
  · rw [if_pos hw] at h ⊢
    rcases h with h | ⟨h1, h2⟩
    · exact .inl (upon_then h)
    · exact .inr ⟨h1, h2⟩
  · rw [if_neg hw] at h ⊢
    exact h
theorem anyC_one {f : Nat} {listed : Array Bool} {a : Act} {w : World} {o : Oper} (i : Nat) (hC : C w) (hr : Region.ready md ops listed = [i]) (hi : ops[i]? = some o)
    (h : wpList P ops (Exit.then (anyC P md ops C Q f (listed.setIfInBounds i true)) Q) [o] a w) : anyC P md ops C Q (f + 1) listed a w := by
  refine ⟨hC, fun h0 => (by rw [hr] at h0; cases h0), fun j hj => ?_⟩
  rw [hr, List.mem_singleton] at hj
  subst hj
  exact anyC_step j hi h
theorem anyC_two {f : Nat} {listed : Array Bool} {a : Act} {w : World} {o o2 : Oper} (i j : Nat) (hC : C w) (hr : Region.ready md ops listed = [i, j]) (hi : ops[i]? = some o) (hj : ops[j]? = some o2)
    (h : wpList P ops (Exit.then (anyC P md ops C Q f (listed.setIfInBounds i true)) Q) [o] a w) (h2 : wpList P ops (Exit.then (anyC P md ops C Q f (listed.setIfInBounds j true)) Q) [o2] a w) : anyC P md ops C Q (f + 1) listed a w := by
  refine ⟨hC, fun h0 => (by rw [hr] at h0; cases h0), fun k hk => ?_⟩
  rw [hr, List.mem_cons, List.mem_singleton] at hk
  rcases hk with rfl | rfl
  · exact anyC_step k hi h
  · exact anyC_step k hj h2
theorem anyC_done {listed : Array Bool} {a : Act} {w : World} (hC : C w) (hr : Region.ready md ops listed = []) (h : Q .normal a w) : ∀ f, anyC P md ops C Q f listed a w
  | 0 => ⟨hC, hr, h⟩
  | _ + 1 => ⟨hC, fun _ => h, by rw [hr]; simp⟩
theorem region_of {id : Nat} {a : Act} {w : World} {l : List Oper} (C : World → Prop) (hm : P.follows .mixedOrders = true) (h : anyC P .any l.toArray C Q l.length (Array.replicate l.length false) a w.drew) : (Code.region id l.toArray true).wp P Q a w :=
  wp_region_any hm (any_of _ _ _ _ (by simpa using h))
end
end
section
open Go

section
variable {P : Program} {ops : Array Oper} {md : Region.Mode} {C : World → Prop} {Q : Exit → Act → World → Prop} {z : Nat}

/-- As wpAny; and each world that is come to before operation z is of the class. -/
def anyZ (P : Program) (md : Region.Mode) (ops : Array Oper) (z : Nat) (C : World → Prop) (Q : Exit → Act → World → Prop) : Nat → Array Bool → Act → World → Prop
  | 0, listed, a, w => (listed.getD z true = false → C w) ∧ Region.ready md ops listed = [] ∧ Q .normal a w
  | f + 1, listed, a, w => (listed.getD z true = false → C w) ∧ (Region.ready md ops listed = [] → Q .normal a w) ∧ ∀ i ∈ Region.ready md ops listed, wpOp P ops Q i (anyZ P md ops z C Q f (listed.setIfInBounds i true)) a w
theorem anyZ.c : ∀ {f : Nat} {listed : Array Bool} {a : Act} {w : World}, anyZ P md ops z C Q f listed a w → listed.getD z true = false → C w
  | 0, _, _, _, h => h.1
  | _ + 1, _, _, _, h => h.1
theorem any_ofz : ∀ (f : Nat) (listed : Array Bool) (a : Act) (w : World), anyZ P md ops z C Q f listed a w → wpAny P md ops Q f listed a w
  | 0, _, _, _, h => h.2
  | f + 1, _, _, _, h => ⟨h.2.1, fun i hi => wpOp_mono (fun a w h => any_ofz f _ a w h) (h.2.2 i hi)⟩
theorem waits_not {i : Nat} {listed : Array Bool} (hr : i ∈ Region.ready md ops listed) {oj : Oper} (hall : ∀ e ∈ oj.after, Region.binds md e = true → listed.getD e.on false = true) : ∀ e ∈ oj.after, Region.binds md e = true → e.on ≠ i := fun e he hb heq => by
  have h1 := hall e he hb
  have h0 := (mem_ready.1 hr).1
  rw [heq] at h1
  by_cases hlt : i < listed.size
  · simp [hlt] at h0 h1
    rw [h0] at h1
    cases h1
  · simp [Array.getElem?_eq_none (Nat.le_of_not_lt hlt)] at h1
theorem first_z {i : Nat} {oi oz : Oper} {v : Value} (hi : ops[i]? = some oi) (hz : ops[z]? = some oz) (hzi : ∃ e ∈ oz.after, Region.binds md e = true ∧ e.on = i) (hsel : ∀ (j : Nat) (o : Oper) cs b, ops[j]? = some o → o.op ≠ .select cs b) (hQ : ∀ c a w, Q (.panic c) (a.put oi.dst v) w → Q (.panic c) a w) :
    ∀ (f : Nat) (listed : Array Bool) (a : Act) (w : World), C w → listed.getD z true = false →
      (∀ j oj, ops[j]? = some oj → j ≠ i → listed.getD j true = false → (∀ e ∈ oj.after, Region.binds md e = true → e.on ≠ i) → oi.apart ops oj = true) →
      i ∈ Region.ready md ops listed → Gives P ops C oi v a → anyZ P md ops z C Q f (listed.setIfInBounds i true) (a.put oi.dst v) w → anyZ P md ops z C Q (f + 1) listed a w := by
  intro f
  induction f with
  | zero =>
    intro listed a w hC _ _ hr hy H
    refine ⟨fun _ => hC, fun h => (by rw [h] at hr; cases hr), fun j hj => ?_⟩
    by_cases hji : j = i
    · subst hji
      exact hy.op hi hC H
    · exact absurd (ready_mono hj hji) (by rw [H.2.1]; exact List.not_mem_nil)
  | succ f ih =>
    intro listed a w hC hlz hfree hr hy H
    refine ⟨fun _ => hC, fun h => (by rw [h] at hr; cases hr), fun j hj => ?_⟩
    by_cases hji : j = i
    · subst hji
      exact hy.op hi hC H
    · obtain ⟨hu, oj, hoj, hall⟩ := mem_ready.1 hj
      have hno := waits_not hr hall
      have hjz : j ≠ z := by
        rintro rfl
        obtain rfl := Option.some.inj (hoj.symm.trans hz)
        obtain ⟨e, he, hb, hon⟩ := hzi
        exact hno e he hb hon
      have hiz : i ≠ z := by
        rintro rfl
        obtain ⟨_, o2, ho2, hall2⟩ := mem_ready.1 hr
        obtain rfl := Option.some.inj (ho2.symm.trans hz)
        obtain ⟨e, he, hb, hon⟩ := hzi
        exact waits_not hr hall2 e he hb hon
      have h2 := Gives.past hoj (hfree j oj hoj hji hu hno) (fun cs b => hsel i oi cs b hi) (fun cs b => hsel j oj cs b hoj) hQ hy (H.2.2 j (ready_mono hj hji))
      refine wpOp_mono (fun b u h3 => ?_) h2
      have hlz2 : (listed.setIfInBounds j true).getD z true = false := by rw [getD_set_ne true hjz]; exact hlz
      refine ih (listed.setIfInBounds j true) b u (h3.2.c (by rw [getD_set_ne true hjz, getD_set_ne true hiz]; exact hlz)) hlz2 (fun k ok hk hki hun hn => ?_) (ready_mono hr (Ne.symm hji)) h3.1 (by rw [Array.setIfInBounds_comm _ _ hji]; exact h3.2)
      refine hfree k ok hk hki ?_ hn
      by_cases hjk : j = k
      · subst hjk; exact hu
      · rwa [getD_set_ne true hjk] at hun
/-- Does z wait for i? -/
def waitsZ (md : Region.Mode) (ops : Array Oper) (z i : Nat) : Bool := match ops[z]? with
  | some o => o.after.any fun e => Region.binds md e && e.on == i
  | none => false
theorem waitsZ_spec {i : Nat} (h : waitsZ md ops z i = true) : ∃ oz, ops[z]? = some oz ∧ ∃ e ∈ oz.after, Region.binds md e = true ∧ e.on = i := by
  unfold waitsZ at h
  split at h
  · rename_i o ho
    obtain ⟨e, he, hb⟩ := Array.any_eq_true'.1 h
    simp only [Bool.and_eq_true, beq_iff_eq] at hb
    exact ⟨o, ho, e, he, hb⟩
  · cases h
theorem anyZ_take {oi : Oper} {v : Value} {f : Nat} {listed : Array Bool} {a : Act} {w : World} (i : Nat) (hC : C w) (hi : ops[i]? = some oi) (hs : Region.noSelect ops = true) (hf : Region.free md ops listed i = true)
    (hr : (Region.ready md ops listed).contains i = true) (hl : listed.getD z true = false) (hz : waitsZ md ops z i = true) (hQ : ∀ c a w, Q (.panic c) (a.put oi.dst v) w → Q (.panic c) a w) (hw : Region.wanted oi (yielded ops a.tmps) = true) (hy : ∀ w, C w → (execOp a.eval oi).run P w = .ok (.value v) w)
    (h : anyZ P md ops z C Q f (listed.setIfInBounds i true) (a.put oi.dst v) w) : anyZ P md ops z C Q (f + 1) listed a w := by
  obtain ⟨oz, h1, h2⟩ := waitsZ_spec hz
  exact first_z hi h1 h2 (Region.noSelect_spec hs) hQ f listed a w hC hl (Region.free_spec hi hf) (by simpa using hr) (.inl ⟨hw, hy⟩) h
theorem anyZ_step {f : Nat} {listed : Array Bool} {a : Act} {w : World} {o : Oper} (i : Nat) (hi : ops[i]? = some o) (h : wpList P ops (Exit.then (anyZ P md ops z C Q f (listed.setIfInBounds i true)) Q) [o] a w) :
    wpOp P ops Q i (anyZ P md ops z C Q f (listed.setIfInBounds i true)) a w := by
  unfold wpOp
  simp only [hi]
  have e : wpList P ops (Exit.then (anyZ P md ops z C Q f (listed.setIfInBounds i true)) Q) [o] a w = (if Region.wanted o (yielded ops a.tmps) = true then o.wp P a w (fun a w => Exit.then (anyZ P md ops z C Q f (listed.setIfInBounds i true)) Q .normal a w) (Exit.then (anyZ P md ops z C Q f (listed.setIfInBounds i true)) Q) ∨ (o.asks P a w ∧ LetsOut (Exit.then (anyZ P md ops z C Q f (listed.setIfInBounds i true)) Q)) else anyZ P md ops z C Q f (listed.setIfInBounds i true) (a.put o.dst undef) w) := rfl
  rw [e] at h
  by_cases hw : Region.wanted o (yielded ops a.tmps) = true
  · rw [if_pos hw] at h ⊢
    rcases h with h | ⟨h1, h2⟩
    · exact .inl (upon_then h)
    · exact .inr ⟨h1, h2⟩
  · rw [if_neg hw] at h ⊢
    exact h
theorem anyZ_one {f : Nat} {listed : Array Bool} {a : Act} {w : World} {o : Oper} (i : Nat) (hC : listed.getD z true = true ∨ C w) (hr : Region.ready md ops listed = [i]) (hi : ops[i]? = some o)
    (h : wpList P ops (Exit.then (anyZ P md ops z C Q f (listed.setIfInBounds i true)) Q) [o] a w) : anyZ P md ops z C Q (f + 1) listed a w := by
  refine ⟨fun h1 => hC.elim (fun h2 => by rw [h2] at h1; cases h1) id, fun h0 => (by rw [hr] at h0; cases h0), fun j hj => ?_⟩
  rw [hr, List.mem_singleton] at hj
  subst hj
  exact anyZ_step j hi h
theorem anyZ_done {listed : Array Bool} {a : Act} {w : World} (hz : listed.getD z true = true) (hr : Region.ready md ops listed = []) (h : Q .normal a w) : ∀ f, anyZ P md ops z C Q f listed a w
  | 0 => ⟨fun h => (by rw [hz] at h; cases h), hr, h⟩
  | _ + 1 => ⟨fun h => (by rw [hz] at h; cases h), fun _ => h, by rw [hr]; simp⟩
theorem region_ofz {id : Nat} {a : Act} {w : World} {l : List Oper} (z : Nat) (C : World → Prop) (hm : P.follows .mixedOrders = true) (h : anyZ P .any l.toArray z C Q l.length (Array.replicate l.length false) a w.drew) : (Code.region id l.toArray true).wp P Q a w :=
  wp_region_any hm (any_ofz _ _ _ _ (by simpa using h))
end
end
section
open Go.RowKit

/-- A world behind w: all that lay in w lies there as it did. -/
structure Aft (w : World) where
  W : World
  h : Below w.heap.size w W

instance (w : World) : Nonempty (Aft w) := ⟨⟨w, Below.refl _ _⟩⟩

section
variable {P : Program} {w : World}
theorem Aft.later (W : Aft w) : Later w W.W := later_of_below W.h (Nat.le_refl _)
theorem Aft.cell (W : Aft w) {p : Addr} (hp : p.block < w.heap.size) : W.W.cell? p = w.cell? p := W.h.cell hp
def Aft.up (W1 : Aft w) (W : Aft W1.W) : Aft w := ⟨W.W, W1.h.trans (W.h.mono W1.h.size)⟩
theorem wp_region_aft {id : Nat} {Q : Exit → Act → World → Prop} {a : Act} {l : List Oper} (hm : P.follows .mixedOrders = true) (hB : Region.lexB .any l.toArray = true)
    (h : wpQuiet P l.toArray (fun w' => ∃ W : Aft w, w' = W.W) (fun a' => ∀ w', (∃ W : Aft w, w' = W.W) → Q .normal a' w') l a) : (Code.region id l.toArray true).wp P Q a w :=
  wp_region_quiet (C := fun w' => ∃ W : Aft w, w' = W.W) hm hB ⟨⟨w.drew, ⟨rfl, rfl, rfl, Nat.le_refl _, fun _ _ => rfl⟩⟩, rfl⟩ (by simpa using h)
theorem aft_call {f : FuncId} {args : Array Value} {v : Value} {W : Aft w} (h : Calls P f args W.W fun e w' => e = .returned v ∧ Below W.W.heap.size W.W w') :
    Calls P f args W.W fun e w'' => e = .returned v ∧ ∃ W' : Aft w, w'' = W'.W :=
  h.mono fun _ w'' ⟨he, hb⟩ => ⟨he, ⟨⟨w'', W.h.trans (hb.mono W.h.size)⟩, rfl⟩⟩
end
end
end Go.Proofs.YtbmpidacoohdmaaGreat

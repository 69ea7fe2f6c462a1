/- Rows to bytes and back again: the two undo each other. Plain. -/
import Derived.Test.YthhmamkphcgocaaDoorLot
namespace Go.Proofs.YthhmamkphcgocaaDoor
open Go.RowKit

theorem numF_varB : ∀ (n k acc : Nat) (t : List UInt8), n * 128 ^ k < 18446744073709551616 → (0 < k → 0 < n) → numF k acc (varB n ++ t) = (acc + n * 128 ^ k, k + (varB n).length, 0) := by
  intro n
  induction n using Nat.strongRecOn with
  | _ n ih =>
    intro k acc t hn hk
    have h9 : k = 9 → n ≤ 1 := by
      rintro rfl
      have : (128 : Nat) ^ 9 = 9223372036854775808 := by decide
      omega
    by_cases h : n < 128
    · rw [varB_small h]
      have hc : (by8 n).toNat = n := by rw [by8_nat]; omega
      rw [List.singleton_append, numF_last (by rw [hc]; omega) (by rw [hc]; exact h), hc, Nat.mod_eq_of_lt h]
      rfl
    · have h128 : 128 ≤ n := by omega
      rw [varB_more h128]
      have hc : (by8 (n % 128 + 128)).toNat = n % 128 + 128 := by rw [by8_nat]; omega
      have hm : (n % 128 + 128) % 128 = n % 128 := by omega
      rw [List.cons_append, numF_next (by rw [hc]; omega) (by rw [hc]; omega), hc, hm]
      have e : n / 128 * 128 ^ (k + 1) = (n / 128 * 128) * 128 ^ k := by rw [Nat.pow_succ, Nat.mul_assoc, Nat.mul_comm (128 ^ k) 128]
      have h1 : n / 128 * 128 ≤ n := by omega
      have h2 : n / 128 * 128 ^ (k + 1) ≤ n * 128 ^ k := by rw [e]; exact Nat.mul_le_mul_right _ h1
      rw [ih (n / 128) (by omega) (k + 1) _ t (by omega) (fun _ => by omega)]
      have e2 : acc + n % 128 * 128 ^ k + n / 128 * 128 ^ (k + 1) = acc + n * 128 ^ k := by
        rw [e, Nat.add_assoc, ← Nat.add_mul]
        congr 2
        omega
      rw [e2, List.length_cons]
      congr 2
      omega
theorem varB_numF : ∀ (t : List UInt8) (k acc n s : Nat), numF k acc t = (n, s, 0) → ∃ m, n = acc + m * 128 ^ k ∧ (0 < k → 0 < m) ∧ k < s ∧ s ≤ k + t.length ∧ t.take (s - k) = varB m
  | [], k, acc, n, s, h => by simp [numF] at h
  | c :: t, k, acc, n, s, h => by
    by_cases hb : (k = 9 ∧ 1 < c.toNat) ∨ (0 < k ∧ c.toNat = 0)
    · rw [numF_bad hb] at h
      simp at h
    · have hc8 : by8 c.toNat = c := by
        apply UInt8.toNat.inj
        rw [by8_nat]
        have := c.toNat_lt
        omega
      by_cases hc : c.toNat < 128
      · rw [numF_last hb hc] at h
        simp only [Prod.mk.injEq, and_true] at h
        obtain ⟨rfl, rfl⟩ := h
        refine ⟨c.toNat, by rw [Nat.mod_eq_of_lt hc], fun hk => by omega, by omega, by simp, ?_⟩
        rw [varB_small hc, hc8, Nat.add_sub_cancel_left]
        rfl
      · rw [numF_next hb hc] at h
        obtain ⟨m, e, hm, hs, hl, ht⟩ := varB_numF t (k + 1) _ n s h
        have hm0 := hm (by omega)
        have hlt := c.toNat_lt
        refine ⟨c.toNat % 128 + 128 * m, ?_, fun _ => by omega, by omega, by simp; omega, ?_⟩
        · rw [e, Nat.add_mul, Nat.pow_succ, Nat.add_assoc]
          congr 2
          rw [Nat.mul_comm 128 m, Nat.mul_assoc, Nat.mul_comm 128]
        · rw [show s - k = (s - (k + 1)) + 1 by omega, List.take_succ_cons, ht, varB_more (n := c.toNat % 128 + 128 * m) (by omega)]
          congr 1
          · rw [show (c.toNat % 128 + 128 * m) % 128 + 128 = c.toNat by omega, hc8]
          · congr 1
            omega
theorem drop_more {l x r : List UInt8} {k : Nat} (h : l.drop k = x ++ r) : l.drop (k + x.length) = r := by
  rw [← List.drop_drop, h, List.drop_left]
theorem drop_room {l x r : List UInt8} {k : Nat} (h : l.drop k = x ++ r) (hk : k ≤ l.length) : k + x.length ≤ l.length := by
  have e := congrArg List.length h
  rw [List.length_drop, List.length_append] at e
  omega
theorem take_fwd {l x r : List UInt8} {k n : Nat} (h : l.drop k = x ++ r) (hn : x.length = n) (hk : k ≤ l.length) : rTake l n k 0 = (x, k + n, 0) := by
  have := drop_room h hk
  unfold rTake
  rw [if_neg (by omega), if_pos (by omega), h, List.take_left' hn]
theorem var_fwd {l r : List UInt8} {k n most : Nat} (h : l.drop k = varB n ++ r) (hn : n ≤ most) (hm : most < 18446744073709551616) : rVar l most k 0 = (n, k + (varB n).length, 0) := by
  unfold rVar
  rw [if_neg (by omega), h, numF_varB n 0 0 r (by omega) (by omega)]
  simp only [Nat.zero_add, Nat.pow_zero, Nat.mul_one, ne_eq, not_true_eq_false, if_false]
  rw [if_neg (by omega)]
theorem text_fwd {l x r : List UInt8} {k most : Nat} (h : l.drop k = (varB x.length ++ x) ++ r) (hx : x.length ≤ most) (hk : k ≤ l.length) (hm : most < 18446744073709551616) : rText l most k 0 = (x, k + (varB x.length ++ x).length, 0) := by
  rw [List.append_assoc] at h
  have h2 := drop_more h
  have h3 := drop_room h hk
  have h4 := drop_room h2 h3
  unfold rText
  rw [if_neg (by omega), h, numF_varB x.length 0 0 _ (by omega) (by omega)]
  simp only [Nat.zero_add, Nat.pow_zero, Nat.mul_one, ne_eq, not_true_eq_false, if_false]
  rw [if_neg (by omega), if_neg (by omega), h2, List.take_left, List.length_append, Nat.add_assoc]
theorem padI_id {x : List UInt8} (h : x.length = 32) : padI x = x := by simp [padI, h]
theorem org_fwd {l r : List UInt8} {k : Nat} {o : Org} (h : l.drop k = orgB o ++ r) (hk : k ≤ l.length) (h1 : o.id.length = 32) (h2 : o.path.length ≤ 120) (h3 : 0 ≤ o.line) (h4 : o.line < 400) :
    orgP l k 0 = (o, k + (orgB o).length, 0) := by
  unfold orgB at h
  rw [List.append_assoc, List.append_assoc] at h
  have a1 := take_fwd h h1 hk
  have d1 := drop_more h
  have k1 := drop_room h hk
  have a2 := text_fwd (most := 120) d1 h2 k1 (by omega)
  have d2 := drop_more d1
  have k2 := drop_room d1 k1
  have a3 := var_fwd (most := 399) (n := o.line.toNat) d2 (by omega) (by omega)
  rw [h1] at a2 a3
  unfold orgP
  dsimp only
  have a2' : rText l 120 (k + 32) 0 = (o.path, k + 32 + (varB o.path.length ++ o.path).length, 0) := a2
  rw [a1]
  dsimp only
  rw [a2']
  dsimp only
  rw [a3]
  dsimp only
  rw [padI_id h1]
  have e1 : ((o.line.toNat : Nat) : Int) = o.line := by omega
  rw [e1]
  simp only [orgB, List.length_append, h1, Nat.add_assoc]
def fitO (o : Org) : Prop := o.id.length = 32 ∧ o.path.length ≤ 120 ∧ 0 ≤ o.line ∧ o.line < 400
theorem orgs_fwd {l r : List UInt8} : ∀ (os : List Org) (acc : List Org) (k : Nat), l.drop k = os.flatMap orgB ++ r → k ≤ l.length → (∀ o ∈ os, fitO o) →
    orgsP l os.length acc k 0 = (acc ++ os, k + (os.flatMap orgB).length, 0)
  | [], acc, k, _, _, _ => by simp [orgsP]
  | o :: os, acc, k, h, hk, ho => by
    rw [List.flatMap_cons, List.append_assoc] at h
    obtain ⟨h1, h2, h3, h4⟩ := ho o (by simp)
    rw [List.length_cons, orgsP, if_neg (by omega), org_fwd h hk h1 h2 h3 h4]
    dsimp only
    rw [orgs_fwd os _ _ (drop_more h) (drop_room h hk) (fun x hx => ho x (by simp [hx]))]
    simp [Nat.add_assoc]
theorem bits3 : ∀ d m c : Bool, bitP (flN d m c 3) 0 = d ∧ bitP (flN d m c 3) 1 = m ∧ bitP (flN d m c 3) 2 = c ∧ flN d m c 3 ≤ 7 := by decide
theorem bits8 : ∀ n : Fin 8, flN (bitP n.val 0) (bitP n.val 1) (bitP n.val 2) 3 = n.val := by decide
def fitL (r : Lot) : Prop := r.id.length = 32 ∧ r.path.length ≤ 120 ∧ 0 ≤ r.algo ∧ r.algo ≤ 2 ∧ r.os.length ≤ 400 ∧ ∀ o ∈ r.os, fitO o
theorem big_one (x : UInt8) : bigN [x] = x.toNat := by simp [bigN]
theorem lot_fwd {l r : List UInt8} {k : Nat} {x : Lot} (h : l.drop k = lotB x ++ r) (hk : k ≤ l.length) (hx : fitL x) : lotP l k 0 = (x, k + (lotB x).length, 0) := by
  obtain ⟨h1, h2, h3, h4, h5, h6⟩ := hx
  unfold lotB at h
  have e0 : (by8 x.algo.toNat :: by8 (flN x.de x.mo x.co 3) :: (varB x.os.length ++ x.os.flatMap orgB)) = [by8 x.algo.toNat] ++ ([by8 (flN x.de x.mo x.co 3)] ++ (varB x.os.length ++ x.os.flatMap orgB)) := rfl
  rw [e0] at h
  simp only [List.append_assoc] at h
  rw [← List.append_assoc (varB x.path.length)] at h
  have a1 := take_fwd h h1 hk
  have d1 := drop_more h
  have k1 := drop_room h hk
  have a2 := text_fwd (most := 120) d1 h2 k1 (by omega)
  have d2 := drop_more d1
  have k2 := drop_room d1 k1
  have a3 := take_fwd d2 rfl k2
  have d3 := drop_more d2
  have k3 := drop_room d2 k2
  have a4 := take_fwd d3 rfl k3
  have d4 := drop_more d3
  have k4 := drop_room d3 k3
  have a5 := var_fwd (most := 400) d4 h5 (by omega)
  have d5 := drop_more d4
  have k5 := drop_room d4 k4
  have a6 := orgs_fwd x.os [] _ d5 k5 h6
  obtain ⟨b1, b2, b3, b4⟩ := bits3 x.de x.mo x.co
  have c1 : (by8 x.algo.toNat).toNat = x.algo.toNat := by rw [by8_nat]; omega
  have c2 : (by8 (flN x.de x.mo x.co 3)).toNat = flN x.de x.mo x.co 3 := by rw [by8_nat]; omega
  rw [h1] at a2 a3 a4 a5 a6
  simp only [List.length_cons, List.length_nil, Nat.zero_add] at a3 a4 a5 a6
  have eh : hedP l k 0 = ⟨x.id, x.path, x.algo.toNat, flN x.de x.mo x.co 3, k + 32 + (varB x.path.length ++ x.path).length + 1 + 1, 0⟩ := by
    unfold hedP rBig
    dsimp only
    rw [a1]
    dsimp only
    have a2' : rText l 120 (k + 32) 0 = (x.path, k + 32 + (varB x.path.length ++ x.path).length, 0) := a2
    rw [a2']
    dsimp only
    rw [a3]
    dsimp only
    rw [a4]
    dsimp only
    rw [big_one, big_one, c1, c2, padI_id h1]
  unfold lotP
  rw [eh]
  dsimp only
  rw [if_neg (by omega), if_neg (by omega), a5]
  dsimp only
  rw [a6]
  dsimp only
  rw [b1, b2, b3, List.nil_append]
  have e1 : ((x.algo.toNat : Nat) : Int) = x.algo := by omega
  rw [e1]
  simp only [lotB, List.length_append, List.length_cons, h1, Nat.add_assoc, Nat.add_comm, Nat.add_left_comm]
theorem lots_fwd {l r : List UInt8} : ∀ (ls : List Lot) (acc : List Lot) (k : Nat), l.drop k = ls.flatMap lotB ++ r → k ≤ l.length → (∀ x ∈ ls, fitL x) →
    lotsP l ls.length acc k = (acc ++ ls, k + (ls.flatMap lotB).length, 0)
  | [], acc, k, _, _, _ => by simp [lotsP]
  | o :: os, acc, k, h, hk, ho => by
    rw [List.flatMap_cons, List.append_assoc] at h
    rw [List.length_cons, lotsP, lot_fwd h hk (ho o (by simp))]
    dsimp only
    rw [if_neg (by omega), lots_fwd os _ _ (drop_more h) (drop_room h hk) (fun x hx => ho x (by simp [hx]))]
    simp [Nat.add_assoc]
theorem right_len {p : List UInt8} (h : rightS p = true) : p.length ≤ 120 := by
  unfold rightS at h
  simp only [Bool.and_eq_true, decide_eq_true_eq] at h
  exact h.2.1
/-- What rows that pass the checks are like. -/
theorem check_fit {l : List Lot} (h : checkP l = 0) (hid : ∀ x ∈ l, x.id.length = 32 ∧ ∀ o ∈ x.os, o.id.length = 32) : l.length ≤ 64 ∧ ∀ x ∈ l, fitL x := by
  unfold checkP at h
  split at h
  · cases h
  · split at h
    · cases h
    · rename_i h1 h2
      split at h
      · cases h
      · rename_i h3
        refine ⟨by omega, fun x hx => ?_⟩
        have h4 : l.all rightL = true := by simpa using h3
        have h5 := List.all_eq_true.1 h4 x hx
        unfold rightL at h5
        simp only [Bool.and_eq_true, decide_eq_true_eq, List.all_eq_true] at h5
        have h6 : x.os.length ≤ 400 := by
          by_cases hq : x.os.length ≤ 400
          · exact hq
          · exact absurd (List.any_eq_true.2 ⟨x, hx, by simp; omega⟩) h2
        refine ⟨(hid x hx).1, right_len h5.1.1, h5.1.2.1, h5.1.2.2, h6, fun o ho => ?_⟩
        have h7 := h5.2 o ho
        unfold rightO at h7
        simp only [Bool.and_eq_true, decide_eq_true_eq] at h7
        exact ⟨(hid x hx).2 o ho, right_len h7.1, h7.2.1, h7.2.2⟩
theorem big4_be4 (n : Nat) (h : n < 4294967296) : bigN (be4 n) = n := by
  simp only [bigN, be4, List.foldl_cons, List.foldl_nil, by8_nat]
  omega
theorem be4_len (n : Nat) : (be4 n).length = 4 := rfl
theorem be4_big4 {x : List UInt8} (h : x.length = 4) : be4 (bigN x) = x ∧ bigN x < 4294967296 := by
  obtain ⟨a, b, c, d, rfl⟩ : ∃ a b c d, x = [a, b, c, d] := by
    rcases x with _ | ⟨a, _ | ⟨b, _ | ⟨c, _ | ⟨d, _ | ⟨e, x⟩⟩⟩⟩⟩ <;> simp at h
    exact ⟨a, b, c, d, rfl⟩
  have ha := a.toNat_lt
  have hb := b.toNat_lt
  have hc := c.toNat_lt
  have hd := d.toNat_lt
  have e : bigN [a, b, c, d] = ((a.toNat * 256 + b.toNat) * 256 + c.toNat) * 256 + d.toNat := by simp [bigN]
  rw [e]
  refine ⟨?_, by omega⟩
  unfold be4
  simp only [List.cons.injEq, and_true]
  refine ⟨?_, ?_, ?_, ?_⟩ <;> (apply UInt8.toNat.inj; rw [by8_nat]; omega)
/-- Rows come back from their file. -/
theorem read_file {l : List Lot} (h : checkP l = 0) (hid : ∀ x ∈ l, x.id.length = 32 ∧ ∀ o ∈ x.os, o.id.length = 32) : readP (fileB l) = (l, 0) := by
  obtain ⟨hl, hf⟩ := check_fit h hid
  have hs : (shaOf (bodyB l)).length = 32 := shaOf_len _
  have hbl : (bodyB l).length = 12 + (l.flatMap lotB).length := by rw [bodyB, List.length_append]; rfl
  have hfl : (fileB l).length = (bodyB l).length + 32 := by rw [fileB, List.length_append, hs]
  have ht : (fileB l).take ((fileB l).length - 32) = bodyB l := by
    rw [hfl, Nat.add_sub_cancel, fileB, List.take_left]
  have hd : (fileB l).drop ((fileB l).length - 32) = shaOf (bodyB l) := by
    rw [hfl, Nat.add_sub_cancel, fileB, List.drop_left]
  unfold readP
  rw [if_neg (by omega)]
  dsimp only
  rw [ht, hd]
  have e : bodyB l = [66, 76, 77, 67] ++ (be4 1 ++ (be4 l.length ++ l.flatMap lotB)) := by simp [bodyB, headB]
  have d1 : (bodyB l).drop 4 = be4 1 ++ (be4 l.length ++ l.flatMap lotB) := by rw [e]; rfl
  have d2 : (bodyB l).drop 8 = be4 l.length ++ l.flatMap lotB := by rw [e]; rfl
  have d3 : (bodyB l).drop 12 = l.flatMap lotB ++ [] := by rw [e, List.append_nil]; rfl
  rw [if_neg (by rw [d1]; simp; exact ⟨by rw [e]; rfl, rfl⟩), if_neg (by simp), d2, List.take_left' (be4_len _), big4_be4 _ (by omega), if_neg (by omega),
    lots_fwd l [] 12 d3 (by omega) hf]
  dsimp only
  rw [if_neg (by omega), if_neg (by omega), List.nil_append, h, if_neg (by omega)]
theorem take_bwd {l : List UInt8} {n k e : Nat} (h : (rTake l n k e).2.2 = 0) : e = 0 ∧ (k ≤ l.length →
    (rTake l n k e).1.length = n ∧ (rTake l n k e).2.1 ≤ l.length ∧ l.drop k = (rTake l n k e).1 ++ l.drop (rTake l n k e).2.1) := by
  by_cases he : e = 0
  · subst he
    refine ⟨rfl, fun hk => ?_⟩
    unfold rTake at *
    rw [if_neg (by omega)] at h ⊢
    by_cases hn : n ≤ l.length - k
    · rw [if_pos hn]
      dsimp only
      refine ⟨by rw [List.length_take, List.length_drop]; omega, by omega, ?_⟩
      rw [← List.drop_drop, List.take_append_drop]
    · rw [if_neg hn] at h
      cases h
  · unfold rTake at h
    rw [if_pos he] at h
    exact absurd h he
theorem var_bwd {l : List UInt8} {most k e : Nat} (h : (rVar l most k e).2.2 = 0) : e = 0 ∧ (k ≤ l.length →
    (rVar l most k e).1 ≤ most ∧ (rVar l most k e).2.1 ≤ l.length ∧ l.drop k = varB (rVar l most k e).1 ++ l.drop (rVar l most k e).2.1) := by
  by_cases he : e = 0
  · subst he
    refine ⟨rfl, fun hk => ?_⟩
    unfold rVar at *
    rw [if_neg (by omega)] at h ⊢
    obtain ⟨⟨n, s, f⟩, hq⟩ : ∃ q, numF 0 0 (l.drop k) = q := ⟨_, rfl⟩
    rw [hq] at h ⊢
    dsimp only at h ⊢
    by_cases hf : f = 0
    · subst hf
      rw [if_neg (by omega)] at h ⊢
      by_cases hm : most < n
      · rw [if_pos hm] at h
        cases h
      · rw [if_neg hm]
        dsimp only
        obtain ⟨m, e1, _, _, hsl, ht⟩ := varB_numF _ _ _ _ _ hq
        have e2 : m = n := by rw [e1]; simp
        rw [List.length_drop] at hsl
        refine ⟨by omega, by omega, ?_⟩
        rw [← e2, ← ht, Nat.sub_zero, ← List.drop_drop, List.take_append_drop]
    · rw [if_pos hf] at h
      exact absurd h hf
  · unfold rVar at h
    rw [if_pos he] at h
    exact absurd h he
theorem text_bwd {l : List UInt8} {k e : Nat} (h : (rText l 120 k e).2.2 = 0) : e = 0 ∧ (k ≤ l.length →
    (rText l 120 k e).1.length ≤ 120 ∧ (rText l 120 k e).2.1 ≤ l.length ∧ l.drop k = (varB (rText l 120 k e).1.length ++ (rText l 120 k e).1) ++ l.drop (rText l 120 k e).2.1) := by
  by_cases he : e = 0
  · subst he
    refine ⟨rfl, fun hk => ?_⟩
    unfold rText at *
    rw [if_neg (by omega)] at h ⊢
    obtain ⟨⟨n, s, f⟩, hq⟩ : ∃ q, numF 0 0 (l.drop k) = q := ⟨_, rfl⟩
    rw [hq] at h ⊢
    dsimp only at h ⊢
    by_cases hf : f = 0
    · subst hf
      rw [if_neg (by omega)] at h ⊢
      by_cases hm : (120 : Int) < 0 ∨ (120 : Int) < n
      · rw [if_pos hm] at h
        cases h
      · rw [if_neg hm] at h ⊢
        by_cases hr : l.length - (k + s) < n
        · rw [if_pos hr] at h
          cases h
        · rw [if_neg hr]
          dsimp only
          obtain ⟨m, e1, _, _, hsl, ht⟩ := varB_numF _ _ _ _ _ hq
          have e2 : m = n := by rw [e1]; simp
          rw [List.length_drop] at hsl
          have hlen : ((l.drop (k + s)).take n).length = n := by rw [List.length_take, List.length_drop]; omega
          refine ⟨by rw [hlen]; omega, by omega, ?_⟩
          rw [hlen, List.append_assoc, show l.drop (k + s + n) = (l.drop (k + s)).drop n by rw [List.drop_drop], List.take_append_drop, ← e2, ← ht, Nat.sub_zero, ← List.drop_drop, List.take_append_drop]
    · rw [if_pos hf] at h
      exact absurd h hf
  · unfold rText at h
    rw [if_pos he] at h
    exact absurd h he
theorem org_bwd {l : List UInt8} {k e : Nat} (h : (orgP l k e).2.2 = 0) : e = 0 ∧ (k ≤ l.length → fitO (orgP l k e).1 ∧ (orgP l k e).2.1 ≤ l.length ∧ l.drop k = orgB (orgP l k e).1 ++ l.drop (orgP l k e).2.1) := by
  unfold orgP at *
  dsimp only at *
  have a1 := take_bwd (l := l) (n := 32) (k := k) (e := e)
  generalize rTake l 32 k e = q1 at *
  obtain ⟨x1, k1, e1⟩ := q1
  dsimp only at *
  have a2 := text_bwd (l := l) (k := k1) (e := e1)
  generalize rText l 120 k1 e1 = q2 at *
  obtain ⟨x2, k2, e2⟩ := q2
  dsimp only at *
  have a3 := var_bwd (l := l) (most := 399) (k := k2) (e := e2)
  generalize rVar l 399 k2 e2 = q3 at *
  obtain ⟨x3, k3, e3⟩ := q3
  dsimp only at *
  obtain ⟨z2, b3⟩ := a3 h
  obtain ⟨z1, b2⟩ := a2 z2
  obtain ⟨z0, b1⟩ := a1 z1
  refine ⟨z0, fun hk => ?_⟩
  obtain ⟨l1, p1, d1⟩ := b1 hk
  obtain ⟨l2, p2, d2⟩ := b2 p1
  obtain ⟨l3, p3, d3⟩ := b3 p2
  refine ⟨⟨by rw [padI_id l1]; exact l1, l2, by dsimp only; omega, by dsimp only; omega⟩, p3, ?_⟩
  rw [padI_id l1, d1, d2, d3]
  simp only [orgB, List.append_assoc, Int.toNat_natCast]
theorem orgs_bwd {l : List UInt8} : ∀ (n : Nat) (acc : List Org) (k e : Nat), (orgsP l n acc k e).2.2 = 0 → e = 0 ∧ (k ≤ l.length →
    ∃ os, os.length = n ∧ (orgsP l n acc k e).1 = acc ++ os ∧ (∀ o ∈ os, fitO o) ∧ (orgsP l n acc k e).2.1 ≤ l.length ∧ l.drop k = os.flatMap orgB ++ l.drop (orgsP l n acc k e).2.1)
  | 0, acc, k, e, h => ⟨h, fun hk => ⟨[], rfl, by simp [orgsP], by simp, hk, by simp [orgsP]⟩⟩
  | n + 1, acc, k, e, h => by
    unfold orgsP at *
    by_cases he : e ≠ 0
    · rw [if_pos he] at h
      exact absurd h he
    · rw [if_neg he] at h ⊢
      obtain ⟨z, ih⟩ := orgs_bwd n _ _ _ h
      obtain ⟨z2, ho⟩ := org_bwd z
      refine ⟨z2, fun hk => ?_⟩
      obtain ⟨f1, f2, f3⟩ := ho hk
      obtain ⟨os, g1, g2, g3, g4, g5⟩ := ih f2
      refine ⟨(orgP l k e).1 :: os, by simp [g1], by rw [g2]; simp, ?_, g4, ?_⟩
      · intro o ho
        rcases List.mem_cons.1 ho with rfl | ho
        · exact f1
        · exact g3 o ho
      · rw [f3, g5, List.flatMap_cons, List.append_assoc]
/-- A row that has been read. -/
def gotL (r : Lot) : Prop := r.id.length = 32 ∧ r.path.length ≤ 120 ∧ 0 ≤ r.algo ∧ r.algo < 256 ∧ r.os.length ≤ 400 ∧ ∀ o ∈ r.os, fitO o
theorem big_small {x : List UInt8} (h : x.length = 1) : [by8 (bigN x)] = x ∧ bigN x < 256 := by
  obtain ⟨a, rfl⟩ : ∃ a, x = [a] := by
    rcases x with _ | ⟨a, _ | ⟨b, x⟩⟩ <;> simp at h
    exact ⟨a, rfl⟩
  have := a.toNat_lt
  rw [big_one]
  refine ⟨?_, by omega⟩
  congr 1
  apply UInt8.toNat.inj
  rw [by8_nat]
  omega
theorem lot_bwd {l : List UInt8} {k e : Nat} (h : (lotP l k e).2.2 = 0) : e = 0 ∧ (k ≤ l.length → gotL (lotP l k e).1 ∧ (lotP l k e).2.1 ≤ l.length ∧ l.drop k = lotB (lotP l k e).1 ++ l.drop (lotP l k e).2.1) := by
  unfold lotP hedP rBig at *
  dsimp only at *
  have a1 := take_bwd (l := l) (n := 32) (k := k) (e := e)
  generalize rTake l 32 k e = q1 at *
  obtain ⟨x1, k1, e1⟩ := q1
  dsimp only at *
  have a2 := text_bwd (l := l) (k := k1) (e := e1)
  generalize rText l 120 k1 e1 = q2 at *
  obtain ⟨x2, k2, e2⟩ := q2
  dsimp only at *
  have a3 := take_bwd (l := l) (n := 1) (k := k2) (e := e2)
  generalize rTake l 1 k2 e2 = q3 at *
  obtain ⟨x3, k3, e3⟩ := q3
  dsimp only at *
  have a4 := take_bwd (l := l) (n := 1) (k := k3) (e := e3)
  generalize rTake l 1 k3 e3 = q4 at *
  obtain ⟨x4, k4, e4⟩ := q4
  dsimp only at *
  by_cases he4 : e4 ≠ 0
  · rw [if_pos he4] at h
    exact absurd h he4
  · rw [if_neg he4] at h ⊢
    by_cases hm : 7 < bigN x4
    · rw [if_pos hm] at h
      cases h
    · rw [if_neg hm] at h ⊢
      have a5 := var_bwd (l := l) (most := 400) (k := k4) (e := e4)
      generalize rVar l 400 k4 e4 = q5 at *
      obtain ⟨x5, k5, e5⟩ := q5
      dsimp only at *
      obtain ⟨z5, b6⟩ := orgs_bwd _ _ _ _ h
      obtain ⟨z4, b5⟩ := a5 z5
      obtain ⟨z3, b4⟩ := a4 z4
      obtain ⟨z2, b3⟩ := a3 z3
      obtain ⟨z1, b2⟩ := a2 z2
      obtain ⟨z0, b1⟩ := a1 z1
      refine ⟨z0, fun hk => ?_⟩
      obtain ⟨l1, p1, d1⟩ := b1 hk
      obtain ⟨l2, p2, d2⟩ := b2 p1
      obtain ⟨l3, p3, d3⟩ := b3 p2
      obtain ⟨l4, p4, d4⟩ := b4 p3
      obtain ⟨l5, p5, d5⟩ := b5 p4
      obtain ⟨os, g1, g2, g3, g4, g5⟩ := b6 p5
      rw [List.nil_append] at g2
      obtain ⟨s3, t3⟩ := big_small l3
      obtain ⟨s4, t4⟩ := big_small l4
      rw [g2]
      refine ⟨⟨by rw [padI_id l1]; exact l1, l2, by dsimp only; omega, by dsimp only; omega, by dsimp only; omega, g3⟩, g4, ?_⟩
      rw [padI_id l1, d1, d2, d3, d4, d5, g5]
      have hfl := bits8 ⟨bigN x4, by omega⟩
      dsimp only at hfl
      simp only [lotB, hfl, Int.toNat_natCast, g1]
      conv => lhs; rw [← s3, ← s4]
      simp only [List.append_assoc, List.cons_append, List.nil_append]
theorem lots_bwd {l : List UInt8} : ∀ (n : Nat) (acc : List Lot) (k : Nat), (lotsP l n acc k).2.2 = 0 → k ≤ l.length →
    ∃ ls, ls.length = n ∧ (lotsP l n acc k).1 = acc ++ ls ∧ (∀ x ∈ ls, gotL x) ∧ (lotsP l n acc k).2.1 ≤ l.length ∧ l.drop k = ls.flatMap lotB ++ l.drop (lotsP l n acc k).2.1
  | 0, acc, k, _, hk => ⟨[], rfl, by simp [lotsP], by simp, hk, by simp [lotsP]⟩
  | n + 1, acc, k, h, hk => by
    unfold lotsP at *
    by_cases he : (lotP l k 0).2.2 ≠ 0
    · rw [if_pos he] at h
      exact absurd h he
    · rw [if_neg he] at h ⊢
      obtain ⟨_, ho⟩ := lot_bwd (Decidable.not_not.1 he)
      obtain ⟨f1, f2, f3⟩ := ho hk
      obtain ⟨os, g1, g2, g3, g4, g5⟩ := lots_bwd n _ _ h f2
      refine ⟨(lotP l k 0).1 :: os, by simp [g1], by rw [g2]; simp, ?_, g4, ?_⟩
      · intro o ho
        rcases List.mem_cons.1 ho with rfl | ho
        · exact f1
        · exact g3 o ho
      · rw [f3, g5, List.flatMap_cons, List.append_assoc]
/-- Bytes that are rows are just their file. -/
theorem file_read {b : List UInt8} (h : (readP b).2 = 0) : fileB (readP b).1 = b ∧ checkP (readP b).1 = 0 ∧ ∀ x ∈ (readP b).1, gotL x := by
  unfold readP at *
  by_cases h1 : b.length < 44
  · rw [if_pos h1] at h
    cases h
  · rw [if_neg h1] at h ⊢
    dsimp only at h ⊢
    obtain ⟨l, hl⟩ : ∃ l, b.take (b.length - 32) = l := ⟨_, rfl⟩
    have hll : l.length = b.length - 32 := by rw [← hl, List.length_take]; omega
    have hb : b = l ++ b.drop (b.length - 32) := by rw [← hl, List.take_append_drop]
    rw [hl] at h ⊢
    by_cases h2 : ¬ (l.take 4 = [66, 76, 77, 67] ∧ (l.drop 4).take 4 = be4 1)
    · rw [if_pos h2] at h
      cases h
    · rw [if_neg h2] at h ⊢
      obtain ⟨m1, m2⟩ := Decidable.not_not.1 h2
      by_cases h3 : shaOf l ≠ b.drop (b.length - 32)
      · rw [if_pos h3] at h
        cases h
      · rw [if_neg h3] at h ⊢
        have m3 := Decidable.not_not.1 h3
        by_cases h4 : 64 < bigN ((l.drop 8).take 4)
        · rw [if_pos h4] at h
          cases h
        · rw [if_neg h4] at h ⊢
          have h5 := lots_bwd (l := l) (bigN ((l.drop 8).take 4)) [] 12
          obtain ⟨⟨ls, k, e⟩, hq⟩ : ∃ q, lotsP l (bigN ((l.drop 8).take 4)) [] 12 = q := ⟨_, rfl⟩
          rw [hq] at h h5 ⊢
          dsimp only at h h5 ⊢
          by_cases h6 : e ≠ 0
          · rw [if_pos h6] at h
            exact absurd h h6
          · rw [if_neg h6] at h ⊢
            by_cases h7 : k < l.length
            · rw [if_pos h7] at h
              cases h
            · rw [if_neg h7] at h ⊢
              by_cases h8 : checkP ls ≠ 0
              · rw [if_pos h8] at h
                exact absurd h h8
              · rw [if_neg h8]
                dsimp only
                have h12 : 12 ≤ l.length := by omega
                obtain ⟨os, g1, g2, g3, g4, g5⟩ := h5 (Decidable.not_not.1 h6) h12
                rw [List.nil_append] at g2
                subst g2
                refine ⟨?_, Decidable.not_not.1 h8, g3⟩
                have h4l : ((l.drop 8).take 4).length = 4 := by rw [List.length_take, List.length_drop]; omega
                obtain ⟨b1, b2⟩ := be4_big4 h4l
                have e1 : l = l.take 4 ++ ((l.drop 4).take 4 ++ ((l.drop 8).take 4 ++ l.drop 12)) := by
                  rw [show l.drop 12 = (l.drop 8).drop 4 by rw [List.drop_drop], List.take_append_drop, show l.drop 8 = (l.drop 4).drop 4 by rw [List.drop_drop], List.take_append_drop, List.take_append_drop]
                have hkl : l.length ≤ k := Nat.le_of_not_lt h7
                have e2 : bodyB ls = l := by
                  rw [e1, m1, m2, ← b1, g5, ← g1, List.drop_eq_nil_of_le hkl]
                  simp [bodyB, headB]
                rw [fileB, e2, m3]
                exact hb.symm
end Go.Proofs.YthhmamkphcgocaaDoor

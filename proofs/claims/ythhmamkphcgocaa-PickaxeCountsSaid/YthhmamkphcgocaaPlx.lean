/- pickaxe.Lines, by a contract. -/
import Derived.Test.YthhmamkphcgocaaPsp
import Derived.Test.YthhmamkphcgocaaCon
import Derived.Test.YthhmamkphcgocaaMap
import Derived.Test.YthhmamkphcgocaaRli
namespace Go.Proofs.Ythhmamkphcgocaa
open Go.RowKit
attribute [local go_sem ↓] bld65_eq lit59_eq run_bld65 run_lit59

theorem own_cap {w : World} {C : Nat} {e : TypeId} {size : Nat} {A : Option Addr} {n c : Nat} {xs : List Value} (h : w.ownsRow C e size (.slice A n c) n xs) : n ≤ c := by
  rcases h.2 with ⟨e, h0⟩ | ⟨b, cap, cur, e, hb, hh, hcap, hrest⟩
  · injection e with _ _ h2; omega
  · injection e with _ _ h2; subst h2; exact hcap
theorem rv_opt {B : Nat} {w : World} {A : Option Addr} {l : List (List UInt8)} (h : Rv B w A (strs (sbs l))) (p n : Nat) : Rv B w (A.map fun x => x.add p) (strs (sbs ((l.drop p).take n))) := by
  intro j x hx
  have hx' : (strs (sbs l))[p + j]? = some x := by
    have : ((strs (sbs l)).drop p |>.take n)[j]? = some x := by simpa [strs, sbs] using hx
    rw [List.getElem?_take] at this
    split at this
    · simpa using this
    · cases this
  obtain ⟨ad, rfl, hb, hcell⟩ := h (p + j) x hx'
  exact ⟨_, rfl, by rw [block_add]; exact hb, by rw [add_add]; exact hcell⟩
/-- ContainsFunc of a part of a row of lines, however the part's address is spelt. -/
theorem con_part {B : Nat} (w : World) (A : Option Addr) (X : Nat) (l : List (List UInt8)) (nd : List UInt8) (m : Int) (hX : w.cell? ⟨X, 0, none⟩ = some (.string (bs nd))) (hm : w.cell? ⟨0, 0, none⟩ = some (.int .i64 m))
    (h : Rv B w A (strs (sbs l))) (hlen : ∀ s ∈ l, s.length ≤ 2000) (hl : l.length ≤ 1000) (p n : Nat) (hp : p + n ≤ l.length) (A' : Option Addr) (c' : Nat) (hA : n = 0 ∨ A' = A.map fun x => x.add p) :
    Calls Try.prog 28 #[.slice A' n c', .func (.func 26) #[] #[.pointer (some ⟨X, 0, none⟩)]] w fun e w' => e = .returned (.bool (hasL nd ((l.drop p).take n))) ∧ w' = w := by
  have hln : ((l.drop p).take n).length = n := by simp; omega
  have hr : Rv B w A' (strs (sbs ((l.drop p).take n))) := by
    rcases hA with rfl | rfl
    · rw [List.take_zero]; exact Rv.nil
    · exact rv_opt h p n
  have := confunc_any w A' c' X ((l.drop p).take n) nd m hX hm hr (fun s hs => hlen s (List.mem_of_mem_drop (List.mem_of_mem_take hs))) (by omega)
  rwa [hln] at this

section
variable (w : World) (A D : Option Addr) (cA cD : Nat)
theorem pnums_c (a b : List (List UInt8)) (ha : Rv w.heap.size w A (strs (sbs a))) (hb : Rv w.heap.size w D (strs (sbs b))) (la : a.length ≤ 400) (lb : b.length ≤ 400) (sa : ∀ s ∈ a, s.length ≤ 2000) (sb : ∀ s ∈ b, s.length ≤ 2000) :
    Calls Try.prog 24 #[.slice A a.length cA, .slice D b.length cD] w fun e w' => ∃ xv yv, e = .returned (.tuple #[xv, yv]) ∧ w'.ownsRow w.heap.size 3 1 xv a.length (ints (numX a)) ∧ w'.ownsRow w.heap.size 3 1 yv b.length (ints (numY a b)) ∧ Below w.heap.size w w' := by
  have := pnums_any w A D cA cD (sbs a) (sbs b) ha hb (by rw [sbs_len]; exact la) (by rw [sbs_len]; exact lb) (fun s hs => by obtain ⟨t, ht, rfl⟩ := List.mem_map.1 hs; rw [bs_size]; exact sa t ht) (fun s hs => by obtain ⟨t, ht, rfl⟩ := List.mem_map.1 hs; rw [bs_size]; exact sb t ht)
  rwa [sbs_len, sbs_len] at this
theorem pblocks_c (a b : List (List UInt8)) (ra : Rv w.heap.size w A (ints (numX a))) (rb : Rv w.heap.size w D (ints (numY a b))) (la : a.length ≤ 400) (lb : b.length ≤ 400) :
    Calls Try.prog 25 #[.slice A a.length cA, .slice D b.length cD] w fun e w' => ∃ v, e = .returned (.tuple #[v, .int .i64 0]) ∧ w'.ownsRow w.heap.size 65 4 v (blocks (numX a) (numY a b)).length (hkCells (blocks (numX a) (numY a b))) ∧ Below w.heap.size w w' := by
  have := blocks_any w (numX a) (numY a b) A D cA cD ra rb (by rw [numX_len]; exact la) (by rw [numY_len]; exact lb)
  rwa [numX_len, numY_len] at this
end

set_option maxRecDepth 100000 in
set_option maxHeartbeats 4000000 in
theorem plines_any (w : World) (A D : Option Addr) (cA cD : Nat) (old now nd : List UInt8) (m0 : Int) (hm : w.cell? ⟨0, 0, none⟩ = some (.int .i64 m0)) (ra : Rv w.heap.size w A (bys old)) (rb : Rv w.heap.size w D (bys now)) (la : old.length ≤ 390) (lb : now.length ≤ 390) (ca : old.length ≤ cA) (cb : now.length ≤ cD) :
    Calls Try.prog 11 #[.slice A old.length cA, .slice D now.length cD, .string (bs nd)] w fun e w' => e = .returned (.tuple #[.bool (linesB old now nd), .int .i64 0]) ∧ Below w.heap.size w w' := by
  have hw0 : 0 < w.heap.size := by
    rcases Nat.eq_zero_or_pos w.heap.size with h0 | h0
    · exfalso
      have : w.heap[0]? = none := by simp [h0]
      simp [World.cell?, this] at hm
    · exact h0
  obtain ⟨wb, hwb⟩ : ∃ wb, wb = w.alloc (.cells #[.string (bs nd)] 9) := ⟨_, rfl⟩
  have bwb : Below w.heap.size w wb := by rw [hwb]; exact (Below.refl _ w).alloc (Nat.le_refl _) _
  have swb : wb.heap.size = w.heap.size + 1 := by rw [hwb]; simp
  have xwb : wb.cell? ⟨w.heap.size, 0, none⟩ = some (.string (bs nd)) := by rw [hwb]; exact (Boxed.new w 9 _).cell
  have mwb : wb.cell? ⟨0, 0, none⟩ = some (.int .i64 m0) := (bwb.cell (p := ⟨0, 0, none⟩) hw0).trans hm
  have H1 := Lib.hid (split_any wb A cA old ((ra.below bwb).more bwb.size) la ca)
  have h2 : ∀ W, Below w.heap.size w W → _ := fun W hb => split_any W D cD now ((rb.below hb).more hb.size) lb cb
  have H2 := Lib.hid h2
  have l1 := splitB_len old []
  have l2 := splitB_len now []
  have e1 := splitB_each old []
  have e2 := splitB_each now []
  have E1 := Lib.hid e1
  have E2 := Lib.hid e2
  have XWB := Lib.hid xwb
  have MWB := Lib.hid mwb
  have BWB := Lib.hid bwb
  have SWB := Lib.hid swb
  obtain ⟨res, hres⟩ : ∃ r, r = linesB old now nd := ⟨_, rfl⟩
  rw [← hres]
  unfold linesB at hres
  have HRES := Lib.hid hres
  have HWB := Lib.hid hwb
  clear h2 e1 e2 ra rb hres xwb mwb bwb swb hwb
  generalize splitB [] old = a at *
  generalize splitB [] now = b at *
  go_enter Try.func11, Try.ntmps11
  go_wp2_with (first
    | (go_at_call_of 23 (Value.slice A old.length cA); rw [← HWB.out]; refine H1.out.mono ?_; rintro e w1 ⟨v, rfl, ho, hb⟩; obtain ⟨A1, c1, rfl, _, hr⟩ := own_rv ho; have hle := own_cap ho; have R1 := Lib.hid hr; have B1 := Lib.hid hb; clear ho hr hb)
    | (go_at_call 23; refine (H2.out w1 (BWB.out.trans (B1.out.mono BWB.out.size))).mono ?_; rintro e w2 ⟨v, rfl, ho, hb⟩; obtain ⟨A2, c2, rfl, _, hr⟩ := own_rv ho; have hle2 := own_cap ho; have R2 := Lib.hid hr; have B2 := Lib.hid (B1.out.trans (hb.mono B1.out.size)); have R1b := Lib.hid ((R1.out.below hb).more hb.size); clear ho hr hb)
    | (go_at_call 24; refine (pnums_c w2 A1 A2 c1 c2 a b R1b.out R2.out (by omega) (by omega) (fun s hs => by have := E1.out s hs; simp at this; omega) (fun s hs => by have := E2.out s hs; simp at this; omega)).mono ?_; rintro e w3 ⟨xv, yv, rfl, hox, hoy, hb⟩; obtain ⟨XA, cx, rfl, _, hrx⟩ := own_rv hox; obtain ⟨YA, cy, rfl, _, hry⟩ := own_rv hoy; have RX := Lib.hid hrx; have RY := Lib.hid hry; have B3 := Lib.hid (B2.out.trans (hb.mono B2.out.size)); have R1c := Lib.hid ((R1b.out.below hb).more hb.size); have R2c := Lib.hid ((R2.out.below hb).more hb.size); clear hox hoy hrx hry hb)
    | (go_at_call 25; refine (pblocks_c w3 XA YA cx cy a b RX.out RY.out (by omega) (by omega)).mono ?_; rintro e w5 ⟨v5, rfl, ho5, hb⟩; obtain ⟨HA, hc, rfl, _, hrh⟩ := own_rv ho5; have RH := Lib.hid ho5; have B5 := Lib.hid (B3.out.trans (hb.mono B3.out.size)); have R1e := Lib.hid ((R1c.out.below hb).more hb.size); have R2e := Lib.hid ((R2c.out.below hb).more hb.size); clear ho5 hrh hb))
  have hbl := blocks_len (numX a) (numY a b)
  rw [numX_len] at hbl
  have hbi := blocks_in (numX a) (numY a b)
  rw [numX_len, numY_len] at hbi
  have HBI := Lib.hid hbi
  clear hbi
  have bw5 := BWB.out.trans (B5.out.mono BWB.out.size)
  have x5 := ((B5.out.cell (p := ⟨w.heap.size, 0, none⟩) (by rw [SWB.out]; simp)).trans XWB.out)
  have m5 := ((B5.out.cell (p := ⟨0, 0, none⟩) (by rw [SWB.out]; simp)).trans MWB.out)
  have BW5 := Lib.hid bw5
  have X5 := Lib.hid x5
  have M5 := Lib.hid m5
  have S5 := Lib.hid (show w.heap.size < w5.heap.size by have := B5.out.size; rw [SWB.out] at this; omega)
  clear bw5 x5 m5
  clear H1 H2 HWB
  generalize blocks (numX a) (numY a b) = H at *
  go_loopw [39] (fun jv wr => ∃ j : Nat, j ≤ H.length ∧ jv = .int .i64 j ∧ Hid (H.any (hitH nd a b) = (H.drop j).any (hitH nd a b)) ∧ Hid (Below w5.heap.size w5 wr)) (fun jv _ => H.length - (intOf jv).toNat)
  case atStart => exact ⟨0, Nat.zero_le _, rfl, rfl, Below.refl _ _⟩
  case round =>
    obtain ⟨j, hj, rfl, hs, hb⟩ := hrel
    by_cases hlt : j < H.length
    · obtain ⟨c0, c1', c2', c3'⟩ := hkCells_at H j hlt
      have hmem : H.getD j (0, 0, 0, 0) ∈ H := by rw [List.getD_eq_getElem?_getD, List.getElem?_eq_getElem hlt]; exact List.getElem_mem _
      obtain ⟨p, n, q, m, he, hp, hq⟩ := HBI.out _ hmem
      have hst : (H.drop j).any (hitH nd a b) = (hitH nd a b (H.getD j (0, 0, 0, 0)) || (H.drop (j + 1)).any (hitH nd a b)) := by
        rw [List.drop_eq_getElem_cons hlt, List.any_cons]
        simp [hlt]
      rw [he] at c0 c1' c2' c3' hst
      have hhit : hitH nd a b ((p : Int), (n : Int), (q : Int), (m : Int)) = (hasL nd ((a.drop p).take n) || hasL nd ((b.drop q).take m)) := rfl
      rw [hhit] at hst
      have HST := Lib.hid hst
      obtain ⟨g, cap, hv, _, bH, hcell⟩ := own_at RH.out (by omega)
      injection hv with hv1 hv2 hv3
      subst hv1
      subst hv3
      clear hv2
      have hsz := hb.out.size
      have cell : ∀ (t : Nat) (x : Value), (hkCells H)[t]? = some x → wr.cell? ⟨g, t, none⟩ = some x := fun t x hx =>
        (hb.out.cell (p := ⟨g, t, none⟩) (by exact bH)).trans (hcell t x hx)
      have k0 := cell _ _ c0
      have k1 := cell _ _ c1'
      have k2 := cell _ _ c2'
      have k3 := cell _ _ c3'
      obtain ⟨wq, hwq⟩ : ∃ wq, wq = wr.alloc (.cells #[.int .i64 p, .int .i64 n, .int .i64 q, .int .i64 m] 65) := ⟨_, rfl⟩
      have bq : Below w5.heap.size w5 wq := by rw [hwq]; exact hb.out.alloc hsz _
      have xq := (bq.cell (p := ⟨w.heap.size, 0, none⟩) S5.out).trans X5.out
      have mq := (bq.cell (p := ⟨0, 0, none⟩) (Nat.lt_trans hw0 S5.out)).trans M5.out
      have hn1 := con_part wq A1 w.heap.size a nd m0 xq mq (R1e.out.below bq) (fun s hs => by have := E1.out s hs; simp at this; omega) (by omega) p n hp
      have hn2 := con_part wq A2 w.heap.size b nd m0 xq mq (R2e.out.below bq) (fun s hs => by have := E2.out s hs; simp at this; omega) (by omega) q m hq
      generalize hasL nd ((a.drop p).take n) = t1 at *
      generalize hasL nd ((b.drop q).take m) = t2 at *
      have HN1 := Lib.hid hn1
      have HN2 := Lib.hid hn2
      have HWQ := Lib.hid hwq
      have BQ := Lib.hid bq
      clear hn1 hn2 xq mq hwq bq cell hcell c0 c1' c2' c3' hst hhit he hmem
      cases t1 with
      | true =>
        go_wp2_with (go_at_call 28; rw [← HWQ.out]; with_reducible refine (HN1.out _ _ (by exact if e : c1 = p then Or.inl (by omega) else Or.inr (if_neg e))).mono ?_; rintro e w6 ⟨rfl, h6⟩; subst w6)
        all_goals
          go_ret2
          have hr : res = true := by rw [HRES.out, hs.out, HST.out]; rfl
          exact ⟨by rw [hr]; rfl, BW5.out.trans (BQ.out.mono BW5.out.size)⟩
      | false =>
        cases t2 with
        | true =>
          go_wp2_with (first | (go_at_call 28; rw [← HWQ.out]; with_reducible refine (HN1.out _ _ (by exact if e : c1 = p then Or.inl (by omega) else Or.inr (if_neg e))).mono ?_; rintro e w6 ⟨rfl, h6⟩; rw [HWQ.out] at h6; subst w6) | (go_at_call 28; rw [← HWQ.out]; with_reducible refine (HN2.out _ _ (by exact if e : c2 = q then Or.inl (by omega) else Or.inr (if_neg e))).mono ?_; rintro e w6 ⟨rfl, h6⟩; rw [HWQ.out] at h6; subst w6))
          all_goals
            go_ret2
            have hr : res = true := by rw [HRES.out, hs.out, HST.out]; rfl
            rw [← HWQ.out]
            exact ⟨by rw [hr]; rfl, BW5.out.trans (BQ.out.mono BW5.out.size)⟩
        | false =>
          go_wp2_with (first | (go_at_call 28; rw [← HWQ.out]; with_reducible refine (HN1.out _ _ (by exact if e : c1 = p then Or.inl (by omega) else Or.inr (if_neg e))).mono ?_; rintro e w6 ⟨rfl, h6⟩; rw [HWQ.out] at h6; subst w6) | (go_at_call 28; rw [← HWQ.out]; with_reducible refine (HN2.out _ _ (by exact if e : c2 = q then Or.inl (by omega) else Or.inr (if_neg e))).mono ?_; rintro e w6 ⟨rfl, h6⟩; rw [HWQ.out] at h6; subst w6))
          all_goals exact ⟨⟨j + 1, by omega, by go_num, (hs.out.trans HST.out : _), by rw [← HWQ.out]; exact BQ.out⟩, by simp [intOf]; omega⟩
    · go_wp2
      go_ret2
      have hr : res = false := by rw [HRES.out, hs.out, List.drop_eq_nil_of_le (by omega)]; rfl
      exact ⟨by rw [hr]; rfl, BW5.out.trans (hb.out.mono BW5.out.size)⟩
end Go.Proofs.Ythhmamkphcgocaa

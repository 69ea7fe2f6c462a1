/- sleuthref25: Cut, Pieces, Common, Score: by contracts. sleuthref25: Common, Score: by contracts. -/
import Derived.Test.YtbmpidacoohdmaaGreatF26
import Derived.Test.YtbmpidacoohdmaaGreatF03
import Derived.Test.YtbmpidacoohdmaaGreatF06
namespace Go.Proofs.YtbmpidacoohdmaaGreat
open Lib renaming hid → hI
open Go.RowKit Op

theorem slS : Sl Tryz.prog 22 9 1 16 := ⟨Tryz.underlying22, by kernel_rfl, by decide⟩
def txl (l : List (List UInt8)) : List Value := l.map fun t => Value.string (bs t)
theorem txl_snoc (l : List (List UInt8)) (t : List UInt8) : txl l ++ [.string (bs t)] = txl (l ++ [t]) := by simp [txl]
theorem txl_at {l : List (List UInt8)} {k : Nat} (h : k < l.length) : (txl l)[k]? = some (.string (bs (l.getD k []))) := by simp [txl, h]
attribute [local go_sem] bs_append bs_size bs_toList
theorem take_next2 (b : List UInt8) {k : Nat} (h : k < b.length) : b.take (k + 1) = b.take k ++ [b.getD k 0] := by
  rw [List.take_add_one, List.getElem?_eq_getElem h]
  simp [h]
theorem one_at (b : List UInt8) {k : Nat} (h : k < b.length) : (b.drop k).take 1 = [b.getD k 0] := by
  rw [List.drop_eq_getElem_cons h, List.take_succ_cons, List.take_zero, List.getD_eq_getElem?_getD, List.getElem?_eq_getElem h]; rfl
set_option maxRecDepth 100000 in
set_option maxHeartbeats 1000000 in
theorem cut25_any (w : World) (A : Option Addr) (c : Nat) (b : List UInt8) (hr : Rv w.heap.size w A (bys b)) (hcap : b.length ≤ c) (hl : b.length ≤ 1000) :
    Calls Tryz.prog 232 #[.slice A b.length c] w fun e w2 => ∃ v, e = .returned v ∧ w2.ownsRow w.heap.size 9 1 v (cutB b).length (txl (cutB b)) ∧ Below w.heap.size w w2 := by
  have H := hI hr
  clear hr
  go_enter Tryz.func232, Tryz.ntmps232
  go_wp2_with fail
  go_loopw [3, 4, 5] (fun ov nv kv wr => ∃ k : Nat, k ≤ b.length ∧ kv = .int .i64 k ∧ nv = .string (bs (cutTo (b.take k)).2) ∧ Hid (wr.ownsRow w.heap.size 9 1 ov (cutTo (b.take k)).1.length (txl (cutTo (b.take k)).1)) ∧ Hid (Below w.heap.size w wr)) (fun _ _ kv _ => b.length - (intOf kv).toNat)
  case atStart => exact ⟨0, Nat.zero_le _, rfl, rfl, hI (World.ownsRow_nil _ _ _ _), hI (Below.refl _ _)⟩
  case round =>
    obtain ⟨k, hk, rfl, rfl, ho, hb⟩ := hrel
    by_cases hlt : k < b.length
    · obtain ⟨ad, rfl, hab, hcell⟩ := H.out.at_ (bys_at hlt)
      have hcs := (hb.out.cell (p := ad.add k) (by rw [block_add]; exact hab)).trans hcell
      have hpt := (H.out.low hb.out hb.out.size).part k rfl 1
      rw [bys_part, one_at b hlt] at hpt
      have hcv : (convert 57 9 (.slice (some (ad.add k)) 1 (c - k))).run Tryz.prog wr = .ok (.string (bs [b.getD k 0])) wr := conv22 (c - k) hpt
      have NX : Hid (cutTo (b.take (k + 1)) = cutStep (cutTo (b.take k)) (b.getD k 0)) := hI (by rw [take_next2 b hlt, cutTo_snoc])
      have hfew := cutTo_few (b.take k)
      have hle := cutTo_le (b.take k)
      rw [List.length_take] at hle
      generalize cutTo (b.take k) = s at *
      generalize b.getD k 0 = x at *
      obtain ⟨ps, now⟩ := s
      simp only at *
      obtain ⟨Do, do_, hvv, _⟩ := own_all ho.out
      subst hvv
      have HT := hI (txl_snoc ps (now ++ [x]))
      have N3 := hI (new_rv wr [.string (bs (now ++ [x]))] 9 ⟨wr.heap.size, 0, none⟩ rfl)
      have O3 := hI (ho.out.alloc (.cells #[.string (bs (now ++ [x]))] 9))
      have B3 := hI (hb.out.alloc hb.out.size (.cells #[.string (bs (now ++ [x]))] 9))
      clear hpt hcell
      by_cases h10 : x.toNat = 10
      · have q10 : ((x.toNat : Int) == 10) = true := by rw [h10]; rfl
        unfold cutStep at NX
        rw [if_pos (.inl h10)] at NX
        clear h10
        go_wp2_with (at_builtin; refine wpList_app slS rfl (.tmp 30) (.tmp 32) rfl w.heap.size _ ps.length (txl ps) rfl O3.out (some ⟨wr.heap.size, 0, none⟩) 1 1 [.string (bs (now ++ [x]))] rfl (fun q => by cases q) rfl N3.out (by intro u hu; rw [List.mem_singleton.1 hu]; rfl) (by unfold maxLen; omega) (by omega) B3.out.size ?_; intro v7 w7 ho7 ha7; have O7 := hI ho7; have A7 := hI ha7.grown; clear ho7 ha7)
        exact ⟨⟨k + 1, by omega, by go_num, by rw [NX.out]; rfl, hI (by rw [NX.out, ← HT.out, List.length_append]; exact O7.out), hI (B3.out.grown A7.out B3.out.size (fun q hq => (O3.out.lt q hq).1))⟩, by simp [intOf]; omega⟩
      · have q10 : ((x.toNat : Int) == 10) = false := beq_eq_false_iff_ne.2 (by omega)
        by_cases h64 : now.length + 1 = 64
        · have q64 : ((now.length : Int) + 1 == 64) = true := beq_iff_eq.2 (by omega)
          unfold cutStep at NX
          rw [if_pos (.inr h64)] at NX
          clear h10 h64
          go_wp2_with (at_builtin; refine wpList_app slS rfl (.tmp 30) (.tmp 32) rfl w.heap.size _ ps.length (txl ps) rfl O3.out (some ⟨wr.heap.size, 0, none⟩) 1 1 [.string (bs (now ++ [x]))] rfl (fun q => by cases q) rfl N3.out (by intro u hu; rw [List.mem_singleton.1 hu]; rfl) (by unfold maxLen; omega) (by omega) B3.out.size ?_; intro v7 w7 ho7 ha7; have O7 := hI ho7; have A7 := hI ha7.grown; clear ho7 ha7)
          exact ⟨⟨k + 1, by omega, by go_num, by rw [NX.out]; rfl, hI (by rw [NX.out, ← HT.out, List.length_append]; exact O7.out), hI (B3.out.grown A7.out B3.out.size (fun q hq => (O3.out.lt q hq).1))⟩, by simp [intOf]; omega⟩
        · have q64 : ((now.length : Int) + 1 == 64) = false := beq_eq_false_iff_ne.2 (by omega)
          unfold cutStep at NX
          rw [if_neg (by rintro (q | q); exact h10 q; exact h64 q)] at NX
          clear h10 h64
          go_wp2_with fail
          exact ⟨⟨k + 1, by omega, by go_num, by rw [NX.out], by rw [NX.out]; exact ho, hb⟩, by simp [intOf]; omega⟩
    · have hke : k = b.length := by omega
      subst hke
      rw [List.take_length] at ho
      have CB : Hid (cutB b = if (cutTo b).2 = [] then (cutTo b).1 else (cutTo b).1 ++ [(cutTo b).2]) := hI rfl
      have hle := cutTo_le b
      have e1 : b.take b.length = b := List.take_length
      rw [e1]
      generalize cutTo b = s at *
      obtain ⟨ps, now⟩ := s
      simp only at *
      obtain ⟨Do, do_, hvv, _⟩ := own_all ho.out
      subst hvv
      clear e1
      by_cases hn : now = []
      · subst hn
        rw [if_pos rfl] at CB
        have q1 : (([] : List UInt8) == []) = true := rfl
        go_wp2_with fail
        go_ret
        exact ⟨_, rfl, by rw [CB.out]; exact ho.out, hb.out⟩
      · rw [if_neg hn] at CB
        have q1 : (now == []) = false := beq_eq_false_iff_ne.2 hn
        have HT := hI (txl_snoc ps now)
        have N3 := hI (new_rv wr [.string (bs now)] 9 ⟨wr.heap.size, 0, none⟩ rfl)
        have O3 := hI (ho.out.alloc (.cells #[.string (bs now)] 9))
        have B3 := hI (hb.out.alloc hb.out.size (.cells #[.string (bs now)] 9))
        clear hn
        go_wp2_with (at_builtin; refine wpList_app slS rfl (.tmp 36) (.tmp 38) rfl w.heap.size _ ps.length (txl ps) rfl O3.out (some ⟨wr.heap.size, 0, none⟩) 1 1 [.string (bs now)] rfl (fun q => by cases q) rfl N3.out (by intro u hu; rw [List.mem_singleton.1 hu]; rfl) (by unfold maxLen; omega) (by omega) B3.out.size ?_; intro v7 w7 ho7 ha7; have O7 := hI ho7; have A7 := hI ha7.grown; clear ho7 ha7)
        go_ret
        exact ⟨_, rfl, by rw [CB.out, ← HT.out, List.length_append]; exact O7.out, B3.out.grown A7.out B3.out.size (fun q hq => (O3.out.lt q hq).1)⟩
theorem insP_at (t : List UInt8) : ∀ (l : Pcs) (i : Nat), i ≤ l.length → (∀ j, j < i → Op.bytesLess (l.getD j ([], 0)).1 t = true) → (i < l.length → Op.bytesLess (l.getD i ([], 0)).1 t = false) →
    insP t l = if i < l.length ∧ (l.getD i ([], 0)).1 = t then l.set i (t, (l.getD i ([], 0)).2 + 1) else l.take i ++ [(t, 1)] ++ l.drop i
  | [], i, hi, _, _ => by
    obtain rfl : i = 0 := by simpa using hi
    simp [insP]
  | (u, n) :: r, 0, _, _, h2 => by
    have h := h2 (by simp)
    simp only [List.getD_cons_zero] at h
    unfold insP
    rw [if_neg (by rw [h]; simp)]
    by_cases e : u = t
    · subst e; simp
    · rw [if_neg e, if_neg (by simp [e])]; rfl
  | (u, n) :: r, i + 1, hi, h1, h2 => by
    have h := h1 0 (by omega)
    simp only [List.getD_cons_zero] at h
    unfold insP
    rw [if_pos h, insP_at t r i (by simpa using hi) (fun j hj => by simpa using h1 (j + 1) (by omega)) (fun hj => by simpa using h2 (by simpa using hj))]
    simp only [List.length_cons, Nat.add_lt_add_iff_right, List.getD_cons_succ]
    split <;> simp
def pcl (l : Pcs) : List Value := l.flatMap fun p => [.string (bs p.1), .int .i64 (p.2 : Int)]
theorem pcl_len (l : Pcs) : (pcl l).length = l.length * 2 := by
  induction l with
  | nil => rfl
  | cons p l ih => simp only [pcl, List.flatMap_cons, List.length_append, List.length_cons, List.length_nil] at *; omega
theorem pcl_app (l m : Pcs) : pcl l ++ pcl m = pcl (l ++ m) := by simp [pcl]
theorem pcl_one (l : Pcs) : ∀ u ∈ pcl l, u.oneCell' = true := fun u hu => by
  obtain ⟨p, _, h⟩ := List.mem_flatMap.1 hu
  simp only [List.mem_cons, List.not_mem_nil, or_false] at h
  rcases h with rfl | rfl <;> rfl
theorem pcl_at : ∀ (l : Pcs) (k : Nat), k < l.length → (pcl l)[k * 2]? = some (.string (bs (l.getD k ([], 0)).1)) ∧ (pcl l)[k * 2 + 1]? = some (.int .i64 ((l.getD k ([], 0)).2 : Int))
  | [], k, h => by simp at h
  | p :: l, 0, _ => ⟨rfl, rfl⟩
  | p :: l, k + 1, h => by
    have := pcl_at l k (by simpa using h)
    rw [show (k + 1) * 2 = k * 2 + 1 + 1 by omega]
    simpa [pcl] using this
theorem pcl_take : ∀ (l : Pcs) (k : Nat), (pcl l).take (k * 2) = pcl (l.take k)
  | [], k => by simp [pcl]
  | p :: l, 0 => by simp [pcl]
  | p :: l, k + 1 => by
    have := pcl_take l k
    rw [show (k + 1) * 2 = k * 2 + 1 + 1 by omega]
    simp only [pcl, List.flatMap_cons, List.take_succ_cons, List.cons_append, List.nil_append] at *
    rw [this]
theorem pcl_drop : ∀ (l : Pcs) (k : Nat), (pcl l).drop (k * 2) = pcl (l.drop k)
  | [], k => by simp [pcl]
  | p :: l, 0 => by simp [pcl]
  | p :: l, k + 1 => by
    have := pcl_drop l k
    rw [show (k + 1) * 2 = k * 2 + 1 + 1 by omega]
    simp only [pcl, List.flatMap_cons, List.drop_succ_cons, List.cons_append, List.nil_append] at *
    exact this
theorem pcl_set : ∀ (l : Pcs) (k : Nat) (n : Nat), k < l.length → (pcl l).set (k * 2 + 1) (.int .i64 (n : Int)) = pcl (l.set k ((l.getD k ([], 0)).1, n))
  | [], k, n, h => by simp at h
  | p :: l, 0, n, _ => by simp [pcl]
  | p :: l, k + 1, n, h => by
    have := pcl_set l k n (by simpa using h)
    rw [show (k + 1) * 2 + 1 = k * 2 + 1 + 1 + 1 by omega]
    simp only [pcl, List.flatMap_cons, List.set_cons_succ, List.cons_append, List.nil_append, List.getD_cons_succ] at *
    rw [this]
theorem own_set {w : World} {C size : Nat} {e : TypeId} {v : Value} {n : Nat} {xs : List Value} (h : w.ownsRow C e size v n xs) {g : Nat} (hg : v.ownBlock = some g) (k : Nat) (u : Value) : (w.setCell ⟨g, k, none⟩ u).ownsRow C e size v n (xs.set k u) := by
  obtain ⟨h0, ⟨rfl, h2⟩ | ⟨g2, cap, cur, rfl, h2, h3, h4, h5, h6, h7⟩⟩ := h
  · cases hg
  · obtain rfl : g2 = g := by injection hg
    refine ⟨by rw [List.length_set]; exact h0, .inr ⟨g2, cap, cur.setIfInBounds k u, rfl, h2, set_same h3, h4, h5, by simp [h6], ?_⟩⟩
    rw [← h7, Array.toList_setIfInBounds, List.take_set]
theorem own_all0 {w : World} {C : Nat} {e : TypeId} {size : Nat} {v : Value} {n : Nat} {xs : List Value} (h : w.ownsRow C e size v n xs) : ∃ D d, v = .slice D n d ∧ (D = none → d = 0) ∧ n ≤ d ∧ Rv w.heap.size w D xs ∧ ∀ ad, D = some ad → ∃ g, ad = ⟨g, 0, none⟩ ∧ C ≤ g ∧ g < w.heap.size ∧ ∀ j, w.frozen? ⟨g, j, none⟩ = false := by
  obtain ⟨D, d, h1, h2, h3, h4, _⟩ := own_all h
  refine ⟨D, d, h1, h2, h3, h4, fun ad e => ?_⟩
  obtain ⟨_, ⟨q, _⟩ | ⟨g, cap, cur, q, k1, k2, _⟩⟩ := h
  · rw [h1, e] at q; cases q
  · rw [h1, e] at q
    injection q with q
    injection q with q
    exact ⟨g, q, k1, (Array.getElem?_eq_some_iff.1 k2).1, fun j => frozen_of_row w g j _ _ k2⟩
theorem slP : Sl Tryz.prog 277 280 2 24 := ⟨Tryz.underlying277, by kernel_rfl, by decide⟩
set_option maxRecDepth 100000 in
set_option maxHeartbeats 2000000 in
theorem pieces25_any (w : World) (A : Option Addr) (c : Nat) (b : List UInt8) (hr : Rv w.heap.size w A (bys b)) (hcap : b.length ≤ c) (hl : b.length ≤ 1000) :
    Calls Tryz.prog 174 #[.slice A b.length c] w fun e w2 => ∃ v, e = .returned v ∧ w2.ownsRow w.heap.size 280 2 v (pcsTo (cutB b)).length (pcl (pcsTo (cutB b))) ∧ Below w.heap.size w w2 := by
  have HC := hI (cut25_any w A c b hr hcap hl)
  have hln := cutB_le b
  clear hr
  obtain ⟨ps, hps⟩ : ∃ ps, cutB b = ps := ⟨_, rfl⟩
  rw [hps] at HC hln ⊢
  clear hps
  go_enter Tryz.func174, Tryz.ntmps174
  go_wp2_with fail
  refine HC.out.mono ?_
  rintro e w1 ⟨v, rfl, ho, hb⟩
  obtain ⟨D, d, rfl, _, hD, hrv, _⟩ := own_all ho
  have B1 := hI hb
  have RV := hI hrv
  clear ho hb hrv HC
  go_wp2_with fail
  go_loopw [4, 5] (fun ov kv wr => ∃ k : Nat, k ≤ ps.length ∧ kv = .int .i64 k ∧ Hid (wr.ownsRow w1.heap.size 280 2 ov (pcsTo (ps.take k)).length (pcl (pcsTo (ps.take k)))) ∧ Hid (Below w1.heap.size w1 wr) ∧ Hid (ov = .slice none 0 0 ∨ 0 < (pcsTo (ps.take k)).length)) (fun _ kv _ => ps.length - (intOf kv).toNat)
  case atStart => exact ⟨0, Nat.zero_le _, rfl, hI (World.ownsRow_nil _ _ _ _), hI (Below.refl _ _), hI (.inl rfl)⟩
  case round =>
    obtain ⟨k, hk, rfl, ho, hb, DZ⟩ := hrel
    by_cases hlt : k < ps.length
    · obtain ⟨ad, rfl, hab, hcell⟩ := RV.out.at_ (txl_at hlt)
      have HS : Hid (∀ W, Below w1.heap.size w1 W → W.cell? (ad.add k) = some (.string (bs (ps.getD k [])))) := hI fun W hW => (hW.cell (by rw [block_add]; exact hab)).trans hcell
      have NX : Hid (pcsTo (ps.take (k + 1)) = insP (ps.getD k []) (pcsTo (ps.take k))) := hI (by rw [List.take_add_one, List.getElem?_eq_getElem hlt, Option.toList_some, pcsTo_snoc]; simp [hlt])
      have hpl := pcsTo_len (ps.take k)
      rw [List.length_take] at hpl
      have PB : Hid (∀ i, i < (pcsTo (ps.take k)).length → ((pcsTo (ps.take k)).getD i ([], 0)).2 ≤ 1000) := hI (fun i hi => by
        have hm : (pcsTo (ps.take k)).getD i ([], 0) ∈ pcsTo (ps.take k) := by rw [List.getD_eq_getElem?_getD, List.getElem?_eq_getElem hi]; exact List.getElem_mem hi
        rw [mem_pcs hm]
        have := List.count_le_length (a := ((pcsTo (ps.take k)).getD i ([], 0)).1) (l := ps.take k)
        rw [List.length_take] at this
        omega)
      have PL : Hid ((pcsTo (ps.take (k + 1))).length ≤ k + 1) := hI (by have := pcsTo_len (ps.take (k + 1)); rw [List.length_take] at this; omega)
      generalize pcsTo (ps.take k) = P at *
      generalize ps.getD k [] = t at *
      obtain ⟨Do, do_, hvv, hDo, hdo, hro, hgo⟩ := own_all0 ho.out
      subst hvv
      have RO := hI hro
      clear hcell hro
      have O0 := hI (ho.out)
      have GO := hI hgo
      clear hgo ho
      obtain ⟨wo, hwo⟩ : ∃ wo, wo = wr := ⟨_, rfl⟩
      rw [← hwo] at O0 RO GO hb
      have HW : Hid (wr = wo) := hI hwo.symm
      clear hwo
      go_wp2_with fail
      go_loopw [6] (fun av wr2 => ∃ i : Nat, i ≤ P.length ∧ av = .int .i64 i ∧ Hid (Below wo.heap.size wo wr2) ∧ Hid (∀ j, j < i → Op.bytesLess (P.getD j ([], 0)).1 t = true)) (fun av _ => P.length - (intOf av).toNat)
      case atStart => exact ⟨0, Nat.zero_le _, rfl, hI (by rw [HW.out]; exact Below.refl _ _), hI (fun j h => by omega)⟩
      case round =>
        obtain ⟨i, hi, rfl, BQ, hno⟩ := hrel
        have BW : Hid (Below w1.heap.size w1 wr) := hI (hb.out.trans (BQ.out.mono hb.out.size))
        have hct := HS.out wr BW.out
        by_cases hip : i < P.length
        · obtain ⟨ad2, rfl, hab2, hc2⟩ := RO.out.at_ (pcl_at P i hip).1
          obtain ⟨g, rfl, hg1, hg2, hfz⟩ := GO.out _ rfl
          have hcu := (BQ.out.cell (p := (⟨g, 0, none⟩ : Addr).add (i * 2)) (by rw [block_add]; exact hab2)).trans hc2
          rw [Addr.add_lit, Nat.zero_add] at hcu
          have FZ : Hid (∀ W, Below wo.heap.size wo W → ∀ j, W.frozen? ⟨g, j, none⟩ = false) := hI fun W hW j => (hW.frozen (p := ⟨g, j, none⟩) hg2).trans (hfz j)
          cases hbl : Op.bytesLess (P.getD i ([], 0)).1 t with
          | true =>
            have NN : Hid (∀ j, j < i + 1 → Op.bytesLess (P.getD j ([], 0)).1 t = true) := hI (fun j hj => by rcases Nat.lt_succ_iff_lt_or_eq.1 hj with h | rfl; exact hno.out j h; exact hbl)
            clear hno hc2
            generalize (P.getD i ([], 0)).1 = u at *
            go_wp2_with fail
            refine wp_region_quiet_lit (by kernel_rfl) (by kernel_rfl) ?_
            repeat (go_big_quiet_step (fail))
            refine wpQuiet_nil ?_
            rintro _ ⟨n1, rfl⟩
            go_wp2_with fail
            refine ⟨⟨i + 1, by omega, by go_num, hI (below_dr BQ.out n1), NN⟩, by simp [intOf]; omega⟩
          | false =>
            have IP := insP_at t P i hi hno.out (fun _ => hbl)
            have B4 : Hid (∀ n, Below wo.heap.size wo (wr.drewN n)) := hI (fun n => below_dr BQ.out n)
            have OA : Hid (∀ W, Below wo.heap.size wo W → W.ownsRow w1.heap.size 280 2 (.slice (some ⟨g, 0, none⟩) P.length do_) P.length (pcl P)) := hI fun W hW => own_below O0.out hW
            have CU : Hid (∀ W, Below wo.heap.size wo W → W.cell? ⟨g, i * 2, none⟩ = some (.string (bs (P.getD i ([], 0)).1)) ∧ W.cell? ⟨g, i * 2 + 1, none⟩ = some (.int .i64 ((P.getD i ([], 0)).2 : Int))) := hI fun W hW => by
              obtain ⟨ad3, e3, hb3, hc3⟩ := RO.out.at_ (pcl_at P i hip).1
              obtain ⟨ad4, e4, hb4, hc4⟩ := RO.out.at_ (pcl_at P i hip).2
              obtain rfl := Option.some.inj e3
              obtain rfl := Option.some.inj e4
              rw [Addr.add_lit, Nat.zero_add] at hc3 hc4
              exact ⟨(hW.cell (p := ⟨g, i * 2, none⟩) hb3).trans hc3, (hW.cell (p := ⟨g, i * 2 + 1, none⟩) hb4).trans hc4⟩
            have HUP := hI (pcsTo_up ps)
            by_cases hut : (P.getD i ([], 0)).1 = t
            · rw [if_pos ⟨hip, hut⟩] at IP
              rw [IP] at NX
              have heq : ((P.getD i ([], 0)).1 == t) = true := beq_iff_eq.2 hut
              have hnn := PB.out i hip
              have PS := hI (pcl_set P i ((P.getD i ([], 0)).2 + 1) hip)
              have NX2 : Hid (pcsTo (ps.take (k + 1)) = P.set i ((P.getD i ([], 0)).1, (P.getD i ([], 0)).2 + 1)) := hI (by rw [NX.out, hut])
              clear hno hc2 IP hut NX
              generalize (P.getD i ([], 0)).1 = u at *
              generalize (P.getD i ([], 0)).2 = nn at *
              go_wp2_with fail
              refine wp_region_quiet_lit (by kernel_rfl) (by kernel_rfl) ?_
              repeat (go_big_quiet_step (fail))
              refine wpQuiet_nil ?_
              rintro _ ⟨n1, rfl⟩
              have hcu5 := (CU.out _ (B4.out n1)).1
              have hct5 := HS.out _ (hb.out.trans ((B4.out n1).mono hb.out.size))
              have B5 := hI (B4.out n1)
              generalize wr.drewN n1 = w5 at *
              go_wp2_with fail
              refine wp_region_quiet_lit (by kernel_rfl) (by kernel_rfl) ?_
              repeat (go_big_quiet_step (fail))
              refine wpQuiet_nil ?_
              rintro _ ⟨n2, rfl⟩
              have B6 : Hid (Below wo.heap.size wo (w5.drewN n2)) := hI (below_dr B5.out n2)
              have hcn6 := (CU.out _ B6.out).2
              have hfz6 := FZ.out _ B6.out (i * 2 + 1)
              have O6 := hI (OA.out _ B6.out)
              generalize w5.drewN n2 = w6 at *
              go_wp2_with fail
              refine ⟨⟨k + 1, by omega, by go_num, hI ?_, hI ?_, hI (.inr (by rw [NX2.out, List.length_set]; omega))⟩, by simp [intOf]; omega⟩
              · have := own_set O6.out rfl (i * 2 + 1) (.int .i64 ((nn + 1 : Nat) : Int))
                rw [PS.out] at this
                rw [NX2.out, List.length_set]
                exact this
              · exact (hb.out.trans (B6.out.mono hb.out.size)).setCell (p := ⟨g, i * 2 + 1, none⟩) hg1 _
            · rw [if_neg (fun q => hut q.2)] at IP
              have heq : ((P.getD i ([], 0)).1 == t) = false := beq_eq_false_iff_ne.2 hut
              have R1 : ∀ {W : World}, Rv wo.heap.size W (some ⟨g, 0, none⟩) (pcl P) → Rv wo.heap.size W (some ⟨g, 0, none⟩) ((pcl P).take (i * 2)) := fun h => by have := h.part 0 rfl (i * 2); simpa [Addr.add_lit] using this
              have R3 : ∀ {W : World}, Rv wo.heap.size W (some ⟨g, 0, none⟩) (pcl P) → Rv wo.heap.size W (some ⟨g, i * 2, none⟩) ((pcl P).drop (i * 2)) := fun h => by have := h.part (i * 2) rfl ((pcl P).length); rw [List.take_of_length_le (by rw [List.length_drop]; omega)] at this; simpa [Addr.add_lit] using this
              clear hno hc2 hut
              generalize hu : (P.getD i ([], 0)).1 = u at *
              go_wp2_with fail
              refine wp_region_quiet_lit (by kernel_rfl) (by kernel_rfl) ?_
              repeat (go_big_quiet_step (fail))
              refine wpQuiet_nil ?_
              rintro _ ⟨n1, rfl⟩
              have hcu5 := (CU.out _ (B4.out n1)).1
              have hct5 := HS.out _ (hb.out.trans ((B4.out n1).mono hb.out.size))
              have B5 := hI (B4.out n1)
              generalize wr.drewN n1 = w5 at *
              go_wp2_with fail
              refine wp_region_quiet_lit (by kernel_rfl) (by kernel_rfl) ?_
              repeat (go_big_quiet_step (fail))
              refine wpQuiet_nil ?_
              rintro _ ⟨n2, rfl⟩
              have B6 : Hid (Below wo.heap.size wo (w5.drewN n2)) := hI (below_dr B5.out n2)
              clear B5
              generalize hw6 : w5.drewN n2 = w6 at *
              have B5 := B6
              have BW5 : Hid (Below w1.heap.size w1 w6) := hI (hb.out.trans (B6.out.mono hb.out.size))
              clear hcu5 hct5 hcu hct hw6 hu
              have NX2 : Hid (pcsTo (ps.take (k + 1)) = P.take i ++ [(t, 1)] ++ P.drop i) := hI (by rw [NX.out, IP])
              have T1 := hI (show ((pcl P).take (i * 2)).length = i * 2 by rw [List.length_take, pcl_len]; omega)
              have T3 := hI (show ((pcl P).drop (i * 2)).length = (P.length - i) * 2 by rw [List.length_drop, pcl_len]; omega)
              have E1 := hI (show ([] ++ (pcl P).take (i * 2)) ++ [.string (bs t), .int .i64 ((1 : Nat) : Int)] ++ (pcl P).drop (i * 2) = pcl (P.take i ++ [(t, 1)] ++ P.drop i) by rw [List.nil_append, pcl_take, pcl_drop, ← pcl_app, ← pcl_app] <;> rfl)
              have E2 := hI (show (0 + i + 1) + (P.length - i) = (P.take i ++ [(t, 1)] ++ P.drop i).length by simp <;> omega)
              have G5 := hI (RO.out.below B5.out)
              clear NX IP
              have F0 := hI (World.ownsRow_nil w6 w6.heap.size 280 2)
              have ct5 := HS.out w6 BW5.out
              go_wp2_with (first
                | (have _t := F0; at_builtin; refine wpList_app slP rfl (.tmp 58) (.tmp 61) rfl w6.heap.size (.slice none 0 0) 0 [] rfl F0.out (some ⟨g, 0, none⟩) i do_ ((pcl P).take (i * 2)) rfl (fun q => by cases q) T1.out (R1 G5.out) (fun u hu => pcl_one P u (List.mem_of_mem_take hu)) (by unfold maxLen; omega) (by omega) (Nat.le_refl _) ?_; intro v8 w8 ho8 ha8; have O8 := hI ho8; have B8 := hI (below_of_grown ha8.grown (Nat.le_refl _) (fun q hq => by cases hq)); have ct8 := HS.out w8 (BW5.out.trans (B8.out.mono BW5.out.size)); have N8 := hI (new_rv w8 [.string (bs t), .int .i64 ((1 : Nat) : Int)] 280 ⟨w8.heap.size, 0, none⟩ rfl); have B9 := hI (B8.out.alloc B8.out.size (.cells #[.string (bs t), .int .i64 1] 280)); have O9 := hI (ho8.alloc (.cells #[.string (bs t), .int .i64 1] 280)); clear ho8 ha8 F0)
                | (have _t := N8; at_builtin; refine wpList_app slP rfl (.tmp 63) (.tmp 69) rfl w6.heap.size v8 (0 + i) ([] ++ (pcl P).take (i * 2)) rfl O9.out (some ⟨w8.heap.size, 0, none⟩) 1 1 [.string (bs t), .int .i64 ((1 : Nat) : Int)] rfl (fun q => by cases q) rfl N8.out (by intro u hu; simp only [List.mem_cons, List.not_mem_nil, or_false] at hu; rcases hu with rfl | rfl <;> rfl) (by unfold maxLen; omega) (by omega) B9.out.size ?_; intro v10 w10 ho10 ha10; have O10 := hI ho10; have B10 := hI (B9.out.trans (below_of_grown ha10.grown B9.out.size (fun q hq => (O9.out.lt q hq).1))); clear ho10 ha10 N8)
                | (at_builtin; refine wpList_app slP rfl (.tmp 71) (.tmp 74) rfl w6.heap.size v10 (0 + i + 1) (([] ++ (pcl P).take (i * 2)) ++ [.string (bs t), .int .i64 ((1 : Nat) : Int)]) rfl O10.out (some ⟨g, i * 2, none⟩) (P.length - i) (do_ - i) ((pcl P).drop (i * 2)) rfl (fun q => by cases q) T3.out (R3 (G5.out.below (show Below wo.heap.size w6 w10 from B10.out.mono B5.out.size))) (fun u hu => pcl_one P u (List.mem_of_mem_drop hu)) (by unfold maxLen; omega) (by omega) B10.out.size ?_; intro v12 w12 ho12 ha12; have O12 := hI ho12; have B12 := hI (B10.out.trans (below_of_grown ha12.grown B10.out.size (fun q hq => (O10.out.lt q hq).1))); clear ho12 ha12))
              refine ⟨⟨k + 1, by omega, by go_num, hI ?_, hI (BW5.out.trans (B12.out.mono BW5.out.size)), hI (.inr (by rw [NX2.out, List.length_append, List.length_append, List.length_singleton]; omega))⟩, by simp [intOf]; omega⟩
              have := O12.out
              rw [E1.out, E2.out, ← NX2.out] at this
              exact own_less this BW5.out.size
        · have IP := insP_at t P i hi hno.out (fun h => absurd h hip)
          rw [if_neg (fun q => hip q.1)] at IP
          have B4 : Hid (∀ n, Below wo.heap.size wo (wr.drewN n)) := hI (fun n => below_dr BQ.out n)
          clear hno
          rcases Do with _ | ad2
          · obtain rfl := hDo rfl
            have hP0 : P = [] := by
              cases P with
              | nil => rfl
              | cons p P => obtain ⟨_, e, _⟩ := RO.out.at_ (pcl_at (p :: P) 0 (by simp)).1; cases e
            subst hP0
            obtain rfl : i = 0 := by simpa using hi
            clear hip
            have R1 : ∀ {W : World}, Rv wo.heap.size W none (pcl []) → Rv wo.heap.size W none ((pcl []).take (0 * 2)) := fun _ => Rv.nil
            have R3 : ∀ {W : World}, Rv wo.heap.size W none (pcl []) → Rv wo.heap.size W none ((pcl []).drop (0 * 2)) := fun _ => Rv.nil
            go_wp2_with fail
            refine wp_region_quiet_lit (by kernel_rfl) (by kernel_rfl) ?_
            repeat (go_big_quiet_step (fail))
            refine wpQuiet_nil ?_
            rintro _ ⟨n1, rfl⟩
            have B5 := hI (B4.out n1)
            generalize wr.drewN n1 = w5 at *
            go_wp2_with fail
            refine wp_region_quiet_lit (by kernel_rfl) (by kernel_rfl) ?_
            repeat (go_big_quiet_step (fail))
            refine wpQuiet_nil ?_
            rintro _ ⟨n2, rfl⟩
            have B6 : Hid (Below wo.heap.size wo (w5.drewN n2)) := hI (below_dr B5.out n2)
            clear B5
            generalize hw6 : w5.drewN n2 = w6 at *
            have B5 := B6
            have BW5 : Hid (Below w1.heap.size w1 w6) := hI (hb.out.trans (B6.out.mono hb.out.size))
            clear hct hw6
            have NX2 : Hid (pcsTo (ps.take (k + 1)) = ([] : Pcs).take 0 ++ [(t, 1)] ++ ([] : Pcs).drop 0) := hI (by rw [NX.out, IP])
            have T1 := hI (show ((pcl ([] : Pcs)).take (0 * 2)).length = 0 * 2 by rw [List.length_take, pcl_len]; omega)
            have T3 := hI (show ((pcl ([] : Pcs)).drop (0 * 2)).length = (([] : Pcs).length - 0) * 2 by rw [List.length_drop, pcl_len]; omega)
            have E1 := hI (show ([] ++ (pcl ([] : Pcs)).take (0 * 2)) ++ [.string (bs t), .int .i64 ((1 : Nat) : Int)] ++ (pcl ([] : Pcs)).drop (0 * 2) = pcl (([] : Pcs).take 0 ++ [(t, 1)] ++ ([] : Pcs).drop 0) by rw [List.nil_append, pcl_take, pcl_drop, ← pcl_app, ← pcl_app] <;> rfl)
            have E2 := hI (show (0 + 0 + 1) + (([] : Pcs).length - 0) = (([] : Pcs).take 0 ++ [(t, 1)] ++ ([] : Pcs).drop 0).length by simp <;> omega)
            have G5 := hI (RO.out.below B5.out)
            clear NX IP
            have F0 := hI (World.ownsRow_nil w6 w6.heap.size 280 2)
            have ct5 := HS.out w6 BW5.out
            go_wp2_with (first
              | (have _t := F0; at_builtin; refine wpList_app slP rfl (.tmp 58) (.tmp 61) rfl w6.heap.size (.slice none 0 0) 0 [] rfl F0.out none 0 0 ((pcl ([] : Pcs)).take (0 * 2)) rfl (fun _ => rfl) T1.out (R1 G5.out) (fun u hu => pcl_one ([] : Pcs) u (List.mem_of_mem_take hu)) (by unfold maxLen; omega) (by omega) (Nat.le_refl _) ?_; intro v8 w8 ho8 ha8; have O8 := hI ho8; have B8 := hI (below_of_grown ha8.grown (Nat.le_refl _) (fun q hq => by cases hq)); have ct8 := HS.out w8 (BW5.out.trans (B8.out.mono BW5.out.size)); have N8 := hI (new_rv w8 [.string (bs t), .int .i64 ((1 : Nat) : Int)] 280 ⟨w8.heap.size, 0, none⟩ rfl); have B9 := hI (B8.out.alloc B8.out.size (.cells #[.string (bs t), .int .i64 1] 280)); have O9 := hI (ho8.alloc (.cells #[.string (bs t), .int .i64 1] 280)); clear ho8 ha8 F0)
              | (have _t := N8; at_builtin; refine wpList_app slP rfl (.tmp 63) (.tmp 69) rfl w6.heap.size v8 (0 + 0) ([] ++ (pcl ([] : Pcs)).take (0 * 2)) rfl O9.out (some ⟨w8.heap.size, 0, none⟩) 1 1 [.string (bs t), .int .i64 ((1 : Nat) : Int)] rfl (fun q => by cases q) rfl N8.out (by intro u hu; simp only [List.mem_cons, List.not_mem_nil, or_false] at hu; rcases hu with rfl | rfl <;> rfl) (by unfold maxLen; omega) (by omega) B9.out.size ?_; intro v10 w10 ho10 ha10; have O10 := hI ho10; have B10 := hI (B9.out.trans (below_of_grown ha10.grown B9.out.size (fun q hq => (O9.out.lt q hq).1))); clear ho10 ha10 N8)
              | (at_builtin; refine wpList_app slP rfl (.tmp 71) (.tmp 74) rfl w6.heap.size v10 (0 + 0 + 1) (([] ++ (pcl ([] : Pcs)).take (0 * 2)) ++ [.string (bs t), .int .i64 ((1 : Nat) : Int)]) rfl O10.out none (([] : Pcs).length - 0) 0 ((pcl ([] : Pcs)).drop (0 * 2)) rfl (fun _ => rfl) T3.out (R3 (G5.out.below (show Below wo.heap.size w6 w10 from B10.out.mono B5.out.size))) (fun u hu => pcl_one ([] : Pcs) u (List.mem_of_mem_drop hu)) (by unfold maxLen; omega) (by omega) B10.out.size ?_; intro v12 w12 ho12 ha12; have O12 := hI ho12; have B12 := hI (B10.out.trans (below_of_grown ha12.grown B10.out.size (fun q hq => (O10.out.lt q hq).1))); clear ho12 ha12))
            refine ⟨⟨k + 1, by omega, by go_num, hI ?_, hI (BW5.out.trans (B12.out.mono BW5.out.size)), hI (.inr (by rw [NX2.out, List.length_append, List.length_append, List.length_singleton]; omega))⟩, by simp [intOf]; omega⟩
            have := O12.out
            rw [E1.out, E2.out, ← NX2.out] at this
            exact own_less this BW5.out.size
          · obtain ⟨g, rfl, hg1, hg2, hfz⟩ := GO.out _ rfl
            obtain rfl : i = P.length := by omega
            clear hip hi
            have hpos : 0 < P.length := by rcases DZ.out with q | q; cases q; exact q
            have R1 : ∀ {W : World}, Rv wo.heap.size W (some ⟨g, 0, none⟩) (pcl P) → Rv wo.heap.size W (some ⟨g, 0, none⟩) ((pcl P).take (P.length * 2)) := fun h => by have := h.part 0 rfl (P.length * 2); simpa [Addr.add_lit] using this
            have R4 : ∀ {W : World} {A : Option Addr}, Rv wo.heap.size W A ((pcl P).drop (P.length * 2)) := by rw [pcl_drop, List.drop_length]; exact Rv.nil
            clear hfz
            rcases Nat.lt_or_eq_of_le hdo with hcp | hcp
            · skip
              go_wp2_with fail
              refine wp_region_quiet_lit (by kernel_rfl) (by kernel_rfl) ?_
              repeat (go_big_quiet_step (fail))
              refine wpQuiet_nil ?_
              rintro _ ⟨n1, rfl⟩
              have B5 := hI (B4.out n1)
              generalize wr.drewN n1 = w5 at *
              go_wp2_with fail
              refine wp_region_quiet_lit (by kernel_rfl) (by kernel_rfl) ?_
              repeat (go_big_quiet_step (fail))
              refine wpQuiet_nil ?_
              rintro _ ⟨n2, rfl⟩
              have B6 : Hid (Below wo.heap.size wo (w5.drewN n2)) := hI (below_dr B5.out n2)
              clear B5
              generalize hw6 : w5.drewN n2 = w6 at *
              have B5 := B6
              have BW5 : Hid (Below w1.heap.size w1 w6) := hI (hb.out.trans (B6.out.mono hb.out.size))
              clear hct hw6
              have NX2 : Hid (pcsTo (ps.take (k + 1)) = P.take P.length ++ [(t, 1)] ++ P.drop P.length) := hI (by rw [NX.out, IP])
              have T1 := hI (show ((pcl P).take (P.length * 2)).length = P.length * 2 by rw [List.length_take, pcl_len]; omega)
              have T3 := hI (show ((pcl P).drop (P.length * 2)).length = 0 * 2 by rw [List.length_drop, pcl_len]; omega)
              have E1 := hI (show ([] ++ (pcl P).take (P.length * 2)) ++ [.string (bs t), .int .i64 ((1 : Nat) : Int)] ++ (pcl P).drop (P.length * 2) = pcl (P.take P.length ++ [(t, 1)] ++ P.drop P.length) by rw [List.nil_append, pcl_take, pcl_drop, ← pcl_app, ← pcl_app] <;> rfl)
              have E2 := hI (show (0 + P.length + 1) + 0 = (P.take P.length ++ [(t, 1)] ++ P.drop P.length).length by simp <;> omega)
              have G5 := hI (RO.out.below B5.out)
              clear NX IP
              have F0 := hI (World.ownsRow_nil w6 w6.heap.size 280 2)
              have ct5 := HS.out w6 BW5.out
              go_wp2_with (first
                | (have _t := F0; at_builtin; refine wpList_app slP rfl (.tmp 58) (.tmp 61) rfl w6.heap.size (.slice none 0 0) 0 [] rfl F0.out (some ⟨g, 0, none⟩) P.length _ ((pcl P).take (P.length * 2)) rfl (fun q => by cases q) T1.out (R1 G5.out) (fun u hu => pcl_one P u (List.mem_of_mem_take hu)) (by unfold maxLen; omega) (by omega) (Nat.le_refl _) ?_; intro v8 w8 ho8 ha8; have O8 := hI ho8; have B8 := hI (below_of_grown ha8.grown (Nat.le_refl _) (fun q hq => by cases hq)); have ct8 := HS.out w8 (BW5.out.trans (B8.out.mono BW5.out.size)); have N8 := hI (new_rv w8 [.string (bs t), .int .i64 ((1 : Nat) : Int)] 280 ⟨w8.heap.size, 0, none⟩ rfl); have B9 := hI (B8.out.alloc B8.out.size (.cells #[.string (bs t), .int .i64 1] 280)); have O9 := hI (ho8.alloc (.cells #[.string (bs t), .int .i64 1] 280)); clear ho8 ha8 F0)
                | (have _t := N8; at_builtin; refine wpList_app slP rfl (.tmp 63) (.tmp 69) rfl w6.heap.size v8 (0 + P.length) ([] ++ (pcl P).take (P.length * 2)) rfl O9.out (some ⟨w8.heap.size, 0, none⟩) 1 1 [.string (bs t), .int .i64 ((1 : Nat) : Int)] rfl (fun q => by cases q) rfl N8.out (by intro u hu; simp only [List.mem_cons, List.not_mem_nil, or_false] at hu; rcases hu with rfl | rfl <;> rfl) (by unfold maxLen; omega) (by omega) B9.out.size ?_; intro v10 w10 ho10 ha10; have O10 := hI ho10; have B10 := hI (B9.out.trans (below_of_grown ha10.grown B9.out.size (fun q hq => (O9.out.lt q hq).1))); clear ho10 ha10 N8)
                | (at_builtin; refine wpList_app slP rfl (.tmp 71) (.tmp 74) rfl w6.heap.size v10 (0 + P.length + 1) (([] ++ (pcl P).take (P.length * 2)) ++ [.string (bs t), .int .i64 ((1 : Nat) : Int)]) rfl O10.out _ _ _ ((pcl P).drop (P.length * 2)) rfl (fun q => by cases q) T3.out R4 (fun u hu => pcl_one P u (List.mem_of_mem_drop hu)) (by unfold maxLen; omega) (by omega) B10.out.size ?_; intro v12 w12 ho12 ha12; have O12 := hI ho12; have B12 := hI (B10.out.trans (below_of_grown ha12.grown B10.out.size (fun q hq => (O10.out.lt q hq).1))); clear ho12 ha12))
              all_goals
                refine ⟨⟨k + 1, by omega, by go_num, hI ?_, hI (BW5.out.trans (B12.out.mono BW5.out.size)), hI (.inr (by rw [NX2.out, List.length_append, List.length_append, List.length_singleton]; omega))⟩, by simp [intOf]; omega⟩
                have := O12.out
                rw [E1.out, E2.out, ← NX2.out] at this
                exact own_less this BW5.out.size
            · subst hcp
              go_wp2_with fail
              refine wp_region_quiet_lit (by kernel_rfl) (by kernel_rfl) ?_
              repeat (go_big_quiet_step (fail))
              refine wpQuiet_nil ?_
              rintro _ ⟨n1, rfl⟩
              have B5 := hI (B4.out n1)
              generalize wr.drewN n1 = w5 at *
              go_wp2_with fail
              refine wp_region_quiet_lit (by kernel_rfl) (by kernel_rfl) ?_
              repeat (go_big_quiet_step (fail))
              refine wpQuiet_nil ?_
              rintro _ ⟨n2, rfl⟩
              have B6 : Hid (Below wo.heap.size wo (w5.drewN n2)) := hI (below_dr B5.out n2)
              clear B5
              generalize hw6 : w5.drewN n2 = w6 at *
              have B5 := B6
              have BW5 : Hid (Below w1.heap.size w1 w6) := hI (hb.out.trans (B6.out.mono hb.out.size))
              clear hct hw6
              have NX2 : Hid (pcsTo (ps.take (k + 1)) = P.take P.length ++ [(t, 1)] ++ P.drop P.length) := hI (by rw [NX.out, IP])
              have T1 := hI (show ((pcl P).take (P.length * 2)).length = P.length * 2 by rw [List.length_take, pcl_len]; omega)
              have T3 := hI (show ((pcl P).drop (P.length * 2)).length = 0 * 2 by rw [List.length_drop, pcl_len]; omega)
              have E1 := hI (show ([] ++ (pcl P).take (P.length * 2)) ++ [.string (bs t), .int .i64 ((1 : Nat) : Int)] ++ (pcl P).drop (P.length * 2) = pcl (P.take P.length ++ [(t, 1)] ++ P.drop P.length) by rw [List.nil_append, pcl_take, pcl_drop, ← pcl_app, ← pcl_app] <;> rfl)
              have E2 := hI (show (0 + P.length + 1) + 0 = (P.take P.length ++ [(t, 1)] ++ P.drop P.length).length by simp <;> omega)
              have G5 := hI (RO.out.below B5.out)
              clear NX IP
              have F0 := hI (World.ownsRow_nil w6 w6.heap.size 280 2)
              have ct5 := HS.out w6 BW5.out
              go_wp2_with (first
                | (have _t := F0; at_builtin; refine wpList_app slP rfl (.tmp 58) (.tmp 61) rfl w6.heap.size (.slice none 0 0) 0 [] rfl F0.out (some ⟨g, 0, none⟩) P.length _ ((pcl P).take (P.length * 2)) rfl (fun q => by cases q) T1.out (R1 G5.out) (fun u hu => pcl_one P u (List.mem_of_mem_take hu)) (by unfold maxLen; omega) (by omega) (Nat.le_refl _) ?_; intro v8 w8 ho8 ha8; have O8 := hI ho8; have B8 := hI (below_of_grown ha8.grown (Nat.le_refl _) (fun q hq => by cases hq)); have ct8 := HS.out w8 (BW5.out.trans (B8.out.mono BW5.out.size)); have N8 := hI (new_rv w8 [.string (bs t), .int .i64 ((1 : Nat) : Int)] 280 ⟨w8.heap.size, 0, none⟩ rfl); have B9 := hI (B8.out.alloc B8.out.size (.cells #[.string (bs t), .int .i64 1] 280)); have O9 := hI (ho8.alloc (.cells #[.string (bs t), .int .i64 1] 280)); clear ho8 ha8 F0)
                | (have _t := N8; at_builtin; refine wpList_app slP rfl (.tmp 63) (.tmp 69) rfl w6.heap.size v8 (0 + P.length) ([] ++ (pcl P).take (P.length * 2)) rfl O9.out (some ⟨w8.heap.size, 0, none⟩) 1 1 [.string (bs t), .int .i64 ((1 : Nat) : Int)] rfl (fun q => by cases q) rfl N8.out (by intro u hu; simp only [List.mem_cons, List.not_mem_nil, or_false] at hu; rcases hu with rfl | rfl <;> rfl) (by unfold maxLen; omega) (by omega) B9.out.size ?_; intro v10 w10 ho10 ha10; have O10 := hI ho10; have B10 := hI (B9.out.trans (below_of_grown ha10.grown B9.out.size (fun q hq => (O9.out.lt q hq).1))); clear ho10 ha10 N8)
                | (at_builtin; refine wpList_app slP rfl (.tmp 71) (.tmp 74) rfl w6.heap.size v10 (0 + P.length + 1) (([] ++ (pcl P).take (P.length * 2)) ++ [.string (bs t), .int .i64 ((1 : Nat) : Int)]) rfl O10.out _ _ _ ((pcl P).drop (P.length * 2)) rfl (fun q => by cases q) T3.out R4 (fun u hu => pcl_one P u (List.mem_of_mem_drop hu)) (by unfold maxLen; omega) (by omega) B10.out.size ?_; intro v12 w12 ho12 ha12; have O12 := hI ho12; have B12 := hI (B10.out.trans (below_of_grown ha12.grown B10.out.size (fun q hq => (O10.out.lt q hq).1))); clear ho12 ha12))
              all_goals
                refine ⟨⟨k + 1, by omega, by go_num, hI ?_, hI (BW5.out.trans (B12.out.mono BW5.out.size)), hI (.inr (by rw [NX2.out, List.length_append, List.length_append, List.length_singleton]; omega))⟩, by simp [intOf]; omega⟩
                have := O12.out
                rw [E1.out, E2.out, ← NX2.out] at this
                exact own_less this BW5.out.size
    · have hke : k = ps.length := by omega
      subst hke
      rw [List.take_length] at ho
      go_wp2_with fail
      go_ret
      exact ⟨_, rfl, own_less ho.out B1.out.size, B1.out.trans (hb.out.mono B1.out.size)⟩
/-- Sums along two lists of pieces. -/
def comIn (p : List UInt8 × Nat) (y : Pcs) (j : Nat) : Nat := ((y.take j).map fun q => if p.1 = q.1 then min p.2 q.2 * p.1.length else 0).sum
def comOut (x y : Pcs) (k : Nat) : Nat := ((x.take k).map fun p => (y.map fun q => if p.1 = q.1 then min p.2 q.2 * p.1.length else 0).sum).sum
theorem getD_take {α : Type} (l : List α) (d : α) {k : Nat} (h : k < l.length) : l.take (k + 1) = l.take k ++ [l.getD k d] := by
  rw [List.take_add_one, List.getElem?_eq_getElem h]
  simp [h]
theorem comIn_next (p : List UInt8 × Nat) (y : Pcs) {j : Nat} (h : j < y.length) : comIn p y (j + 1) = comIn p y j + if p.1 = (y.getD j ([], 0)).1 then min p.2 (y.getD j ([], 0)).2 * p.1.length else 0 := by
  unfold comIn
  rw [getD_take y ([], 0) h]
  simp
theorem comOut_next (x y : Pcs) {k : Nat} (h : k < x.length) : comOut x y (k + 1) = comOut x y k + comIn (x.getD k ([], 0)) y y.length := by
  unfold comOut comIn
  rw [getD_take x ([], 0) h, List.take_length]
  simp
theorem sum_le2 {α : Type} {f : α → Nat} {c : Nat} : ∀ (l : List α), (∀ x ∈ l, f x ≤ c) → (l.map f).sum ≤ l.length * c
  | [], _ => by simp
  | x :: l, h => by
    have h1 := sum_le2 l fun y hy => h y (List.mem_cons_of_mem _ hy)
    have h2 := h x List.mem_cons_self
    simp only [List.map_cons, List.sum_cons, List.length_cons, Nat.add_mul, Nat.one_mul]
    omega
theorem sum_mem {α : Type} {f : α → Nat} : ∀ (l : List α), ∀ x ∈ l, f x ≤ (l.map f).sum
  | x :: l, y, h => by
    simp only [List.map_cons, List.sum_cons]
    rcases List.mem_cons.1 h with rfl | h
    · omega
    · have := sum_mem (f := f) l y h
      omega
theorem pcs_small {a : List UInt8} (hl : a.length ≤ 400) {p : List UInt8 × Nat} (hp : p ∈ pcsTo (cutB a)) : p.2 ≤ 400 ∧ p.2 * p.1.length ≤ 400 := by
  have h1 := sumP_pcs (cutB a)
  rw [cutB_flat] at h1
  have h2 := sum_mem (f := fun p : List UInt8 × Nat => p.2 * p.1.length) _ p hp
  have h3 := mem_pcs hp
  have h4 := List.count_le_length (a := p.1) (l := cutB a)
  have h5 := cutB_le a
  exact ⟨by omega, by omega⟩
theorem comIn_le {p : List UInt8 × Nat} (h : p.2 * p.1.length ≤ 400) (y : Pcs) (hy : y.length ≤ 400) (j : Nat) : comIn p y j ≤ 160000 := by
  have h1 := sum_le2 (f := fun q : List UInt8 × Nat => if p.1 = q.1 then min p.2 q.2 * p.1.length else 0) (c := 400) (y.take j) fun q _ => by
    split
    · exact Nat.le_trans (Nat.mul_le_mul_right _ (Nat.min_le_left _ _)) h
    · omega
  have h2 : (y.take j).length ≤ 400 := by rw [List.length_take]; omega
  have h3 := Nat.mul_le_mul_right 400 h2
  unfold comIn
  omega
theorem comOut_le (x y : Pcs) (hx : x.length ≤ 400) (hy : y.length ≤ 400) (h : ∀ p ∈ x, p.2 * p.1.length ≤ 400) (k : Nat) : comOut x y k ≤ 64000000 := by
  have h1 := sum_le2 (f := fun p : List UInt8 × Nat => comIn p y y.length) (c := 160000) (x.take k) fun p hp => comIn_le (h p (List.mem_of_mem_take hp)) y hy _
  have h2 : (x.take k).length ≤ 400 := by rw [List.length_take]; omega
  have h3 := Nat.mul_le_mul_right 160000 h2
  unfold comIn at h1
  rw [List.take_length] at h1
  unfold comOut
  omega
end Go.Proofs.YtbmpidacoohdmaaGreat
namespace Go.Proofs.YtbmpidacoohdmaaGreat
open Lib renaming hid → hI
open Go.RowKit Op
attribute [local go_sem] bs_append bs_size bs_toList
set_option maxRecDepth 100000 in
set_option maxHeartbeats 2000000 in
theorem common25_any (w : World) (A B : Option Addr) (c d : Nat) (a b : List UInt8) (ha : Rv w.heap.size w A (bys a)) (hb : Rv w.heap.size w B (bys b)) (hca : a.length ≤ c) (hcb : b.length ≤ d) (hla : a.length ≤ 400) (hlb : b.length ≤ 400) :
    Calls Tryz.prog 109 #[.slice A a.length c, .slice B b.length d] w fun e w2 => e = .returned (.int .i64 (comB a b : Int)) ∧ Below w.heap.size w w2 := by
  have H1 := hI (pieces25_any w A c a ha hca (by omega))
  have H2 := hI (fun W (hW : Below w.heap.size w W) => pieces25_any W B d b (hb.low hW hW.size) hcb (by omega))
  have HC : Hid (comOut (pcsTo (cutB a)) (pcsTo (cutB b)) (pcsTo (cutB a)).length = comB a b) := hI (by rw [← comX_eq]; unfold comOut comX; rw [List.take_length])
  have hx := Nat.le_trans (pcsTo_len (cutB a)) (cutB_le a)
  have hy := Nat.le_trans (pcsTo_len (cutB b)) (cutB_le b)
  have BX : Hid (∀ p ∈ pcsTo (cutB a), p.2 ≤ 400 ∧ p.2 * p.1.length ≤ 400) := hI fun p hp => pcs_small hla hp
  have BY : Hid (∀ p ∈ pcsTo (cutB b), p.2 ≤ 400) := hI fun p hp => (pcs_small hlb hp).1
  have BO : Hid (∀ k, comOut (pcsTo (cutB a)) (pcsTo (cutB b)) k ≤ 64000000) := hI fun k => comOut_le _ _ (by omega) (by omega) (fun p hp => (pcs_small hla hp).2) k
  clear ha hb
  obtain ⟨r, hr⟩ : ∃ r, comB a b = r := ⟨_, rfl⟩
  obtain ⟨x, hxe⟩ : ∃ x, pcsTo (cutB a) = x := ⟨_, rfl⟩
  obtain ⟨y, hye⟩ : ∃ y, pcsTo (cutB b) = y := ⟨_, rfl⟩
  rw [hr] at HC ⊢
  rw [hxe] at HC H1 BX BO hx
  rw [hye] at HC H2 BY BO hy
  clear hr hxe hye
  go_enter Tryz.func109, Tryz.ntmps109
  go_wp2_with fail
  refine H1.out.mono ?_
  rintro e w1 ⟨v1, rfl, ho1, hb1⟩
  obtain ⟨Dx, dx, rfl, _, hdx, hrx, hgx⟩ := own_all0 ho1
  have B1 := hI hb1
  have HP2 := hI (H2.out w1 hb1)
  have X1 := hI (And.intro hrx hgx)
  clear ho1 hb1 hrx hgx H1 H2
  go_wp2_with fail
  refine HP2.out.mono ?_
  rintro e w2 ⟨v2, rfl, ho2, hb2⟩
  obtain ⟨Dy, dy, rfl, _, hdy, hry, hgy⟩ := own_all0 ho2
  have B2 := hI (B1.out.trans (hb2.mono B1.out.size))
  have CX : Hid (∀ k, k < x.length → ∃ g, Dx = some ⟨g, 0, none⟩ ∧ ∀ W, Below w2.heap.size w2 W → W.cell? ⟨g, k * 2, none⟩ = some (.string (bs (x.getD k ([], 0)).1)) ∧ W.cell? ⟨g, k * 2 + 1, none⟩ = some (.int .i64 ((x.getD k ([], 0)).2 : Int))) := hI fun k hk => by
    obtain ⟨ad, e, hb3, hc3⟩ := X1.out.1.at_ (pcl_at x k hk).1
    obtain ⟨ad4, e4, _, hc4⟩ := X1.out.1.at_ (pcl_at x k hk).2
    obtain ⟨g, rfl, _, hg2, _⟩ := X1.out.2 ad e
    obtain rfl := Option.some.inj (e4.symm.trans e)
    rw [Addr.add_lit, Nat.zero_add] at hc3 hc4
    refine ⟨g, e, fun W hW => ⟨?_, ?_⟩⟩
    · exact ((hW.cell (p := ⟨g, k * 2, none⟩) (Nat.lt_of_lt_of_le hg2 hb2.size)).trans (hb2.cell (p := ⟨g, k * 2, none⟩) hg2)).trans hc3
    · exact ((hW.cell (p := ⟨g, k * 2 + 1, none⟩) (Nat.lt_of_lt_of_le hg2 hb2.size)).trans (hb2.cell (p := ⟨g, k * 2 + 1, none⟩) hg2)).trans hc4
  have CY : Hid (∀ k, k < y.length → ∃ g, Dy = some ⟨g, 0, none⟩ ∧ ∀ W, Below w2.heap.size w2 W → W.cell? ⟨g, k * 2, none⟩ = some (.string (bs (y.getD k ([], 0)).1)) ∧ W.cell? ⟨g, k * 2 + 1, none⟩ = some (.int .i64 ((y.getD k ([], 0)).2 : Int))) := hI fun k hk => by
    obtain ⟨ad, e, hb3, hc3⟩ := hry.at_ (pcl_at y k hk).1
    obtain ⟨ad4, e4, _, hc4⟩ := hry.at_ (pcl_at y k hk).2
    obtain ⟨g, rfl, _, hg2, _⟩ := hgy ad e
    obtain rfl := Option.some.inj (e4.symm.trans e)
    rw [Addr.add_lit, Nat.zero_add] at hc3 hc4
    exact ⟨g, e, fun W hW => ⟨(hW.cell (p := ⟨g, k * 2, none⟩) hg2).trans hc3, (hW.cell (p := ⟨g, k * 2 + 1, none⟩) hg2).trans hc4⟩⟩
  clear ho2 hb2 hry hgy X1 HP2
  go_wp2_with fail
  go_loopw [7, 8] (fun nv kv wr => ∃ k : Nat, k ≤ x.length ∧ kv = .int .i64 k ∧ nv = .int .i64 (comOut x y k : Int) ∧ Hid (Below w2.heap.size w2 wr)) (fun _ kv _ => x.length - (intOf kv).toNat)
  case atStart => exact ⟨0, Nat.zero_le _, rfl, rfl, hI (Below.refl _ _)⟩
  case round =>
    obtain ⟨k, hk, rfl, rfl, hb⟩ := hrel
    by_cases hlt : k < x.length
    · obtain ⟨g, rfl, HX⟩ := CX.out k hlt
      have HX := hI HX
      have hm : x.getD k ([], 0) ∈ x := by rw [List.getD_eq_getElem?_getD, List.getElem?_eq_getElem hlt]; exact List.getElem_mem hlt
      obtain ⟨h1, h2⟩ := BX.out _ hm
      have NX := hI (comOut_next x y hlt)
      have BI := hI (fun j => comIn_le h2 y (by omega) j)
      have hbo := BO.out k
      generalize comOut x y k = n0 at *
      have IN := hI (fun j (hj : j < y.length) => comIn_next (x.getD k ([], 0)) y hj)
      have I0 : Hid (comIn (x.getD k ([], 0)) y 0 = 0) := hI rfl
      clear hm
      obtain ⟨⟨t, n⟩, hp⟩ : ∃ p, x.getD k ([], 0) = p := ⟨_, rfl⟩
      rw [hp] at HX NX BI IN I0 h1 h2
      simp only at h1 h2 IN
      clear hp
      obtain ⟨wo, hwo⟩ : ∃ wo, wo = wr := ⟨_, rfl⟩
      rw [← hwo] at hb
      have HW : Hid (wr = wo) := hI hwo.symm
      clear hwo
      go_wp2_with fail
      go_loopw [7, 9] (fun nv jv wr2 => ∃ j : Nat, j ≤ y.length ∧ jv = .int .i64 j ∧ nv = .int .i64 ((n0 + comIn (t, n) y j : Nat) : Int) ∧ Hid (Below w2.heap.size w2 wr2)) (fun _ jv _ => y.length - (intOf jv).toNat)
      case atStart => exact ⟨0, Nat.zero_le _, rfl, by rw [I0.out]; rfl, hI (by rw [HW.out]; exact hb.out)⟩
      case round =>
        obtain ⟨j, hj, rfl, rfl, hb3⟩ := hrel
        clear hb HW
        have hbi := BI.out j
        by_cases hjt : j < y.length
        · obtain ⟨g2, rfl, HY⟩ := CY.out j hjt
          have HY := hI HY
          have NI := hI (IN.out j hjt)
          have hm : y.getD j ([], 0) ∈ y := by rw [List.getD_eq_getElem?_getD, List.getElem?_eq_getElem hjt]; exact List.getElem_mem hjt
          have h3 := BY.out _ hm
          clear hm
          obtain ⟨⟨u, m⟩, hq⟩ : ∃ q, y.getD j ([], 0) = q := ⟨_, rfl⟩
          rw [hq] at HY NI h3
          simp only at h3
          clear hq
          generalize comIn (t, n) y j = n1 at *
          have hct := (HX.out wr hb3.out).1
          have hcu := (HY.out wr hb3.out).1
          try simp only at hct hcu NI
          by_cases e : t = u
          · subst e
            rw [if_pos rfl] at NI
            have B4 : Hid (∀ q, Below w2.heap.size w2 (wr.drewN q)) := hI (fun q => below_dr hb3.out q)
            have hml : min n m * t.length ≤ 400 := Nat.le_trans (Nat.mul_le_mul_right _ (Nat.min_le_left _ _)) h2
            go_wp2_with fail
            refine wp_region_quiet_lit (by kernel_rfl) (by kernel_rfl) ?_
            repeat (go_big_quiet_step (fail))
            refine wpQuiet_nil ?_
            rintro _ ⟨n2, rfl⟩
            have B5 := hI (B4.out n2)
            have hx5 := HX.out _ B5.out
            have hy5 := HY.out _ B5.out
            try simp only at hx5 hy5
            obtain ⟨hx5, hx6⟩ := hx5
            obtain ⟨hy5, hy6⟩ := hy5
            generalize wr.drewN n2 = w5 at *
            by_cases hmn : m < n
            · rw [Nat.min_eq_right (by omega)] at NI hml
              go_wp2_with fail
              exact ⟨⟨j + 1, by omega, by go_num, congrArg (Value.int .i64) (by rw [NI.out]; push_cast; omega), B5⟩, by simp [intOf]; omega⟩
            · rw [Nat.min_eq_left (by omega)] at NI hml
              go_wp2_with fail
              exact ⟨⟨j + 1, by omega, by go_num, congrArg (Value.int .i64) (by rw [NI.out]; push_cast; omega), B5⟩, by simp [intOf]; omega⟩
          · rw [if_neg e] at NI
            have hne : (t == u) = false := beq_eq_false_iff_ne.2 e
            have B4 : Hid (∀ q, Below w2.heap.size w2 (wr.drewN q)) := hI (fun q => below_dr hb3.out q)
            clear e
            go_wp2_with fail
            refine wp_region_quiet_lit (by kernel_rfl) (by kernel_rfl) ?_
            repeat (go_big_quiet_step (fail))
            refine wpQuiet_nil ?_
            rintro _ ⟨n2, rfl⟩
            have B5 := hI (B4.out n2)
            generalize wr.drewN n2 = w5 at *
            go_wp2_with fail
            exact ⟨⟨j + 1, by omega, by go_num, by rw [NI.out]; rfl, B5⟩, by simp [intOf]; omega⟩
        · have hje : j = y.length := by omega
          subst hje
          go_wp2_with fail
          exact ⟨⟨k + 1, by omega, by go_num, by rw [NX.out], hb3⟩, by simp [intOf]; omega⟩
    · have hke : k = x.length := by omega
      subst hke
      go_wp2_with fail
      go_ret
      exact ⟨ret_int (by rw [HC.out]), B2.out.trans (hb.out.mono B2.out.size)⟩
set_option maxRecDepth 100000 in
set_option maxHeartbeats 1000000 in
theorem score25_any (w : World) (A B : Option Addr) (c d : Nat) (a b : List UInt8) (ha : Rv w.heap.size w A (bys a)) (hb : Rv w.heap.size w B (bys b)) (hca : a.length ≤ c) (hcb : b.length ≤ d) (hla : a.length ≤ 400) (hlb : b.length ≤ 400) :
    Calls Tryz.prog 56 #[.slice A a.length c, .slice B b.length d] w fun e w2 => e = .returned (.int .i64 (scoB a b : Int)) ∧ Below w.heap.size w w2 := by
  have HC := hI (common25_any w A B c d a b ha hb hca hcb hla hlb)
  have hcl := comB_left a b
  have HS : Hid (scoB a b = if max a.length b.length = 0 then 1000 else 1000 * comB a b / max a.length b.length) := hI rfl
  obtain ⟨r, hr⟩ : ∃ r, scoB a b = r := ⟨_, rfl⟩
  rw [hr] at HS ⊢
  clear ha hb hr
  generalize comB a b = n at *
  generalize a.length = la at *
  generalize b.length = lb at *
  go_enter Tryz.func56, Tryz.ntmps56
  by_cases h1 : la < lb
  · rw [Nat.max_eq_right (by omega), if_neg (by omega)] at HS
    have q0 : ((lb : Int) == 0) = false := beq_eq_false_iff_ne.2 (by omega)
    go_wp2_with (go_at_call 109; refine HC.out.mono ?_; rintro e w2 ⟨rfl, hb2⟩)
    go_ret
    exact ⟨ret_int (by rw [HS.out]; push_cast; rfl), hb2⟩
  · rw [Nat.max_eq_left (by omega)] at HS
    by_cases h0 : la = 0
    · rw [if_pos h0] at HS
      have q0 : ((la : Int) == 0) = true := by rw [h0]; rfl
      clear h0
      go_wp2_with fail
      go_ret
      exact ⟨ret_int (by rw [HS.out]; rfl), Below.refl _ _⟩
    · rw [if_neg h0] at HS
      have q0 : ((la : Int) == 0) = false := beq_eq_false_iff_ne.2 (by omega)
      go_wp2_with (go_at_call 109; refine HC.out.mono ?_; rintro e w2 ⟨rfl, hb2⟩)
      go_ret
      exact ⟨ret_int (by rw [HS.out]; push_cast; rfl), hb2⟩
end Go.Proofs.YtbmpidacoohdmaaGreat

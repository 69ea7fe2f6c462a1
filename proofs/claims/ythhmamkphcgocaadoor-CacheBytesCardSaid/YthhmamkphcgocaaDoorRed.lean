/- cache.Read by a contract. -/
import Derived.Test.YthhmamkphcgocaaDoorTak
import Derived.Test.YthhmamkphcgocaaDoorChk
import Derived.Test.YthhmamkphcgocaaDoorPur
import Derived.Laws.Cover3
namespace Go.Proofs.YthhmamkphcgocaaDoor
open Go.RowKit

theorem Rd.aside {w0 w w2 : World} {g : Nat} {t : TypeId} {A : Option Addr} {c : Nat} {l : List UInt8} {k0 e0 k e : Nat} (h0 : Rd w0 g t A c l k0 e0) (h : Rd w g t A c l k e) {r : Option Nat} (hg : w.grownBy w2 r) (hr : ∀ q, r = some q → w0.heap.size ≤ q) : Rd w2 g t A c l k e := by
  rcases r with _ | q
  · exact h.later hg
  · exact Rd.past h0 h hg (hr q rfl)
/-- Slices of other elements lie in other blocks. -/
theorem own_apart {W : World} {B B2 : Nat} {e e2 : TypeId} {s s2 : Nat} {v v2 : Value} {n n2 : Nat} {xs ys : List Value} (h : W.ownsRow B e s v n xs) (h2 : W.ownsRow B2 e2 s2 v2 n2 ys) (hne : e ≠ e2) : v.ownBlock = none ∨ v2.ownBlock ≠ v.ownBlock := by
  rcases h.2 with ⟨rfl, _⟩ | ⟨b, cap, cur, rfl, _, hb, _⟩
  · exact .inl rfl
  · right
    rcases h2.2 with ⟨rfl, _⟩ | ⟨b2, cap2, cur2, rfl, _, hb2, _⟩
    · intro q; cases q
    · intro q
      have q := Option.some.inj q
      dsimp only at q
      subst q
      rw [hb] at hb2
      injection hb2 with hb2
      injection hb2 with _ q2
      exact hne q2
theorem own_past {W V : World} {B B2 : Nat} {e e2 : TypeId} {s s2 : Nat} {v v2 : Value} {n n2 : Nat} {xs ys : List Value} (h : W.ownsRow B e s v n xs) (h2 : W.ownsRow B2 e2 s2 v2 n2 ys) (hne : e ≠ e2) (hg : W.grownBy V v2.ownBlock) : V.ownsRow B e s v n xs :=
  h.kept hg (own_apart h h2 hne |>.imp id Ne.symm)
theorem Ov.of_own {W : World} {B : Nat} {A : Option Addr} {c : Nat} {os : List Org} (h : W.ownsRow B 52 34 (.slice A os.length c) os.length (orgs os)) (hok : ∀ o ∈ os, o.ok) : Ov W A c os := by
  obtain ⟨D, d, hv, hD, hd, hr, _⟩ := own_all h
  injection hv with h1 h2 h3
  subst h1 h3
  exact ⟨hr, hok, hd, hD⟩
theorem gotL.ok {r : Lot} (h : gotL r) : r.ok := ⟨h.1, by have := h.2.1; unfold maxLen; omega, fun o ho => ⟨(h.2.2.2.2.2 o ho).1, by have := (h.2.2.2.2.2 o ho).2.1; unfold maxLen; omega⟩⟩
theorem gotL.small {r : Lot} (h : gotL r) : r.small := ⟨by have := h.2.1; omega, fun o ho => by have := (h.2.2.2.2.2 o ho).2.1; omega, by have := h.2.2.2.2.1; omega⟩
theorem Mv.of_own {W : World} {B : Nat} {A : Option Addr} {c : Nat} {ms : List Mot} (h : W.ownsRow B 47 38 (.slice A ms.length c) ms.length (mots ms)) (hm : ∀ m ∈ ms, gotL m.r ∧ W.ownsRow B 52 34 (.slice m.A m.r.os.length m.c) m.r.os.length (orgs m.r.os)) : Mv W A ms := by
  obtain ⟨D, d, hv, hD, hd, hr, _⟩ := own_all h
  injection hv with h1 h2 h3
  subst h1
  exact ⟨hr, fun m hm2 => (hm m hm2).1.ok, fun m hm2 => Ov.of_own (hm m hm2).2 (hm m hm2).1.ok.os⟩
theorem lotsP_more (l : List UInt8) (n : Nat) (acc : List Lot) (k : Nat) : lotsP l (n + 1) acc k = if (lotP l k 0).2.2 ≠ 0 then ([], 0, (lotP l k 0).2.2) else lotsP l n (acc ++ [(lotP l k 0).1]) (lotP l k 0).2.1 := rfl
/-- What a reading of rows gives. -/
def RdOut (w : World) (R : List Lot × Nat) (e : Ending) (w2 : World) : Prop :=
  ∃ D d ms, e = .returned (.tuple #[.slice D ms.length d, .int .i64 (R.2 : Int)]) ∧ ms.map (·.r) = R.1 ∧ Mv w2 D ms ∧ (∀ m ∈ ms, gotL m.r) ∧ ms.length ≤ d ∧ (D = none → d = 0) ∧ Below w.heap.size w w2
theorem RdOut.bad {w w2 : World} {R : List Lot × Nat} {err : Nat} (h : R = ([], err)) {e : Ending} (he : e = .returned (.tuple #[.slice none 0 0, .int .i64 (err : Int)])) (hb : Below w.heap.size w w2) : RdOut w R e w2 := by
  subst h
  exact ⟨none, 0, [], he, rfl, ⟨Rv.nil, by simp, by simp⟩, by simp, Nat.le_refl _, fun _ => rfl, hb⟩
attribute [local go_sem ↓] load42_eq store42_eq new42_eq run_new42 ldT47 ldT73 ldT52 ldT44 ldT71 ldT94 stT47 stT73 stT52 stT94 nwT47 nwT73 nwT52 nwT94 bxT47 bxT73 bxT52 bxT42 bxT44 bdT47 bdT73 bdT52 bdT94 run_nw47 run_nw73 run_nw52 run_nw94 bsT24 bsT28 bsT45
attribute [local go_sem] run_bxT bs_toList
set_option maxRecDepth 100000 in
set_option maxHeartbeats 1500000 in
theorem read_any (w : World) (A : Option Addr) (c : Nat) (b : List UInt8) (mx : Int) (hm : w.cell? ⟨0, 0, none⟩ = some (.int .i64 mx)) (hw : 0 < w.heap.size) (h : Rv w.heap.size w A (bys b)) (hn : A = none → c = 0) (hc : b.length ≤ c) (hb : b.length ≤ 10000000) :
    Calls Tryd.prog 7 #[.slice A b.length c] w (RdOut w (readP b)) := by
  by_cases h44 : b.length < 44
  · have HR : Hid (readP b = ([], 10)) := Lib.hid (by unfold readP; rw [if_pos h44])
    generalize readP b = R at *
    clear h
    go_enter Tryd.func7, Tryd.ntmps7
    go_wp2_with fail
    go_ret2
    exact RdOut.bad HR.out rfl (Below.refl _ _)
  · obtain ⟨l, tl, hbl, htl⟩ : ∃ l tl, b = l ++ tl ∧ tl.length = 32 := ⟨b.take (b.length - 32), b.drop (b.length - 32), (List.take_append_drop _ _).symm, by rw [List.length_drop]; omega⟩
    have hlen : b.length = l.length + 32 := by rw [hbl, List.length_append, htl]
    have ht : b.take (b.length - 32) = l := by rw [hlen, Nat.add_sub_cancel, hbl, List.take_left]
    have hd : b.drop (b.length - 32) = tl := by rw [hlen, Nat.add_sub_cancel, hbl, List.drop_left]
    have HR : Hid (readP b = if ¬ (l.take 4 = [66, 76, 77, 67] ∧ (l.drop 4).take 4 = be4 1) then ([], 12) else if shaOf l ≠ tl then ([], 13) else if 64 < bigN ((l.drop 8).take 4) then ([], 5) else
      if (lotsP l (bigN ((l.drop 8).take 4)) [] 12).2.2 ≠ 0 then ([], (lotsP l (bigN ((l.drop 8).take 4)) [] 12).2.2) else if (lotsP l (bigN ((l.drop 8).take 4)) [] 12).2.1 < l.length then ([], 11) else
      if checkP (lotsP l (bigN ((l.drop 8).take 4)) [] 12).1 ≠ 0 then ([], checkP (lotsP l (bigN ((l.drop 8).take 4)) [] 12).1) else ((lotsP l (bigN ((l.drop 8).take 4)) [] 12).1, 0)) := Lib.hid (by
        unfold readP
        rw [if_neg h44]
        dsimp only
        rw [ht, hd])
    obtain ⟨ad, rfl, hadl, _⟩ := h.some_ (by rw [bys_len]; omega)
    have hl12 : 12 ≤ l.length := by omega
    have hll : l.length ≤ 10000000 := by omega
    have HRL : Hid (Rv w.heap.size w (some ad) (bys l)) := Lib.hid (by have := h.front l.length; rwa [hbl, List.take_left] at this)
    have HTL : Hid (CellsAt w (ad.add l.length) (bys tl)) := Lib.hid (fun j v hv => by
      have hq : (bys b)[l.length + j]? = some v := by
        rw [hbl, ← bys_app, List.getElem?_append_right (by rw [bys_len]; omega), bys_len, Nat.add_sub_cancel_left]
        exact hv
      obtain ⟨ad2, e2, _, hc2⟩ := h.at_ hq
      obtain rfl := Option.some.inj e2
      rw [add_add]
      exact hc2)
    have hb1 : ((l.drop 4).take 4).length = 4 := by rw [List.length_take, List.length_drop]; omega
    have HB1 := Lib.hid (be4_big4 hb1)
    have hcl : l.length + 32 ≤ c := by omega
    rw [hlen]
    generalize readP b = R at *
    have HM := Lib.hid hm
    clear h hm hn hc hb h44 hbl hlen ht hd hb1
    have HNR := Lib.hid (rnew_any w (some ad) c l HRL.out (fun e => by cases e) (by omega))
    go_enter Tryd.func7, Tryd.ntmps7
    go_wp2_with fail
    refine HNR.out.mono ?_
    rintro en w1 ⟨g, A2, c2, rfl, hgw, hp1, hb1⟩
    have B1 := Lib.hid hb1
    have hc2 := rraw_any w1 g A2 c2 l 0 0 4 hp1 (by omega)
    have hr4 : rRaw l 4 0 0 = (l.take 4, 4, 0) := by
      unfold rRaw
      rw [if_neg (by omega)]
      unfold rTake
      rw [if_neg (by omega), if_pos (by have : (4 : Int).toNat = 4 := rfl; omega)]
      rfl
    rw [hr4] at hc2
    dsimp only at hc2
    have HC2 := Lib.hid hc2
    clear hr4 hc2 hp1 hb1 HNR
    go_wp2_with fail
    refine HC2.out.mono ?_
    rintro en w2 ⟨u, rfl, ho, hp2, hg2⟩
    obtain ⟨D, d, hv, _, hd, hrv, _⟩ := own_all ho
    subst hv
    have hcv := conv22 d hrv
    have ht4 : (l.take 4).length = 4 := by rw [List.length_take]; omega
    generalize l.take 4 = t4 at *
    have HT4 := Lib.hid ht4
    rw [ht4] at hcv
    have B2 := Lib.hid (B1.out.trans (below_of_grown hg2 B1.out.size (fun q hq => by have := Option.some.inj hq; omega)))
    have hc3 := ru32_any w2 g A2 c2 l 4 0 hp2
    have hr5 : rBig l 4 4 0 = (bigN ((l.drop 4).take 4), 8, 0) := by
      unfold rBig rTake
      rw [if_neg (by omega), if_pos (by omega)]
    rw [hr5] at hc3
    dsimp only at hc3
    have HC3 := Lib.hid hc3
    clear hr5 hc3 HC2 ho hrv hg2 hp2
    generalize bigN ((l.drop 4).take 4) = v1 at *
    by_cases h4 : t4 = [66, 76, 77, 67]
    rotate_left
    · have HRR : Hid (R = ([], 12)) := Lib.hid (by rw [HR.out, if_pos (fun q => h4 q.1)])
      have hq4 : (t4 == [66, 76, 77, 67]) = false := beq_eq_false_iff_ne.2 h4
      clear HR
      go_wp2_with fail
      go_ret2
      exact RdOut.bad HRR.out rfl B2.out
    have hq4 : (t4 == [66, 76, 77, 67]) = true := beq_iff_eq.2 h4
    by_cases hv1 : v1 = 1
    rotate_left
    · have HRR : Hid (R = ([], 12)) := Lib.hid (by
        rw [HR.out, if_pos (fun q => hv1 ?_)]
        have e := HB1.out.1
        rw [q.2] at e
        have e2 := congrArg bigN e
        rw [big4_be4 v1 HB1.out.2, big4_be4 1 (by omega)] at e2
        exact e2)
      have hq1 : ((v1 : Int) == 1) = false := beq_eq_false_iff_ne.2 (by omega)
      clear HR
      go_wp2_with (go_at_call 19; refine HC3.out.mono ?_; rintro en w3 ⟨rfl, hp3, hg3⟩; have B3 := Lib.hid (B2.out.trans (below_of_grown hg3 B2.out.size (fun q hq => by have := Option.some.inj hq; omega))); clear hp3 hg3)
      go_ret2
      exact RdOut.bad HRR.out rfl B3.out
    subst hv1
    have HR2 : Hid (R = if shaOf l ≠ tl then ([], 13) else if 64 < bigN ((l.drop 8).take 4) then ([], 5) else
      if (lotsP l (bigN ((l.drop 8).take 4)) [] 12).2.2 ≠ 0 then ([], (lotsP l (bigN ((l.drop 8).take 4)) [] 12).2.2) else if (lotsP l (bigN ((l.drop 8).take 4)) [] 12).2.1 < l.length then ([], 11) else
      if checkP (lotsP l (bigN ((l.drop 8).take 4)) [] 12).1 ≠ 0 then ([], checkP (lotsP l (bigN ((l.drop 8).take 4)) [] 12).1) else ((lotsP l (bigN ((l.drop 8).take 4)) [] 12).1, 0)) := Lib.hid (by rw [HR.out, if_neg (fun q => q ⟨h4, HB1.out.1.symm⟩)])
    clear HR HB1
    go_wp2_with (go_at_call 19; refine HC3.out.mono ?_; rintro en w3 ⟨rfl, hp3, hg3⟩; have B3 := Lib.hid (B2.out.trans (below_of_grown hg3 B2.out.size (fun q hq => by have := Option.some.inj hq; omega))); have P3 := Lib.hid hp3; clear hp3 hg3)
    clear hcv HC3 h4 hq4 HT4 ht4
    have hln : ¬ c = l.length := by omega
    have wl : IntKind.i64.wrap (l.length : Int) = (l.length : Int) := IntWalk.i64_in _ (by omega)
    have wr0 : (0 : Int) ≤ (l.length : Int) := by omega
    have wr1 : (l.length : Int) ≤ (c : Int) := by omega
    have wr2 : (l.length : Int) ≤ (l.length : Int) + 32 := by omega
    have wr3 : l.length + 32 - l.length = 32 := by omega
    have hat := fun W => run_arrayAt (P := Tryd.prog) W 42 5 32 (some (ad.add l.length)) 32 (c - l.length) Tryd.underlying42 (Nat.le_refl _)
    have hld : ∀ W, Below w.heap.size w W → (load42 (ad.add l.length)).run Tryd.prog W = .ok (.agg (bys tl).toArray) W := fun W hW => run_loadVar_cells Tryd.underlying42 rfl (by rw [bys_len, htl]; exact inf42) (HTL.out.keep fun p hp => hW.cell (by rw [hp, block_add]; exact hadl))
    have hcmp := fun W => run_neq_id (shaOf l) tl (shaOf_len l) htl W
    obtain ⟨dq, hdq⟩ : ∃ dq, decide (shaOf l = tl) = dq := ⟨_, rfl⟩
    rw [hdq] at hcmp
    have HDQ := Lib.hid hdq
    clear hdq
    have HC0 := Lib.hid B3.out.drew
    have hs3 := B3.out.size
    have HOF := Lib.hid (fun W hW => of_any W ⟨w3.heap.size, 0, none⟩ 1 l (some ad) c hW)
    have HAL : Hid (Below w.heap.size w (w3.drew.alloc (.cells #[.slice (some ad) l.length c] 22))) := Lib.hid (HC0.out.alloc hs3 _)
    have HRV := Lib.hid ((HRL.out.below HAL.out).more HAL.out.size)
    have hcell : (w3.drew.alloc (.cells #[.slice (some ad) l.length c] 22)).cell? ⟨w3.heap.size, 0, none⟩ = some (.slice (some ad) l.length c) := (Ar.new w3.drew [.slice (some ad) l.length c] 22).cell rfl
    have HOF2 := Lib.hid (of_any (w3.drew.alloc (.cells #[.slice (some ad) l.length c] 22)) ⟨w3.heap.size, 0, none⟩ 1 l (some ad) c hcell (by simp) HRV.out (by omega) (by omega))
    clear hcell HOF
    refine region_of (fun W => Below w.heap.size w W) (by kernel_rfl) ?_
    refine anyC_take 0 (v := ?_) HC0.out rfl (by kernel_rfl) (by kernel_rfl) (by kernel_rfl) (fun _ _ _ h => h) rfl (fun W hW => ?_) ?_
    rotate_left
    · go_simp
      try rfl
    simp only [Act.put]
    refine anyC_take 1 (v := ?_) HC0.out rfl (by kernel_rfl) (by kernel_rfl) (by kernel_rfl) (fun _ _ _ h => h) rfl (fun W hW => ?_) ?_
    rotate_left
    · go_simp
      try rfl
    simp only [Act.put]
    refine anyC_take 2 (v := ?_) HC0.out rfl (by kernel_rfl) (by kernel_rfl) (by kernel_rfl) (fun _ _ _ h => h) rfl (fun W hW => ?_) ?_
    rotate_left
    · go_simp
      try rfl
    simp only [Act.put]
    refine anyC_take 3 (v := ?_) HC0.out rfl (by kernel_rfl) (by kernel_rfl) (by kernel_rfl) (fun _ _ _ h => h) rfl (fun W hW => ?_) ?_
    rotate_left
    · go_simp
      try rfl
    simp only [Act.put]
    refine anyC_take 4 (v := ?_) HC0.out rfl (by kernel_rfl) (by kernel_rfl) (by kernel_rfl) (fun _ _ _ h => h) rfl (fun W hW => ?_) ?_
    rotate_left
    · go_simp
      try rfl
    simp only [Act.put]
    refine anyC_take 7 (v := ?_) HC0.out rfl (by kernel_rfl) (by kernel_rfl) (by kernel_rfl) (fun _ _ _ h => h) rfl (fun W hW => ?_) ?_
    rotate_left
    · go_simp
      try rfl
    simp only [Act.put]
    refine anyC_take 8 (v := ?_) HC0.out rfl (by kernel_rfl) (by kernel_rfl) (by kernel_rfl) (fun _ _ _ h => h) rfl (fun W hW => ?_) ?_
    rotate_left
    · go_simp
      try rfl
    simp only [Act.put]
    refine anyC_take 9 (v := ?_) HC0.out rfl (by kernel_rfl) (by kernel_rfl) (by kernel_rfl) (fun _ _ _ h => h) rfl (fun W hW => ?_) ?_
    rotate_left
    · go_simp
      try rfl
    simp only [Act.put]
    refine anyC_take 10 (v := ?_) HC0.out rfl (by kernel_rfl) (by kernel_rfl) (by kernel_rfl) (fun _ _ _ h => h) rfl (fun W hW => ?_) ?_
    rotate_left
    · go_simp
      try rfl
    simp only [Act.put]
    refine anyC_take 11 (v := ?_) HC0.out rfl (by kernel_rfl) (by kernel_rfl) (by kernel_rfl) (fun _ _ _ h => h) rfl (fun W hW => ?_) ?_
    rotate_left
    · go_simp
      try rfl
    simp only [Act.put]
    refine anyC_take 12 (v := ?_) HC0.out rfl (by kernel_rfl) (by kernel_rfl) (by kernel_rfl) (fun _ _ _ h => h) rfl (fun W hW => ?_) ?_
    rotate_left
    · go_simp
      try rfl
    simp only [Act.put]
    refine anyC_take 13 (v := ?_) HC0.out rfl (by kernel_rfl) (by kernel_rfl) (by kernel_rfl) (fun _ _ _ h => h) rfl (fun W hW => ?_) ?_
    rotate_left
    · go_simp
      try rfl
    simp only [Act.put]
    refine anyC_one 5 HC0.out (by kernel_rfl) rfl ?_
    go_wp2_with fail
    refine anyC_one 6 HAL.out (by kernel_rfl) rfl ?_
    go_wp2_with (go_at_call 20; refine HOF2.out.mono ?_; rintro en w4 ⟨rfl, hb4⟩; have B4 := Lib.hid (HAL.out.trans (hb4.mono HAL.out.size)); have P4 := Lib.hid (Rd.later (P3.out) (grown_trans (grown_alloc (grown_drew (grown_refl w3 none)) _) (grown_of_below hb4 none))); clear hb4)
    refine anyC_take 14 (v := ?_) B4.out rfl (by kernel_rfl) (by kernel_rfl) (by kernel_rfl) (fun _ _ _ h => h) rfl (fun W hW => ?_) ?_
    rotate_left
    · go_simp
      try rfl
    simp only [Act.put]
    refine anyC_done B4.out (by kernel_rfl) ?_ _
    clear hld hat hcmp wr0 wr1 wr2 wr3 wl HOF2 HRV HAL HC0
    cases dq with
    | false =>
      have HRR : Hid (R = ([], 13)) := Lib.hid (by rw [HR2.out, if_pos (of_decide_eq_false HDQ.out)])
      clear HR2
      go_wp2_with fail
      go_ret2
      exact RdOut.bad HRR.out rfl B4.out
    | true =>
    have hsh := of_decide_eq_true HDQ.out
    obtain ⟨n, hnn⟩ : ∃ n, bigN ((l.drop 8).take 4) = n := ⟨_, rfl⟩
    have hc5 := ru32_any w4 g A2 c2 l 8 0 P4.out
    have hr6 : rBig l 4 8 0 = (n, 12, 0) := by
      unfold rBig rTake
      rw [if_neg (by omega), if_pos (by omega)]
      dsimp only
      rw [hnn]
    rw [hr6] at hc5
    dsimp only at hc5
    have HC5 := Lib.hid hc5
    have hn32 : n < 4294967296 := by
      rw [← hnn]
      exact (be4_big4 (by rw [List.length_take, List.length_drop]; omega)).2
    rw [hnn] at HR2
    clear hr6 hc5 hnn
    have HR3 : Hid (R = if 64 < n then ([], 5) else if (lotsP l n [] 12).2.2 ≠ 0 then ([], (lotsP l n [] 12).2.2) else if (lotsP l n [] 12).2.1 < l.length then ([], 11) else
      if checkP (lotsP l n [] 12).1 ≠ 0 then ([], checkP (lotsP l n [] 12).1) else ((lotsP l n [] 12).1, 0)) := Lib.hid (by rw [HR2.out, if_neg (fun q => q hsh)])
    clear HR2 hsh HDQ
    by_cases h64 : 64 < n
    · have HRR : Hid (R = ([], 5)) := Lib.hid (by rw [HR3.out, if_pos h64])
      clear HR3
      go_wp2_with (go_at_call 19; refine HC5.out.mono ?_; rintro en w5 ⟨rfl, hp5, hg5⟩; have B5 := Lib.hid (B4.out.trans (below_of_grown hg5 B4.out.size (fun q hq => by have := Option.some.inj hq; omega))); clear hp5 hg5)
      go_ret2
      exact RdOut.bad HRR.out rfl B5.out
    have hn64 : n ≤ 64 := by omega
    obtain ⟨r, hr⟩ : ∃ r, lotsP l n [] 12 = r := ⟨_, rfl⟩
    have HR4 : Hid (R = if r.2.2 ≠ 0 then ([], r.2.2) else if r.2.1 < l.length then ([], 11) else if checkP r.1 ≠ 0 then ([], checkP r.1) else (r.1, 0)) := Lib.hid (by rw [HR3.out, if_neg h64, hr])
    have HRS := Lib.hid hr
    clear HR3 hr
    go_wp2_with (go_at_call 19; refine HC5.out.mono ?_; rintro en w5 ⟨rfl, hp5, hg5⟩; have B5 := Lib.hid (B4.out.trans (below_of_grown hg5 B4.out.size (fun q hq => by have := Option.some.inj hq; omega))); have P5 := Lib.hid hp5; clear hp5 hg5)
    have hg5 := P5.out.lt
    have HBS := Lib.hid B5.out.size
    clear HC5 P4 P3 HRL HTL
    go_loopw [6, 50] (fun sv iv wr => ∃ (ms : List Mot) (k' : Nat), ms.length ≤ n ∧ iv = .int .i64 ms.length ∧ Hid (lotsP l (n - ms.length) (ms.map (·.r)) k' = r) ∧ Hid (Rp wr g A2 c2 l k' 0) ∧ Hid (wr.ownsRow w5.heap.size 47 38 sv ms.length (mots ms)) ∧ Hid (∀ m ∈ ms, gotL m.r ∧ wr.ownsRow w5.heap.size 52 34 (.slice m.A m.r.os.length m.c) m.r.os.length (orgs m.r.os)) ∧ Hid (Below w.heap.size w wr) ∧ w5.heap.size ≤ wr.heap.size) (fun _ iv _ => n - (intOf iv).toNat)
    case atStart => exact ⟨[], 12, Nat.zero_le _, rfl, HRS, P5, World.ownsRow_nil _ _ _ _, Lib.hid (by simp), B5, Nat.le_refl _⟩
    case round =>
      clear HRS B5
      obtain ⟨ms, k', hms, rfl, hlots, hrp, hown, hrows, hbel, hsz⟩ := hrel
      have hkl := hrp.out.le
      by_cases hlt : ms.length < n
      · have hst := hlots.out
        rw [show n - ms.length = (n - ms.length - 1) + 1 by omega, lotsP_more] at hst
        have HTK := Lib.hid (take21_any wr g A2 c2 l k' hrp.out)
        have HBW := Lib.hid (fun h => (lot_bwd (l := l) (k := k') (e := 0) h).2 hkl)
        generalize lotP l k' 0 = lp at *
        obtain ⟨lx, kx, ex⟩ := lp
        dsimp only at hst HTK HBW
        have HST := Lib.hid hst
        clear hst hlots
        go_wp2_with fail
        refine HTK.out.mono ?_
        rintro en w6 ⟨m, rfl, hid, hg6, hgood⟩
        have n0 : Ar (w6.alloc (.cells zM.cells.toArray 47)) w6.heap.size 47 zM.cells := Ar.new w6 _ _
        have hstm := stM47 (n := m) n0 rfl hid
        have n1 := n0.setRow m.cells
        have hga : w6.grownBy (w6.alloc (.cells zM.cells.toArray 47)) none := grown_alloc (grown_refl w6 none) _
        have hgr := grown_row (w6.alloc (.cells zM.cells.toArray 47)) w6.heap.size m.cells.toArray
        have hs6 := hg6.size
        have b6 := hbel.out.trans (below_of_grown hg6 hbel.out.size (fun q hq => by have := Option.some.inj hq; omega))
        have B7 := Lib.hid (below_row (b6.alloc b6.size (.cells zM.cells.toArray 47)) w6.heap.size m.cells.toArray b6.size)
        clear HTK
        by_cases hex : ex = 0
        rotate_left
        · have HRR : Hid (R = ([], ex)) := Lib.hid (by
            have e1 := HST.out
            rw [if_pos hex] at e1
            rw [HR4.out, ← e1, if_pos hex])
          have hq : ((ex : Int) == 0) = false := beq_eq_false_iff_ne.2 (by omega)
          clear n0 n1 hga hgr hgood b6
          go_wp2_with fail
          go_ret2
          exact RdOut.bad HRR.out rfl B7.out
        · subst hex
          obtain ⟨hmr, hmo, hmp⟩ := hgood rfl
          have HGL := Lib.hid (HBW.out rfl).1
          have HN1 := Lib.hid (b47 n1 hid)
          have e1 := HST.out
          rw [if_neg (by omega), ← hmr] at e1
          have HST2 := Lib.hid e1
          have O7 := Lib.hid (own_row ((own_low hown.out hg6 (by omega)).alloc (.cells zM.cells.toArray 47)) w6.heap.size m.cells.toArray (fun q => by have := ((own_low hown.out hg6 (by omega)).lt _ q).2; omega))
          have HR7 : Hid (∀ x ∈ ms ++ [m], gotL x.r ∧ ((w6.alloc (.cells zM.cells.toArray 47)).setRow w6.heap.size m.cells.toArray).ownsRow w5.heap.size 52 34 (.slice x.A x.r.os.length x.c) x.r.os.length (orgs x.r.os)) := Lib.hid fun x hx => by
            rcases List.mem_append.1 hx with hx | hx
            · obtain ⟨a1, a2⟩ := hrows.out x hx
              have a3 := own_low a2 hg6 (by omega)
              exact ⟨a1, own_row (a3.alloc _) _ _ (fun q => by have := (a3.lt _ q).2; omega)⟩
            · obtain rfl := List.mem_singleton.1 hx
              refine ⟨by rw [hmr]; exact HGL.out, own_row ((own_less hmo hsz).alloc _) _ _ (fun q => by have := (hmo.lt _ q).2; omega)⟩
          have P7 := Lib.hid (Rd.past P5.out (Rd.later hmp hga) hgr (by omega))
          have hs7 : ((w6.alloc (.cells zM.cells.toArray 47)).setRow w6.heap.size m.cells.toArray).heap.size = w6.heap.size + 1 := by simp
          have HML := Lib.hid (Mot.len hid)
          have HTM := Lib.hid (show mots ms ++ m.cells = mots (ms ++ [m]) by rw [← mots_single, mots_app])
          have l9 := fun W => run_bs24 (m := m) hid W
          have hb47 := HN1.out
          have NW := Lib.hid (new_rv ((w6.alloc (.cells zM.cells.toArray 47)).setRow w6.heap.size m.cells.toArray) m.cells 47 ⟨w6.heap.size + 1, 0, none⟩ (by rw [hs7]))
          have O8 := Lib.hid (O7.out.alloc (.cells m.cells.toArray 47))
          have HMO := Lib.hid m.one
          clear n0 n1 hga hgr hgood b6 hmo hmp e1 HBW HST hrp hown hrows hbel hg6
          go_wp2_with (at_builtin; refine wpList_app sl24 rfl (.tmp 60) (.tmp 62) rfl w5.heap.size u6 ms.length (mots ms) rfl O8.out (some ⟨w6.heap.size + 1, 0, none⟩) 1 1 m.cells rfl (fun e => by cases e) (by rw [HML.out]) NW.out HMO.out (by unfold maxLen; omega) (by omega) (by rw [World.size_alloc, hs7]; omega) ?_; intro v9 w9 ho9 ha9; rw [HTM.out] at ho9; have O9 := Lib.hid ho9; have A9 := Lib.hid ha9; clear ho9 ha9)
          have hel : (ms ++ [m]).length = ms.length + 1 := by simp
          have B9 := B7.out.alloc (by rw [hs7]; have := B7.out.size; rw [hs7] at this; omega) (.cells m.cells.toArray 47)
          refine ⟨⟨ms ++ [m], kx, by omega, by rw [hel]; rfl, ?_, ?_, ?_, ?_, ?_, ?_⟩, by simp [intOf]; omega⟩
          · rw [hel, List.map_append, show n - (ms.length + 1) = n - ms.length - 1 by omega]
            exact HST2.out
          · exact Rd.aside P5.out (Rd.later P7.out (grown_alloc (grown_refl _ none) _)) A9.out.grown (fun q hq => (O8.out.lt q hq).1)
          · rw [hel]
            exact O9.out
          · exact Lib.hid fun x hx => ⟨(HR7.out x hx).1, own_past ((HR7.out x hx).2.alloc _) O8.out (by decide) A9.out.grown⟩
          · exact B9.trans (below_of_grown A9.out.grown (by have := B9.size; omega) (fun q hq => by have := (O8.out.lt q hq).1; have := HBS.out; omega))
          · have := A9.out.grown.size
            rw [World.size_alloc, hs7] at this
            omega
      · have hne : ms.length = n := by omega
        subst hne
        have hr := hlots.out
        rw [Nat.sub_self, lotsP] at hr
        subst hr
        dsimp only at HR4
        have HR5 : Hid (R = if k' < l.length then ([], 11) else if checkP (ms.map (·.r)) ≠ 0 then ([], checkP (ms.map (·.r))) else (ms.map (·.r), 0)) := Lib.hid (by rw [HR4.out, if_neg (by omega)])
        have he := rend_any wr g A2 c2 l k' 0 hrp.out
        rw [if_neg (by omega)] at he
        obtain ⟨D2, d2, hv, hD2, hd2, _⟩ := own_all hown.out
        subst hv
        clear HR4 hlots hrp P5
        have HBN : Hid (∀ nn, Below w.heap.size w (wr.drewN nn)) := Lib.hid (fun nn => ⟨hbel.out.os, hbel.out.tape, hbel.out.output, hbel.out.size, hbel.out.block⟩)
        by_cases hkk : k' < l.length
        · have HRR : Hid (R = ([], 11)) := Lib.hid (by rw [HR5.out, if_pos hkk])
          rw [if_pos hkk] at he
          have HE := Lib.hid he
          clear HR5 he
          go_wp2_with (go_at_call 22; refine HE.out.mono ?_; rintro e w1 ⟨rfl, nn, hw1⟩; subst w1)
          go_ret2
          exact RdOut.bad HRR.out rfl (HBN.out _)
        · rw [if_neg hkk] at he
          have HE := Lib.hid he
          have HR6 : Hid (R = if checkP (ms.map (·.r)) ≠ 0 then ([], checkP (ms.map (·.r))) else (ms.map (·.r), 0)) := Lib.hid (by rw [HR5.out, if_neg hkk])
          have HMV := Lib.hid (fun nn => (Mv.of_own (W := wr.drewN nn) hown.out hrows.out))
          have hb0 := hbel.out.size
          have HCK := Lib.hid (fun nn => check_any (wr.drewN nn) D2 d2 ms mx ((hbel.out.cell (p := ⟨0, 0, none⟩) hw).trans HM.out) (show 0 < wr.heap.size by omega) (HMV.out nn) (fun m hm => (hrows.out m hm).1.small) (by omega) hd2)
          generalize checkP (ms.map (·.r)) = ck at *
          clear HR5 he
          by_cases hck : ck = 0
          · have HRR : Hid (R = (ms.map (·.r), 0)) := Lib.hid (by rw [HR6.out, if_neg (fun q => q hck)])
            subst hck
            go_wp2_with (first | (go_at_call 22; refine HE.out.mono ?_; rintro e w1 ⟨rfl, nn, hw1⟩; subst w1) | (go_at_call 23; refine (HCK.out nn).mono ?_; rintro e w2 ⟨rfl, hb2⟩; have B2 := Lib.hid ((HBN.out nn).trans (hb2.mono hb0)); have MV2 := Lib.hid ((HMV.out nn).below hb2); clear hb2))
            go_ret2
            refine ⟨D2, d2, ms, ?_, ?_, MV2.out, fun m hm => (hrows.out m hm).1, hd2, hD2, B2.out⟩
            · rw [HRR.out]; rfl
            · rw [HRR.out]
          · have HRR : Hid (R = ([], ck)) := Lib.hid (by rw [HR6.out, if_pos hck])
            have hq : ((ck : Int) == 0) = false := beq_eq_false_iff_ne.2 (by omega)
            go_wp2_with (first | (go_at_call 22; refine HE.out.mono ?_; rintro e w1 ⟨rfl, nn, hw1⟩; subst w1) | (go_at_call 23; refine (HCK.out nn).mono ?_; rintro e w2 ⟨rfl, hb2⟩; have B2 := Lib.hid ((HBN.out nn).trans (hb2.mono hb0)); clear hb2))
            go_ret2
            exact RdOut.bad HRR.out rfl B2.out
end Go.Proofs.YthhmamkphcgocaaDoor

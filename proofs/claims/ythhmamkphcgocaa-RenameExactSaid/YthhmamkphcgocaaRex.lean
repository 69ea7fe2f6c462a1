/- sleuthref26.exact, by a contract. -/
import Derived.Test.YthhmamkphcgocaaNone
import Derived.Test.YthhmamkphcgocaaRnm
import Derived.Test.YthhmamkphcgocaaAft
namespace Go.Proofs.Ythhmamkphcgocaa
open Go.RowKit
attribute [local go_sem ↓] load44_eq load46_eq
attribute [local go_sem] later_refl later_drew_iff later_drewN_iff later_a1 later_a2 later_a3 later_a4

def cand (l : List Chg) (s : St) (k i : Nat) : Bool := isSource l s i && decide ((l.getD i default).oid = (l.getD k default).nid)
def refNext (l : List Chg) (s : St) (k : Nat) (a : Int) (i : Nat) : Int :=
  if cand l s k i then (if a < 0 then (i : Int) else if isNamed l i k && !isNamed l a.toNat k then (i : Int) else a) else a
def refAt (l : List Chg) (s : St) (k : Nat) : Nat → Int
  | 0 => -1
  | i + 1 => refNext l s k (refAt l s k i) i
def refStep (l : List Chg) (s : St) (k : Nat) : St :=
  if (l.getD k default).kind = 1 then (if 0 ≤ refAt l s k l.length then pairS s (refAt l s k l.length).toNat k else s) else s
  where pairS (s : St) (src tgt : Nat) : St := ⟨s.fr.set tgt src, s.sc.set tgt 1000, s.kd.set tgt 4, s.tk.set src true⟩
def refTo (l : List Chg) : Nat → St
  | 0 => st0 l.length (-1)
  | k + 1 => refStep l (refTo l k) k
  where st0 (n : Nat) (f0 : Int) : St := ⟨List.replicate n f0, List.replicate n 0, List.replicate n 0, List.replicate n false⟩
def rowsS (s : St) : List (TypeId × List Value) := rows4 s.fr s.kd s.sc s.tk

theorem info3c : (Try.prog.info? 3).map (·.size) = some 1 := by kernel_rfl
theorem info4c : (Try.prog.info? 4).map (·.size) = some 1 := by kernel_rfl
theorem ints_set (l : List Int) (k : Nat) (x : Int) : ints (l.set k x) = (ints l).set k (.int .i64 x) := by simp [ints, List.map_set]
theorem boos_set (l : List Bool) (k : Nat) (x : Bool) : boos (l.set k x) = (boos l).set k (.bool x) := by simp [boos, List.map_set]
theorem refTo_len (l : List Chg) (k : Nat) : (refTo l k).fr.length = l.length ∧ (refTo l k).sc.length = l.length ∧ (refTo l k).kd.length = l.length ∧ (refTo l k).tk.length = l.length := by
  induction k with
  | zero => simp [refTo, refTo.st0]
  | succ k ih =>
    unfold refTo refStep
    split
    · split
      · simpa [refStep.pairS] using ih
      · exact ih
    · exact ih
theorem refAt_bd (l : List Chg) (s : St) (k : Nat) : ∀ i, refAt l s k i = -1 ∨ ∃ j : Nat, j < i ∧ refAt l s k i = j := by
  intro i
  induction i with
  | zero => exact .inl rfl
  | succ i ih =>
    have ih' : refAt l s k i = -1 ∨ ∃ j : Nat, j < i + 1 ∧ refAt l s k i = j := ih.imp id fun ⟨j, h1, h2⟩ => ⟨j, by omega, h2⟩
    unfold refAt refNext
    split
    · split
      · exact .inr ⟨i, by omega, rfl⟩
      · split
        · exact .inr ⟨i, by omega, rfl⟩
        · exact ih'
    · exact ih'

theorem ones4 {w : World} {B g : Nat} {v0 v1 v2 v3 : Value} {r0 r1 r2 r3 : TypeId × List Value} (hf : Flds w B g 54 [v0, v1, v2, v3] [r0, r1, r2, r3]) : (#[v0, v1, v2, v3] : Array Value).all (·.oneCell') = true := by
  simp [own_one (hf.own 0 v0 _ rfl rfl), own_one (hf.own 1 v1 _ rfl rfl), own_one (hf.own 2 v2 _ rfl rfl), own_one (hf.own 3 v3 _ rfl rfl)]

theorem up1 {wr : World} {a : Addr} {cs : List Value} (h : ∀ W : Aft wr, CellsAt W.W a cs) (W1 : Aft wr) : ∀ w', (∃ W : Aft W1.W, w' = W.W) → CellsAt w' a cs := by
  rintro _ ⟨W, rfl⟩
  exact h (W1.up W)

set_option maxRecDepth 100000 in
set_option maxHeartbeats 4000000 in
theorem rexact_any (w : World) (l : List Chg) (A : Option Addr) (c : Nat) (hl : LReads w w.heap.size A l) (ok : ∀ (k : Nat) (x : Chg), l[k]? = some x → x.ok) (hn : l.length ≤ 40) :
    Calls Try.prog 22 #[.slice A l.length c] w fun e w' => ∃ v0 v1 v2 v3 B g, e = .returned (.agg #[v0, v1, v2, v3]) ∧ Flds w' B g 54 [v0, v1, v2, v3] (rowsS (refTo l l.length)) ∧ Below w.heap.size w w' := by
  have H := Lib.hid (And.intro hl ok)
  clear hl ok
  go_enter Try.func22, Try.ntmps22
  go_wp2_with (first
    | (go_at_call 41; refine (none_any _ _ hn).mono ?_; rintro e w1 ⟨v0, v1, v2, v3, g0, rfl, hF1, hB1⟩; have HF1 := Lib.hid hF1; have HB1 := Lib.hid hB1; have HONE := Lib.hid (ones4 hF1); clear hF1 hB1)
    | (refine wpList_store_row rfl 54 (.tmp 3) (.tmp 9) rfl w1.heap.size #[v0, v1, v2, v3] rfl rfl 54 _ (heap_alloc_new _ _) info54 rfl HONE.out ?_; rw [setRow_alloc_at _ _ _ _ _ rfl]))
  have hF2 : Flds (w1.alloc (.cells #[v0, v1, v2, v3] 54)) (w.heap.size + 3) w1.heap.size 54 [v0, v1, v2, v3] (rowsS (refTo l 0)) := by
    have h := HF1.out.copied (fun i v hv => HF1.out.below hv)
    simp only [World.size_alloc] at h
    exact h
  have hw1 : w.heap.size < w1.heap.size := by have := HB1.out.size; simp at this; omega
  have hres : (w1.alloc (.cells #[v0, v1, v2, v3] 54)).heap[w.heap.size]? = some (.cells #[.slice none 0 0, .slice none 0 0, .slice none 0 0, .slice none 0 0] 54 (0, 0)) := by
    rw [Below.heap_alloc _ _ _ hw1, HB1.out.block _ (by simp), heap_alloc_new]
  have hbel : Below w.heap.size w (w1.alloc (.cells #[v0, v1, v2, v3] 54)) := (((Below.refl _ _).alloc (Nat.le_refl _) _).trans (HB1.out.mono (by simp))).alloc (by omega) _
  generalize hw2 : w1.alloc (.cells #[v0, v1, v2, v3] 54) = w2 at *
  have hsz2 : w1.heap.size < w2.heap.size := by rw [← hw2]; simp
  have HF2 := Lib.hid hF2
  have HRES := Lib.hid hres
  have HBEL := Lib.hid hbel
  generalize hgg : w1.heap.size = g at *
  clear hF2 hres hbel hw2 hgg
  go_loopw [4] (fun k_ wr => ∃ k : Nat, k ≤ l.length ∧ k_ = .int .i64 k ∧ Hid (Flds wr (w.heap.size + 3) g 54 [v0, v1, v2, v3] (rowsS (refTo l k))) ∧ Hid (Below (w.heap.size + 1) w2 wr)) (fun k_ _ => l.length - (intOf k_).toNat)
  case atStart => exact ⟨0, Nat.zero_le _, rfl, HF2.out, Below.refl _ _⟩
  case round =>
    obtain ⟨k, hk, rfl, hF, hb⟩ := hrel
    by_cases hkl : k < l.length
    · have hww : Below w.heap.size w wr := HBEL.out.trans (hb.out.mono (by omega))
      have hrd : LReads wr w.heap.size A l := H.out.1.keep fun p hp => hww.cell hp
      have hok : (l.getD k default).ok := H.out.2 k _ (by simp [hkl])
      obtain ⟨ad, rfl, hadb, hcs⟩ := hrd k (l.getD k default) (by simp [hkl])
      have hwz : w.heap.size ≤ wr.heap.size := hww.size
      obtain ⟨lF, lS, lK, lT⟩ := refTo_len l k
      have h4 := hF.out
      obtain ⟨F, cF, rfl, _, zF, gF, eF, fF⟩ := h4.at_ (i := 0) (k := k) (v := v0) rfl rfl (int_at (by omega))
      obtain ⟨K, cK, rfl, _, zK, gK, eK, fK⟩ := h4.at_ (i := 1) (k := k) (v := v1) rfl rfl (int_at (by omega))
      obtain ⟨S, cS, rfl, _, zS, gS, eS, fS⟩ := h4.at_ (i := 2) (k := k) (v := v2) rfl rfl (int_at (by omega))
      obtain ⟨T, cT, rfl, _, zT, gT, eT, fT⟩ := h4.at_ (i := 3) (k := k) (v := v3) rfl rfl (boo_at (by omega))
      have hkk : wr.cell? (ad.add (k * 70)) = some (.int .i64 (l.getD k default).kind) := hcs.zero rfl
      by_cases hkind : (l.getD k default).kind = 1
      · rw [hkind] at hkk
        have HKIND := Lib.hid hkind
        clear hkind
        obtain ⟨wo, hwo⟩ : ∃ wo : World, wo = wr := ⟨_, rfl⟩
        subst hwo
        have HF4 := Lib.hid h4
        have HCS := Lib.hid hcs
        have HRD := Lib.hid hrd
        have HOK := Lib.hid hok
        have HWW := Lib.hid hww
        clear h4 hcs hrd hww
        go_wp2
        go_loopw [5, 6] (fun a_ i_ wr => ∃ i : Nat, i ≤ l.length ∧ i_ = .int .i64 i ∧ a_ = .int .i64 (refAt l (refTo l k) k i) ∧ Hid (Below wo.heap.size wo wr)) (fun _ i_ _ => l.length - (intOf i_).toNat)
        case atStart => exact ⟨0, Nat.zero_le _, rfl, rfl, Below.refl _ _⟩
        case round =>
          obtain ⟨i, hi, rfl, rfl, hbi⟩ := hrel
          have hlo : Later wo wr := later_of_below hbi.out (Nat.le_refl _)
          have hwz2 := hlo.size
          clear eF eK eS eT fF fK fS fT hkk
          by_cases hil : i < l.length
          · have hoki : (l.getD i default).ok := H.out.2 i _ (by simp [hil])
            obtain ⟨ad', he', _, hcsi⟩ := HRD.out i (l.getD i default) (by simp [hil])
            obtain rfl : ad = ad' := by injection he'
            have old : ∀ (W : Aft wr) (p : Addr), p.block < wo.heap.size → W.W.cell? p = wo.cell? p := fun W p hp => (W.cell (by omega)).trans (hlo.cell hp)
            have kx : ∀ W : Aft wr, W.W.cell? (ad.add (i * 70)) = some (.int .i64 (l.getD i default).kind) := fun W => (old W _ (by rw [block_add]; omega)).trans (hcsi.zero rfl)
            have ct : ∀ W : Aft wr, W.W.cell? ⟨g, 3, none⟩ = some (.slice (some ⟨T, 0, none⟩) (boos (refTo l k).tk).length cT) := fun W => (old W _ HF4.out.lt).trans (HF4.out.cell 3)
            have et : ∀ W : Aft wr, W.W.cell? ⟨T, i, none⟩ = some (.bool ((refTo l k).tk.getD i false)) := fun W => by
              obtain ⟨T', c', e1, _, _, _, e2, _⟩ := HF4.out.at_ (i := 3) (k := i) rfl rfl (boo_at (xs := (refTo l k).tk) (by omega))
              obtain ⟨rfl, _⟩ : T = T' ∧ cT = c' := by simpa using e1
              exact (old W _ zT).trans e2
            have hlt3 : (boos (refTo l k).tk).length = l.length := by simp [boos, lT]
            rw [hlt3] at ct
            have ho : ∀ w', (∃ W : Aft wr, w' = W.W) → CellsAt w' ⟨(ad.add (i * 70)).block, (ad.add (i * 70)).off + 5, none⟩ (u8s (l.getD i default).oid) := by
              rintro _ ⟨W, rfl⟩
              have hp := (hcsi.part 5).take 32
              rw [Chg.oid_part _ hoki] at hp
              exact hp.keep fun p hp' => old W p (by rw [hp', block_add, block_add]; omega)
            have hn' : ∀ w', (∃ W : Aft wr, w' = W.W) → CellsAt w' ⟨(ad.add (k * 70)).block, (ad.add (k * 70)).off + 37, none⟩ (u8s (l.getD k default).nid) := by
              rintro _ ⟨W, rfl⟩
              have hp := (HCS.out.part 37).take 32
              rw [Chg.nid_part _ hok] at hp
              exact hp.keep fun p hp' => old W p (by rw [hp', block_add, block_add]; omega)
            have hx1 : ∀ W : Aft wr, CellsAt W.W (ad.add (i * 70)) (l.getD i default).cells := fun W => hcsi.keep fun p hp' => old W p (by rw [hp', block_add]; omega)
            have hy1 : ∀ W : Aft wr, CellsAt W.W (ad.add (k * 70)) (l.getD k default).cells := fun W => HCS.out.keep fun p hp' => old W p (by rw [hp', block_add]; omega)
            have hnx : refAt l (refTo l k) k (i + 1) = refNext l (refTo l k) k (refAt l (refTo l k) k i) i := rfl
            unfold refNext cand isSource at hnx
            have hlo2 : (Try.prog.info? 44).map (·.size) = some (u8s (l.getD i default).oid).length := by rw [u8s_length, hoki.oid]; exact info44
            have hln2 : (Try.prog.info? 44).map (·.size) = some (u8s (l.getD k default).nid).length := by rw [u8s_length, hok.nid]; exact info44
            have hlx : (Try.prog.info? 46).map (·.size) = some (l.getD i default).cells.length := by rw [Chg.cells_length _ hoki]; exact info46
            have hly : (Try.prog.info? 46).map (·.size) = some (l.getD k default).cells.length := by rw [Chg.cells_length _ hok]; exact info46
            have hq1 : ∀ W, (Op.equalIn 10000 44 (.agg (u8s (l.getD i default).oid).toArray) (.agg (u8s (l.getD k default).nid).toArray)).run Try.prog W = .ok (decide ((l.getD i default).oid = (l.getD k default).nid)) W := fun W => run_equalIn_u8s (P := Try.prog) (n := 32) W Try.underlying44 Try.underlying5 (Option.map_eq_some_iff.1 info5).choose_spec.1 (Option.map_eq_some_iff.1 info5).choose_spec.2 9998 _ _ hoki.oid hok.nid
            have hn1 : ∀ W, Calls Try.prog 42 #[.agg (l.getD i default).cells.toArray, .agg (l.getD k default).cells.toArray] W fun e w' => e = .returned (.bool (isNamed l i k)) ∧ Below W.heap.size W w' := fun W => rnamed_any W _ _ hoki hok
            have hbd := refAt_bd l (refTo l k) k i
            have hnz : ∀ j, j < l.length → ∀ W, Calls Try.prog 42 #[.agg (l.getD j default).cells.toArray, .agg (l.getD k default).cells.toArray] W fun e w' => e = .returned (.bool (isNamed l j k)) ∧ Below W.heap.size W w' := fun j hj W => rnamed_any W _ _ (H.out.2 j _ (by simp [hj])) hok
            have hzz : ∀ j, j < l.length → (∀ W : Aft wr, CellsAt W.W (ad.add (j * 70)) (l.getD j default).cells) ∧ (Try.prog.info? 46).map (·.size) = some (l.getD j default).cells.length := fun j hj => by
              obtain ⟨ad', he', _, hcsj⟩ := HRD.out j (l.getD j default) (by simp [hj])
              obtain rfl : ad = ad' := by injection he'
              exact ⟨fun W => hcsj.keep fun p hp' => old W p (by rw [hp', block_add]; omega), by rw [Chg.cells_length _ (H.out.2 j _ (by simp [hj]))]; exact info46⟩
            have HNX := Lib.hid hnx
            have HO := Lib.hid ho
            have HN := Lib.hid hn'
            have HLO := Lib.hid hlo2
            have HLN := Lib.hid hln2
            have HX1 := Lib.hid hx1
            have HY1 := Lib.hid hy1
            have HLX := Lib.hid hlx
            have HLY := Lib.hid hly
            have HN1 := Lib.hid hn1
            have HNZ := Lib.hid hnz
            have HZZ := Lib.hid hzz
            have HBD := Lib.hid hbd
            clear hnx ho hn' hlo2 hln2 hx1 hy1 hlx hly hn1 hnz hzz hbd old hcsi he' hlt3
            generalize l.getD i default = x at *
            generalize l.getD k default = y at *
            generalize (refTo l k).tk.getD i false = t at *
            generalize isNamed l i k = nb1 at *
            by_cases hkd : x.kind = 2
            · have hkd' : (x.kind != 2) = false := by simpa using hkd
              cases t with
              | true =>
                go_wp2_with fail
                refine wp_region_aft (by kernel_rfl) (by kernel_rfl) ?_
                repeat (first
                  | (go_big_quiet_want; refine quiet_load_cells 44 _ rfl _ rfl (u8s x.oid) Try.underlying44 rfl HLO.out HO.out ?_; simp only [Act.put, List.setIfInBounds_toArray, List.set_cons_succ, List.set_cons_zero]; go_big_quiet_on)
                  | (go_big_quiet_want; refine quiet_load_cells 44 _ rfl _ rfl (u8s y.nid) Try.underlying44 rfl HLN.out HN.out ?_; simp only [Act.put, List.setIfInBounds_toArray, List.set_cons_succ, List.set_cons_zero]; go_big_quiet_on)
                  | go_big_quiet_step (fail))
                refine wpQuiet_nil ?_
                rintro _ ⟨W1, rfl⟩
                go_wp2
                refine ⟨⟨i + 1, by omega, by go_num, ?_, ?_⟩, by simp [intOf]; omega⟩
                · rw [HNX.out]
                  simp [*]
                · exact (hbi.out.trans (W1.h.mono (by omega)) : _)
              | false =>
                by_cases hxy : decide (x.oid = y.nid) = true
                · rw [hxy] at hq1
                  rcases HBD.out with ha | ⟨j, hj, ha⟩
                  · rw [ha] at HNX ⊢
                    clear HBD
                    go_wp2_with fail
                    refine wp_region_aft (by kernel_rfl) (by kernel_rfl) ?_
                    repeat (first
                      | (go_big_quiet_want; refine quiet_load_cells 44 _ rfl _ rfl (u8s x.oid) Try.underlying44 rfl HLO.out HO.out ?_; simp only [Act.put, List.setIfInBounds_toArray, List.set_cons_succ, List.set_cons_zero]; go_big_quiet_on)
                      | (go_big_quiet_want; refine quiet_load_cells 44 _ rfl _ rfl (u8s y.nid) Try.underlying44 rfl HLN.out HN.out ?_; simp only [Act.put, List.setIfInBounds_toArray, List.set_cons_succ, List.set_cons_zero]; go_big_quiet_on)
                      | go_big_quiet_step (fail))
                    refine wpQuiet_nil ?_
                    rintro _ ⟨W1, rfl⟩
                    go_wp2_with fail
                    refine wp_region_aft (by kernel_rfl) (by kernel_rfl) ?_
                    repeat (first
                      | (go_big_quiet_want; refine quiet_load_cells 46 _ rfl _ rfl x.cells Try.underlying46 rfl HLX.out (up1 HX1.out W1) ?_; simp only [Act.put, List.setIfInBounds_toArray, List.set_cons_succ, List.set_cons_zero]; go_big_quiet_on)
                      | (go_big_quiet_want; refine quiet_load_cells 46 _ rfl _ rfl y.cells Try.underlying46 rfl HLY.out (up1 HY1.out W1) ?_; simp only [Act.put, List.setIfInBounds_toArray, List.set_cons_succ, List.set_cons_zero]; go_big_quiet_on)
                      | go_big_quiet_step (fail))
                    refine wpQuiet_nil ?_
                    rintro _ ⟨W2, rfl⟩
                    go_wp2
                    refine ⟨⟨i + 1, by omega, by go_num, ?_, ?_⟩, by simp [intOf]; omega⟩
                    · rw [HNX.out]
                      simp [*]
                    · exact (hbi.out.trans ((W1.h.trans (W2.h.mono W1.h.size)).mono (by omega)) : _)
                  · rw [ha] at HNX ⊢
                    obtain ⟨hz1, hlz⟩ := HZZ.out j (by omega)
                    have hn2 := HNZ.out j (by omega)
                    have HZ1 := Lib.hid hz1
                    have HLZ := Lib.hid hlz
                    have HN2 := Lib.hid hn2
                    clear hz1 hlz hn2 HBD HNZ HZZ
                    rw [Int.toNat_natCast] at HNX
                    generalize l.getD j default = z at *
                    generalize isNamed l j k = nb2 at *
                    have hj0 : ¬ ((j : Int) < 0) := by omega
                    have hj1 : decide ((j : Int) < 0) = false := by simp
                    cases nb1 with
                    | false =>
                      go_wp2_with fail
                      refine wp_region_aft (by kernel_rfl) (by kernel_rfl) ?_
                      repeat (first
                        | (go_big_quiet_want; refine quiet_load_cells 44 _ rfl _ rfl (u8s x.oid) Try.underlying44 rfl HLO.out HO.out ?_; simp only [Act.put, List.setIfInBounds_toArray, List.set_cons_succ, List.set_cons_zero]; go_big_quiet_on)
                        | (go_big_quiet_want; refine quiet_load_cells 44 _ rfl _ rfl (u8s y.nid) Try.underlying44 rfl HLN.out HN.out ?_; simp only [Act.put, List.setIfInBounds_toArray, List.set_cons_succ, List.set_cons_zero]; go_big_quiet_on)
                        | go_big_quiet_step (fail))
                      refine wpQuiet_nil ?_
                      rintro _ ⟨W1, rfl⟩
                      go_wp2_with fail
                      refine wp_region_aft (by kernel_rfl) (by kernel_rfl) ?_
                      repeat (first
                        | (go_big_quiet_want; refine quiet_load_cells 46 _ rfl _ rfl x.cells Try.underlying46 rfl HLX.out (up1 HX1.out W1) ?_; simp only [Act.put, List.setIfInBounds_toArray, List.set_cons_succ, List.set_cons_zero]; go_big_quiet_on)
                        | (go_big_quiet_want; refine quiet_load_cells 46 _ rfl _ rfl y.cells Try.underlying46 rfl HLY.out (up1 HY1.out W1) ?_; simp only [Act.put, List.setIfInBounds_toArray, List.set_cons_succ, List.set_cons_zero]; go_big_quiet_on)
                        | go_big_quiet_step ((with_reducible exact aft_call (HN1.out _))))
                      refine wpQuiet_nil ?_
                      rintro _ ⟨W2, rfl⟩
                      go_wp2
                      refine ⟨⟨i + 1, by omega, by go_num, ?_, ?_⟩, by simp [intOf]; omega⟩
                      · rw [HNX.out]
                        simp [*]
                        omega
                      · exact (hbi.out.trans ((W1.h.trans (W2.h.mono W1.h.size)).mono (by omega)) : _)
                    | true =>
                      cases nb2 with
                      | true =>
                        go_wp2_with fail
                        refine wp_region_aft (by kernel_rfl) (by kernel_rfl) ?_
                        repeat (first
                          | (go_big_quiet_want; refine quiet_load_cells 44 _ rfl _ rfl (u8s x.oid) Try.underlying44 rfl HLO.out HO.out ?_; simp only [Act.put, List.setIfInBounds_toArray, List.set_cons_succ, List.set_cons_zero]; go_big_quiet_on)
                          | (go_big_quiet_want; refine quiet_load_cells 44 _ rfl _ rfl (u8s y.nid) Try.underlying44 rfl HLN.out HN.out ?_; simp only [Act.put, List.setIfInBounds_toArray, List.set_cons_succ, List.set_cons_zero]; go_big_quiet_on)
                          | go_big_quiet_step (fail))
                        refine wpQuiet_nil ?_
                        rintro _ ⟨W1, rfl⟩
                        go_wp2_with fail
                        refine wp_region_aft (by kernel_rfl) (by kernel_rfl) ?_
                        repeat (first
                          | (go_big_quiet_want; refine quiet_load_cells 46 _ rfl _ rfl x.cells Try.underlying46 rfl HLX.out (up1 HX1.out W1) ?_; simp only [Act.put, List.setIfInBounds_toArray, List.set_cons_succ, List.set_cons_zero]; go_big_quiet_on)
                          | (go_big_quiet_want; refine quiet_load_cells 46 _ rfl _ rfl y.cells Try.underlying46 rfl HLY.out (up1 HY1.out W1) ?_; simp only [Act.put, List.setIfInBounds_toArray, List.set_cons_succ, List.set_cons_zero]; go_big_quiet_on)
                          | (go_big_quiet_want; refine quiet_load_cells 46 _ rfl _ rfl z.cells Try.underlying46 rfl HLZ.out (up1 HZ1.out W1) ?_; simp only [Act.put, List.setIfInBounds_toArray, List.set_cons_succ, List.set_cons_zero]; go_big_quiet_on)
                          | go_big_quiet_step ((first | (with_reducible exact aft_call (HN1.out _)) | (with_reducible exact aft_call (HN2.out _)))))
                        refine wpQuiet_nil ?_
                        rintro _ ⟨W2, rfl⟩
                        go_wp2
                        refine ⟨⟨i + 1, by omega, by go_num, ?_, ?_⟩, by simp [intOf]; omega⟩
                        · rw [HNX.out]
                          simp [*]
                          omega
                        · exact (hbi.out.trans ((W1.h.trans (W2.h.mono W1.h.size)).mono (by omega)) : _)
                      | false =>
                        go_wp2_with fail
                        refine wp_region_aft (by kernel_rfl) (by kernel_rfl) ?_
                        repeat (first
                          | (go_big_quiet_want; refine quiet_load_cells 44 _ rfl _ rfl (u8s x.oid) Try.underlying44 rfl HLO.out HO.out ?_; simp only [Act.put, List.setIfInBounds_toArray, List.set_cons_succ, List.set_cons_zero]; go_big_quiet_on)
                          | (go_big_quiet_want; refine quiet_load_cells 44 _ rfl _ rfl (u8s y.nid) Try.underlying44 rfl HLN.out HN.out ?_; simp only [Act.put, List.setIfInBounds_toArray, List.set_cons_succ, List.set_cons_zero]; go_big_quiet_on)
                          | go_big_quiet_step (fail))
                        refine wpQuiet_nil ?_
                        rintro _ ⟨W1, rfl⟩
                        go_wp2_with fail
                        refine wp_region_aft (by kernel_rfl) (by kernel_rfl) ?_
                        repeat (first
                          | (go_big_quiet_want; refine quiet_load_cells 46 _ rfl _ rfl x.cells Try.underlying46 rfl HLX.out (up1 HX1.out W1) ?_; simp only [Act.put, List.setIfInBounds_toArray, List.set_cons_succ, List.set_cons_zero]; go_big_quiet_on)
                          | (go_big_quiet_want; refine quiet_load_cells 46 _ rfl _ rfl y.cells Try.underlying46 rfl HLY.out (up1 HY1.out W1) ?_; simp only [Act.put, List.setIfInBounds_toArray, List.set_cons_succ, List.set_cons_zero]; go_big_quiet_on)
                          | (go_big_quiet_want; refine quiet_load_cells 46 _ rfl _ rfl z.cells Try.underlying46 rfl HLZ.out (up1 HZ1.out W1) ?_; simp only [Act.put, List.setIfInBounds_toArray, List.set_cons_succ, List.set_cons_zero]; go_big_quiet_on)
                          | go_big_quiet_step ((first | (with_reducible exact aft_call (HN1.out _)) | (with_reducible exact aft_call (HN2.out _)))))
                        refine wpQuiet_nil ?_
                        rintro _ ⟨W2, rfl⟩
                        go_wp2
                        refine ⟨⟨i + 1, by omega, by go_num, ?_, ?_⟩, by simp [intOf]; omega⟩
                        · rw [HNX.out]
                          simp [*]
                        · exact (hbi.out.trans ((W1.h.trans (W2.h.mono W1.h.size)).mono (by omega)) : _)
                · have hxy : decide (x.oid = y.nid) = false := by simpa using hxy
                  rw [hxy] at hq1
                  go_wp2_with fail
                  refine wp_region_aft (by kernel_rfl) (by kernel_rfl) ?_
                  repeat (first
                    | (go_big_quiet_want; refine quiet_load_cells 44 _ rfl _ rfl (u8s x.oid) Try.underlying44 rfl HLO.out HO.out ?_; simp only [Act.put, List.setIfInBounds_toArray, List.set_cons_succ, List.set_cons_zero]; go_big_quiet_on)
                    | (go_big_quiet_want; refine quiet_load_cells 44 _ rfl _ rfl (u8s y.nid) Try.underlying44 rfl HLN.out HN.out ?_; simp only [Act.put, List.setIfInBounds_toArray, List.set_cons_succ, List.set_cons_zero]; go_big_quiet_on)
                    | go_big_quiet_step (fail))
                  refine wpQuiet_nil ?_
                  rintro _ ⟨W1, rfl⟩
                  go_wp2
                  refine ⟨⟨i + 1, by omega, by go_num, ?_, ?_⟩, by simp [intOf]; omega⟩
                  · rw [HNX.out]
                    simp [*]
                  · exact (hbi.out.trans (W1.h.mono (by omega)) : _)
            · have hkd' : (x.kind != 2) = true := by simpa using hkd
              go_wp2_with fail
              refine wp_region_aft (by kernel_rfl) (by kernel_rfl) ?_
              repeat (first
                | (go_big_quiet_want; refine quiet_load_cells 44 _ rfl _ rfl (u8s x.oid) Try.underlying44 rfl HLO.out HO.out ?_; simp only [Act.put, List.setIfInBounds_toArray, List.set_cons_succ, List.set_cons_zero]; go_big_quiet_on)
                | (go_big_quiet_want; refine quiet_load_cells 44 _ rfl _ rfl (u8s y.nid) Try.underlying44 rfl HLN.out HN.out ?_; simp only [Act.put, List.setIfInBounds_toArray, List.set_cons_succ, List.set_cons_zero]; go_big_quiet_on)
                | go_big_quiet_step (fail))
              refine wpQuiet_nil ?_
              rintro _ ⟨W1, rfl⟩
              go_wp2
              refine ⟨⟨i + 1, by omega, by go_num, ?_, ?_⟩, by simp [intOf]; omega⟩
              · rw [HNX.out]
                simp [*]
              · exact (hbi.out.trans (W1.h.mono (by omega)) : _)
          · obtain rfl : i = l.length := by omega
            have hG0 := HF4.out.later hlo
            have G0 := Lib.hid hG0
            have M0 := Lib.hid (hb.out.trans (hbi.out.mono (by have := hb.out.size; have := HF4.out.lt; omega)))
            have hstp : refTo l (k + 1) = if 0 ≤ refAt l (refTo l k) k l.length then refStep.pairS (refTo l k) (refAt l (refTo l k) k l.length).toNat k else refTo l k := by
              show refStep l (refTo l k) k = _
              unfold refStep
              rw [if_pos HKIND.out]
            have hbd := refAt_bd l (refTo l k) k l.length
            have HSTP := Lib.hid hstp
            clear hstp hG0
            generalize refAt l (refTo l k) k l.length = a at *
            rcases hbd with rfl | ⟨j, hj, rfl⟩
            · go_wp2
              refine ⟨⟨k + 1, by omega, by go_num, ?_, M0.out⟩, by simp [intOf]; omega⟩
              rw [show refTo l (k + 1) = refTo l k by rw [HSTP.out]; rfl]
              exact G0.out
            · have hle0 : (ints (refTo l k).fr).length = l.length := by simp [ints, lF]
              have hle1 : (ints (refTo l k).kd).length = l.length := by simp [ints, lK]
              have hle2 : (ints (refTo l k).sc).length = l.length := by simp [ints, lS]
              have hle3 : (boos (refTo l k).tk).length = l.length := by simp [boos, lT]
              have E0 := Lib.hid (G0.out.elem (i := 0) (k := k) rfl rfl (int_at (xs := (refTo l k).fr) (by omega)))
              have d0 := G0.out.cell 0
              simp only [List.getElem?_cons_zero, hle0] at d0
              have s0 := G0.out.lt
              go_wp2_with (first
                | (refine wpList_store1 rfl 3 (.tmp 86) (.tmp 85) rfl ⟨F, k, none⟩ rfl (.int .i64 (j : Int)) _ rfl rfl info3c E0.out.1 E0.out.2.1 rfl ?_; intro V1 hV1; have G1 := Lib.hid (hV1 ▸ G0.out.stored (i := 0) (k := k) (x := .int .i64 (j : Int)) rfl rfl); have M1 := Lib.hid (hV1 ▸ M0.out.setCell (p := ⟨F, k, none⟩) (by have := E0.out.2.2.1; simp only; omega) (.int .i64 (j : Int))); clear hV1; have E1 := Lib.hid (G1.out.elem (i := 1) (k := k) rfl rfl (int_at (xs := (refTo l k).kd) (by omega))); have d1 := G1.out.cell 1; simp only [List.getElem?_cons_succ, List.getElem?_cons_zero, hle1] at d1; have s1 := G1.out.lt)
                | (refine wpList_store1 rfl 3 (.tmp 90) (.const (.int .i64 4)) rfl ⟨K, k, none⟩ rfl (.int .i64 4) _ rfl rfl info3c E1.out.1 E1.out.2.1 rfl ?_; intro V2 hV2; have G2 := Lib.hid (hV2 ▸ G1.out.stored (i := 1) (k := k) (x := .int .i64 4) rfl rfl); have M2 := Lib.hid (hV2 ▸ M1.out.setCell (p := ⟨K, k, none⟩) (by have := E1.out.2.2.1; simp only; omega) (.int .i64 4)); clear hV2; have E2 := Lib.hid (G2.out.elem (i := 2) (k := k) rfl rfl (int_at (xs := (refTo l k).sc) (by omega))); have d2 := G2.out.cell 2; simp only [List.getElem?_cons_succ, List.getElem?_cons_zero, hle2] at d2; have s2 := G2.out.lt)
                | (refine wpList_store1 rfl 3 (.tmp 94) (.const (.int .i64 1000)) rfl ⟨S, k, none⟩ rfl (.int .i64 1000) _ rfl rfl info3c E2.out.1 E2.out.2.1 rfl ?_; intro V3 hV3; have G3 := Lib.hid (hV3 ▸ G2.out.stored (i := 2) (k := k) (x := .int .i64 1000) rfl rfl); have M3 := Lib.hid (hV3 ▸ M2.out.setCell (p := ⟨S, k, none⟩) (by have := E2.out.2.2.1; simp only; omega) (.int .i64 1000)); clear hV3; have E3 := Lib.hid (G3.out.elem (i := 3) (k := j) rfl rfl (boo_at (xs := (refTo l k).tk) (by omega))); have d3 := G3.out.cell 3; simp only [List.getElem?_cons_succ, List.getElem?_cons_zero, hle3] at d3; have s3 := G3.out.lt)
                | (refine wpList_store1 rfl 4 (.tmp 98) (.const (.bool true)) rfl ⟨T, j, none⟩ rfl (.bool true) _ rfl rfl info4c E3.out.1 E3.out.2.1 rfl ?_; intro V4 hV4; have G4 := Lib.hid (hV4 ▸ G3.out.stored (i := 3) (k := j) (x := .bool true) rfl rfl); have M4 := Lib.hid (hV4 ▸ M3.out.setCell (p := ⟨T, j, none⟩) (by have := E3.out.2.2.1; simp only; omega) (.bool true)); clear hV4))
              refine ⟨⟨k + 1, by omega, by go_num, ?_, M4.out⟩, by simp [intOf]; omega⟩
              rw [show refTo l (k + 1) = refStep.pairS (refTo l k) j k by rw [HSTP.out]; simp]
              have h := G4.out
              simp only [rowsS, rows4, refStep.pairS, ints_set, boos_set]
              exact h
      · have hbk : ((l.getD k default).kind != 1) = true := by simpa using hkind
        have hst : refTo l (k + 1) = refTo l k := by
          show refStep l (refTo l k) k = _
          unfold refStep
          rw [if_neg hkind]
        have HST := Lib.hid hst
        generalize (l.getD k default).kind = kk at *
        clear hst hcs hrd hww h4 hkind eF eK eS eT fF fK fS fT
        go_wp2
        refine ⟨⟨k + 1, by omega, by go_num, ?_, hb⟩, by simp [intOf]; omega⟩
        rw [HST.out]
        exact hF
    · have hf := hF.out
      have hres : wr.heap[w.heap.size]? = some (.cells #[.slice none 0 0, .slice none 0 0, .slice none 0 0, .slice none 0 0] 54 (0, 0)) := (hb.out.block _ (by omega)).trans HRES.out
      have HRS := Lib.hid hres
      have hcs : CellsAt wr ⟨g, 0, none⟩ [v0, v1, v2, v3] := fun j v hv => by
        rw [Addr.add_lit, Nat.zero_add, hf.cell j, hv]
      have HCS := Lib.hid hcs
      clear hf hres hcs
      go_wp2_with (first
        | (refine wpList_load_cells rfl 54 _ rfl ⟨g, 0, none⟩ rfl [v0, v1, v2, v3] Try.underlying54 rfl info54 HCS.out ?_)
        | (refine wpList_store_row rfl 54 (.tmp 2) (.tmp 99) rfl w.heap.size #[v0, v1, v2, v3] rfl rfl 54 _ HRS.out info54 rfl (ones4 hF.out) ?_))
      have hg2 : (wr.setRow w.heap.size #[v0, v1, v2, v3]).heap[w.heap.size]? = some (.cells #[v0, v1, v2, v3] 54 (0, 0)) := setRow_heap _ _ _ _ _ _ HRS.out
      refine bodyPost_ret (results_cell_row rfl _ _ w.heap.size 54 _ (0, 0) _ rfl hg2 Try.underlying54 rfl info54) rfl ?_
      obtain rfl : k = l.length := by omega
      refine ⟨v0, v1, v2, v3, w.heap.size + 3, g, rfl, hF.out.keep (fun j hj _ => setRow_other _ _ _ _ (by omega)), ?_⟩
      exact (HBEL.out.trans (hb.out.mono (by omega))).trans ⟨rfl, rfl, rfl, by simp, fun j hj => setRow_other _ _ _ _ (by omega)⟩
end Go.Proofs.Ythhmamkphcgocaa

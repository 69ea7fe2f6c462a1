/- rename's finder.copies, by a contract. The copies: the reference's, and that both agree. rename.Find over a store that has none of the texts. -/
import Derived.Test.YtbmpidacoohdmaaGreatF16
import Derived.Shelf.SlicesQ.IndexFunc
import Derived.Test.YtbmpidacoohdmaaGreatF12
import Derived.Test.YtbmpidacoohdmaaGreatF17
import Derived.Test.YtbmpidacoohdmaaGreatF22
import Derived.Test.YtbmpidacoohdmaaGreatF18
namespace Go.Proofs.YtbmpidacoohdmaaGreat.Rn
open Lib renaming hid → hI
open Go.RowKit

abbrev Okc := {x : Chg // x.ok}
instance : Inhabited Okc := ⟨⟨⟨0, ByteArray.empty, ByteArray.empty, 0, 0, List.replicate 32 0, List.replicate 32 0, 0⟩, by simp, by simp, by decide, by decide⟩⟩
def copHit (l : List Chg) (k i : Nat) : Bool := (l.getD i default).kind == 3 && decide ((l.getD i default).oid = (l.getD k default).nid)
def copyAt (l : List Chg) (k : Nat) : Int := firstFrom (copHit l k) l.length 0
def pairC (s : St) (src tgt : Nat) : St := ⟨s.fr.set tgt src, s.sc.set tgt 1000, s.kd.set tgt 5, s.tk⟩
def copStep (l : List Chg) (s : St) (k : Nat) : St :=
  if isTarget l s k then (if 0 ≤ copyAt l k then pairC s (copyAt l k).toNat k else s) else s
def copTo (l : List Chg) (s : St) : Nat → St
  | 0 => s
  | k + 1 => copStep l (copTo l s k) k
theorem idx_first {α : Type} [Inhabited α] (p : α → Bool) (d : α) (q : Nat → Bool) : ∀ (zs : List α) (i : Nat), (∀ j, j < zs.length → p zs[j]! = q (i + j)) → Lib.idxByFrom (fun _ y => p y) d zs i = firstFrom q zs.length i
  | [], _, _ => rfl
  | z :: zs, i, h => by
    have h0 := h 0 (by simp)
    simp only [List.getElem!_cons_zero, Nat.add_zero] at h0
    have ih := idx_first p d q zs (i + 1) (fun j hj => by have := h (j + 1) (by simp; omega); rw [show i + 1 + j = i + (j + 1) by omega]; simpa using this)
    simp only [Lib.idxByFrom, List.length_cons, firstFrom, h0, ih]
open Classical in
noncomputable def toOk (x : Chg) : Okc := if h : x.ok then ⟨x, h⟩ else default
theorem toOk_ok (x : Chg) (h : x.ok) : (toOk x).1 = x := by unfold toOk; rw [dif_pos h]
theorem okc_at (l : List Chg) (ho : ∀ (k : Nat) (x : Chg), l[k]? = some x → x.ok) (j : Nat) (hj : j < l.length) : (l.map toOk)[j]!.1 = l.getD j default := by
  have hk : (l.getD j default).ok := ho j _ (by simp [hj])
  rw [getElem!_pos _ _ (by rw [List.length_map]; exact hj), List.getElem_map, show l[j] = l.getD j default by simp [hj]]
  exact toOk_ok _ hk

set_option maxHeartbeats 2000000 in
theorem cop_pred {w : World} {B b F S K T : Nat} {A : Option Addr} {c : Nat} {l : List Chg} {s : St} (h : Fnd w B b F S K T A c l s) (k : Nat) (hk : k < l.length) (fb kb : Nat)
    (cf : w.cell? ⟨fb, 0, none⟩ = some (.pointer (some ⟨b, 0, none⟩))) (ck : w.cell? ⟨kb, 0, none⟩ = some (.int .i64 k)) (hfb : fb < w.heap.size) (hkb : kb < w.heap.size) :
    PredBelow Tryz.prog 52 #[.pointer (some ⟨fb, 0, none⟩), .pointer (some ⟨kb, 0, none⟩)] (fun x : Okc => .agg x.1.cells.toArray) (fun x => x.1.kind == 3 && decide (x.1.oid = (l.getD k default).nid)) w := by
  rintro W ⟨x, hx⟩ hb
  have hn40 := h.short
  have BW := hI (hb.alloc hb.size (.cells x.cells.toArray 53))
  have hr : Fnd (W.alloc (.cells x.cells.toArray 53)) B b F S K T A c l s := h.keep fun g hg => BW.out.block g hg
  have cf' : (W.alloc (.cells x.cells.toArray 53)).cell? ⟨fb, 0, none⟩ = some (.pointer (some ⟨b, 0, none⟩)) := (BW.out.cell (p := ⟨fb, 0, none⟩) hfb).trans cf
  have ck' : (W.alloc (.cells x.cells.toArray 53)).cell? ⟨kb, 0, none⟩ = some (.int .i64 k) := (BW.out.cell (p := ⟨kb, 0, none⟩) hkb).trans ck
  have h0 : (W.alloc (.cells x.cells.toArray 53)).cell? ⟨b, 0, none⟩ = some (.slice A l.length c) := hr.cell 0
  have hcx : CellsAt (W.alloc (.cells x.cells.toArray 53)) ⟨W.heap.size, 0, none⟩ x.cells := fun j u hj => by
    rw [Addr.add_lit, cell_of_row _ _ _ _ _ _ (heap_alloc_new _ _)]; simpa using hj
  have hx0 : (W.alloc (.cells x.cells.toArray 53)).cell? ⟨W.heap.size, 0, none⟩ = some (.int .i64 x.kind) := hcx.zero rfl
  obtain ⟨ad, rfl, _, hcs, hok⟩ := hr.at_ k hk
  have ho : ∀ w', (∃ n, w' = (W.alloc (.cells x.cells.toArray 53)).drewN n) → CellsAt w' ⟨W.heap.size, 5, none⟩ (u8s x.oid) := by
    rintro _ ⟨n, rfl⟩
    have hp := (hcx.part 5).take 32
    rw [Chg.oid_part _ hx, Addr.add_lit, Nat.zero_add] at hp
    exact hp
  have hn : ∀ w', (∃ n, w' = (W.alloc (.cells x.cells.toArray 53)).drewN n) → CellsAt w' ⟨(ad.add (k * 70)).block, (ad.add (k * 70)).off + 37, none⟩ (u8s (l.getD k default).nid) := by
    rintro _ ⟨n, rfl⟩
    have hp := (hcs.part 37).take 32
    rw [Chg.nid_part _ hok] at hp
    exact hp
  have HO := hI ho
  have HN := hI hn
  have HLO := hI (show (Tryz.prog.info? 51).map (·.size) = some (u8s x.oid).length by rw [u8s_length, hx.oid]; exact info44)
  have HLN := hI (show (Tryz.prog.info? 51).map (·.size) = some (u8s (l.getD k default).nid).length by rw [u8s_length, hok.nid]; exact info44)
  have hq1 : ∀ W, (Op.equalIn 10000 51 (.agg (u8s x.oid).toArray) (.agg (u8s (l.getD k default).nid).toArray)).run Tryz.prog W = .ok (decide (x.oid = (l.getD k default).nid)) W := fun W => run_equalIn_u8s (P := Tryz.prog) (n := 32) W Tryz.underlying51 Tryz.underlying5 (Option.map_eq_some_iff.1 info5).choose_spec.1 (Option.map_eq_some_iff.1 info5).choose_spec.2 9998 x.oid (l.getD k default).nid hx.oid hok.nid
  show Calls Tryz.prog 52 #[.agg x.cells.toArray, .pointer (some ⟨fb, 0, none⟩), .pointer (some ⟨kb, 0, none⟩)] W _
  change Calls _ _ _ _ fun e w' => e = .returned (.bool (x.kind == 3 && decide (x.oid = (l.getD k default).nid))) ∧ Below w.heap.size w w'
  clear ho hn hcs hcx hok hr h cf ck hfb hkb hx hb
  generalize (l.getD k default).nid = Y at *
  show Calls _ _ _ _ fun e w' => e = .returned (.bool (x.kind == 3 && decide (x.oid = Y))) ∧ Below w.heap.size w w'
  go_enter Tryz.func52, Tryz.ntmps52
  by_cases h3 : (x.kind == 3) = true
  · go_wp2_with fail
    refine wp_region_quiet_lit (by kernel_rfl) (by kernel_rfl) ?_
    repeat (first
      | (go_big_quiet_want; refine quiet_load_cells 51 _ rfl _ rfl (u8s x.oid) Tryz.underlying51 rfl HLO.out HO.out ?_; simp only [Act.put, List.setIfInBounds_toArray, List.set_cons_succ, List.set_cons_zero]; go_big_quiet_on)
      | (go_big_quiet_want; refine quiet_load_cells 51 _ rfl _ rfl (u8s Y) Tryz.underlying51 rfl HLN.out HN.out ?_; simp only [Act.put, List.setIfInBounds_toArray, List.set_cons_succ, List.set_cons_zero]; go_big_quiet_on)
      | go_big_quiet_step (fail))
    refine wpQuiet_nil ?_
    intro _ hw'
    obtain ⟨nq, hw''⟩ := hw'
    subst hw''
    go_wp2
    go_ret
    exact ⟨by simp [h3], below_drewN BW.out _⟩
  · have h3 : (x.kind == 3) = false := by simpa using h3
    go_wp2_with fail
    refine wp_region_quiet_lit (by kernel_rfl) (by kernel_rfl) ?_
    repeat (first
      | (go_big_quiet_want; refine quiet_load_cells 51 _ rfl _ rfl (u8s x.oid) Tryz.underlying51 rfl HLO.out HO.out ?_; simp only [Act.put, List.setIfInBounds_toArray, List.set_cons_succ, List.set_cons_zero]; go_big_quiet_on)
      | (go_big_quiet_want; refine quiet_load_cells 51 _ rfl _ rfl (u8s Y) Tryz.underlying51 rfl HLN.out HN.out ?_; simp only [Act.put, List.setIfInBounds_toArray, List.set_cons_succ, List.set_cons_zero]; go_big_quiet_on)
      | go_big_quiet_step (fail))
    refine wpQuiet_nil ?_
    intro _ hw'
    obtain ⟨nq, hw''⟩ := hw'
    subst hw''
    go_wp2
    go_ret
    exact ⟨by simp [h3], below_drewN BW.out _⟩

set_option maxHeartbeats 400000 in
theorem pair_core5 (w : World) (b F S K n : Nat) (vF vS vK : Value) (tn sn : Nat)
  (h1 : w.cell? ⟨b,1,none⟩ = some (.slice (some ⟨F,0,none⟩) n n))
  (h2 : w.cell? ⟨b,2,none⟩ = some (.slice (some ⟨S,0,none⟩) n n))
  (h3 : w.cell? ⟨b,3,none⟩ = some (.slice (some ⟨K,0,none⟩) n n))
  (cF : w.cell? ⟨F,tn,none⟩ = some vF) (cS : w.cell? ⟨S,tn,none⟩ = some vS) (cK : w.cell? ⟨K,tn,none⟩ = some vK)
  (fF : w.frozen? ⟨F,tn,none⟩ = false) (fS : w.frozen? ⟨S,tn,none⟩ = false) (fK : w.frozen? ⟨K,tn,none⟩ = false)
  (_bF : b ≠ F) (_bS : b ≠ S) (_bK : b ≠ K) (FSX : F ≠ S) (FK : F ≠ K) (SK : S ≠ K) (ht : tn < n) :
    Calls Tryz.prog 44 #[.pointer (some ⟨b,0,none⟩), .int .i64 sn, .int .i64 tn, .int .i64 5, .int .i64 1000] w fun e w' => e = .returned (.tuple #[]) ∧ w' = (((w.setCell ⟨F,tn,none⟩ (.int .i64 sn)).setCell ⟨K,tn,none⟩ (.int .i64 5)).setCell ⟨S,tn,none⟩ (.int .i64 1000)).drew := by
  go_enter Tryz.func44, Tryz.ntmps44
  go_wp2_with fail
  go_region
  go_wp2
  go_end0
  exact ⟨rfl, rfl⟩

theorem pair5_any {w : World} {B b F S K T : Nat} {A : Option Addr} {c : Nat} {l : List Chg} {s : St} (h : Fnd w B b F S K T A c l s) (sn tn : Nat) (ht : tn < l.length) :
    Calls Tryz.prog 44 #[.pointer (some ⟨b,0,none⟩), .int .i64 sn, .int .i64 tn, .int .i64 5, .int .i64 1000] w fun e w' => e = .returned (.tuple #[]) ∧ Fnd w' B b F S K T A c l (pairC s sn tn) ∧ Below B w w' ∧ (∀ g, g ≠ F → g ≠ S → g ≠ K → w'.heap[g]? = w.heap[g]?) ∧ w'.heap.size = w.heap.size := by
  have bF : b ≠ F := ne_of_types h.self h.hF (by decide)
  have bS : b ≠ S := ne_of_types h.self h.hS (by decide)
  have bK : b ≠ K := ne_of_types h.self h.hK (by decide)
  have FT : F ≠ T := ne_of_types h.hF h.hT (by decide)
  have ST : S ≠ T := ne_of_types h.hS h.hT (by decide)
  have KT : K ≠ T := ne_of_types h.hK h.hT (by decide)
  refine (pair_core5 w b F S K l.length _ _ _ tn sn (h.cell 1) (h.cell 2) (h.cell 3) (ints_cell h.hF tn (by rw [h.lF]; exact ht)) (ints_cell h.hS tn (by rw [h.lS]; exact ht)) (ints_cell h.hK tn (by rw [h.lK]; exact ht))
    (frozen_of_row w F tn _ _ h.hF) (frozen_of_row w S tn _ _ h.hS) (frozen_of_row w K tn _ _ h.hK) bF bS bK h.FSX h.FK h.SK ht).mono ?_
  rintro e w' ⟨rfl, rfl⟩
  have far : ∀ g, g ≠ F → g ≠ S → g ≠ K → (((w.setCell ⟨F,tn,none⟩ (.int .i64 sn)).setCell ⟨K,tn,none⟩ (.int .i64 5)).setCell ⟨S,tn,none⟩ (.int .i64 1000)).heap[g]? = w.heap[g]? := fun g g1 g2 g3 => by
    rw [heap_setCell_other _ _ _ _ g2, heap_setCell_other _ _ _ _ g3, heap_setCell_other _ _ _ _ g1]
  have nF := h.bF; have nS := h.bS; have nK := h.bK
  refine ⟨rfl, ⟨(far b bF bS bK).trans h.self, ?_, ?_, ?_, (far T FT.symm ST.symm KT.symm).trans h.hT, by simp [pairC, h.lF], by simp [pairC, h.lS], by simp [pairC, h.lK], h.lT, h.bb, h.bF, h.bS, h.bK, h.bT, h.FSX, h.FK, h.SK, ?_, h.oks, h.short⟩, ?_, far, by simp⟩
  · show (((w.setCell ⟨F,tn,none⟩ (.int .i64 sn)).setCell ⟨K,tn,none⟩ (.int .i64 5)).setCell ⟨S,tn,none⟩ (.int .i64 1000)).heap[F]? = _
    rw [heap_setCell_other _ _ _ _ h.FSX, heap_setCell_other _ _ _ _ h.FK, heap_setCell_same _ _ _ _ _ _ h.hF, intCells_set]
    rfl
  · show (((w.setCell ⟨F,tn,none⟩ (.int .i64 sn)).setCell ⟨K,tn,none⟩ (.int .i64 5)).setCell ⟨S,tn,none⟩ (.int .i64 1000)).heap[S]? = _
    have e : ((w.setCell ⟨F,tn,none⟩ (.int .i64 sn)).setCell ⟨K,tn,none⟩ (.int .i64 5)).heap[S]? = some (.cells (intCells s.sc) 3 (0, 0)) := by
      rw [heap_setCell_other _ _ _ _ h.SK, heap_setCell_other _ _ _ _ h.FSX.symm, h.hS]
    rw [heap_setCell_same _ _ _ _ _ _ e, intCells_set]
    rfl
  · show (((w.setCell ⟨F,tn,none⟩ (.int .i64 sn)).setCell ⟨K,tn,none⟩ (.int .i64 5)).setCell ⟨S,tn,none⟩ (.int .i64 1000)).heap[K]? = _
    have e : (w.setCell ⟨F,tn,none⟩ (.int .i64 sn)).heap[K]? = some (.cells (intCells s.kd) 3 (0, 0)) := by
      rw [heap_setCell_other _ _ _ _ h.FK.symm, h.hK]
    rw [heap_setCell_other _ _ _ _ h.SK.symm, heap_setCell_same _ _ _ _ _ _ e, intCells_set]
    rfl
  · exact h.reads.keep fun p hp => World.cell?_of_block (far _ (by omega) (by omega) (by omega))
  · exact ((((Below.refl B w).setCell (p := ⟨F, tn, none⟩) h.bF _).setCell (p := ⟨K, tn, none⟩) h.bK _).setCell (p := ⟨S, tn, none⟩) h.bS _).drew

/-- The first change of kind 3 whose old ID is the new ID of the k-th. -/
theorem copIdx {w : World} {B b F S K T : Nat} {A : Option Addr} {c : Nat} {l : List Chg} {s : St} (h : Fnd w B b F S K T A c l s) (k : Nat) (hk : k < l.length) (fb kb : Nat)
    (cf : w.cell? ⟨fb, 0, none⟩ = some (.pointer (some ⟨b, 0, none⟩))) (ck : w.cell? ⟨kb, 0, none⟩ = some (.int .i64 k)) (hfb : fb < w.heap.size) (hkb : kb < w.heap.size) :
    Calls Tryz.prog 51 #[.slice A l.length c, .func (.func 52) #[] #[.pointer (some ⟨fb, 0, none⟩), .pointer (some ⟨kb, 0, none⟩)]] w fun e w' => e = .returned (.int .i64 (copyAt l k)) ∧ Below w.heap.size w w' := by
  obtain ⟨ad, rfl, hb, hcs, _⟩ := h.at_ 0 (by omega)
  have h0 := hcs.zero rfl
  rw [Nat.zero_mul, show ad.add 0 = ad by simp [Addr.add]] at h0
  obtain ⟨ab, ao, sp⟩ := ad
  have hsp : sp = none := by
    cases sp with
    | none => rfl
    | some x =>
      exfalso
      unfold World.cell? at h0
      revert h0
      cases w.heap[ab]? with
      | none => intro q; cases q
      | some o => cases o <;> (intro q; simp at q)
  subst hsp
  have hB : B ≤ w.heap.size := Nat.le_trans h.bb (Nat.le_of_lt (Array.getElem?_eq_some_iff.1 h.self).1)
  have he : copyAt l k = Lib.idxBy (fun _ (y : Okc) => y.1.kind == 3 && decide (y.1.oid = (l.getD k default).nid)) ((l.map toOk).take l.length) default := by
    rw [List.take_of_length_le (by rw [List.length_map]; exact Nat.le_refl _)]
    unfold Lib.idxBy copyAt
    rw [idx_first _ _ (copHit l k) (l.map toOk) 0 (fun j hj => by rw [okc_at l h.oks j (by rw [List.length_map] at hj; exact hj), Nat.zero_add]; rfl), List.length_map]
  rw [he]
  have hlen : l.length ≤ 40 := h.short
  exact AnyQ.slices_IndexFunc Tryz.idxChg 70 Tryz.isAgg53 Tryz.sizeOf53 (fun x : Okc => x.1.cells) (fun x => Chg.cells_length _ x.2) _ 52 _ (enters_of Tryz.func52 (by kernel_rfl) rfl) ab ao l.length c (l.map toOk) w (cop_pred h k hk fb kb cf ck hfb hkb) (by rw [List.length_map]; exact Nat.le_refl _) (by omega) (by show ab < _; exact Nat.lt_of_lt_of_le hb hB) (fun j hj i v hv => by
    rw [List.length_map] at hj
    rw [okc_at l h.oks j hj] at hv
    obtain ⟨a2, e2, _, hc2, _⟩ := h.at_ j hj
    injection e2 with e2
    subst e2
    have := hc2 i v hv
    rw [Addr.add_add, Addr.add_lit] at this
    rw [Nat.add_assoc]
    exact this)

set_option maxHeartbeats 2000000 in
theorem copies_any {w : World} {B b F S K T : Nat} {A : Option Addr} {c : Nat} {l : List Chg} {s : St} (h : Fnd w B b F S K T A c l s) :
    Calls Tryz.prog 20 #[.pointer (some ⟨b, 0, none⟩)] w fun e w' => e = .returned (.tuple #[]) ∧ Fnd w' B b F S K T A c l (copTo l s l.length) ∧ Below B w w' := by
  have h0 : w.cell? ⟨b, 0, none⟩ = some (.slice A l.length c) := h.cell 0
  have hn40 := h.short
  have hlt : b < w.heap.size := (Array.getElem?_eq_some_iff.1 h.self).1
  have hB := h.bb
  have hbx : Fnd (w.alloc (.cells #[.pointer (some ⟨b, 0, none⟩)] 67)) B b F S K T A c l s := h.alloc _
  have HB := hI hbx
  clear hbx h
  go_enter Tryz.func20, Tryz.ntmps20
  go_wp2
  go_loopw [9] (fun i wr => ∃ k : Nat, k ≤ l.length ∧ i = .int .i64 k ∧ Hid (Fnd wr B b F S K T A c l (copTo l s k)) ∧ Hid (wr.heap[w.heap.size]? = some (.cells #[.pointer (some ⟨b, 0, none⟩)] 67 (0, 0))) ∧ Hid (Below B w wr)) (fun i _ => l.length - (intOf i).toNat)
  case atStart => exact ⟨0, Nat.zero_le _, rfl, HB.out, heap_alloc_new _ _, (Below.refl _ _).alloc (by omega) _⟩
  case round =>
    obtain ⟨k, hk, rfl, hr, hf, hb⟩ := hrel
    clear h0
    by_cases hkl : k < l.length
    · have hW : Fnd (wr.alloc (.cells #[.int .i64 k] 3)) B b F S K T A c l (copTo l s k) := hr.out.alloc _
      have hsz : (wr.alloc (.cells #[.int .i64 k] 3)).heap.size = wr.heap.size + 1 := by simp
      have hfz : w.heap.size < wr.heap.size := (Array.getElem?_eq_some_iff.1 hf.out).1
      have hWb : Below B w (wr.alloc (.cells #[.int .i64 k] 3)) := hb.out.alloc (by have := hr.out.bb; have := (Array.getElem?_eq_some_iff.1 hr.out.self).1; omega) _
      have hWf : (wr.alloc (.cells #[.int .i64 k] 3)).heap[w.heap.size]? = some (.cells #[.pointer (some ⟨b, 0, none⟩)] 67 (0, 0)) := by
        exact (Below.heap_alloc _ _ _ (Array.getElem?_eq_some_iff.1 hf.out).1).trans hf.out
      have hWk : (wr.alloc (.cells #[.int .i64 k] 3)).heap[wr.heap.size]? = some (.cells #[.int .i64 k] 3 (0, 0)) := heap_alloc_new _ _
      have cf : (wr.alloc (.cells #[.int .i64 k] 3)).cell? ⟨w.heap.size, 0, none⟩ = some (.pointer (some ⟨b, 0, none⟩)) := cell_of_row _ _ 0 _ _ _ hWf
      have ck : (wr.alloc (.cells #[.int .i64 k] 3)).cell? ⟨wr.heap.size, 0, none⟩ = some (.int .i64 k) := cell_of_row _ _ 0 _ _ _ hWk
      have cb : (wr.alloc (.cells #[.int .i64 k] 3)).cell? ⟨b, 0, none⟩ = some (.slice A l.length c) := hW.cell 0
      have hct := target_any hW k hkl
      have hix := copIdx hW k hkl w.heap.size wr.heap.size cf ck (by rw [hsz]; omega) (by rw [hsz]; omega)
      have hst : copTo l s (k + 1) = copStep l (copTo l s k) k := rfl
      unfold copStep at hst
      have b1 : copyAt l k = -1 ∨ ∃ j : Nat, j < l.length ∧ copyAt l k = j := firstFrom_bd (copHit l k) l.length l.length 0 (by omega)
      generalize copyAt l k = a1 at *
      generalize isTarget l (copTo l s k) k = tg at *
      have HST := hI hst
      have HW := hI hW
      have HWB := hI hWb
      have HWF := hI hWf
      have HWK := hI hWk
      have HCT := hI hct
      have HIX := hI hix
      clear hst hW hWb hWf hct hix hWk hsz cf ck cb
      have FLT := hI hfz
      have hbw := hI (Nat.le_trans HW.out.bb (Nat.le_of_lt (Array.getElem?_eq_some_iff.1 HW.out.self).1))
      have hfc : wr.cell? ⟨w.heap.size, 0, none⟩ = some (.pointer (some ⟨b, 0, none⟩)) := cell_of_row _ _ 0 _ _ _ hf.out
      have hbc : wr.cell? ⟨b, 0, none⟩ = some (.slice A l.length c) := hr.out.cell 0
      have hblt : b < wr.heap.size := (Array.getElem?_eq_some_iff.1 hr.out.self).1
      cases tg with
      | false =>
        clear b1
        go_wp2_with (go_at_call 40; refine HCT.out.mono ?_; rintro e w' ⟨rfl, rfl⟩)
        refine ⟨⟨k + 1, by omega, by go_num, ?_, ?_, ?_⟩, by simp [intOf]; omega⟩
        · rw [show copTo l s (k + 1) = copTo l s k by rw [HST.out]; simp]; exact (HW.out : _)
        · exact (HWF.out : _)
        · exact (HWB.out : _)
      | true =>
        rcases b1 with rfl | ⟨j, hj, rfl⟩
        · go_wp2_with (first
              | (go_at_call 40; refine HCT.out.mono ?_; rintro e w' ⟨rfl, rfl⟩)
              | (go_at_call 51; refine HIX.out.mono ?_; rintro e w2 ⟨rfl, hb2⟩; have HB2 := hI hb2; clear hb2))
          refine ⟨⟨k + 1, by omega, by go_num, ?_, ?_, ?_⟩, by simp [intOf]; omega⟩
          · rw [show copTo l s (k + 1) = copTo l s k by rw [HST.out]; simp]; exact (HW.out.keep fun g hg => HB2.out.block g hg)
          · exact (HB2.out.block _ (by rw [World.size_alloc]; have := FLT.out; omega)).trans HWF.out
          · exact (HWB.out.trans (HB2.out.mono hbw.out))
        · go_wp2_with (first
              | (go_at_call 40; refine HCT.out.mono ?_; rintro e w' ⟨rfl, rfl⟩)
              | (go_at_call 51; refine HIX.out.mono ?_; rintro e w2 ⟨rfl, hb2⟩; have HB2 := hI hb2; clear hb2; have hcf2 : w2.cell? ⟨w.heap.size, 0, none⟩ = some (.pointer (some ⟨b, 0, none⟩)) := cell_of_row _ _ 0 _ _ _ ((HB2.out.block _ (by rw [World.size_alloc]; have := FLT.out; omega)).trans HWF.out); have hck2 : w2.cell? ⟨wr.heap.size, 0, none⟩ = some (.int .i64 k) := cell_of_row _ _ 0 _ _ _ ((HB2.out.block _ (by rw [World.size_alloc]; omega)).trans HWK.out))
              | (go_at_call 44; refine (pair5_any (HW.out.keep fun g hg => HB2.out.block g hg) j k hkl).mono ?_; rintro e w' ⟨rfl, hp1, hp2, hp3, hp4⟩))
          refine ⟨⟨k + 1, by omega, by go_num, ?_, ?_, ?_⟩, by simp [intOf]; omega⟩
          · rw [show copTo l s (k + 1) = pairC (copTo l s k) j k by rw [HST.out]; simp]; exact (hp1 : _)
          · exact ((hp3 _ (ne_of_types HWF.out HW.out.hF (by decide)) (ne_of_types HWF.out HW.out.hS (by decide)) (ne_of_types HWF.out HW.out.hK (by decide))).trans ((HB2.out.block _ (by rw [World.size_alloc]; have := FLT.out; omega)).trans HWF.out) : _)
          · exact ((HWB.out.trans (HB2.out.mono hbw.out)).trans hp2 : _)
    · go_wp2
      go_end0
      obtain rfl : k = l.length := by omega
      exact ⟨rfl, hr.out, hb.out⟩
end Go.Proofs.YtbmpidacoohdmaaGreat.Rn
namespace Go.Proofs.YtbmpidacoohdmaaGreat.Rn
open Lib renaming hid → hI
open Go.RowKit

def isT5 (l : List Chg) (s : St) (k : Nat) : Bool := (l.getD k default).kind == 1 && (s.kd.getD k 0 == 0 || s.kd.getD k 0 == 5)
def rcS (l : List Chg) (r : St) (k : Nat) : Nat → St
  | 0 => r
  | j + 1 => if isT5 l (rcS l r k j) k && copHit l k (l.length - 1 - j) then pairC (rcS l r k j) (l.length - 1 - j) k else rcS l r k j
def rcTo (l : List Chg) (r : St) : Nat → St
  | 0 => r
  | k + 1 => rcS l (rcTo l r k) k l.length
theorem rcS_len (l : List Chg) (r : St) (k : Nat) (h : r.fr.length = l.length ∧ r.sc.length = l.length ∧ r.kd.length = l.length ∧ r.tk.length = l.length) : ∀ j, (rcS l r k j).fr.length = l.length ∧ (rcS l r k j).sc.length = l.length ∧ (rcS l r k j).kd.length = l.length ∧ (rcS l r k j).tk.length = l.length := by
  intro j
  induction j with
  | zero => exact h
  | succ j ih =>
    unfold rcS
    split
    · simpa [pairC] using ih
    · exact ih
theorem rcTo_len (l : List Chg) (r : St) (h : r.fr.length = l.length ∧ r.sc.length = l.length ∧ r.kd.length = l.length ∧ r.tk.length = l.length) : ∀ k, (rcTo l r k).fr.length = l.length ∧ (rcTo l r k).sc.length = l.length ∧ (rcTo l r k).kd.length = l.length ∧ (rcTo l r k).tk.length = l.length := by
  intro k
  induction k with
  | zero => exact h
  | succ k ih => exact rcS_len l _ k ih _
theorem pairC_two (s : St) (a b k : Nat) : pairC (pairC s a k) b k = pairC s b k := by simp [pairC, List.set_set]
theorem kd_at (s : St) (a k : Nat) (h : k < s.kd.length) : (pairC s a k).kd.getD k 0 = 5 := by simp [pairC, List.getD_eq_getElem?_getD, h]
theorem kd_off (s : St) (a k j : Nat) (h : j ≠ k) : (pairC s a k).kd.getD j 0 = s.kd.getD j 0 := by
  simp [pairC, List.getD_eq_getElem?_getD, List.getElem?_set_ne (fun e => h e.symm)]
theorem rcS_no (l : List Chg) (r : St) (k : Nat) (h : isT5 l r k = false) : ∀ j, rcS l r k j = r := by
  intro j
  induction j with
  | zero => rfl
  | succ j ih => unfold rcS; rw [ih, h]; rfl
theorem rcS_eq (l : List Chg) (r : St) (k : Nat) (hk : k < r.kd.length) (h1 : (l.getD k default).kind = 1) (h0 : r.kd.getD k 0 = 0) : ∀ j, j ≤ l.length →
    rcS l r k j = if 0 ≤ firstFrom (copHit l k) j (l.length - j) then pairC r (firstFrom (copHit l k) j (l.length - j)).toNat k else r := by
  intro j
  induction j with
  | zero => intro _; rfl
  | succ j ih =>
    intro hj
    have e1 : l.length - (j + 1) = l.length - 1 - j := by omega
    have e2 : l.length - 1 - j + 1 = l.length - j := by omega
    have t : isT5 l (rcS l r k j) k = true := by
      rw [ih (by omega)]
      unfold isT5
      rw [h1]
      split
      · rw [kd_at _ _ _ hk]; rfl
      · rw [h0]; rfl
    unfold rcS
    rw [t, e1]
    unfold firstFrom
    rw [e2]
    cases hc : copHit l k (l.length - 1 - j) with
    | true =>
      rw [if_pos (show (true && true) = true from rfl), if_pos (show true = true from rfl), if_pos (Int.natCast_nonneg _), Int.toNat_natCast, ih (by omega)]
      split
      · exact pairC_two _ _ _ _
      · rfl
    | false =>
      rw [if_neg (show ¬ (true && false) = true by decide), if_neg (show ¬ false = true by decide)]
      exact ih (by omega)
structure Agc (l : List Chg) (s r : St) (k : Nat) : Prop where
  ag : Agree l s r l.length
  no : ∀ j, k ≤ j → s.kd.getD j 0 = 0 ∨ s.kd.getD j 0 = 4
theorem agc (l : List Chg) {s r : St} (h : Agc l s r 0) : ∀ k, k ≤ l.length → Agc l (copTo l s k) (rcTo l r k) k := by
  intro k
  induction k with
  | zero => intro _; exact h
  | succ k ih =>
    intro hk
    have h := ih (by omega)
    show Agc l (copStep l (copTo l s k) k) (rcS l (rcTo l r k) k l.length) (k + 1)
    generalize copTo l s k = s at *
    generalize rcTo l r k = r at *
    have hno := h.no k (Nat.le_refl _)
    have same : Agc l s r (k + 1) := ⟨h.ag, fun j hj => h.no j (by omega)⟩
    unfold copStep
    by_cases ht : isTarget l s k = true
    · simp only [isTarget, Bool.and_eq_true, beq_iff_eq] at ht
      obtain ⟨h1, h0⟩ := ht
      have hr0 : r.kd.getD k 0 = 0 := by rw [← h.ag.kd]; exact h0
      rw [if_pos (by simp only [isTarget, Bool.and_eq_true, beq_iff_eq]; exact ⟨h1, h0⟩), rcS_eq l r k (by rw [← h.ag.kd, h.ag.lK]; omega) h1 hr0 l.length (Nat.le_refl _), Nat.sub_self]
      have hb := firstFrom_bd (copHit l k) l.length l.length 0 (by omega)
      unfold copyAt
      rcases hb with hb | ⟨j, hj, hb⟩
      · rw [hb, if_neg (by omega), if_neg (by omega)]
        exact same
      · rw [hb, if_pos (by omega), if_pos (by omega), Int.toNat_natCast]
        have a := h.ag
        refine ⟨⟨by simp [pairC, a.kd], by simp [pairC, a.sc], a.tk, by simp [pairC, a.lF], by simp [pairC, a.rF], by simp [pairC, a.lK], ?_, ?_⟩, ?_⟩
        · intro m hm
          by_cases hmk : m = k
          · subst hmk
            have hml : m < l.length := by omega
            refine ⟨j, hj, ?_, ?_⟩
            · simp [pairC, List.getD_eq_getElem?_getD, a.lF, hml]
            · simp [pairC, List.getD_eq_getElem?_getD, a.rF, hml]
          · have hm' : 0 < s.kd.getD m 0 := by rw [kd_off _ _ _ _ hmk] at hm; exact hm
            obtain ⟨i, q1, q2, q3⟩ := a.fr m hm'
            refine ⟨i, q1, ?_, ?_⟩
            · simpa [pairC, List.getD_eq_getElem?_getD, List.getElem?_set_ne (fun e => hmk e.symm)] using q2
            · simpa [pairC, List.getD_eq_getElem?_getD, List.getElem?_set_ne (fun e => hmk e.symm)] using q3
        · intro m hm
          rw [kd_off _ _ _ _ (by omega)]
          exact a.zero m hm
        · intro m hm
          rw [kd_off _ _ _ _ (by omega)]
          exact h.no m (by omega)
    · rw [if_neg ht, rcS_no l r k (by
        simp only [isTarget, Bool.and_eq_true, beq_iff_eq, not_and] at ht
        unfold isT5
        rw [← h.ag.kd]
        by_cases h1 : (l.getD k default).kind = 1
        · rcases hno with q | q
          · exact absurd q (ht h1)
          · rw [q]; simp
        · rw [show ((l.getD k default).kind == 1) = false from beq_eq_false_iff_ne.2 h1]; rfl) l.length]
      exact same
theorem kd04 (l : List Chg) : ∀ k j, (exactTo l (st0 l.length 0) k).kd.getD j 0 = 0 ∨ (exactTo l (st0 l.length 0) k).kd.getD j 0 = 4 := by
  intro k
  induction k with
  | zero =>
    intro j
    refine .inl ?_
    simp only [exactTo, st0, List.getD_eq_getElem?_getD, List.getElem?_replicate]
    split <;> rfl
  | succ k ih =>
    intro j
    have e : exactTo l (st0 l.length 0) (k + 1) = exactStep l (exactTo l (st0 l.length 0) k) k := rfl
    rw [e]
    clear e
    generalize exactTo l (st0 l.length 0) k = s at *
    unfold exactStep
    split
    · split
      · by_cases hj : j = k
        · subst hj
          by_cases hl : j < s.kd.length
          · exact .inr (by simp [pairSt, List.getD_eq_getElem?_getD, hl])
          · exact .inl (by simp [pairSt, List.getD_eq_getElem?_getD, hl])
        · have h := ih j
          have e : (pairSt s (foundAt l s k).toNat k 1000).kd.getD j 0 = s.kd.getD j 0 := by
            simp [pairSt, List.getD_eq_getElem?_getD, List.getElem?_set_ne (fun e => hj e.symm)]
          rw [e]
          exact h
      · exact ih j
    · exact ih j
/-- The program's state behind the whole renames. -/
def stP (l : List Chg) : St := exactTo l (st0 l.length 0) l.length
def stR (l : List Chg) : St := refTo l l.length
def finP (l : List Chg) (o : Bool) : St := if o then copTo l (stP l) l.length else stP l
def finR (l : List Chg) (o : Bool) : St := if o then rcTo l (stR l) l.length else stR l
end Go.Proofs.YtbmpidacoohdmaaGreat.Rn
namespace Go.Proofs.YtbmpidacoohdmaaGreat
open Go.RowKit Op
open Rn (Chg LReads CellsAt Fnd St Oks stP finP outTo)

def early (l : List Chg) (o1 o2 : Int) : Prop := earlyN o1 o2 (srcs l (stP l)).length (tgts l (stP l)).length
instance (l : List Chg) (o1 o2 : Int) : Decidable (early l o1 o2) := by unfold early; infer_instance
structure FPost (w : World) (g m : Nat) (l0 : List Ent) (t : Int) (L : List Chg) (D : Option Addr) (w2 : World) : Prop where
  st : ∃ kn, Psp w2 g m l0 t kn
  rd : LReads w2 w2.heap.size D L
  chs : Chs (fun k => k = g) w w2

theorem Psp.young {w0 w3 w4 : World} {g m : Nat} {l : List Ent} {t kn kn3 : Int} (h : Psp w0 g m l t kn) (h3 : Psp w3 g m l t kn3) (hc : Chs (fun q => q = g) w0 w4) (e : w4.heap[g]? = w3.heap[g]?) : Psp w4 g m l t kn3 := h.turn hc (e.trans h3.blk)
theorem ld26_eq (a : Addr) : loadVar 26 a = ldT 26 a := rfl
theorem inf26 : (Tryz.prog.info? 26).map (·.size) = some 3 := by kernel_rfl
end Go.Proofs.YtbmpidacoohdmaaGreat

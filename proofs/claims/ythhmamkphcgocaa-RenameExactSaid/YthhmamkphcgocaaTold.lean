/- sleuthref26.told, by a contract. -/
import Derived.Test.YthhmamkphcgocaaMem
namespace Go.Proofs.Ythhmamkphcgocaa
open Go.RowKit
attribute [local go_sem ↓] load44_eq load46_eq store44_eq store46_eq new46_eq lit22_eq
attribute [local go_sem] run_load44 run_load46 run_store44 run_store46 run_new46 run_lit22 row_drew row_drewN free_drew free_drewN row_alloc_at row_alloc_past free_alloc_at free_alloc_past row_setCell_past free_setCell_past setRow_drew setRow_alloc_at setRow_alloc_past
  Chg.get0 Chg.get1 Chg.get2 Chg.get3 Chg.get4 Chg.get69 Chg.at0 Chg.at1 Chg.at2 Chg.at3 Chg.at4 Chg.set0 Chg.set1 Chg.set3 Chg.set69 Chg.part5 Chg.part0 Chg.splice5 Chg.row_size Chg.ok_mk Chg.row_one u8_one u8_size u8s_length zero46_size splice_all later_refl later_drew_iff later_drewN_iff later_a1 later_a2 later_a3 later_a4


/-- A slice of one-cell values. -/
def Rd (w : World) (A : Option Addr) (xs : List Value) : Prop := ∀ k x, xs[k]? = some x → ∃ ad : Addr, A = some ad ∧ ad.block < w.heap.size ∧ w.cell? (ad.add k) = some x
theorem Rd.later {w W : World} {A : Option Addr} {xs : List Value} (h : Rd w A xs) (hl : Later w W) : Rd W A xs := fun k x hx => by
  obtain ⟨ad, e, hb, hc⟩ := h k x hx
  exact ⟨ad, e, by have := hl.size; omega, (hl.cell (by rw [block_add]; exact hb)).trans hc⟩
theorem Rd.at_ {w : World} {A : Option Addr} {xs : List Value} (h : Rd w A xs) {k : Nat} {x : Value} (hx : xs[k]? = some x) : ∃ ad : Addr, A = some ad ∧ ∀ W, Later w W → W.cell? (ad.add k) = some x := by
  obtain ⟨ad, e, hb, hc⟩ := h k x hx
  exact ⟨ad, e, fun W hW => (hW.cell (by rw [block_add]; exact hb)).trans hc⟩
def ints (l : List Int) : List Value := l.map (Value.int .i64)
def boos (l : List Bool) : List Value := l.map Value.bool

def newChg (l : List Chg) (s : St) (k : Nat) : Chg :=
  if 0 < s.kd.getD k 0 then { l.getD k default with kind := s.kd.getD k 0, score := s.sc.getD k 0, old := (l.getD (s.fr.getD k 0).toNat default).old, om := (l.getD (s.fr.getD k 0).toNat default).om, oid := (l.getD (s.fr.getD k 0).toNat default).oid }
  else l.getD k default
def outTo (l : List Chg) (s : St) : Nat → List Chg
  | 0 => []
  | k + 1 => if s.tk.getD k false then outTo l s k else outTo l s k ++ [newChg l s k]

theorem info46b : (Try.prog.info? 46).map (fun i => (i.zero, i.size, i.bytes)) = some (some (.agg zero46), 70, 128) := by kernel_rfl

theorem outTo_len (l : List Chg) (s : St) (k : Nat) : (outTo l s k).length ≤ k := by
  induction k with
  | zero => simp [outTo]
  | succ k ih =>
    unfold outTo
    split
    · omega
    · simp only [List.length_append, List.length_cons, List.length_nil]
      omega

theorem int_at {xs : List Int} {k : Nat} (h : k < xs.length) : (ints xs)[k]? = some (.int .i64 (xs.getD k 0)) := by simp [ints, h]
theorem boo_at {xs : List Bool} {k : Nat} (h : k < xs.length) : (boos xs)[k]? = some (.bool (xs.getD k false)) := by simp [boos, h]

set_option maxHeartbeats 1000000 in
set_option maxRecDepth 100000 in
theorem told_any (w : World) (l : List Chg) (A AF AK AS AT : Option Addr) (c cF cK cS cT : Nat) (s : St) (hl : LReads w w.heap.size A l) (ok : ∀ (k : Nat) (x : Chg), l[k]? = some x → x.ok) (hn : l.length ≤ 40)
    (hF : Rd w AF (ints s.fr)) (hK : Rd w AK (ints s.kd)) (hS : Rd w AS (ints s.sc)) (hT : Rd w AT (boos s.tk)) (lF : s.fr.length = l.length) (lK : s.kd.length = l.length) (lS : s.sc.length = l.length) (lT : s.tk.length = l.length)
    (hfr : ∀ k, 0 < s.kd.getD k 0 → ∃ i : Nat, i < l.length ∧ s.fr.getD k 0 = i) :
    Calls Try.prog 21 #[.slice A l.length c, .agg #[.slice AF l.length cF, .slice AK l.length cK, .slice AS l.length cS, .slice AT l.length cT]] w
      fun e w' => ∃ v, e = .returned v ∧ w'.ownsRow w.heap.size 46 70 v (outTo l s l.length).length ((outTo l s l.length).flatMap Chg.cells) ∧ Below w.heap.size w w' := by
  have H := Lib.hid (And.intro hl (And.intro ok (And.intro hF (And.intro hK (And.intro hS hT)))))
  have HFR := Lib.hid hfr
  obtain ⟨i0, hi0', hz0', hz1', hz2'⟩ := info_parts info46b
  have hi0 := Lib.hid hi0'
  have hz0 := Lib.hid hz0'
  have hz1 := Lib.hid hz1'
  have hz2 := Lib.hid hz2'
  clear hi0' hz0' hz1' hz2'
  clear hl ok hF hK hS hT hfr
  go_enter Try.func21, Try.ntmps21
  go_wp2
  generalize hw1 : w.alloc (.cells #[.slice AF l.length cF, .slice AK l.length cK, .slice AS l.length cS, .slice AT l.length cT] 54) = w1
  have HW1 := Lib.hid hw1
  clear hw1
  go_loopw [5, 6] (fun v i wr => ∃ k : Nat, k ≤ l.length ∧ i = .int .i64 k ∧ Hid (wr.ownsRow (w.heap.size + 1) 46 70 v (outTo l s k).length ((outTo l s k).flatMap Chg.cells)) ∧ Hid (Below (w.heap.size + 1) w1 wr)) (fun _ i _ => l.length - (intOf i).toNat)
  case atStart => exact ⟨0, Nat.zero_le _, rfl, World.ownsRow_nil _ _ _ _, Below.refl _ _⟩
  case round =>
    obtain ⟨k, hk, rfl, hown, hb⟩ := hrel
    have hb0 : Later w wr := by
      have h1 : Later w w1 := by rw [← HW1.out]; exact later_alloc (later_refl w) _
      exact h1.trans (later_of_below hb.out (by rw [← HW1.out]; simp))
    have box : ∀ j : Nat, wr.cell? ⟨w.heap.size, j, none⟩ = #[Value.slice AF l.length cF, .slice AK l.length cK, .slice AS l.length cS, .slice AT l.length cT][j]? := fun j => by
      rw [hb.out.cell (p := ⟨w.heap.size, j, none⟩) (by simp), ← HW1.out, World.cell?_alloc_at _ _ _ _ rfl]
    have bx0 : wr.cell? ⟨w.heap.size, 0, none⟩ = some (.slice AF l.length cF) := box 0
    have bx1 : wr.cell? ⟨w.heap.size, 1, none⟩ = some (.slice AK l.length cK) := box 1
    have bx2 : wr.cell? ⟨w.heap.size, 2, none⟩ = some (.slice AS l.length cS) := box 2
    have bx3 : wr.cell? ⟨w.heap.size, 3, none⟩ = some (.slice AT l.length cT) := box 3
    have hsz : w.heap.size < wr.heap.size := by have := hb.out.size; rw [← HW1.out] at this; simp at this; omega
    clear box
    by_cases hkl : k < l.length
    · obtain ⟨aF, rfl, c0⟩ := (H.out.2.2.1.later hb0).at_ (k := k) (int_at (by omega))
      obtain ⟨aK, rfl, c1⟩ := (H.out.2.2.2.1.later hb0).at_ (k := k) (int_at (by omega))
      obtain ⟨aS, rfl, c2⟩ := (H.out.2.2.2.2.1.later hb0).at_ (k := k) (int_at (by omega))
      obtain ⟨aT, rfl, c3⟩ := (H.out.2.2.2.2.2.later hb0).at_ (k := k) (boo_at (by omega))
      have hok : (l.getD k default).ok := H.out.2.1 k _ (by simp [hkl])
      obtain ⟨ad, rfl, bA, hld⟩ := run_load46_old H.out.1 (Nat.le_refl _) k hkl hok
      have hld' : ∀ W, Later wr W → (load46 (ad.add (k * 70))).run Try.prog W = .ok (.agg (l.getD k default).row) W := fun W hW => hld W (hb0.trans hW)
      clear hld
      have hout : outTo l s (k + 1) = if s.tk.getD k false then outTo l s k else outTo l s k ++ [newChg l s k] := rfl
      have HOUT := Lib.hid hout
      clear hout
      have HB0 := Lib.hid hb0
      clear hb0
      generalize s.tk.getD k false = t at *
      cases t with
      | true =>
        go_wp2
        refine ⟨⟨k + 1, by omega, by go_num, ?_, hb⟩, by simp [intOf]; omega⟩
        rw [HOUT.out]
        exact hown
      | false =>
        have hl := outTo_len l s k
        by_cases hkd : 0 < s.kd.getD k 0
        · obtain ⟨i, hi, hfi⟩ := HFR.out k hkd
          have hoki : (l.getD i default).ok := H.out.2.1 i _ (by simp [hi])
          obtain ⟨ad', he, _, hld2⟩ := run_load46_old H.out.1 (Nat.le_refl _) i hi hoki
          obtain rfl : ad = ad' := by injection he
          have hld2' : ∀ W, Later wr W → (load46 (ad.add (i * 70))).run Try.prog W = .ok (.agg (l.getD i default).row) W := fun W hW => hld2 W (HB0.out.trans hW)
          have hnew : newChg l s k = ⟨s.kd.getD k 0, (l.getD i default).old, (l.getD k default).new, (l.getD i default).om, (l.getD k default).nm, (l.getD i default).oid, (l.getD k default).nid, s.sc.getD k 0⟩ := by
            simp only [newChg, if_pos hkd, hfi, Int.toNat_natCast]
          have HNEW := Lib.hid hnew
          clear hnew hld2 he
          rw [hfi] at c0
          clear hfi
          generalize l.getD k default = x at *
          generalize l.getD i default = y at *
          generalize s.kd.getD k 0 = kd at *
          generalize s.sc.getD k 0 = sc at *
          have x0 := hok.old
          have x1 := hok.oid
          have x2 := hok.nid
          have x3 := hok.new
          have y1 := hoki.oid
          have y2 := hoki.old
          have okz : (⟨kd, y.old, x.new, y.om, x.nm, y.oid, x.nid, sc⟩ : Chg).ok := ⟨y1, x2, y2, x3⟩
          have okq : (⟨kd, y.old, x.new, y.om, x.nm, x.oid, x.nid, sc⟩ : Chg).ok := ⟨x1, x2, y2, x3⟩
          have hown2 := ((hown.out.alloc (.cells (⟨kd, y.old, x.new, y.om, x.nm, y.oid, x.nid, sc⟩ : Chg).row 46)).alloc (.cells y.row 46)).alloc (.cells (⟨kd, y.old, x.new, y.om, x.nm, y.oid, x.nid, sc⟩ : Chg).row 46)
          have HOWN := Lib.hid hown2
          clear hown2
          go_wp2_with (at_builtin; refine wpList_append_own _ rfl (.tmp 59) (.tmp 61) _ rfl (w.heap.size + 1) 46 i0 (.agg zero46) 70 128 Try.underlying22 hi0.out hz0.out hz1.out hz2.out zero46_size (by omega) u5 _ _ rfl HOWN.out ⟨wr.heap.size + 1 + 1, 0, none⟩ 1 1 (Chg.cells ⟨kd, y.old, x.new, y.om, x.nm, y.oid, x.nid, sc⟩) rfl (Chg.cells_length _ okz) (new_cells _ _ _ _ (by simp)) (Chg.cells_one _) (small_len (by omega)) (by omega) (by simp; omega) ?_; intro v' w2 hown3 hgrow3 _)
          refine ⟨⟨k + 1, by omega, by go_num, ?_, ?_⟩, by simp [intOf]; omega⟩
          · rw [HOUT.out, HNEW.out]
            unfold Hid
            simpa using hown3
          · exact (hb.out.trans ((((((Below.refl _ _).alloc (by omega) _).alloc (by simp; omega) _).alloc (by simp; omega) _).grown hgrow3 (by simp; omega) (fun g hg => (hown.out.lt g hg).1))) : _)
        · have hnew : newChg l s k = l.getD k default := by simp only [newChg, if_neg hkd]
          have HNEW := Lib.hid hnew
          clear hnew
          generalize l.getD k default = x at *
          generalize s.kd.getD k 0 = kd at *
          have hown2 := (hown.out.alloc (.cells x.row 46)).alloc (.cells x.row 46)
          have HOWN := Lib.hid hown2
          clear hown2
          go_wp2_with (at_builtin; refine wpList_append_own _ rfl (.tmp 59) (.tmp 61) _ rfl (w.heap.size + 1) 46 i0 (.agg zero46) 70 128 Try.underlying22 hi0.out hz0.out hz1.out hz2.out zero46_size (by omega) u5 _ _ rfl HOWN.out ⟨wr.heap.size + 1, 0, none⟩ 1 1 (Chg.cells x) rfl (Chg.cells_length _ hok) (new_cells _ _ _ _ (by simp)) (Chg.cells_one _) (small_len (by omega)) (by omega) (by simp; omega) ?_; intro v' w2 hown3 hgrow3 _)
          refine ⟨⟨k + 1, by omega, by go_num, ?_, ?_⟩, by simp [intOf]; omega⟩
          · rw [HOUT.out, HNEW.out]
            unfold Hid
            simpa using hown3
          · exact (hb.out.trans (((((Below.refl _ _).alloc (by omega) _).alloc (by simp; omega) _).grown hgrow3 (by simp; omega) (fun g hg => (hown.out.lt g hg).1))) : _)
    · go_wp2
      go_ret
      obtain rfl : k = l.length := by omega
      refine ⟨_, rfl, ?_, ?_⟩
      · exact ⟨hown.out.1, hown.out.2.imp id (fun ⟨g, cap, cur, h1, h2, h3⟩ => ⟨g, cap, cur, h1, by omega, h3⟩)⟩
      · have hw : Below w.heap.size w w1 := by rw [← HW1.out]; exact (Below.refl _ _).alloc (Nat.le_refl _) _
        exact hw.trans (hb.out.mono (by omega))
end Go.Proofs.Ythhmamkphcgocaa

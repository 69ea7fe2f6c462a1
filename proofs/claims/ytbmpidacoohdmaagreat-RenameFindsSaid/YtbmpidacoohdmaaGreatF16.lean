/- Rename: the changes that are told. -/
import Derived.Test.YtbmpidacoohdmaaGreatF46
namespace Go.Proofs.YtbmpidacoohdmaaGreat.Rn
open Lib renaming hid → hI
open Go.RowKit
attribute [local go_sem ↓] load44_eq load46_eq store44_eq store46_eq new46_eq lit22_eq
attribute [local go_sem] run_load44 run_load46 run_store44 run_store46 run_new46 run_lit22 row_drew row_drewN free_drew free_drewN row_alloc_at row_alloc_past free_alloc_at free_alloc_past row_setCell_past free_setCell_past setRow_drew setRow_alloc_at setRow_alloc_past
  Chg.get0 Chg.get1 Chg.get2 Chg.get3 Chg.get4 Chg.get69 Chg.at0 Chg.at1 Chg.at2 Chg.at3 Chg.at4 Chg.set0 Chg.set1 Chg.set3 Chg.set69 Chg.part5 Chg.part0 Chg.splice5 Chg.row_size Chg.ok_mk Chg.row_one u8_one u8_size u8s_length zero46_size splice_all later_refl later_drew_iff later_drewN_iff later_a1 later_a2 later_a3 later_a4



theorem own_drew {w : World} {base : Nat} {e : TypeId} {size : Nat} {v : Value} {n : Nat} {xs : List Value} (h : w.ownsRow base e size v n xs) : w.drew.ownsRow base e size v n xs := h
theorem cells_drew {w : World} {a : Addr} {cs : List Value} (h : ∀ j u, cs[j]? = some u → w.cell? (a.add j) = some u) : ∀ j u, cs[j]? = some u → w.drew.cell? (a.add j) = some u := h

theorem rel_step {l : List Chg} {s : St} {k B : Nat} {v : Value} {w w2 : World} {z : Chg} (h1 : outTo l s (k + 1) = if false = true then outTo l s k else outTo l s k ++ [newChg l s k]) (h2 : newChg l s k = z)
    (h3 : w2.ownsRow B 53 70 v ((outTo l s k).length + 1) ((outTo l s k).flatMap Chg.cells ++ z.cells)) (h4 : Below B w w2) (hk : k < l.length) :
    ∃ j : Nat, j ≤ l.length ∧ Value.int .i64 ((k : Int) + 1) = .int .i64 j ∧ Hid (w2.ownsRow B 53 70 v (outTo l s j).length ((outTo l s j).flatMap Chg.cells)) ∧ Hid (Below B w w2) := by
  refine ⟨k + 1, by omega, by go_num, ?_, h4⟩
  rw [h1, h2]
  unfold Hid
  simpa using h3

set_option maxRecDepth 100000 in
set_option maxHeartbeats 1000000 in
theorem changes_any {w : World} {B0 b F S K T : Nat} {A : Option Addr} {c : Nat} {l : List Chg} {s : St} (h : Fnd w B0 b F S K T A c l s) (B : Nat) (hB : B = w.heap.size)
    (hfr : ∀ k, 0 < s.kd.getD k 0 → ∃ i : Nat, i < l.length ∧ s.fr.getD k 0 = i) :
    Calls Tryz.prog 21 #[.pointer (some ⟨b, 0, none⟩)] w
      fun e w' => ∃ v, e = .returned v ∧ w'.ownsRow B 53 70 v (outTo l s l.length).length ((outTo l s l.length).flatMap Chg.cells) ∧ Below B w w' := by
  have h0 : w.cell? ⟨b, 0, none⟩ = some (.slice A l.length c) := h.cell 0
  have hn := h.short
  have H := hI h
  have HB := hI hB
  have HFR := hI hfr
  obtain ⟨i0, hi0', hz0', hz1', hz2'⟩ := info_parts info46b
  have hi0 := hI hi0'
  have hz0 := hI hz0'
  have hz1 := hI hz1'
  have hz2 := hI hz2'
  clear hi0' hz0' hz1' hz2' h hfr hB
  go_enter Tryz.func21, Tryz.ntmps21
  go_wp2
  go_loopw [3, 12] (fun v i wr => ∃ k : Nat, k ≤ l.length ∧ i = .int .i64 k ∧ Hid (wr.ownsRow B 53 70 v (outTo l s k).length ((outTo l s k).flatMap Chg.cells)) ∧ Hid (Below B w wr)) (fun _ i _ => l.length - (intOf i).toNat)
  case atStart => exact ⟨0, Nat.zero_le _, rfl, World.ownsRow_nil _ _ _ _, Below.refl _ _⟩
  case round =>
    obtain ⟨k, hk, rfl, hown, hb⟩ := hrel
    have hlat : Later w wr := later_of_below hb.out (by rw [HB.out]; exact Nat.le_refl _)
    have hr : Fnd wr B0 b F S K T A c l s := H.out.keep hlat.same
    have hBs : B ≤ wr.heap.size := by rw [HB.out]; exact hlat.size
    have HLAT := hI hlat
    clear hlat h0
    by_cases hkl : k < l.length
    · have f0 : wr.cell? ⟨b, 0, none⟩ = some (.slice A l.length c) := hr.cell 0
      have f1 : wr.cell? ⟨b, 1, none⟩ = some (.slice (some ⟨F, 0, none⟩) l.length l.length) := hr.cell 1
      have f2 : wr.cell? ⟨b, 2, none⟩ = some (.slice (some ⟨S, 0, none⟩) l.length l.length) := hr.cell 2
      have f3 : wr.cell? ⟨b, 3, none⟩ = some (.slice (some ⟨K, 0, none⟩) l.length l.length) := hr.cell 3
      have f4 : wr.cell? ⟨b, 4, none⟩ = some (.slice (some ⟨T, 0, none⟩) l.length l.length) := hr.cell 4
      have g1 := ints_cell hr.hF k (by rw [hr.lF]; exact hkl)
      have g2 := ints_cell hr.hS k (by rw [hr.lS]; exact hkl)
      have g3 := ints_cell hr.hK k (by rw [hr.lK]; exact hkl)
      have g4 := bools_cell hr.hT k (by rw [hr.lT]; exact hkl)
      have z0 : b < wr.heap.size := (Array.getElem?_eq_some_iff.1 hr.self).1
      have z1 : F < wr.heap.size := (Array.getElem?_eq_some_iff.1 hr.hF).1
      have z2 : S < wr.heap.size := (Array.getElem?_eq_some_iff.1 hr.hS).1
      have z3 : K < wr.heap.size := (Array.getElem?_eq_some_iff.1 hr.hK).1
      have z4 : T < wr.heap.size := (Array.getElem?_eq_some_iff.1 hr.hT).1
      have hok : (l.getD k default).ok := hr.oks k _ (by simp [hkl])
      obtain ⟨ad, rfl, _, hld⟩ := run_load46_old hr.reads (by have := hr.bb; omega) k hkl hok
      have HR := hI hr
      have hout : outTo l s (k + 1) = if s.tk.getD k false then outTo l s k else outTo l s k ++ [newChg l s k] := rfl
      have HOUT := hI hout
      clear hout hr
      generalize s.tk.getD k false = t at *
      have hl := outTo_len l s k
      have hbw1 : ∀ o, Below B w (wr.alloc o) := fun o => hb.out.alloc hBs o
      have HBW1 := hI hbw1
      clear hbw1
      cases t with
      | true =>
        generalize l.getD k default = x at *
        go_wp2
        refine ⟨⟨k + 1, by omega, by go_num, ?_, HBW1.out _⟩, by simp [intOf]; omega⟩
        rw [HOUT.out]
        exact hown.out.alloc _
      | false =>
        by_cases hkd : 0 < s.kd.getD k 0
        · obtain ⟨i, hi, hfi⟩ := HFR.out k hkd
          have hoki : (l.getD i default).ok := HR.out.oks i _ (by simp [hi])
          obtain ⟨ad', he, _, hld2⟩ := run_load46_old HR.out.reads (by have := HR.out.bb; omega) i hi hoki
          obtain rfl : ad = ad' := by injection he
          have hnew : newChg l s k = ⟨s.kd.getD k 0, (l.getD i default).old, (l.getD k default).new, (l.getD i default).om, (l.getD k default).nm, (l.getD i default).oid, (l.getD k default).nid, s.sc.getD k 0⟩ := by
            simp only [newChg, if_pos hkd, hfi, Int.toNat_natCast]
          have HNEW := hI hnew
          clear hnew he
          rw [hfi] at g1
          clear hfi
          generalize l.getD k default = x at *
          generalize l.getD i default = y at *
          generalize s.kd.getD k 0 = kd at *
          generalize s.sc.getD k 0 = sc at *
          have x0 := hok.old
          have x1 := hok.oid
          have x2 := hok.nid
          have x3 := hok.new
          have y1 := hoki.oid
          have y2 := hoki.old
          have okz : (⟨kd, y.old, x.new, y.om, x.nm, y.oid, x.nid, sc⟩ : Chg).ok := ⟨y1, x2, y2, x3⟩
          have okq : (⟨kd, y.old, x.new, y.om, x.nm, x.oid, x.nid, sc⟩ : Chg).ok := ⟨x1, x2, y2, x3⟩
          have hown2 := own_drew (own_drew (own_drew (((hown.out.alloc (.cells (⟨kd, y.old, x.new, y.om, x.nm, y.oid, x.nid, sc⟩ : Chg).row 53)).alloc (.cells y.row 53)).alloc (.cells (⟨kd, y.old, x.new, y.om, x.nm, y.oid, x.nid, sc⟩ : Chg).row 53))))
          have HOWN := hI hown2
          clear hown2
          have hnews := cells_drew (cells_drew (cells_drew (new_cells ((wr.alloc (.cells (Chg.row ⟨kd, y.old, x.new, y.om, x.nm, y.oid, x.nid, sc⟩) 53)).alloc (.cells y.row 53)) (Chg.cells ⟨kd, y.old, x.new, y.om, x.nm, y.oid, x.nid, sc⟩) 53 (wr.heap.size + 1 + 1) (by simp))))
          have HNEWS := hI hnews
          have hbase : B ≤ (((wr.alloc (.cells (Chg.row ⟨kd, y.old, x.new, y.om, x.nm, y.oid, x.nid, sc⟩) 53)).alloc (.cells y.row 53)).alloc (.cells (Chg.row ⟨kd, y.old, x.new, y.om, x.nm, y.oid, x.nid, sc⟩) 53)).drew.drew.drew.heap.size := by simp; omega
          have HBASE := hI hbase
          have hm1 : (outTo l s k).length + 1 ≤ maxLen := small_len (by omega)
          have hm2 : ((outTo l s k).length + 1) * 128 ≤ 140737488355328 := by omega
          have HM1 := hI hm1
          have HM2 := hI hm2
          have hcl := Chg.cells_length _ okz
          have HCL := hI hcl
          clear hnews hbase hm1 hm2 hcl
          go_wp2
          go_region
          go_wp2
          go_region
          go_wp2
          go_region
          go_wp2_with (at_builtin; refine wpList_append_own _ rfl (.tmp 70) (.tmp 72) _ rfl B 53 i0 (.agg zero46) 70 128 Tryz.underlying23 hi0.out hz0.out hz1.out hz2.out zero46_size (by decide) u3 _ _ rfl HOWN.out ⟨wr.heap.size + 1 + 1, 0, none⟩ 1 1 _ rfl HCL.out HNEWS.out (Chg.cells_one _) HM1.out HM2.out HBASE.out ?_; intro v' w2 hown3 hgrow3 hiff; clear hiff; simp only [Act.put, List.setIfInBounds_toArray, List.set_cons_succ, List.set_cons_zero]; (go_step; go_step; go_step; go_step; go_step; go_step; go_step; go_step; go_step; go_step; go_step; go_step; go_step; go_step; go_step); show _ ∧ _; refine ⟨?_, ?measure⟩; (repeat apply Exists.intro); refine ⟨?rel, rfl⟩; exact rel_step HOUT.out HNEW.out hown3 (hb.out.trans (((((((((Below.refl _ _).alloc hBs _).alloc (by simp; omega) _).alloc (by simp; omega) _).drew).drew).drew).grown hgrow3 HBASE.out (fun g hg => (hown.out.lt g hg).1)))) hkl; (simp [intOf]; omega))
        · have hnew : newChg l s k = l.getD k default := by simp only [newChg, if_neg hkd]
          have HNEW := hI hnew
          clear hnew
          generalize l.getD k default = x at *
          generalize s.kd.getD k 0 = kd at *
          have hown2 := (hown.out.alloc (.cells x.row 53)).alloc (.cells x.row 53)
          have HOWN := hI hown2
          clear hown2
          go_wp2_with (at_builtin; refine wpList_append_own _ rfl (.tmp 70) (.tmp 72) _ rfl B 53 i0 (.agg zero46) 70 128 Tryz.underlying23 hi0.out hz0.out hz1.out hz2.out zero46_size (by omega) u3 _ _ rfl HOWN.out ⟨wr.heap.size + 1, 0, none⟩ 1 1 (Chg.cells x) rfl (Chg.cells_length _ hok) (new_cells _ _ _ _ (by simp)) (Chg.cells_one _) (small_len (by omega)) (by omega) (by simp; omega) ?_; intro v' w2 hown3 hgrow3 _)
          refine ⟨⟨k + 1, by omega, by go_num, ?_, ?_⟩, by simp [intOf]; omega⟩
          · rw [HOUT.out, HNEW.out]
            unfold Hid
            simpa using hown3
          · exact ((((HBW1.out _).alloc (by simp; omega) _).grown hgrow3 (by simp; omega) (fun g hg => (hown.out.lt g hg).1)) : _)
    · go_wp2
      go_ret
      obtain rfl : k = l.length := by omega
      exact ⟨_, rfl, hown.out, hb.out⟩
end Go.Proofs.YtbmpidacoohdmaaGreat.Rn

/- The program's store: IDs, as many as there are files at most. -/
import Derived.Test.YtbmpidacoohdmaaGreatCmp
namespace Go.Proofs.YtbmpidacoohdmaaGreat
open Go.RowKit Op

attribute [local go_sem] bs_append bs_size
attribute [local go_sem ↓] load42_eq store42_eq new42_eq run_new42 box42_eq run_box42
theorem zero42 : ((Tryz.prog.info? 51).bind (·.zero)).isSome = true := by kernel_rfl
theorem slI : Sl Tryz.prog 37 51 32 32 := ⟨Tryz.underlying37, by kernel_rfl, by decide⟩
def bsI (p : Nat × Value) : Sem Value := Instr.buildSlice 37 1 #[p]
theorem bsI_eq {α : Type} (f : α → Nat × Value) (p : α) : Instr.buildSlice 37 1 (Array.map f #[p]) = bsI (f p) := by simp [bsI]
theorem run_bsI (l : List UInt8) (hl : l.length = 32) (W : World) : (bsI (0, .agg (bys l).toArray)).run Tryz.prog W = .ok (.slice (some ⟨W.heap.size, 0, none⟩) 1 1) (W.alloc (.cells (bys l).toArray 51)) :=
  run_build_one W Tryz.underlying37 inf42 zero42 (bys l).toArray (by simp [bys, hl]) (by omega) (by omega)
attribute [local go_sem ↓] bsI_eq
theorem own_ne {w : World} {C size : Nat} {e : TypeId} {v : Value} {n : Nat} {xs : List Value} (h : w.ownsRow C e size v n xs) {r : Nat} (hr : ∀ cs f, w.heap[r]? ≠ some (.cells cs e f)) : some r ≠ v.ownBlock := fun q => by
  obtain ⟨_, ⟨h1, h2⟩ | ⟨g, cap, cur, h1, h2, h3, _⟩⟩ := h
  · rw [h1] at q; cases q
  · rw [h1] at q
    obtain rfl : r = g := by simpa [Value.ownBlock] using q
    exact hr _ _ h3
theorem Rng.iter {w : World} {m r : Nat} {l : List Ent} {vis : List (List UInt8)} (h : Rng w m r l vis) (cs : Array Value) (e : TypeId) (f : Nat × Nat) : w.heap[r]? ≠ some (.cells cs e f) := fun q => by
  obtain ⟨_, _, _, _, _, ⟨_, _, _, _, _, _, _, _, _, h2, _⟩, _⟩ := h
  have := h2.symm.trans q
  injection this with this
  cases this
set_option maxRecDepth 100000 in
set_option maxHeartbeats 1000000 in
theorem ids_any (w : World) (g m : Nat) (l : List Ent) (t kn : Int) (hs : Psp w g m l t kn) : Calls Tryz.prog 92 #[.pointer (some ⟨g, 0, none⟩)] w fun e w2 => (∃ D n c, n ≤ l.length ∧ e = .returned (.slice D n c)) ∧ ∃ kn2, Psp w2 g m l t kn2 ∧ Chs (fun k => k = g) w w2 := by
  have hc0 : w.cell? ⟨g, 0, none⟩ = some (.map (some m)) := by rw [cell_of_row w g 0 _ _ _ hs.blk]; rfl
  obtain ⟨w1, hrun, hrg, hb1, hs1⟩ := hs.range
  have HS := Lib.hid hs
  have RG := Lib.hid hrg
  have B1 := Lib.hid hb1
  have hml := hs.mlt
  have hfew := hs.few
  have HA := Lib.hid (fun x hx => (hs.all x hx).1)
  clear hs hrg hb1
  go_enter Tryz.func92, Tryz.ntmps92
  go_wp2_with fail
  refine (dead_any w g m l t kn HS.out).mono ?_
  rintro e w1' ⟨rfl, rfl⟩
  go_wp2_with fail
  go_loopw [3] (fun ov wr => ∃ vis : List (List UInt8), (vis = [] → ov = .slice none 0 0) ∧ Hid (Rng wr m w.heap.size l vis) ∧ Hid (wr.ownsRow w.heap.size 51 32 ov vis.length (vis.flatMap bys)) ∧ Hid (Below w.heap.size w wr)) (fun _ wr => wr.rangeLeft m w.heap.size)
  case atStart => exact ⟨[], fun _ => rfl, RG, Lib.hid (World.ownsRow_nil _ _ _ _), B1⟩
  case round =>
    obtain ⟨vis, hnil, hv, ho, hb⟩ := hrel
    obtain ⟨D1, d1, hv1, _⟩ := own_all ho.out
    subst hv1
    have HN := Lib.hid hnil
    clear hnil
    go_wp2_with (first | (at_next; refine wpList_next_ent _ rfl _ rfl m w.heap.size l vis rfl hv.out ?_ ?_))
    · go_wp2_with fail
      have S2 := Lib.hid (HS.out.below hb.out)
      refine (indexes_any wr g m l t kn S2.out).mono ?_
      rintro e w5 ⟨rfl, kn2, hs5, hc5⟩
      have S5 := Lib.hid hs5
      have C5 := Lib.hid ((Chs.of_below hb.out (fun k => k = g)).trans hc5)
      have hvl := hv.out.few
      have hc5h := Lib.hid hc5
      clear hs5 hc5
      go_wp2_with fail
      refine wp_loop_rounds 1 ?_
      rw [rounds_succ]
      by_cases hvn : vis = []
      · have h0 := HN.out hvn
        rw [h0]
        go_wp2_with fail
        refine (sorted_none w5).mono ?_
        rintro e w6 ⟨⟨D, c2, rfl⟩, rfl⟩
        go_wp2_with fail
        go_ret
        exact ⟨⟨D, 0, c2, Nat.zero_le _, rfl⟩, kn2, S5.out, C5.out⟩
      · have hv0 : 0 < vis.length := List.length_pos_iff.2 hvn
        obtain ⟨gb, cap, cs, hvv, hgl, hcap, hblk, hrv⟩ := own_formk ho.out hv0
        injection hvv with e1 e2 e3
        subst e1
        subst e3
        clear e2
        have hne : gb ≠ g := by have := HS.out.glt; omega
        have V5 := Lib.hid (rv_chs hrv hc5h.out (hc5h.out.block gb (Array.getElem?_eq_some_iff.1 hblk).1 hne))
        obtain ⟨_, _, _, _, _, _, _, _, hnd, hin⟩ := hv.out
        have HSO := Lib.hid (sorted_some w5 gb d1 vis (fun y hy => by obtain ⟨x, hx, e⟩ := hin y hy; rw [← e]; exact HA.out x hx) hnd (by omega) hv0 V5.out)
        clear hblk hrv hnd hin hvn hgl
        go_wp2_with fail
        refine HSO.out.mono ?_
        rintro e w6 ⟨⟨D, c2, rfl⟩, hb6⟩
        have S6 := Lib.hid (S5.out.below hb6)
        have C6 := Lib.hid (C5.out.trans (Chs.of_below hb6 _))
        clear hb6
        go_wp2_with fail
        go_ret
        exact ⟨⟨D, vis.length, c2, hvl, rfl⟩, kn2, S6.out, C6.out⟩
    · intro x w2 hx hnv hR hlt hg2 hs2 hen
      have hi := HA.out x hx
      have R2 := Lib.hid hR
      have O2 := Lib.hid (ho.out.kept hg2 (.inr (own_ne ho.out (fun cs f => hv.out.iter cs _ f)).symm))
      have B2 := Lib.hid (hb.out.grown hg2 hb.out.size (fun j hj => by cases hj; exact Nat.le_refl _))
      have HC := Lib.hid (fun W => cut_yes x.id W)
      have hbs := run_bsI x.id hi
      have hfw := hR.few
      have LT := Lib.hid hlt
      rw [List.length_append, List.length_singleton] at hfw
      clear hR hg2 hlt
      go_wp2_with (go_at_call 155; refine (HC.out _).mono ?_; rintro e w3 ⟨rfl, rfl⟩)
      refine (oread_any w2 x.id hi).mono ?_
      rintro e w4 ⟨rfl, hb4⟩
      have R4 : Hid (Ar (w4.alloc (.cells z42 51)) w4.heap.size 51 (bys (List.replicate 32 0))) := Lib.hid (Ar.new w4 (bys (List.replicate 32 0)) 51)
      have hst := st42 R4.out (by simp) hi
      have R6 := Lib.hid (R4.out.setRow (bys x.id))
      have B6 := Lib.hid (below_row (hb4.alloc hb4.size (.cells z42 51)) w4.heap.size (bys x.id).toArray hb4.size)
      have hld6 := ld42 R6.out hi
      generalize hw6 : (w4.alloc (.cells z42 51)).setRow w4.heap.size (bys x.id).toArray = w6 at *
      have B7 := Lib.hid (B6.out.alloc B6.out.size (.cells (bys x.id).toArray 51))
      have NW := Lib.hid (new_rv w6 (bys x.id) 51 ⟨w6.heap.size, 0, none⟩ rfl)
      have O7 := Lib.hid (own_below O2.out B7.out)
      have B07 := Lib.hid (B2.out.trans (B7.out.mono B2.out.size))
      have HI2 := Lib.hid (show (bys x.id).length = 1 * 32 by rw [bys_len, hi])
      clear hb4
      go_wp2_with (at_builtin; refine wpList_app slI rfl (.tmp 34) (.tmp 36) rfl w.heap.size _ vis.length (vis.flatMap bys) rfl O7.out (some ⟨w6.heap.size, 0, none⟩) 1 1 (bys x.id) rfl (fun q => by cases q) HI2.out NW.out (bys_one x.id) (by unfold maxLen; omega) (by omega) B07.out.size ?_; intro v3 w8 ho3 ha3; have O8 := Lib.hid ho3; have A8 := Lib.hid ha3; clear ho3 ha3)
      obtain ⟨R7, e7⟩ := R2.out.below B7.out
      have hm8 := A8.out.grown.block m R7.lt.1 (own_far O7.out hml)
      have hr8 := A8.out.grown.block w.heap.size R7.lt.2 (own_ne O7.out (fun cs f => R7.iter cs _ f))
      obtain ⟨R8, e8⟩ := R7.same hm8 hr8
      refine ⟨⟨vis ++ [x.id], fun q => absurd q (by simp), Lib.hid R8, Lib.hid (by rw [List.length_append, List.length_singleton, List.flatMap_append, List.flatMap_singleton]; exact O8.out), Lib.hid (B07.out.grown A8.out.grown B07.out.size (fun q hq => (O7.out.lt q hq).1))⟩, by rw [e8, e7]; exact LT.out⟩
end Go.Proofs.YtbmpidacoohdmaaGreat

/- The program's store: IDs, as many as there are files at most. The program's store: Put of a blob. -/
import Derived.Test.YtbmpidacoohdmaaGreatF12
namespace Go.Proofs.YtbmpidacoohdmaaGreat
open Lib renaming hid → hI
open Go.RowKit Op

attribute [local go_sem] bs_append bs_size
attribute [local go_sem ↓] load42_eq store42_eq new42_eq run_new42 box42_eq run_box42
theorem zero42 : ((Tryz.prog.info? 51).bind (·.zero)).isSome = true := by kernel_rfl
theorem slI : Sl Tryz.prog 37 51 32 32 := ⟨Tryz.underlying37, by kernel_rfl, by decide⟩
def bsI (p : Nat × Value) : Sem Value := Instr.buildSlice 37 1 #[p]
theorem bsI_eq {α : Type} (f : α → Nat × Value) (p : α) : Instr.buildSlice 37 1 (Array.map f #[p]) = bsI (f p) := by simp [bsI]
theorem run_bsI (l : List UInt8) (hl : l.length = 32) (W : World) : (bsI (0, .agg (bys l).toArray)).run Tryz.prog W = .ok (.slice (some ⟨W.heap.size, 0, none⟩) 1 1) (W.alloc (.cells (bys l).toArray 51)) :=
  run_build_one W Tryz.underlying37 inf42 zero42 (bys l).toArray (by simp [bys, hl]) (by omega) (by omega)
attribute [local go_sem ↓] bsI_eq
theorem own_ne {w : World} {C size : Nat} {e : TypeId} {v : Value} {n : Nat} {xs : List Value} (h : w.ownsRow C e size v n xs) {r : Nat} (hr : ∀ cs f, w.heap[r]? ≠ some (.cells cs e f)) : some r ≠ v.ownBlock := fun q => by
  obtain ⟨_, ⟨h1, h2⟩ | ⟨g, cap, cur, h1, h2, h3, _⟩⟩ := h
  · rw [h1] at q; cases q
  · rw [h1] at q
    obtain rfl : r = g := by simpa [Value.ownBlock] using q
    exact hr _ _ h3
theorem Rng.iter {w : World} {m r : Nat} {l : List Ent} {vis : List (List UInt8)} (h : Rng w m r l vis) (cs : Array Value) (e : TypeId) (f : Nat × Nat) : w.heap[r]? ≠ some (.cells cs e f) := fun q => by
  obtain ⟨_, _, _, _, _, ⟨_, _, _, _, _, _, _, _, _, h2, _⟩, _⟩ := h
  have := h2.symm.trans q
  injection this with this
  cases this
set_option maxRecDepth 100000 in
set_option maxHeartbeats 1000000 in
theorem ids_any (w : World) (g m : Nat) (l : List Ent) (t kn : Int) (hs : Psp w g m l t kn) : Calls Tryz.prog 92 #[.pointer (some ⟨g, 0, none⟩)] w fun e w2 => (∃ D n c, n ≤ l.length ∧ e = .returned (.slice D n c)) ∧ ∃ kn2, Psp w2 g m l t kn2 ∧ Chs (fun k => k = g) w w2 := by
  have hc0 : w.cell? ⟨g, 0, none⟩ = some (.map (some m)) := by rw [cell_of_row w g 0 _ _ _ hs.blk]; rfl
  obtain ⟨w1, hrun, hrg, hb1, hs1⟩ := hs.range
  have HS := hI hs
  have RG := hI hrg
  have B1 := hI hb1
  have hml := hs.mlt
  have hfew := hs.few
  have HA := hI (fun x hx => (hs.all x hx).1)
  clear hs hrg hb1
  go_enter Tryz.func92, Tryz.ntmps92
  go_wp2_with fail
  refine (dead_any w g m l t kn HS.out).mono ?_
  rintro e w1' ⟨rfl, rfl⟩
  go_wp2_with fail
  go_loopw [3] (fun ov wr => ∃ vis : List (List UInt8), (vis = [] → ov = .slice none 0 0) ∧ Hid (Rng wr m w.heap.size l vis) ∧ Hid (wr.ownsRow w.heap.size 51 32 ov vis.length (vis.flatMap bys)) ∧ Hid (Below w.heap.size w wr)) (fun _ wr => wr.rangeLeft m w.heap.size)
  case atStart => exact ⟨[], fun _ => rfl, RG, hI (World.ownsRow_nil _ _ _ _), B1⟩
  case round =>
    obtain ⟨vis, hnil, hv, ho, hb⟩ := hrel
    obtain ⟨D1, d1, hv1, _⟩ := own_all ho.out
    subst hv1
    have HN := hI hnil
    clear hnil
    go_wp2_with (first | (at_next; refine wpList_next_ent _ rfl _ rfl m w.heap.size l vis rfl hv.out ?_ ?_))
    · go_wp2_with fail
      have S2 := hI (HS.out.below hb.out)
      refine (indexes_any wr g m l t kn S2.out).mono ?_
      rintro e w5 ⟨rfl, kn2, hs5, hc5⟩
      have S5 := hI hs5
      have C5 := hI ((Chs.of_below hb.out (fun k => k = g)).trans hc5)
      have hvl := hv.out.few
      have hc5h := hI hc5
      clear hs5 hc5
      go_wp2_with fail
      refine wp_loop_rounds 1 ?_
      rw [rounds_succ]
      by_cases hvn : vis = []
      · have h0 := HN.out hvn
        rw [h0]
        go_wp2_with fail
        refine (sorted_none w5).mono ?_
        rintro e w6 ⟨⟨D, c2, rfl⟩, rfl⟩
        go_wp2_with fail
        go_ret
        exact ⟨⟨D, 0, c2, Nat.zero_le _, rfl⟩, kn2, S5.out, C5.out⟩
      · have hv0 : 0 < vis.length := List.length_pos_iff.2 hvn
        obtain ⟨gb, cap, cs, hvv, hgl, hcap, hblk, hrv⟩ := own_formk ho.out hv0
        injection hvv with e1 e2 e3
        subst e1
        subst e3
        clear e2
        have hne : gb ≠ g := by have := HS.out.glt; omega
        have V5 := hI (rv_chs hrv hc5h.out (hc5h.out.block gb (Array.getElem?_eq_some_iff.1 hblk).1 hne))
        obtain ⟨_, _, _, _, _, _, _, _, hnd, hin⟩ := hv.out
        have HSO := hI (sorted_some w5 gb d1 vis (fun y hy => by obtain ⟨x, hx, e⟩ := hin y hy; rw [← e]; exact HA.out x hx) hnd (by omega) hv0 V5.out)
        clear hblk hrv hnd hin hvn hgl
        go_wp2_with fail
        refine HSO.out.mono ?_
        rintro e w6 ⟨⟨D, c2, rfl⟩, hb6⟩
        have S6 := hI (S5.out.below hb6)
        have C6 := hI (C5.out.trans (Chs.of_below hb6 _))
        clear hb6
        go_wp2_with fail
        go_ret
        exact ⟨⟨D, vis.length, c2, hvl, rfl⟩, kn2, S6.out, C6.out⟩
    · intro x w2 hx hnv hR hlt hg2 hs2 hen
      have hi := HA.out x hx
      have R2 := hI hR
      have O2 := hI (ho.out.kept hg2 (.inr (own_ne ho.out (fun cs f => hv.out.iter cs _ f)).symm))
      have B2 := hI (hb.out.grown hg2 hb.out.size (fun j hj => by cases hj; exact Nat.le_refl _))
      have HC := hI (fun W => cut_yes x.id W)
      have hbs := run_bsI x.id hi
      have hfw := hR.few
      have LT := hI hlt
      rw [List.length_append, List.length_singleton] at hfw
      clear hR hg2 hlt
      go_wp2_with (go_at_call 155; refine (HC.out _).mono ?_; rintro e w3 ⟨rfl, rfl⟩)
      refine (oread_any w2 x.id hi).mono ?_
      rintro e w4 ⟨rfl, hb4⟩
      have R4 : Hid (Ar (w4.alloc (.cells z42 51)) w4.heap.size 51 (bys (List.replicate 32 0))) := hI (Ar.new w4 (bys (List.replicate 32 0)) 51)
      have hst := st42 R4.out (by simp) hi
      have R6 := hI (R4.out.setRow (bys x.id))
      have B6 := hI (below_row (hb4.alloc hb4.size (.cells z42 51)) w4.heap.size (bys x.id).toArray hb4.size)
      have hld6 := ld42 R6.out hi
      generalize hw6 : (w4.alloc (.cells z42 51)).setRow w4.heap.size (bys x.id).toArray = w6 at *
      have B7 := hI (B6.out.alloc B6.out.size (.cells (bys x.id).toArray 51))
      have NW := hI (new_rv w6 (bys x.id) 51 ⟨w6.heap.size, 0, none⟩ rfl)
      have O7 := hI (own_below O2.out B7.out)
      have B07 := hI (B2.out.trans (B7.out.mono B2.out.size))
      have HI2 := hI (show (bys x.id).length = 1 * 32 by rw [bys_len, hi])
      clear hb4
      go_wp2_with (at_builtin; refine wpList_app slI rfl (.tmp 34) (.tmp 36) rfl w.heap.size _ vis.length (vis.flatMap bys) rfl O7.out (some ⟨w6.heap.size, 0, none⟩) 1 1 (bys x.id) rfl (fun q => by cases q) HI2.out NW.out (bys_one x.id) (by unfold maxLen; omega) (by omega) B07.out.size ?_; intro v3 w8 ho3 ha3; have O8 := hI ho3; have A8 := hI ha3; clear ho3 ha3)
      obtain ⟨R7, e7⟩ := R2.out.below B7.out
      have hm8 := A8.out.grown.block m R7.lt.1 (own_far O7.out hml)
      have hr8 := A8.out.grown.block w.heap.size R7.lt.2 (own_ne O7.out (fun cs f => R7.iter cs _ f))
      obtain ⟨R8, e8⟩ := R7.same hm8 hr8
      refine ⟨⟨vis ++ [x.id], fun q => absurd q (by simp), hI R8, hI (by rw [List.length_append, List.length_singleton, List.flatMap_append, List.flatMap_singleton]; exact O8.out), hI (B07.out.grown A8.out.grown B07.out.size (fun q hq => (O7.out.lt q hq).1))⟩, by rw [e8, e7]; exact LT.out⟩
end Go.Proofs.YtbmpidacoohdmaaGreat
namespace Go.Proofs.YtbmpidacoohdmaaGreat
open Lib renaming hid → hI
open Go.RowKit Op

attribute [local go_sem] bs_append bs_size
attribute [local go_sem ↓] load42_eq store42_eq new42_eq run_new42 box42_eq run_box42
theorem Psp.put {w : World} {g m : Nat} {l : List Ent} {t kn : Int} (h : Psp w g m l t kn) (h39 : l.length < 40) (e : Ent) (he : e.id.length = 32 ∧ e.body.length ≤ 400 ∧ By w e.v (objB e.body) ∧ e.id = shaOf (objB e.body)) (hno : ∀ x ∈ l, x.id ≠ e.id) :
    ∃ w', (Instr.mapUpdate 132 (.map (some m)) (.string (bs (nmB e.id))) e.v).run Tryz.prog w = .ok () w' ∧ Psp w' g m (e :: l) t kn ∧ w.grownBy w' (some m) := by
  obtain ⟨D, h1, h2⟩ := h.map
  obtain ⟨w', hr, ho, hg⟩ := h1.update keyd Tryz.underlying132 (Nat.lt_of_lt_of_le h39 (by unfold maxLen; omega)) (key_nm e.id (Nat.le_of_eq he.1)) (d := .held e.v) (ps := []) rfl
  have hc := Chs.of_grown hg
  have hn : Non (fun k => k = m) w 5 := fun k hk => h.non (ty := 5) (by decide) k (.inr hk)
  refine ⟨w', hr, ⟨(hg.block g h.glt (fun q => h.ne (Option.some.inj q).symm)).trans h.blk, ⟨_, ho, h2.put h1.isMap hno⟩, fun x hx => ?_, by rw [List.length_cons]; omega⟩, hg⟩
  rcases List.mem_cons.1 hx with rfl | hx
  · exact ⟨he.1, he.2.1, he.2.2.1.chs hc hn, he.2.2.2⟩
  · obtain ⟨a1, a2, a3, a4⟩ := h.all x hx
    exact ⟨a1, a2, a3.chs hc hn, a4⟩
set_option maxRecDepth 100000 in
set_option maxHeartbeats 1000000 in
theorem put_any (w : World) (g m : Nat) (l : List Ent) (t : Nat) (kn : Int) (ht : t ≤ 100) (hs : Psp w g m l t kn) (body : List UInt8) (hb : body.length ≤ 400) (D : Option Addr) (d : Nat) (hD : D = none → d = 0) (hr : Rv w.heap.size w D (bys body)) (h39 : l.length < 40) :
    Calls Tryz.prog 38 #[.pointer (some ⟨g, 0, none⟩), .int .i64 1, .slice D body.length d] w fun e w2 => e = .returned (.tuple #[.agg (bys (shaOf (objB body))).toArray, .int .i64 0]) ∧
      ∃ l2 t2 kn2, Psp w2 g m l2 ((t2 : Nat) : Int) kn2 ∧ t2 ≤ t + 1 ∧ Chs (fun k => k = g ∨ k = m) w w2 ∧
        (((∃ x, x ∈ l ∧ x.id = shaOf (objB body)) ∧ l2 = l) ∨ ((∀ x ∈ l, x.id ≠ shaOf (objB body)) ∧ ∃ v, l2 = ⟨shaOf (objB body), body, v⟩ :: l)) := by
  have HS := hI hs
  have HR := hI hr
  have HD := hI hD
  have B0 := hI ((Below.refl w.heap.size w).alloc (Nat.le_refl _) (.cells z42 51))
  have hlen := objB_len body
  have hp := hdB_len hb
  have hL3 : 0 < (objB body).length := by omega
  have hL2 : (objB body).length ≤ 1000 := by omega
  have R0 : Hid (Ar (w.alloc (.cells z42 51)) w.heap.size 51 (bys (List.replicate 32 0))) := hI (Ar.new w (bys (List.replicate 32 0)) 51)
  have S0 := hI (hs.below B0.out)
  have hgl := hs.glt
  have hml := hs.mlt
  clear hs hr hD hlen hp
  go_enter Tryz.func38, Tryz.ntmps38
  go_wp2_with fail
  refine (dead_any _ g m l t kn S0.out).mono ?_
  rintro e w1' ⟨rfl, rfl⟩
  go_wp2_with fail
  refine (obytes_any _ D d body (HR.out.low B0.out B0.out.size) HD.out hb).mono ?_
  rintro e w1 ⟨u, rfl, ho1, hb1⟩
  obtain ⟨bu, cu, hu, hcu, hru, hty⟩ := By.of_ows ho1 hL3
  have U1 : Hid (By w1 u (objB body)) := hI (By.of_ows ho1 hL3)
  have RU := hI hru
  have R01 := hI (R0.out.below hb1 R0.out.lt)
  have B1 := hI (B0.out.trans (hb1.mono B0.out.size))
  subst hu
  clear ho1 hb1 hru hty
  have N1 := hI (show (w1.alloc (.cells #[.slice (some ⟨bu, 0, none⟩) (objB body).length cu] 57)).cell? ⟨w1.heap.size, 0, none⟩ = some (.slice (some ⟨bu, 0, none⟩) (objB body).length cu) from new_cells w1 [.slice (some ⟨bu, 0, none⟩) (objB body).length cu] 57 _ rfl 0 _ rfl)
  have D1 := hI ((Below.refl w1.heap.size w1).alloc (Nat.le_refl _) (.cells #[.slice (some ⟨bu, 0, none⟩) (objB body).length cu] 57))
  have RUD := hI (RU.out.low D1.out D1.out.size)
  have hszd : w1.heap.size < (w1.alloc (.cells #[.slice (some ⟨bu, 0, none⟩) (objB body).length cu] 57)).heap.size := by simp
  go_wp2_with fail
  refine (of_any _ ⟨w1.heap.size, 0, none⟩ 1 (objB body) (some ⟨bu, 0, none⟩) cu N1.out hszd RUD.out hcu (by omega)).mono ?_
  rintro e w2 ⟨rfl, hb2⟩
  have HI := hI (shaOf_len (objB body))
  generalize hid : shaOf (objB body) = id at *
  have HID := hI hid
  clear hid
  have D2 := hI (D1.out.trans (hb2.mono D1.out.size))
  have B2 := hI (B1.out.trans (D2.out.mono B1.out.size))
  have U2 := hI (U1.out.chs (Chs.of_below D2.out (fun _ => False)) (fun _ q => q.elim))
  have R02 := hI (R01.out.below D2.out R01.out.lt)
  have hne : w.heap.size ≠ w2.heap.size := Nat.ne_of_lt R02.out.lt
  have R03 := hI ((R02.out.alloc (.cells z42 51)).past w2.heap.size (bys id).toArray hne)
  have R2 : Hid (Ar (w2.alloc (.cells z42 51)) w2.heap.size 51 (bys (List.replicate 32 0))) := hI (Ar.new w2 (bys (List.replicate 32 0)) 51)
  have hst := st42 R2.out (by simp) HI.out
  have R3 := hI (R2.out.setRow (bys id))
  have E3 := hI (below_row ((Below.refl w2.heap.size w2).alloc (Nat.le_refl _) (.cells z42 51)) w2.heap.size (bys id).toArray (Nat.le_refl _))
  have B3 := hI (B2.out.trans (E3.out.mono B2.out.size))
  have U3 := hI (U2.out.chs (Chs.of_below E3.out (fun _ => False)) (fun _ q => q.elim))
  have hld3 := ld42 R3.out HI.out
  clear hb2 hszd
  generalize hw3 : (w2.alloc (.cells z42 51)).setRow w2.heap.size (bys id).toArray = w3 at *
  have S3 := hI (HS.out.below B3.out)
  go_wp2_with fail
  refine (find_any w3 g m l t kn S3.out id HI.out).mono ?_
  rintro e w4 ⟨kn4, hs4, hc4, ⟨x, hm, he, u4, rfl, ho4⟩ | ⟨hno, rfl⟩⟩
  · have S4 := hI hs4
    have C4 := hI hc4
    have NG : Hid (Non (fun k => k = g) w3 51) := hI fun k hk => S3.out.non (by decide) k (.inl hk)
    have R4 := hI (R3.out.chs C4.out NG.out)
    have R04 := hI (R03.out.chs C4.out NG.out)
    have hld4 := ld42 R4.out HI.out
    have hst4 := st42 R04.out (by simp) HI.out
    have HM := hI (And.intro hm he)
    clear hs4 hc4 hld3 hm he
    go_wp2_with fail
    have R9 := hI (R04.out.setRow (bys id))
    refine bodyPost_ret (results_cell2 rfl _ _ ⟨w.heap.size, 0, none⟩ rfl (R9.out.load (by rw [bys_len, HI.out]) Tryz.underlying51 rfl inf42)) rfl ?_
    have CR := hI (chs_row w4 w.heap.size (bys id).toArray)
    have CA := hI ((Chs.trans (Chs.of_below B3.out _) C4.out).young CR.out (Nat.le_refl _))
    obtain rfl := HID.out
    refine ⟨rfl, l, t, kn4, S4.out.chs CR.out (R04.out.non (by decide)) (CR.out.block m S4.out.mlt (fun q => by omega)) ((CR.out.block g S4.out.glt (fun q => by omega)).trans S4.out.blk), by omega, CA.out.more (fun k hk => .inl hk), .inl ⟨⟨x, HM.out.1, HM.out.2⟩, rfl⟩⟩
  · have S4 := hI hs4
    have C4 := hI hc4
    have NO := hI hno
    have NG : Hid (Non (fun k => k = g) w3 51) := hI fun k hk => S3.out.non (by decide) k (.inl hk)
    have NU : Hid (Non (fun k => k = g) w3 5) := hI fun k hk => S3.out.non (by decide) k (.inl hk)
    have R4 := hI (R3.out.chs C4.out NG.out)
    have R04 := hI (R03.out.chs C4.out NG.out)
    have U4 := hI (U3.out.chs C4.out NU.out)
    clear hs4 hc4 hld3 hno
    go_wp2_with fail
    refine (ids_any w4 g m l t kn4 S4.out).mono ?_
    rintro e w5 ⟨⟨D5, n5, c5, hn5, rfl⟩, kn5, hs5, hc5⟩
    have S5 := hI hs5
    have C5 := hI (C4.out.trans hc5)
    have NG4 : Hid (Non (fun k => k = g) w4 51) := hI fun k hk => S4.out.non (by decide) k (.inl hk)
    have NU4 : Hid (Non (fun k => k = g) w4 5) := hI fun k hk => S4.out.non (by decide) k (.inl hk)
    have R5 := hI (R4.out.chs hc5 NG4.out)
    have R05 := hI (R04.out.chs hc5 NG4.out)
    have U5 := hI (U4.out.chs hc5 NU4.out)
    have h600 : (n5 : Int) < 600 := by omega
    clear hs5 hc5
    go_upto_region 12 with fail
    have D6 := hI ((Below.refl w5.heap.size w5).drew)
    have S6 := hI (S5.out.below D6.out)
    have C6 := hI (C5.out.trans (Chs.of_below D6.out _))
    have R6 := hI (R5.out.below D6.out R5.out.lt)
    have R06 := hI (R05.out.below D6.out R05.out.lt)
    have U6 := hI (U5.out.chs (Chs.of_below D6.out (fun _ => False)) (fun _ q => q.elim))
    have hld6 := ld42 R6.out HI.out
    have hc6 : w5.drew.cell? ⟨g, 0, none⟩ = some (.map (some m)) := by rw [cell_of_row _ g 0 _ _ _ S6.out.blk]; rfl
    have hcat : (⟨#[108, 111, 111, 115, 101, 47]⟩ : ByteArray) ++ bs (hexB id) = bs (nmB id) := bs_append looB (hexB id)
    have hsz : (bs (hexB id)).size = 64 := by rw [bs_size, hexB_len]; have := HI.out; omega
    generalize hw6 : w5.drew = w6 at *
    go_region_with (go_at_call 93; refine (hex_any w6 id HI.out).mono ?_; rintro e w7 ⟨rfl, hb7⟩; have S7 := hI (S6.out.below hb7); have C7 := hI (C6.out.trans (Chs.of_below hb7 _)); have R7 := hI (R6.out.below hb7 R6.out.lt); have R07 := hI (R06.out.below hb7 R06.out.lt); have U7 := hI (U6.out.chs (Chs.of_below hb7 (fun _ => False)) (fun _ q => q.elim)); have hld7 := ld42 R7.out HI.out; have hc7 : w7.cell? ⟨g, 0, none⟩ = some (.map (some m)) := (by rw [cell_of_row _ g 0 _ _ _ S7.out.blk]; rfl); obtain ⟨w8, hup, hs8, hg8⟩ := S7.out.put h39 ⟨id, body, .slice (some ⟨bu, 0, none⟩) (objB body).length cu⟩ ⟨HI.out, hb, U7.out, HID.out.symm⟩ NO.out; have hup2 : (Instr.mapUpdate 132 (.map (some m)) (.string (bs (nmB id))) (.slice (some ⟨bu, 0, none⟩) (objB body).length cu)).run Tryz.prog w7 = .ok () w8 := hup; clear hup; have S8 := hI hs8; have G8 := hI hg8; clear hb7 hs8 hg8)
    all_goals
      have hc81 : w8.cell? ⟨g, 1, none⟩ = some (.int .i64 t) := by rw [cell_of_row w8 g 1 _ _ _ S8.out.blk]; rfl
      have hf81 := frozen_of_row w8 g 1 _ _ S8.out.blk
      have hw2 : w.heap.size < w2.heap.size := R02.out.lt
      have R8 := hI (R7.out.later G8.out (fun q => by have := Option.some.inj q; omega))
      have R08 := hI (R07.out.later G8.out (fun q => by have := Option.some.inj q; omega))
      have R9 := hI (R8.out.other ⟨g, 1, none⟩ (.int .i64 ((t : Int) + 1)) (show w2.heap.size ≠ g by omega))
      have R09 := hI (R08.out.other ⟨g, 1, none⟩ (.int .i64 ((t : Int) + 1)) (show w.heap.size ≠ g by omega))
      have hld9 := ld42 R9.out HI.out
      have hst9 := st42 R09.out (by simp) HI.out
      have hb9 : (w8.setCell ⟨g, 1, none⟩ (.int .i64 ((t : Int) + 1))).heap[g]? = some (.cells #[.map (some m), .int .i64 ((t : Int) + 1), .slice none 0 0, .int .i64 kn5] 135 (0, 0)) := by
        rw [set_same S8.out.blk]; rfl
      have G9 := hI (Chs.of_grown (grown_set (grown_refl w8 (some g)) 1 (.int .i64 ((t : Int) + 1))))
      have S9 := hI (S8.out.turn G9.out hb9)
      clear hb9 hld7 hup2
      go_wp2_with fail
      have R10 := hI (R09.out.setRow (bys id))
      have CR := hI (chs_row (w8.setCell ⟨g, 1, none⟩ (.int .i64 ((t : Int) + 1))) w.heap.size (bys id).toArray)
      refine bodyPost_ret (results_cell2 rfl _ _ ⟨w.heap.size, 0, none⟩ rfl (R10.out.load (by rw [bys_len, HI.out]) Tryz.underlying51 rfl inf42)) rfl ?_
      obtain rfl := HID.out
      exact ⟨rfl, _, t + 1, kn5, S9.out.chs CR.out (R09.out.non (by decide)) (CR.out.block m S9.out.mlt (fun q => by omega)) ((CR.out.block g S9.out.glt (fun q => by omega)).trans S9.out.blk), Nat.le_refl _, ((((Chs.of_below B3.out _).trans (C7.out.more (fun k hk => .inl hk))).trans ((Chs.of_grown G8.out).more (fun k hk => .inr hk))).trans (G9.out.more (fun k hk => .inl hk))).young CR.out (Nat.le_refl _), .inr ⟨NO.out, _, rfl⟩⟩
end Go.Proofs.YtbmpidacoohdmaaGreat

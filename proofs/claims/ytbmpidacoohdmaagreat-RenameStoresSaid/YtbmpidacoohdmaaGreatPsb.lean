/- The program's store: indexes (there are none), loose, find, Get, Read. -/
import Derived.Test.YtbmpidacoohdmaaGreatPst
namespace Go.Proofs.YtbmpidacoohdmaaGreat
open Go.RowKit Op

attribute [local go_sem] bs_append bs_size
attribute [local go_sem ↓] load42_eq store42_eq box42_eq run_box42
theorem results_tmp4 {fn : Func} {t u v x : Tmp} (h : fn.results = #[.tmp t, .tmp u, .tmp v, .tmp x]) (tmps : Array Value) (P : Program) (w : World) : (results fn tmps).run P w = .ok (.tuple #[tmps.getD t undef, tmps.getD u undef, tmps.getD v undef, tmps.getD x undef]) w := by
  simp [results, h]
theorem run_neq_id {a b : List UInt8} (ha : a.length = 32) (hb : b.length = 32) (w : World) : (binOp .neq 51 (.agg (bys a).toArray) (.agg (bys b).toArray)).run Tryz.prog w = .ok (.bool (!decide (a = b))) w := by
  obtain ⟨i, hi, hs⟩ := Option.map_eq_some_iff.1 inf5u
  rw [ints_u8s, ints_u8s, run_neq_u8s w Tryz.underlying51 Tryz.underlying5 hi hs (intsU a) (intsU b) (by simp [intsU, ha]) (by simp [intsU, hb])]
  exact congrArg (fun x => Result.ok (Value.bool (!x)) w) (decide_eq_decide.2 (ints_inj a b))
set_option maxRecDepth 100000 in
set_option maxHeartbeats 1000000 in
theorem indexes_any (w : World) (g m : Nat) (l : List Ent) (t kn : Int) (hs : Psp w g m l t kn) : Calls Tryz.prog 151 #[.pointer (some ⟨g, 0, none⟩)] w fun e w2 => e = .returned (.slice none 0 0) ∧ ∃ kn2, Psp w2 g m l t kn2 ∧ Chs (fun k => k = g) w w2 := by
  have HS := Lib.hid hs
  have hc1 : w.cell? ⟨g, 1, none⟩ = some (.int .i64 t) := by rw [cell_of_row w g 1 _ _ _ hs.blk]; rfl
  have hc2 : w.cell? ⟨g, 2, none⟩ = some (.slice none 0 0) := by rw [cell_of_row w g 2 _ _ _ hs.blk]; rfl
  have hc3 : w.cell? ⟨g, 3, none⟩ = some (.int .i64 kn) := by rw [cell_of_row w g 3 _ _ _ hs.blk]; rfl
  clear hs
  by_cases hk : kn = t
  · subst hk
    go_enter Tryz.func151, Tryz.ntmps151
    go_wp2_with fail
    refine wp_region_quiet_lit (by kernel_rfl) (by kernel_rfl) ?_
    repeat (go_big_quiet_step (fail))
    refine wpQuiet_nil ?_
    rintro _ ⟨n, rfl⟩
    go_wp2_with fail
    go_ret
    exact ⟨rfl, kn, HS.out.below (below_dr (Below.refl _ _) n), Chs.of_below (below_dr (Below.refl _ _) n) _⟩
  · go_enter Tryz.func151, Tryz.ntmps151
    go_wp2_with fail
    refine wp_region_quiet_lit (by kernel_rfl) (by kernel_rfl) ?_
    repeat (go_big_quiet_step (fail))
    refine wpQuiet_nil ?_
    rintro _ ⟨n, rfl⟩
    have D0 := Lib.hid (below_dr (Below.refl w.heap.size w) n)
    have SD := Lib.hid (HS.out.below D0.out)
    clear hc1 hc2 hc3
    generalize w.drewN n = wd at *
    have hfd := frozen_of_row wd g 2 _ _ SD.out.blk
    have hcd : wd.cell? ⟨g, 2, none⟩ = some (.slice none 0 0) := by rw [cell_of_row wd g 2 _ _ _ SD.out.blk]; rfl
    have hb1 : (wd.setCell ⟨g, 2, none⟩ (.slice none 0 0)).heap[g]? = some (.cells #[.map (some m), .int .i64 t, .slice none 0 0, .int .i64 kn] 135 (0, 0)) := by rw [set_same SD.out.blk]; rfl
    have G1 := Lib.hid (Chs.of_grown (grown_set (grown_refl wd (some g)) 2 (.slice none 0 0)))
    have S1 := Lib.hid (SD.out.turn G1.out hb1)
    clear hb1
    have C1 := Lib.hid ((Chs.of_below D0.out (fun k => k = g)).trans G1.out)
    obtain ⟨w1, hw1⟩ : ∃ w1, wd.setCell ⟨g, 2, none⟩ (.slice none 0 0) = w1 := ⟨_, rfl⟩
    rw [hw1] at S1 C1
    go_wp2_with fail
    refine (numbers_any w1 g m l t kn S1.out).mono ?_
    rintro e w2 ⟨rfl, hb2⟩
    have S2 := Lib.hid (S1.out.below hb2)
    have C2 := Lib.hid (C1.out.trans (Chs.of_below hb2 _))
    have hd1 : w2.cell? ⟨g, 1, none⟩ = some (.int .i64 t) := by rw [cell_of_row w2 g 1 _ _ _ S2.out.blk]; rfl
    have he3 := frozen_of_row w2 g 3 _ _ S2.out.blk
    have hce : w2.cell? ⟨g, 3, none⟩ = some (.int .i64 kn) := by rw [cell_of_row w2 g 3 _ _ _ S2.out.blk]; rfl
    have hb3 : (w2.setCell ⟨g, 3, none⟩ (.int .i64 t)).heap[g]? = some (.cells #[.map (some m), .int .i64 t, .slice none 0 0, .int .i64 t] 135 (0, 0)) := by rw [set_same S2.out.blk]; rfl
    have G3 := Lib.hid (Chs.of_grown (grown_set (grown_refl w2 (some g)) 3 (.int .i64 t)))
    have S3 := Lib.hid (S2.out.turn G3.out hb3)
    have hg3 : (w2.setCell ⟨g, 3, none⟩ (.int .i64 t)).cell? ⟨g, 2, none⟩ = some (.slice none 0 0) := by rw [cell_of_row _ g 2 _ _ _ hb3]; rfl
    clear hb3 hb2 hfd hcd
    go_wp2_with fail
    refine wp_loop_rounds 1 ?_
    rw [rounds_succ]
    go_wp2_with fail
    go_ret
    exact ⟨rfl, t, S3.out, C2.out.trans G3.out⟩
set_option maxRecDepth 100000 in
set_option maxHeartbeats 1000000 in
theorem loose_any (w : World) (b c : Nat) (body id : List UInt8) (h : Rv w.heap.size w (some ⟨b, 0, none⟩) (bys (objB body))) (hc : (objB body).length ≤ c) (hl : body.length ≤ 400) (hid : shaOf (objB body) = id) :
    Calls Tryz.prog 150 #[.slice (some ⟨b, 0, none⟩) (objB body).length c, .agg (bys id).toArray] w fun e w2 => ∃ u, e = .returned (.tuple #[.int .i64 1, u, .bool true]) ∧ Ows w2 w.heap.size 5 u (bys body) ∧ Below w.heap.size w w2 := by
  have hi : id.length = 32 := by rw [← hid]; exact shaOf_len _
  have hp := hdB_len hl
  have hL := objB_len body
  have hL2 : (objB body).length ≤ 1000 := by omega
  have HID := Lib.hid hid
  have R0 := Lib.hid (Ar.new w (bys id) 51)
  have B0 := Lib.hid ((Below.refl w.heap.size w).alloc (Nat.le_refl _) (.cells (bys id).toArray 51))
  have V0 := Lib.hid (h.low B0.out B0.out.size)
  have hq := fun W => run_neq_id (a := id) (b := id) hi hi W
  clear hid hp hL h
  go_enter Tryz.func150, Tryz.ntmps150
  go_upto_region 1 with fail
  have hsz : (w.alloc (.cells (bys id).toArray 51)).heap.size = w.heap.size + 1 := by simp
  generalize hw0 : w.alloc (.cells (bys id).toArray 51) = w0 at *
  have D0 := Lib.hid (Below.refl w0.heap.size w0).drew
  have hld0 := ld42 (R0.out.below D0.out R0.out.lt) hi
  have N1 := Lib.hid (show (w0.alloc (.cells #[.slice (some ⟨b, 0, none⟩) (objB body).length c] 57)).drew.cell? ⟨w.heap.size + 1, 0, none⟩ = some (.slice (some ⟨b, 0, none⟩) (objB body).length c) from hsz ▸ new_cells w0 [.slice (some ⟨b, 0, none⟩) (objB body).length c] 57 _ rfl 0 _ rfl)
  have D1 := Lib.hid ((Below.refl w0.heap.size w0).alloc (Nat.le_refl _) (.cells #[.slice (some ⟨b, 0, none⟩) (objB body).length c] 57)).drew
  have hld1 := ld42 (R0.out.below D1.out R0.out.lt) hi
  have VD := Lib.hid (V0.out.low D1.out D1.out.size)
  have BD := Lib.hid (B0.out.trans (D1.out.mono B0.out.size))
  have hs1 : w.heap.size + 1 < (w0.alloc (.cells #[.slice (some ⟨b, 0, none⟩) (objB body).length c] 57)).drew.heap.size := by rw [← hsz]; simp
  have R1 := Lib.hid (R0.out.below D1.out R0.out.lt)
  generalize hw1 : (w0.alloc (.cells #[.slice (some ⟨b, 0, none⟩) (objB body).length c] 57)).drew = w1 at *
  go_region_with (go_at_call 90; refine (of_any w1 ⟨w.heap.size + 1, 0, none⟩ 1 (objB body) (some ⟨b, 0, none⟩) c N1.out hs1 VD.out hc (by omega)).mono ?_; rintro e w5 ⟨rfl, hb5⟩; rw [HID.out]; have hld5 := ld42 (R1.out.below hb5 R1.out.lt) hi; have B5 := Lib.hid (BD.out.trans (hb5.mono BD.out.size)); have V5 := Lib.hid (VD.out.low hb5 hb5.size); clear hb5)
  all_goals
    go_wp2_with fail
    refine (split_any w5 b c body V5.out hl hc).mono ?_
    rintro e w6 ⟨u, rfl, ho, hb6⟩
    have B6 := Lib.hid (B5.out.trans (hb6.mono B5.out.size))
    have O6 := Lib.hid (ho.less (b := w.heap.size) B5.out.size)
    clear ho hb6
    go_wp2_with fail
    go_ret3
    exact ⟨u, rfl, O6.out, B6.out⟩
set_option maxRecDepth 100000 in
set_option maxHeartbeats 1000000 in
theorem find_any (w : World) (g m : Nat) (l : List Ent) (t kn : Int) (hs : Psp w g m l t kn) (id : List UInt8) (hi : id.length = 32) :
    Calls Tryz.prog 91 #[.pointer (some ⟨g, 0, none⟩), .agg (bys id).toArray] w fun e w2 => ∃ kn2, Psp w2 g m l t kn2 ∧ Chs (fun k => k = g) w w2 ∧
      ((∃ x, x ∈ l ∧ x.id = id ∧ ∃ u, e = .returned (.tuple #[.int .i64 1, u, .int .i64 1, .bool true]) ∧ Ows w2 w.heap.size 5 u (bys x.body)) ∨
       ((∀ x ∈ l, x.id ≠ id) ∧ e = .returned (.tuple #[.int .i64 0, .slice none 0 0, .int .i64 0, .bool false]))) := by
  have HS := Lib.hid hs
  have R0 := Lib.hid (Ar.new w (bys id) 51)
  have B0 := Lib.hid ((Below.refl w.heap.size w).alloc (Nat.le_refl _) (.cells (bys id).toArray 51))
  have hcat : (⟨#[108, 111, 111, 115, 101, 47]⟩ : ByteArray) ++ bs (hexB id) = bs (nmB id) := bs_append looB (hexB id)
  have hsz : (bs (hexB id)).size = 64 := by rw [bs_size, hexB_len]; omega
  clear hs
  go_enter Tryz.func91, Tryz.ntmps91
  go_upto_region 2 with fail
  generalize hw0 : w.alloc (.cells (bys id).toArray 51) = w0 at *
  have D0 := Lib.hid ((Below.refl w0.heap.size w0).drew)
  have BD := Lib.hid (B0.out.trans (D0.out.mono B0.out.size))
  have S0 := Lib.hid (HS.out.below BD.out)
  have RD := Lib.hid (R0.out.below D0.out R0.out.lt)
  have hld0 := ld42 RD.out hi
  have hc0 : w0.drew.cell? ⟨g, 0, none⟩ = some (.map (some m)) := by rw [cell_of_row _ g 0 _ _ _ S0.out.blk]; rfl
  generalize hwd : w0.drew = wd at *
  by_cases hx : ∃ x, x ∈ l ∧ x.id = id
  · obtain ⟨x, hm, he⟩ := hx
    obtain ⟨_, h2, ⟨bb, cc, hv, hcc, hrv, _⟩, h4⟩ := S0.out.all x hm
    have HM := Lib.hid (And.intro hm he)
    have HV := Lib.hid hv
    have VD := Lib.hid hrv
    have H4 : Hid (shaOf (objB x.body) = id) := Lib.hid (h4.symm.trans he)
    clear hv hm he hrv h4
    go_region_with (go_at_call 93; refine (hex_any wd id hi).mono ?_; rintro e w5 ⟨rfl, hb5⟩; have S5 := Lib.hid (S0.out.below hb5); have R5 := Lib.hid (RD.out.below hb5 RD.out.lt); have hc5 : w5.cell? ⟨g, 0, none⟩ = some (.map (some m)) := (by rw [cell_of_row _ g 0 _ _ _ S5.out.blk]; rfl); have hld5 := ld42 R5.out hi; have hlk := S5.out.look_yes HM.out.1; rw [HM.out.2, HV.out] at hlk; have V5 := Lib.hid (VD.out.low hb5 hb5.size); have B5 := Lib.hid (BD.out.trans (hb5.mono BD.out.size)); clear hb5)
    all_goals
      go_wp2_with fail
      refine (loose_any w5 bb cc x.body id V5.out hcc h2 H4.out).mono ?_
      rintro e w6 ⟨u, rfl, ho, hb6⟩
      have O6 := Lib.hid (ho.less (b := w.heap.size) B5.out.size)
      have S6 := Lib.hid (S5.out.below hb6)
      have B6 := Lib.hid (B5.out.trans (hb6.mono B5.out.size))
      clear ho hb6
      go_wp2_with fail
      refine bodyPost_ret (results_tmp4 rfl _ _ _) rfl ?_
      exact ⟨kn, S6.out, Chs.of_below B6.out _, .inl ⟨x, HM.out.1, HM.out.2, u, rfl, O6.out⟩⟩
  · have NO : Hid (∀ x ∈ l, x.id ≠ id) := Lib.hid fun x hm he => hx ⟨x, hm, he⟩
    clear hx
    go_region_with (go_at_call 93; refine (hex_any wd id hi).mono ?_; rintro e w5 ⟨rfl, hb5⟩; have S5 := Lib.hid (S0.out.below hb5); have R5 := Lib.hid (RD.out.below hb5 RD.out.lt); have hc5 : w5.cell? ⟨g, 0, none⟩ = some (.map (some m)) := (by rw [cell_of_row _ g 0 _ _ _ S5.out.blk]; rfl); have hld5 := ld42 R5.out hi; have hlk := S5.out.look_no hi NO.out; have B5 := Lib.hid (BD.out.trans (hb5.mono BD.out.size)); clear hb5)
    all_goals
      go_wp2_with fail
      refine (indexes_any w5 g m l t kn S5.out).mono ?_
      rintro e w6 ⟨rfl, kn2, hs6, hc6⟩
      have S6 := Lib.hid hs6
      have C6 := Lib.hid ((Chs.of_below B5.out _).trans hc6)
      clear hs6 hc6
      go_wp2_with fail
      refine wp_loop_rounds 1 ?_
      rw [rounds_succ]
      go_wp2_with fail
      refine bodyPost_ret (results_tmp4 rfl _ _ _) rfl ?_
      exact ⟨kn2, S6.out, C6.out, .inr ⟨NO.out, rfl⟩⟩

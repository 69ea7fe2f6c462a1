/- The program's store: indexes (there are none), loose, find, Get, Read. The document's store: Lay, a file more. -/
import Derived.Test.YtbmpidacoohdmaaGreatF09
namespace Go.Proofs.YtbmpidacoohdmaaGreat
open Lib renaming hid → hI
open Go.RowKit Op

attribute [local go_sem] bs_append bs_size
attribute [local go_sem ↓] load42_eq store42_eq box42_eq run_box42
theorem results_tmp4 {fn : Func} {t u v x : Tmp} (h : fn.results = #[.tmp t, .tmp u, .tmp v, .tmp x]) (tmps : Array Value) (P : Program) (w : World) : (results fn tmps).run P w = .ok (.tuple #[tmps.getD t undef, tmps.getD u undef, tmps.getD v undef, tmps.getD x undef]) w := by
  simp [results, h]
theorem run_neq_id {a b : List UInt8} (ha : a.length = 32) (hb : b.length = 32) (w : World) : (binOp .neq 51 (.agg (bys a).toArray) (.agg (bys b).toArray)).run Tryz.prog w = .ok (.bool (!decide (a = b))) w := by
  obtain ⟨i, hi, hs⟩ := Option.map_eq_some_iff.1 inf5u
  rw [ints_u8s, ints_u8s, run_neq_u8s w Tryz.underlying51 Tryz.underlying5 hi hs (intsU a) (intsU b) (by simp [intsU, ha]) (by simp [intsU, hb])]
  exact congrArg (fun x => Result.ok (Value.bool (!x)) w) (decide_eq_decide.2 (ints_inj a b))
set_option maxRecDepth 100000 in
set_option maxHeartbeats 1000000 in
theorem indexes_any (w : World) (g m : Nat) (l : List Ent) (t kn : Int) (hs : Psp w g m l t kn) : Calls Tryz.prog 151 #[.pointer (some ⟨g, 0, none⟩)] w fun e w2 => e = .returned (.slice none 0 0) ∧ ∃ kn2, Psp w2 g m l t kn2 ∧ Chs (fun k => k = g) w w2 := by
  have HS := hI hs
  have hc1 : w.cell? ⟨g, 1, none⟩ = some (.int .i64 t) := by rw [cell_of_row w g 1 _ _ _ hs.blk]; rfl
  have hc2 : w.cell? ⟨g, 2, none⟩ = some (.slice none 0 0) := by rw [cell_of_row w g 2 _ _ _ hs.blk]; rfl
  have hc3 : w.cell? ⟨g, 3, none⟩ = some (.int .i64 kn) := by rw [cell_of_row w g 3 _ _ _ hs.blk]; rfl
  clear hs
  by_cases hk : kn = t
  · subst hk
    go_enter Tryz.func151, Tryz.ntmps151
    go_wp2_with fail
    refine wp_region_quiet_lit (by kernel_rfl) (by kernel_rfl) ?_
    repeat (go_big_quiet_step (fail))
    refine wpQuiet_nil ?_
    rintro _ ⟨n, rfl⟩
    go_wp2_with fail
    go_ret
    exact ⟨rfl, kn, HS.out.below (below_dr (Below.refl _ _) n), Chs.of_below (below_dr (Below.refl _ _) n) _⟩
  · go_enter Tryz.func151, Tryz.ntmps151
    go_wp2_with fail
    refine wp_region_quiet_lit (by kernel_rfl) (by kernel_rfl) ?_
    repeat (go_big_quiet_step (fail))
    refine wpQuiet_nil ?_
    rintro _ ⟨n, rfl⟩
    have D0 := hI (below_dr (Below.refl w.heap.size w) n)
    have SD := hI (HS.out.below D0.out)
    clear hc1 hc2 hc3
    generalize w.drewN n = wd at *
    have hfd := frozen_of_row wd g 2 _ _ SD.out.blk
    have hcd : wd.cell? ⟨g, 2, none⟩ = some (.slice none 0 0) := by rw [cell_of_row wd g 2 _ _ _ SD.out.blk]; rfl
    have hb1 : (wd.setCell ⟨g, 2, none⟩ (.slice none 0 0)).heap[g]? = some (.cells #[.map (some m), .int .i64 t, .slice none 0 0, .int .i64 kn] 135 (0, 0)) := by rw [set_same SD.out.blk]; rfl
    have G1 := hI (Chs.of_grown (grown_set (grown_refl wd (some g)) 2 (.slice none 0 0)))
    have S1 := hI (SD.out.turn G1.out hb1)
    clear hb1
    have C1 := hI ((Chs.of_below D0.out (fun k => k = g)).trans G1.out)
    obtain ⟨w1, hw1⟩ : ∃ w1, wd.setCell ⟨g, 2, none⟩ (.slice none 0 0) = w1 := ⟨_, rfl⟩
    rw [hw1] at S1 C1
    go_wp2_with fail
    refine (numbers_any w1 g m l t kn S1.out).mono ?_
    rintro e w2 ⟨rfl, hb2⟩
    have S2 := hI (S1.out.below hb2)
    have C2 := hI (C1.out.trans (Chs.of_below hb2 _))
    have hd1 : w2.cell? ⟨g, 1, none⟩ = some (.int .i64 t) := by rw [cell_of_row w2 g 1 _ _ _ S2.out.blk]; rfl
    have he3 := frozen_of_row w2 g 3 _ _ S2.out.blk
    have hce : w2.cell? ⟨g, 3, none⟩ = some (.int .i64 kn) := by rw [cell_of_row w2 g 3 _ _ _ S2.out.blk]; rfl
    have hb3 : (w2.setCell ⟨g, 3, none⟩ (.int .i64 t)).heap[g]? = some (.cells #[.map (some m), .int .i64 t, .slice none 0 0, .int .i64 t] 135 (0, 0)) := by rw [set_same S2.out.blk]; rfl
    have G3 := hI (Chs.of_grown (grown_set (grown_refl w2 (some g)) 3 (.int .i64 t)))
    have S3 := hI (S2.out.turn G3.out hb3)
    have hg3 : (w2.setCell ⟨g, 3, none⟩ (.int .i64 t)).cell? ⟨g, 2, none⟩ = some (.slice none 0 0) := by rw [cell_of_row _ g 2 _ _ _ hb3]; rfl
    clear hb3 hb2 hfd hcd
    go_wp2_with fail
    refine wp_loop_rounds 1 ?_
    rw [rounds_succ]
    go_wp2_with fail
    go_ret
    exact ⟨rfl, t, S3.out, C2.out.trans G3.out⟩
set_option maxRecDepth 100000 in
set_option maxHeartbeats 1000000 in
theorem loose_any (w : World) (b c : Nat) (body id : List UInt8) (h : Rv w.heap.size w (some ⟨b, 0, none⟩) (bys (objB body))) (hc : (objB body).length ≤ c) (hl : body.length ≤ 400) (hid : shaOf (objB body) = id) :
    Calls Tryz.prog 150 #[.slice (some ⟨b, 0, none⟩) (objB body).length c, .agg (bys id).toArray] w fun e w2 => ∃ u, e = .returned (.tuple #[.int .i64 1, u, .bool true]) ∧ Ows w2 w.heap.size 5 u (bys body) ∧ Below w.heap.size w w2 := by
  have hi : id.length = 32 := by rw [← hid]; exact shaOf_len _
  have hp := hdB_len hl
  have hL := objB_len body
  have hL2 : (objB body).length ≤ 1000 := by omega
  have HID := hI hid
  have R0 := hI (Ar.new w (bys id) 51)
  have B0 := hI ((Below.refl w.heap.size w).alloc (Nat.le_refl _) (.cells (bys id).toArray 51))
  have V0 := hI (h.low B0.out B0.out.size)
  have hq := fun W => run_neq_id (a := id) (b := id) hi hi W
  clear hid hp hL h
  go_enter Tryz.func150, Tryz.ntmps150
  go_upto_region 1 with fail
  have hsz : (w.alloc (.cells (bys id).toArray 51)).heap.size = w.heap.size + 1 := by simp
  generalize hw0 : w.alloc (.cells (bys id).toArray 51) = w0 at *
  have D0 := hI (Below.refl w0.heap.size w0).drew
  have hld0 := ld42 (R0.out.below D0.out R0.out.lt) hi
  have N1 := hI (show (w0.alloc (.cells #[.slice (some ⟨b, 0, none⟩) (objB body).length c] 57)).drew.cell? ⟨w.heap.size + 1, 0, none⟩ = some (.slice (some ⟨b, 0, none⟩) (objB body).length c) from hsz ▸ new_cells w0 [.slice (some ⟨b, 0, none⟩) (objB body).length c] 57 _ rfl 0 _ rfl)
  have D1 := hI ((Below.refl w0.heap.size w0).alloc (Nat.le_refl _) (.cells #[.slice (some ⟨b, 0, none⟩) (objB body).length c] 57)).drew
  have hld1 := ld42 (R0.out.below D1.out R0.out.lt) hi
  have VD := hI (V0.out.low D1.out D1.out.size)
  have BD := hI (B0.out.trans (D1.out.mono B0.out.size))
  have hs1 : w.heap.size + 1 < (w0.alloc (.cells #[.slice (some ⟨b, 0, none⟩) (objB body).length c] 57)).drew.heap.size := by rw [← hsz]; simp
  have R1 := hI (R0.out.below D1.out R0.out.lt)
  generalize hw1 : (w0.alloc (.cells #[.slice (some ⟨b, 0, none⟩) (objB body).length c] 57)).drew = w1 at *
  go_region_with (go_at_call 90; refine (of_any w1 ⟨w.heap.size + 1, 0, none⟩ 1 (objB body) (some ⟨b, 0, none⟩) c N1.out hs1 VD.out hc (by omega)).mono ?_; rintro e w5 ⟨rfl, hb5⟩; rw [HID.out]; have hld5 := ld42 (R1.out.below hb5 R1.out.lt) hi; have B5 := hI (BD.out.trans (hb5.mono BD.out.size)); have V5 := hI (VD.out.low hb5 hb5.size); clear hb5)
  all_goals
    go_wp2_with fail
    refine (split_any w5 b c body V5.out hl hc).mono ?_
    rintro e w6 ⟨u, rfl, ho, hb6⟩
    have B6 := hI (B5.out.trans (hb6.mono B5.out.size))
    have O6 := hI (ho.less (b := w.heap.size) B5.out.size)
    clear ho hb6
    go_wp2_with fail
    go_ret3
    exact ⟨u, rfl, O6.out, B6.out⟩
set_option maxRecDepth 100000 in
set_option maxHeartbeats 1000000 in
theorem find_any (w : World) (g m : Nat) (l : List Ent) (t kn : Int) (hs : Psp w g m l t kn) (id : List UInt8) (hi : id.length = 32) :
    Calls Tryz.prog 91 #[.pointer (some ⟨g, 0, none⟩), .agg (bys id).toArray] w fun e w2 => ∃ kn2, Psp w2 g m l t kn2 ∧ Chs (fun k => k = g) w w2 ∧
      ((∃ x, x ∈ l ∧ x.id = id ∧ ∃ u, e = .returned (.tuple #[.int .i64 1, u, .int .i64 1, .bool true]) ∧ Ows w2 w.heap.size 5 u (bys x.body)) ∨
       ((∀ x ∈ l, x.id ≠ id) ∧ e = .returned (.tuple #[.int .i64 0, .slice none 0 0, .int .i64 0, .bool false]))) := by
  have HS := hI hs
  have R0 := hI (Ar.new w (bys id) 51)
  have B0 := hI ((Below.refl w.heap.size w).alloc (Nat.le_refl _) (.cells (bys id).toArray 51))
  have hcat : (⟨#[108, 111, 111, 115, 101, 47]⟩ : ByteArray) ++ bs (hexB id) = bs (nmB id) := bs_append looB (hexB id)
  have hsz : (bs (hexB id)).size = 64 := by rw [bs_size, hexB_len]; omega
  clear hs
  go_enter Tryz.func91, Tryz.ntmps91
  go_upto_region 2 with fail
  generalize hw0 : w.alloc (.cells (bys id).toArray 51) = w0 at *
  have D0 := hI ((Below.refl w0.heap.size w0).drew)
  have BD := hI (B0.out.trans (D0.out.mono B0.out.size))
  have S0 := hI (HS.out.below BD.out)
  have RD := hI (R0.out.below D0.out R0.out.lt)
  have hld0 := ld42 RD.out hi
  have hc0 : w0.drew.cell? ⟨g, 0, none⟩ = some (.map (some m)) := by rw [cell_of_row _ g 0 _ _ _ S0.out.blk]; rfl
  generalize hwd : w0.drew = wd at *
  by_cases hx : ∃ x, x ∈ l ∧ x.id = id
  · obtain ⟨x, hm, he⟩ := hx
    obtain ⟨_, h2, ⟨bb, cc, hv, hcc, hrv, _⟩, h4⟩ := S0.out.all x hm
    have HM := hI (And.intro hm he)
    have HV := hI hv
    have VD := hI hrv
    have H4 : Hid (shaOf (objB x.body) = id) := hI (h4.symm.trans he)
    clear hv hm he hrv h4
    go_region_with (go_at_call 93; refine (hex_any wd id hi).mono ?_; rintro e w5 ⟨rfl, hb5⟩; have S5 := hI (S0.out.below hb5); have R5 := hI (RD.out.below hb5 RD.out.lt); have hc5 : w5.cell? ⟨g, 0, none⟩ = some (.map (some m)) := (by rw [cell_of_row _ g 0 _ _ _ S5.out.blk]; rfl); have hld5 := ld42 R5.out hi; have hlk := S5.out.look_yes HM.out.1; rw [HM.out.2, HV.out] at hlk; have V5 := hI (VD.out.low hb5 hb5.size); have B5 := hI (BD.out.trans (hb5.mono BD.out.size)); clear hb5)
    all_goals
      go_wp2_with fail
      refine (loose_any w5 bb cc x.body id V5.out hcc h2 H4.out).mono ?_
      rintro e w6 ⟨u, rfl, ho, hb6⟩
      have O6 := hI (ho.less (b := w.heap.size) B5.out.size)
      have S6 := hI (S5.out.below hb6)
      have B6 := hI (B5.out.trans (hb6.mono B5.out.size))
      clear ho hb6
      go_wp2_with fail
      refine bodyPost_ret (results_tmp4 rfl _ _ _) rfl ?_
      exact ⟨kn, S6.out, Chs.of_below B6.out _, .inl ⟨x, HM.out.1, HM.out.2, u, rfl, O6.out⟩⟩
  · have NO : Hid (∀ x ∈ l, x.id ≠ id) := hI fun x hm he => hx ⟨x, hm, he⟩
    clear hx
    go_region_with (go_at_call 93; refine (hex_any wd id hi).mono ?_; rintro e w5 ⟨rfl, hb5⟩; have S5 := hI (S0.out.below hb5); have R5 := hI (RD.out.below hb5 RD.out.lt); have hc5 : w5.cell? ⟨g, 0, none⟩ = some (.map (some m)) := (by rw [cell_of_row _ g 0 _ _ _ S5.out.blk]; rfl); have hld5 := ld42 R5.out hi; have hlk := S5.out.look_no hi NO.out; have B5 := hI (BD.out.trans (hb5.mono BD.out.size)); clear hb5)
    all_goals
      go_wp2_with fail
      refine (indexes_any w5 g m l t kn S5.out).mono ?_
      rintro e w6 ⟨rfl, kn2, hs6, hc6⟩
      have S6 := hI hs6
      have C6 := hI ((Chs.of_below B5.out _).trans hc6)
      clear hs6 hc6
      go_wp2_with fail
      refine wp_loop_rounds 1 ?_
      rw [rounds_succ]
      go_wp2_with fail
      refine bodyPost_ret (results_tmp4 rfl _ _ _) rfl ?_
      exact ⟨kn2, S6.out, C6.out, .inr ⟨NO.out, rfl⟩⟩
end Go.Proofs.YtbmpidacoohdmaaGreat
namespace Go.Proofs.YtbmpidacoohdmaaGreat
open Lib renaming hid → hI
open Go.RowKit Op

attribute [local go_sem] bs_append bs_size
def ldF (a : Addr) : Sem Value := loadVar 99 a
theorem ldF_eq (a : Addr) : loadVar 99 a = ldF a := rfl
theorem infF : (Tryz.prog.info? 99).map (·.size) = some 2 := by kernel_rfl
theorem zeroF : ((Tryz.prog.info? 99).bind (·.zero)).isSome = true := by kernel_rfl
theorem run_ldF {w : World} {b o : Nat} {u v : Value} (h0 : w.cell? ⟨b, o, none⟩ = some u) (h1 : w.cell? ⟨b, o + 1, none⟩ = some v) : (ldF ⟨b, o, none⟩).run Tryz.prog w = .ok (.agg #[u, v]) w :=
  run_loadVar_cells (cs := [u, v]) Tryz.underlying99 rfl infF (fun j x hx => by
    rcases j with _ | _ | j
    · obtain rfl := Option.some.inj hx
      exact h0
    · obtain rfl := Option.some.inj hx
      exact h1
    · simp at hx)
theorem run_bsF (u v : Value) (W : World) : (Instr.buildSlice 60 1 #[(0, .agg #[u, v])]).run Tryz.prog W = .ok (.slice (some ⟨W.heap.size, 0, none⟩) 1 1) (W.alloc (.cells #[u, v] 99)) :=
  run_build_one W Tryz.underlying60 infF zeroF #[u, v] rfl (by omega) (by omega)
theorem slF : Sl Tryz.prog 60 99 2 40 := ⟨Tryz.underlying60, by kernel_rfl, by decide⟩
theorem cellsF_len (l : List Ent) : (cellsF l).length = 2 * l.length := by
  induction l with
  | nil => rfl
  | cons x l ih => simp only [cellsF, List.flatMap_cons, List.length_append, List.length_cons] at *; simp only [List.length_nil] at *; omega
theorem cellsF_app (a b : List Ent) : cellsF (a ++ b) = cellsF a ++ cellsF b := by simp [cellsF]
theorem cellsF_drop (l : List Ent) (k : Nat) (hk : k ≤ l.length) : (cellsF l).drop (k * 2) = cellsF (l.drop k) := by
  have h : cellsF l = cellsF (l.take k) ++ cellsF (l.drop k) := by rw [← cellsF_app, List.take_append_drop]
  rw [h]
  exact List.drop_left' (by rw [cellsF_len, List.length_take]; omega)
theorem rv_drop {B : Nat} {w : World} {b : Nat} {xs : List Value} (h : Rv B w (some ⟨b, 0, none⟩) xs) (n : Nat) : Rv B w (some ⟨b, n, none⟩) (xs.drop n) := fun j x hx => by
  rw [List.getElem?_drop] at hx
  obtain ⟨ad, e, hlt, hc⟩ := h.at_ hx
  obtain rfl := Option.some.inj e
  rw [Addr.add_lit, Nat.zero_add] at hc
  exact ⟨_, rfl, hlt, by rw [Addr.add_lit]; exact hc⟩
theorem Rsp.one {w : World} {g : Nat} {l : List Ent} {A : Option Addr} {c : Nat} {fr : Bool} {t : Int} (h : Rsp w g l A c fr t) : ∀ u ∈ cellsF l, u.oneCell' = true := by
  intro u hu
  obtain ⟨x, hx, hu⟩ := List.mem_flatMap.1 hu
  obtain ⟨_, _, e, _⟩ := (h.all x hx).2.2.1
  simp only [List.mem_cons, List.not_mem_nil, or_false] at hu
  rcases hu with rfl | rfl
  · rfl
  · rw [e]; rfl
theorem own_form2 {w : World} {C : Nat} {e : TypeId} {v : Value} {n : Nat} {xs : List Value} (h : w.ownsRow C e 2 v n xs) (hn : 0 < n) :
    ∃ b cap cs, v = .slice (some ⟨b, 0, none⟩) n cap ∧ C ≤ b ∧ n ≤ cap ∧ w.heap[b]? = some (.cells cs e (0, 0)) ∧ Rv w.heap.size w (some ⟨b, 0, none⟩) xs := by
  obtain ⟨D, d, e1, _, hd, hr, _⟩ := own_all h
  obtain ⟨_, ⟨h1, h2⟩ | ⟨g, cap, cur, h1, h2, h3, h4, h5, h6, h7⟩⟩ := h
  · omega
  · rw [h1] at e1
    injection e1 with e2 e3 e4
    subst e2
    exact ⟨g, cap, cur, h1, h2, by omega, h3, hr⟩
/-- A file more, laid. -/
theorem Rsp.laid {S : Nat → Prop} {w w2 : World} {g : Nat} {l L2 : List Ent} {A : Option Addr} {c : Nat} {fr : Bool} {t : Int} {e : Ent} {k b4 c4 : Nat} {cs : Array Value} (h : Rsp w g l A c fr t) (hc : Chs S w w2) (hn : Non S w 5)
    (hg : w2.heap[g]? = some (.cells #[.slice (some ⟨b4, 0, none⟩) L2.length c4, .int .i64 t, .slice none 0 0, .bool false] 63 (0, 0)))
    (hL : L2 = l.take k ++ e :: l.drop k) (hcap : L2.length ≤ c4) (h4 : w2.heap[b4]? = some (.cells cs 99 (0, 0))) (hr : Rv w2.heap.size w2 (some ⟨b4, 0, none⟩) (cellsF L2))
    (he : e.id.length = 32 ∧ e.body.length ≤ 400 ∧ By w2 e.v (objB e.body) ∧ e.id = shaOf (objB e.body)) (h39 : l.length < 40) : Rsp w2 g L2 (some ⟨b4, 0, none⟩) c4 false t where
  blk := hg
  nil := fun q => by cases q
  cap := hcap
  rv := hr
  typ := fun ad e => by
    obtain rfl := Option.some.inj e
    exact ⟨b4, cs, (0, 0), rfl, h4⟩
  all := fun x hx => by
    rw [hL, List.mem_append, List.mem_cons] at hx
    have hold : x ∈ l → x.id.length = 32 ∧ x.body.length ≤ 400 ∧ By w2 x.v (objB x.body) ∧ x.id = shaOf (objB x.body) := fun hm => by
      obtain ⟨h1, h2, h3, h4⟩ := h.all x hm
      exact ⟨h1, h2, h3.chs hc hn, h4⟩
    rcases hx with hx | rfl | hx
    · exact hold (List.mem_of_mem_take hx)
    · exact he
    · exact hold (List.mem_of_mem_drop hx)
  few := by
    rw [hL, List.length_append, List.length_cons, List.length_take, List.length_drop]
    omega
attribute [local go_sem ↓] ldF_eq run_bsF
noncomputable def lay_at_code : Code := ((Tryz.f87.body.map loopsIn).getD []).getD 0 .skip
set_option maxRecDepth 100000 in
set_option maxHeartbeats 1000000 in
theorem lay_at (w1 : World) (g : Nat) (l : List Ent) (A : Option Addr) (c : Nat) (fr : Bool) (t : Int) (hs : Rsp w1 g l A c fr t) (id : List UInt8) (h39 : l.length < 40) (Q0 : Exit → Act → World → Prop) (z2 z3 z4 z5 z6 z9 z10 z11 z12 z13 z14 z15 z16 z17 z18 z19 z20 z21 z22 z23 z24 z25 z26 z27 z28 z29 z30 z31 z32 z33 z34 z35 z36 z37 z38 z39 z40 z41 z42 z43 z44 z45 z46 z47 z48 z49 z50 z51 z52 z53 z54 z55 z56 z57 z58 z59 z60 z61 z62 z63 z64 z65 z66 z67 z68 z69 z70 z71 z72 z73 z74 z75 z76 z77 z78 z79 z80 z81 z82 z83 : Value)
    (hexit : Hid (∀ (k : Nat) (ov : Value) (wr : World) (y12 y13 y14 y15 y16 y17 y18 y19 y20 y21 y22 y23 y24 y25 y26 y27 y28 y29 y30 y31 y32 y33 y34 y35 y36 y37 y38 y39 y40 y41 y42 : Value), k ≤ l.length → Hid (wr.ownsRow w1.heap.size 99 2 ov k (cellsF (l.take k))) → Hid (Below w1.heap.size w1 wr) → Q0 (.exit 0) ⟨List.toArray ((.pointer (some ⟨g, 0, none⟩))::(.string (bs (nmB id)))::z2::z3::z4::z5::z6::ov::(.int .i64 (k : Int))::z9::z10::z11::y12::y13::y14::y15::y16::y17::y18::y19::y20::y21::y22::y23::y24::y25::y26::y27::y28::y29::y30::y31::y32::y33::y34::y35::y36::y37::y38::y39::y40::y41::y42::z43::z44::z45::z46::z47::z48::z49::z50::z51::z52::z53::z54::z55::z56::z57::z58::z59::z60::z61::z62::z63::z64::z65::z66::z67::z68::z69::z70::z71::z72::z73::z74::z75::z76::z77::z78::z79::z80::z81::z82::z83::[]), []⟩ wr)) :
    Code.wp Tryz.prog (Code.loop lay_at_code) Q0 ⟨List.toArray ((.pointer (some ⟨g, 0, none⟩))::(.string (bs (nmB id)))::z2::z3::z4::z5::z6::(.slice none 0 0)::(.int .i64 (0 : Int))::z9::z10::z11::z12::z13::z14::z15::z16::z17::z18::z19::z20::z21::z22::z23::z24::z25::z26::z27::z28::z29::z30::z31::z32::z33::z34::z35::z36::z37::z38::z39::z40::z41::z42::z43::z44::z45::z46::z47::z48::z49::z50::z51::z52::z53::z54::z55::z56::z57::z58::z59::z60::z61::z62::z63::z64::z65::z66::z67::z68::z69::z70::z71::z72::z73::z74::z75::z76::z77::z78::z79::z80::z81::z82::z83::[]), []⟩ w1 := by
  conv => arg 2; arg 1; whnf
  have S1 := hI hs
  have hcl : w1.cell? ⟨g, 0, none⟩ = some (.slice A l.length c) := by rw [cell_of_row w1 g 0 _ _ _ hs.blk]; rfl
  have hgl : g < w1.heap.size := (Array.getElem?_eq_some_iff.1 hs.blk).1
  have hcap := hs.cap
  have HI := hI (fun x hx => (hs.all x hx).1)
  clear hs
  go_loopw [7, 8] (fun ov kv wr => ∃ k : Nat, k ≤ l.length ∧ kv = .int .i64 k ∧ Hid (wr.ownsRow w1.heap.size 99 2 ov k (cellsF (l.take k))) ∧ Hid (Below w1.heap.size w1 wr)) (fun _ kv _ => l.length - (intOf kv).toNat)
  case atStart => exact ⟨0, Nat.zero_le _, rfl, hI (World.ownsRow_nil _ _ _ _), hI (Below.refl _ _)⟩
  case round =>
    obtain ⟨k, hk, rfl, ho, hb⟩ := hrel
    have hclr : wr.cell? ⟨g, 0, none⟩ = some (.slice A l.length c) := (hb.out.cell hgl).trans hcl
    have SR := hI (S1.out.below hb.out)
    by_cases hlt : k < l.length
    · obtain ⟨x, hx⟩ : ∃ x, l[k]? = some x := ⟨l[k], List.getElem?_eq_getElem hlt⟩
      obtain ⟨b, hA, hc1, hc2⟩ := SR.out.at_ hx
      have HX : Hid (cellsF (l.take (k + 1)) = cellsF (l.take k) ++ [.string (bs (nmB x.id)), x.v]) := hI (by rw [List.take_add_one, hx]; simp [cellsF])
      have HV : Hid (x.v.oneCell' = true) := hI (by
        obtain ⟨_, _, e, _⟩ := (SR.out.all x (List.mem_of_getElem? hx)).2.2.1
        rw [e]; rfl)
      clear hx
      subst hA
      have hld := run_ldF hc1 hc2
      obtain ⟨D1, d1, hv, _⟩ := own_all ho.out
      subst hv
      have O2 := hI (own_below ho.out ((Below.refl wr.heap.size wr).alloc (Nat.le_refl _) (.cells #[.string (bs (nmB x.id)), x.v] 99)))
      have B2 := hI (hb.out.alloc hb.out.size (.cells #[.string (bs (nmB x.id)), x.v] 99))
      have NW := hI (new_rv wr [.string (bs (nmB x.id)), x.v] 99 ⟨wr.heap.size, 0, none⟩ rfl)
      have hsz := hb.out.size
      go_wp2_with (at_builtin; refine wpList_app slF rfl (.tmp 31) (.tmp 39) rfl w1.heap.size _ k (cellsF (l.take k)) rfl O2.out (some ⟨wr.heap.size, 0, none⟩) 1 1 [.string (bs (nmB x.id)), x.v] rfl (fun q => by cases q) rfl NW.out (by intro u hu; simp only [List.mem_cons, List.not_mem_nil, or_false] at hu; rcases hu with rfl | rfl <;> first | rfl | exact HV.out) (by unfold maxLen; omega) (by omega) B2.out.size ?_; intro v3 w3 ho3 ha3; rw [← HX.out] at ho3; have O3 := hI ho3; have B3 := hI (B2.out.grown ha3.grown B2.out.size (fun q hq => (O2.out.lt q hq).1)); clear ho3 ha3)
      · exact ⟨⟨k + 1, by omega, by go_num, O3, B3⟩, by simp [intOf]; omega⟩
      · exact hexit.out _ _ _ _ _ _ _ _ _ _ _ _ _ _ _ _ _ _ _ _ _ _ _ _ _ _ _ _ _ _ _ _ _ _ hk ho hb
    · have hke : k = l.length := by omega
      subst hke
      go_wp2_with fail
      exact hexit.out _ _ _ _ _ _ _ _ _ _ _ _ _ _ _ _ _ _ _ _ _ _ _ _ _ _ _ _ _ _ _ _ _ _ (Nat.le_refl _) ho hb
set_option maxRecDepth 100000 in
set_option maxHeartbeats 1000000 in
theorem flay_any (w : World) (g : Nat) (l : List Ent) (A : Option Addr) (c : Nat) (fr : Bool) (t : Int) (hs : Rsp w g l A c fr t) (id body : List UInt8) (hi : id.length = 32) (hno : ∀ x ∈ l, x.id ≠ id) (hid : id = shaOf (objB body)) (hb : body.length ≤ 400) (D : Option Addr) (d : Nat) (hD : D = none → d = 0) (hr : Rv w.heap.size w D (bys (objB body))) (h39 : l.length < 40) :
    Calls Tryz.prog 87 #[.pointer (some ⟨g, 0, none⟩), .string (bs (nmB id)), .slice D (objB body).length d] w fun e w2 => e = .returned (.tuple #[]) ∧
      ∃ v A2 c2 i, Rsp w2 g (l.take i ++ ⟨id, body, v⟩ :: l.drop i) A2 c2 false t ∧ Chs (fun k => k = g) w w2 := by
  have HS := hI hs
  have HBL := hI (bys_len (objB body))
  have HNN := hI (List.nil_append (bys (objB body)))
  have HR := hI hr
  have HD := hI hD
  have hL := objB_len body
  have hp := hdB_len hb
  have hL2 : (objB body).length ≤ 1000 := by omega
  have hL3 : 0 < (objB body).length := by omega
  have HID := hI hid
  have HNO := hI hno
  have hcap := hs.cap
  clear hs hr hD hL hp hid hno
  go_enter Tryz.func87, Tryz.ntmps87
  go_wp2_with (at_builtin; refine wpList_aps sl22 rfl (.tmp 9) (.tmp 10) rfl w.heap.size _ [] rfl (.inl ⟨rfl, rfl⟩) D _ d (bys (objB body)) rfl HD.out HBL.out HR.out (bys_one _) (by unfold maxLen; simp; omega) (by simp; omega) (Nat.le_refl _) ?_; intro v1 w1 ho hg; rw [HNN.out] at ho; have V1 := hI (By.of_ows ho hL3); have B1 := hI (below_of_grown hg (Nat.le_refl _) (fun k hk => by cases hk)); clear ho hg)
  have S1 := hI (HS.out.below B1.out)
  refine lay_at w1 g l A c fr t S1.out id h39 _ _ _ _ _ _ _ _ _ _ _ _ _ _ _ _ _ _ _ _ _ _ _ _ _ _ _ _ _ _ _ _ _ _ _ _ _ _ _ _ _ _ _ _ _ _ _ _ _ _ _ _ _ _ _ _ _ _ _ _ _ _ _ _ _ _ _ _ _ _ _ _ _ _ _ _ _ _ _ _ _ ?_
  refine hI ?_
  intro k ov wr
  intros
  rename_i hk ho hb1
  obtain ⟨D1, d1, hv, _⟩ := own_all ho.out
  subst hv
  obtain ⟨bv, cv, hv1, _⟩ := V1.out
  subst hv1
  have SR := hI (S1.out.below hb1.out)
  have BR := hI (B1.out.trans (hb1.out.mono B1.out.size))
  have VR : Hid (By wr _ (objB body)) := hI (V1.out.chs (Chs.of_below hb1.out (fun _ => False)) (fun _ q => q.elim))
  have O2 := hI (own_below ho.out ((Below.refl wr.heap.size wr).alloc (Nat.le_refl _) (.cells #[.string (bs (nmB id)), .slice (some ⟨bv, 0, none⟩) (objB body).length cv] 99)))
  have B2 := hI (hb1.out.alloc hb1.out.size (.cells #[.string (bs (nmB id)), .slice (some ⟨bv, 0, none⟩) (objB body).length cv] 99))
  have NW := hI (new_rv wr [.string (bs (nmB id)), .slice (some ⟨bv, 0, none⟩) (objB body).length cv] 99 ⟨wr.heap.size, 0, none⟩ rfl)
  have hsz := hb1.out.size
  clear ho hb1
  go_upto_region 8 with (at_builtin; refine wpList_app slF rfl (.tmp 43) (.tmp 47) rfl w1.heap.size _ k (cellsF (l.take k)) rfl O2.out (some ⟨wr.heap.size, 0, none⟩) 1 1 [.string (bs (nmB id)), .slice (some ⟨bv, 0, none⟩) (objB body).length cv] rfl (fun q => by cases q) rfl NW.out (by intro u hu; simp only [List.mem_cons, List.not_mem_nil, or_false] at hu; rcases hu with rfl | rfl <;> rfl) (by unfold maxLen; omega) (by omega) B2.out.size ?_; intro v3 w3 ho3 ha3; have O3 := hI ho3; have B3 := hI (B2.out.grown ha3.grown B2.out.size (fun q hq => (O2.out.lt q hq).1)); clear ho3 ha3)
  have S3 := hI (S1.out.below B3.out)
  have C3 := hI (B1.out.trans (B3.out.mono B1.out.size))
  have hcl3 : w3.cell? ⟨g, 0, none⟩ = some (.slice A l.length c) := by rw [cell_of_row w3 g 0 _ _ _ S3.out.blk]; rfl
  by_cases hlt : k < l.length
  · obtain ⟨x, hx⟩ : ∃ x, l[k]? = some x := ⟨l[k], List.getElem?_eq_getElem hlt⟩
    obtain ⟨b, hA, hc1, hc2⟩ := S3.out.at_ hx
    have hcm : ((bs (nmB x.id)).toList == (bs (nmB id)).toList) = false := by rw [bs_toList, bs_toList]; exact beq_eq_false_iff_ne.2 fun q => HNO.out x (List.mem_of_getElem? hx) (nmB_inj q)
    subst hA
    have RD := hI (rv_drop S3.out.rv (k * 2))
    have R1 := hI (fun u (hu : u ∈ (cellsF l).drop (k * 2)) => S3.out.one u (List.mem_of_mem_drop hu))
    have RL : Hid (((cellsF l).drop (k * 2)).length = (l.length - k) * 2) := hI (by rw [List.length_drop, cellsF_len]; omega)
    obtain ⟨D3, d3, hv3, _⟩ := own_all O3.out
    subst hv3
    go_upto_region 11 with (at_builtin; refine wpList_app slF rfl (.tmp 71) (.tmp 77) rfl w1.heap.size _ (k + 1) _ rfl O3.out (some ⟨b, k * 2, none⟩) (l.length - k) (c - k) _ rfl (fun q => by cases q) RL.out RD.out R1.out (by unfold maxLen; omega) (by omega) B3.out.size ?_; intro v4 w4 ho4 ha4; obtain ⟨b4, c4, cs4, rfl, hlow, hcap4, hblk4, hrv4⟩ := own_form2 ho4 (by omega); have L4 := hI hlow; have K4 := hI hblk4; have V4 := hI hrv4; have N4 := hI hcap4; have B4 := hI (B3.out.grown ha4.grown B3.out.size (fun q hq => (O3.out.lt q hq).1)); clear ho4 ha4 hlow hblk4 hrv4 hcap4; have S4 := hI (S1.out.below B4.out); have hcl4 : w4.cell? ⟨g, 0, none⟩ = some (.slice (some ⟨b, 0, none⟩) l.length c) := (by rw [cell_of_row w4 g 0 _ _ _ S4.out.blk]; rfl); have hfr4 := frozen_of_row w4 g 0 _ _ S4.out.blk)
    have hl4 : (l.take k ++ ⟨id, body, .slice (some ⟨bv, 0, none⟩) (objB body).length cv⟩ :: l.drop k : List Ent).length = k + 1 + (l.length - k) := by simp; omega
    have hc4 : cellsF (l.take k ++ ⟨id, body, .slice (some ⟨bv, 0, none⟩) (objB body).length cv⟩ :: l.drop k) = cellsF (l.take k) ++ [.string (bs (nmB id)), .slice (some ⟨bv, 0, none⟩) (objB body).length cv] ++ (cellsF l).drop (k * 2) := by rw [cellsF_drop l k hk, cellsF_app]; simp [cellsF]
    generalize hw5 : w4.setCell ⟨g, 0, none⟩ (.slice (some ⟨b4, 0, none⟩) (k + 1 + (l.length - k)) c4) = w5 at *
    have hb5 : w5.heap[g]? = some (.cells #[.slice (some ⟨b4, 0, none⟩) (k + 1 + (l.length - k)) c4, .int .i64 t, .slice none 0 0, .bool fr] 63 (0, 0)) := by
      rw [← hw5, set_same S4.out.blk]; rfl
    have hcl5 : w5.cell? ⟨g, 3, none⟩ = some (.bool fr) := by rw [cell_of_row w5 g 3 _ _ _ hb5]; rfl
    have hfr5 := frozen_of_row w5 g 3 _ _ hb5
    have HB5 := hI hb5
    have HL4 := hI hl4
    have HC4 := hI hc4
    have G5 : Hid (w4.grownBy w5 (some g)) := hI (hw5 ▸ grown_set (grown_refl w4 _) 0 _)
    clear hb5 hl4 hc4
    go_wp2_with fail
    go_end0
    have hb6 : (w5.setCell ⟨g, 3, none⟩ (.bool false)).heap[g]? = some (.cells #[.slice (some ⟨b4, 0, none⟩) (k + 1 + (l.length - k)) c4, .int .i64 t, .slice none 0 0, .bool false] 63 (0, 0)) := by
      rw [set_same HB5.out]; rfl
    refine ⟨rfl, .slice (some ⟨bv, 0, none⟩) (objB body).length cv, some ⟨b4, 0, none⟩, c4, k, ?_, ?_⟩
    · refine Rsp.laid S4.out (Chs.of_grown (grown_set G5.out 3 (.bool false))) (S4.out.non (by decide)) (by rw [HL4.out]; exact hb6) rfl (by rw [HL4.out]; exact N4.out) (cs := cs4) ?_ ?_ ⟨hi, hb, ?_, HID.out⟩ h39
      · exact ((grown_set G5.out 3 (.bool false)).block b4 (Array.getElem?_eq_some_iff.1 K4.out).1 (fun q => S4.out.non (ty := 99) (by decide) b4 (Option.some.inj q) _ _ K4.out)).trans K4.out
      · rw [HC4.out]
        exact rv_chs V4.out (Chs.of_grown (grown_set G5.out 3 (.bool false))) ((grown_set G5.out 3 (.bool false)).block b4 (Array.getElem?_eq_some_iff.1 K4.out).1 (fun q => S4.out.non (ty := 99) (by decide) b4 (Option.some.inj q) _ _ K4.out))
      · exact (V1.out.chs (Chs.of_below B4.out (fun _ => False)) (fun _ q => q.elim)).chs (Chs.of_grown (grown_set G5.out 3 (.bool false))) (S4.out.non (by decide))
    · exact (Chs.of_below (B1.out.trans (B4.out.mono B1.out.size)) _).trans (Chs.of_grown (grown_set G5.out 3 (.bool false)))
  · have hke : k = l.length := by omega
    subst hke
    obtain ⟨D3, d3, hv3, _⟩ := own_all O3.out
    subst hv3
    rcases A with _ | ad
    · obtain rfl := HS.out.nil rfl
      have hl0 : l.length = 0 := by omega
      go_upto_region 11 with (at_builtin; refine wpList_app slF rfl (.tmp 71) (.tmp 77) rfl w1.heap.size _ (l.length + 1) _ rfl O3.out _ 0 _ [] rfl (fun q => by first | rfl | cases q) rfl (Rv.nil (B := w3.heap.size)) (by simp) (by unfold maxLen; omega) (by omega) B3.out.size ?_; intro v4 w4 ho4 ha4; obtain ⟨b4, c4, cs4, rfl, hlow, hcap4, hblk4, hrv4⟩ := own_form2 ho4 (by omega); have L4 := hI hlow; have K4 := hI hblk4; have V4 := hI hrv4; have N4 := hI hcap4; have B4 := hI (B3.out.grown ha4.grown B3.out.size (fun q hq => (O3.out.lt q hq).1)); clear ho4 ha4 hlow hblk4 hrv4 hcap4; have S4 := hI (S1.out.below B4.out); have hcl4 : w4.cell? ⟨g, 0, none⟩ = some (.slice none l.length 0) := (by rw [cell_of_row w4 g 0 _ _ _ S4.out.blk]; rfl); have hfr4 := frozen_of_row w4 g 0 _ _ S4.out.blk)
      have hl4 : (l.take l.length ++ ⟨id, body, .slice (some ⟨bv, 0, none⟩) (objB body).length cv⟩ :: l.drop l.length : List Ent).length = 1 := by rw [List.length_append, List.length_cons, List.length_take, List.length_drop]; omega
      have hc4 : cellsF (l.take l.length ++ ⟨id, body, .slice (some ⟨bv, 0, none⟩) (objB body).length cv⟩ :: l.drop l.length) = cellsF (l.take l.length) ++ [.string (bs (nmB id)), .slice (some ⟨bv, 0, none⟩) (objB body).length cv] ++ [] := by rw [cellsF_app]; simp [cellsF]
      generalize hw5 : w4.setCell ⟨g, 0, none⟩ (.slice (some ⟨b4, 0, none⟩) (1) c4) = w5 at *
      have hb5 : w5.heap[g]? = some (.cells #[.slice (some ⟨b4, 0, none⟩) (1) c4, .int .i64 t, .slice none 0 0, .bool fr] 63 (0, 0)) := by
        rw [← hw5, set_same S4.out.blk]; rfl
      have hcl5 : w5.cell? ⟨g, 3, none⟩ = some (.bool fr) := by rw [cell_of_row w5 g 3 _ _ _ hb5]; rfl
      have hfr5 := frozen_of_row w5 g 3 _ _ hb5
      have HB5 := hI hb5
      have HL4 := hI hl4
      have HC4 := hI hc4
      have G5 : Hid (w4.grownBy w5 (some g)) := hI (hw5 ▸ grown_set (grown_refl w4 _) 0 _)
      clear hb5 hl4 hc4
      go_wp2_with fail
      go_end0
      have hb6 : (w5.setCell ⟨g, 3, none⟩ (.bool false)).heap[g]? = some (.cells #[.slice (some ⟨b4, 0, none⟩) (1) c4, .int .i64 t, .slice none 0 0, .bool false] 63 (0, 0)) := by
        rw [set_same HB5.out]; rfl
      refine ⟨rfl, .slice (some ⟨bv, 0, none⟩) (objB body).length cv, some ⟨b4, 0, none⟩, c4, l.length, ?_, ?_⟩
      · refine Rsp.laid S4.out (Chs.of_grown (grown_set G5.out 3 (.bool false))) (S4.out.non (by decide)) (by rw [HL4.out]; exact hb6) rfl (by rw [HL4.out]; have := N4.out; omega) (cs := cs4) ?_ ?_ ⟨hi, hb, ?_, HID.out⟩ h39
        · exact ((grown_set G5.out 3 (.bool false)).block b4 (Array.getElem?_eq_some_iff.1 K4.out).1 (fun q => S4.out.non (ty := 99) (by decide) b4 (Option.some.inj q) _ _ K4.out)).trans K4.out
        · rw [HC4.out]
          exact rv_chs V4.out (Chs.of_grown (grown_set G5.out 3 (.bool false))) ((grown_set G5.out 3 (.bool false)).block b4 (Array.getElem?_eq_some_iff.1 K4.out).1 (fun q => S4.out.non (ty := 99) (by decide) b4 (Option.some.inj q) _ _ K4.out))
        · exact (V1.out.chs (Chs.of_below B4.out (fun _ => False)) (fun _ q => q.elim)).chs (Chs.of_grown (grown_set G5.out 3 (.bool false))) (S4.out.non (by decide))
      · exact (Chs.of_below (B1.out.trans (B4.out.mono B1.out.size)) _).trans (Chs.of_grown (grown_set G5.out 3 (.bool false)))
    · obtain ⟨b, _, _, rfl, _⟩ := S3.out.typ ad rfl
      by_cases hcl : c = l.length
      · subst hcl
        go_upto_region 11 with (at_builtin; refine wpList_app slF rfl (.tmp 71) (.tmp 77) rfl w1.heap.size _ (l.length + 1) _ rfl O3.out _ 0 _ [] rfl (fun q => by first | rfl | cases q) rfl (Rv.nil (B := w3.heap.size)) (by simp) (by unfold maxLen; omega) (by omega) B3.out.size ?_; intro v4 w4 ho4 ha4; obtain ⟨b4, c4, cs4, rfl, hlow, hcap4, hblk4, hrv4⟩ := own_form2 ho4 (by omega); have L4 := hI hlow; have K4 := hI hblk4; have V4 := hI hrv4; have N4 := hI hcap4; have B4 := hI (B3.out.grown ha4.grown B3.out.size (fun q hq => (O3.out.lt q hq).1)); clear ho4 ha4 hlow hblk4 hrv4 hcap4; have S4 := hI (S1.out.below B4.out); have hcl4 : w4.cell? ⟨g, 0, none⟩ = some (.slice (some ⟨b, 0, none⟩) l.length l.length) := (by rw [cell_of_row w4 g 0 _ _ _ S4.out.blk]; rfl); have hfr4 := frozen_of_row w4 g 0 _ _ S4.out.blk)
        have hl4 : (l.take l.length ++ ⟨id, body, .slice (some ⟨bv, 0, none⟩) (objB body).length cv⟩ :: l.drop l.length : List Ent).length = l.length + 1 + 0 := by simp
        have hc4 : cellsF (l.take l.length ++ ⟨id, body, .slice (some ⟨bv, 0, none⟩) (objB body).length cv⟩ :: l.drop l.length) = cellsF (l.take l.length) ++ [.string (bs (nmB id)), .slice (some ⟨bv, 0, none⟩) (objB body).length cv] ++ [] := by rw [cellsF_app]; simp [cellsF]
        generalize hw5 : w4.setCell ⟨g, 0, none⟩ (.slice (some ⟨b4, 0, none⟩) (l.length + 1 + 0) c4) = w5 at *
        have hb5 : w5.heap[g]? = some (.cells #[.slice (some ⟨b4, 0, none⟩) (l.length + 1 + 0) c4, .int .i64 t, .slice none 0 0, .bool fr] 63 (0, 0)) := by
          rw [← hw5, set_same S4.out.blk]; rfl
        have hcl5 : w5.cell? ⟨g, 3, none⟩ = some (.bool fr) := by rw [cell_of_row w5 g 3 _ _ _ hb5]; rfl
        have hfr5 := frozen_of_row w5 g 3 _ _ hb5
        have HB5 := hI hb5
        have HL4 := hI hl4
        have HC4 := hI hc4
        have G5 : Hid (w4.grownBy w5 (some g)) := hI (hw5 ▸ grown_set (grown_refl w4 _) 0 _)
        clear hb5 hl4 hc4
        go_wp2_with fail
        go_end0
        have hb6 : (w5.setCell ⟨g, 3, none⟩ (.bool false)).heap[g]? = some (.cells #[.slice (some ⟨b4, 0, none⟩) (l.length + 1 + 0) c4, .int .i64 t, .slice none 0 0, .bool false] 63 (0, 0)) := by
          rw [set_same HB5.out]; rfl
        refine ⟨rfl, .slice (some ⟨bv, 0, none⟩) (objB body).length cv, some ⟨b4, 0, none⟩, c4, l.length, ?_, ?_⟩
        · refine Rsp.laid S4.out (Chs.of_grown (grown_set G5.out 3 (.bool false))) (S4.out.non (by decide)) (by rw [HL4.out]; exact hb6) rfl (by rw [HL4.out]; exact N4.out) (cs := cs4) ?_ ?_ ⟨hi, hb, ?_, HID.out⟩ h39
          · exact ((grown_set G5.out 3 (.bool false)).block b4 (Array.getElem?_eq_some_iff.1 K4.out).1 (fun q => S4.out.non (ty := 99) (by decide) b4 (Option.some.inj q) _ _ K4.out)).trans K4.out
          · rw [HC4.out]
            exact rv_chs V4.out (Chs.of_grown (grown_set G5.out 3 (.bool false))) ((grown_set G5.out 3 (.bool false)).block b4 (Array.getElem?_eq_some_iff.1 K4.out).1 (fun q => S4.out.non (ty := 99) (by decide) b4 (Option.some.inj q) _ _ K4.out))
          · exact (V1.out.chs (Chs.of_below B4.out (fun _ => False)) (fun _ q => q.elim)).chs (Chs.of_grown (grown_set G5.out 3 (.bool false))) (S4.out.non (by decide))
        · exact (Chs.of_below (B1.out.trans (B4.out.mono B1.out.size)) _).trans (Chs.of_grown (grown_set G5.out 3 (.bool false)))
      · skip
        go_upto_region 11 with (at_builtin; refine wpList_app slF rfl (.tmp 71) (.tmp 77) rfl w1.heap.size _ (l.length + 1) _ rfl O3.out _ 0 _ [] rfl (fun q => by first | rfl | cases q) rfl (Rv.nil (B := w3.heap.size)) (by simp) (by unfold maxLen; omega) (by omega) B3.out.size ?_; intro v4 w4 ho4 ha4; obtain ⟨b4, c4, cs4, rfl, hlow, hcap4, hblk4, hrv4⟩ := own_form2 ho4 (by omega); have L4 := hI hlow; have K4 := hI hblk4; have V4 := hI hrv4; have N4 := hI hcap4; have B4 := hI (B3.out.grown ha4.grown B3.out.size (fun q hq => (O3.out.lt q hq).1)); clear ho4 ha4 hlow hblk4 hrv4 hcap4; have S4 := hI (S1.out.below B4.out); have hcl4 : w4.cell? ⟨g, 0, none⟩ = some (.slice (some ⟨b, 0, none⟩) l.length c) := (by rw [cell_of_row w4 g 0 _ _ _ S4.out.blk]; rfl); have hfr4 := frozen_of_row w4 g 0 _ _ S4.out.blk)
        have hl4 : (l.take l.length ++ ⟨id, body, .slice (some ⟨bv, 0, none⟩) (objB body).length cv⟩ :: l.drop l.length : List Ent).length = l.length + 1 + 0 := by simp
        have hc4 : cellsF (l.take l.length ++ ⟨id, body, .slice (some ⟨bv, 0, none⟩) (objB body).length cv⟩ :: l.drop l.length) = cellsF (l.take l.length) ++ [.string (bs (nmB id)), .slice (some ⟨bv, 0, none⟩) (objB body).length cv] ++ [] := by rw [cellsF_app]; simp [cellsF]
        generalize hw5 : w4.setCell ⟨g, 0, none⟩ (.slice (some ⟨b4, 0, none⟩) (l.length + 1 + 0) c4) = w5 at *
        have hb5 : w5.heap[g]? = some (.cells #[.slice (some ⟨b4, 0, none⟩) (l.length + 1 + 0) c4, .int .i64 t, .slice none 0 0, .bool fr] 63 (0, 0)) := by
          rw [← hw5, set_same S4.out.blk]; rfl
        have hcl5 : w5.cell? ⟨g, 3, none⟩ = some (.bool fr) := by rw [cell_of_row w5 g 3 _ _ _ hb5]; rfl
        have hfr5 := frozen_of_row w5 g 3 _ _ hb5
        have HB5 := hI hb5
        have HL4 := hI hl4
        have HC4 := hI hc4
        have G5 : Hid (w4.grownBy w5 (some g)) := hI (hw5 ▸ grown_set (grown_refl w4 _) 0 _)
        clear hb5 hl4 hc4
        go_wp2_with fail
        go_end0
        have hb6 : (w5.setCell ⟨g, 3, none⟩ (.bool false)).heap[g]? = some (.cells #[.slice (some ⟨b4, 0, none⟩) (l.length + 1 + 0) c4, .int .i64 t, .slice none 0 0, .bool false] 63 (0, 0)) := by
          rw [set_same HB5.out]; rfl
        refine ⟨rfl, .slice (some ⟨bv, 0, none⟩) (objB body).length cv, some ⟨b4, 0, none⟩, c4, l.length, ?_, ?_⟩
        · refine Rsp.laid S4.out (Chs.of_grown (grown_set G5.out 3 (.bool false))) (S4.out.non (by decide)) (by rw [HL4.out]; exact hb6) rfl (by rw [HL4.out]; exact N4.out) (cs := cs4) ?_ ?_ ⟨hi, hb, ?_, HID.out⟩ h39
          · exact ((grown_set G5.out 3 (.bool false)).block b4 (Array.getElem?_eq_some_iff.1 K4.out).1 (fun q => S4.out.non (ty := 99) (by decide) b4 (Option.some.inj q) _ _ K4.out)).trans K4.out
          · rw [HC4.out]
            exact rv_chs V4.out (Chs.of_grown (grown_set G5.out 3 (.bool false))) ((grown_set G5.out 3 (.bool false)).block b4 (Array.getElem?_eq_some_iff.1 K4.out).1 (fun q => S4.out.non (ty := 99) (by decide) b4 (Option.some.inj q) _ _ K4.out))
          · exact (V1.out.chs (Chs.of_below B4.out (fun _ => False)) (fun _ q => q.elim)).chs (Chs.of_grown (grown_set G5.out 3 (.bool false))) (S4.out.non (by decide))
        · exact (Chs.of_below (B1.out.trans (B4.out.mono B1.out.size)) _).trans (Chs.of_grown (grown_set G5.out 3 (.bool false)))
end Go.Proofs.YtbmpidacoohdmaaGreat

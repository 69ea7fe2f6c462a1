/- sleuthref33.alike, cache.Row.key, cache.check$1 by contracts. cache.check's closure and right's closure by contracts. -/
import Derived.Test.YthhmamkphcgocaaDoorMrw
import Derived.Deep.RegionWith
namespace Go.Proofs.YthhmamkphcgocaaDoor
section
open Go.RowKit

attribute [local go_sem ↓] load42_eq store42_eq new42_eq run_new42 ldT47 ldT73 ldT52 ldT44 ldT71 ldT94 stT47 stT73 stT52 stT94 nwT47 nwT73 nwT52 nwT94 bxT47 bxT73 bxT52 bxT42 bxT44 bdT47 bdT73 bdT52 bdT94 run_nw47 run_nw73 run_nw52 run_nw94
attribute [local go_sem] run_bxT bs_toList
set_option maxRecDepth 100000 in
set_option maxHeartbeats 1000000 in
theorem alike_any (w : World) (m n : Mot) (hm : m.r.id.length = 32) (hn : n.r.id.length = 32) :
    Calls Tryd.prog 31 #[.agg m.cells.toArray, .agg n.cells.toArray] w fun e w2 => e = .returned (.bool (keyE m.r n.r)) ∧ Below w.heap.size w w2 := by
  have hs : (w.alloc (.cells m.cells.toArray 73)).heap.size = w.heap.size + 1 := World.size_alloc _ _
  have r1 := (Ar.new w m.cells 73).alloc (.cells n.cells.toArray 73)
  have r2 := Ar.new (w.alloc (.cells m.cells.toArray 73)) n.cells 73
  rw [hs] at r2
  have i1 := bId r1 hm
  have i2 := bId r2 hn
  have p1 := bPath r1 hm
  have p2 := bPath r2 hn
  have o1 := bOpt71 r1 hm
  have o2 := bOpt71 r2 hn
  have e1 := fun W => run_eql_id m.r.id n.r.id hm hn W
  have e3 := fun W => run_eql_opt (.inr rfl) m.r.algo n.r.algo m.r.de n.r.de m.r.mo n.r.mo m.r.co n.r.co W
  have hb := ((Below.refl w.heap.size w).alloc (Nat.le_refl _) (.cells m.cells.toArray 73)).alloc (by rw [hs]; omega) (.cells n.cells.toArray 73)
  have HB := Lib.hid hb
  have HR : Hid (keyE m.r n.r = (decide (m.r.id = n.r.id) && ((m.r.path == n.r.path) && optE m.r.algo n.r.algo m.r.de n.r.de m.r.mo n.r.mo m.r.co n.r.co))) := Lib.hid (by rw [beq_dec]; rfl)
  generalize keyE m.r n.r = r at *
  generalize decide (m.r.id = n.r.id) = d1 at *
  generalize hd2 : (m.r.path == n.r.path) = d2 at *
  generalize optE m.r.algo n.r.algo m.r.de n.r.de m.r.mo n.r.mo m.r.co n.r.co = d3 at *
  clear hb r1 r2
  cases d1
  · go_enter Tryd.func31, Tryd.ntmps31
    go_wp2_with fail
    go_ret
    exact ⟨by rw [HR.out]; rfl, HB.out⟩
  · cases d2
    · go_enter Tryd.func31, Tryd.ntmps31
      go_wp2_with fail
      go_ret
      exact ⟨by rw [HR.out]; rfl, HB.out⟩
    · go_enter Tryd.func31, Tryd.ntmps31
      go_wp2_with fail
      go_ret
      exact ⟨by rw [HR.out]; rfl, HB.out⟩
set_option maxRecDepth 100000 in
set_option maxHeartbeats 1000000 in
theorem key_any (w : World) (m : Mot) (hm : m.r.id.length = 32) :
    Calls Tryd.prog 46 #[.agg m.cells.toArray] w fun e w2 => e = .returned (.agg m.r.head.toArray) ∧ Below w.heap.size w w2 := by
  have hs : (w.alloc (.cells m.cells.toArray 47)).heap.size = w.heap.size + 1 := World.size_alloc _ _
  have r1 := (Ar.new w m.cells 47).alloc (.cells zM.r.head.toArray 94)
  have r2 := Ar.new (w.alloc (.cells m.cells.toArray 47)) zM.r.head 94
  rw [hs] at r2
  have i1 := bId r1 hm
  have p1 := bPath r1 hm
  have o1 := bOpt44 r1 hm
  have e1 := fun W => run_bd94 m.r hm W
  have e2 := stK94 (s := m.r) r2 rfl hm
  have hb := below_row (((Below.refl w.heap.size w).alloc (Nat.le_refl _) (.cells m.cells.toArray 47)).alloc (by rw [hs]; omega) (.cells zM.r.head.toArray 94)) (w.heap.size + 1) m.r.head.toArray (by omega)
  have HB := Lib.hid hb
  have R2 := Lib.hid (r2.setRow m.r.head)
  have HL := Lib.hid (Lot.len hm)
  clear hb r1 r2
  go_enter Tryd.func46, Tryd.ntmps46
  go_wp2_with fail
  refine bodyPost_ret (results_cell_row rfl _ _ (w.heap.size + 1) 94 _ (0, 0) _ rfl R2.out Tryd.underlying94 rfl (by rw [List.size_toArray, HL.out]; exact inf94)) rfl ?_
  exact ⟨rfl, HB.out⟩
end
section
open Go.RowKit

attribute [local go_sem ↓] load42_eq store42_eq new42_eq run_new42 ldT47 ldT73 ldT52 ldT44 ldT71 ldT94 stT47 stT73 stT52 stT94 nwT47 nwT73 nwT52 nwT94 bxT47 bxT73 bxT52 bxT42 bxT44 bdT47 bdT73 bdT52 bdT94 run_nw47 run_nw73 run_nw52 run_nw94
attribute [local go_sem] run_bxT bs_toList
set_option maxRecDepth 100000 in
set_option maxHeartbeats 1000000 in
theorem clo62_any (w : World) (g : Nat) (m n : Mot) (hg : Ar w g 47 n.cells) (hm : m.r.id.length = 32) (hn : n.r.id.length = 32) :
    Calls Tryd.prog 62 #[.agg m.cells.toArray, .pointer (some ⟨g, 0, none⟩)] w fun e w2 => e = .returned (.bool (keyE m.r n.r)) ∧ Below w.heap.size w w2 := by
  have hlt := hg.lt
  have hs : (w.alloc (.cells m.cells.toArray 47)).heap.size = w.heap.size + 1 := World.size_alloc _ _
  have r1 : Ar (w.alloc (.cells m.cells.toArray 47)).drew w.heap.size 47 m.cells := Ar.new w m.cells 47
  have g1 : Ar (w.alloc (.cells m.cells.toArray 47)).drew g 47 n.cells := hg.alloc (.cells m.cells.toArray 47)
  have b1 : Below w.heap.size w (w.alloc (.cells m.cells.toArray 47)).drew := ((Below.refl w.heap.size w).alloc (Nat.le_refl _) (.cells m.cells.toArray 47)).drew
  have l1 := b47 r1 hm
  have l2 := b47 g1 hn
  have e1 := fun W => run_eql_key m.r n.r hm hn W
  have R1 := Lib.hid r1
  have G1 := Lib.hid g1
  have B1 := Lib.hid b1
  clear r1 g1 b1 hg
  generalize keyE m.r n.r = r at *
  go_enter Tryd.func62, Tryd.ntmps62
  go_wp2_with fail
  go_region_with (first | (go_at_call_of 46 (Value.agg m.cells.toArray); refine (key_any _ m hm).mono ?_; rintro e w2 ⟨rfl, hb⟩; have hs2 := hb.size; have l3 := b47 (G1.out.below hb G1.out.lt) hn; have B2 := Lib.hid (B1.out.trans (hb.mono B1.out.size)); clear hb) | (go_at_call_of 46 (Value.agg n.cells.toArray); refine (key_any _ n hn).mono ?_; rintro e w3 ⟨rfl, hb⟩; have B3 := Lib.hid (B2.out.trans (hb.mono B2.out.size)); clear hb))
  all_goals
    go_wp2_with fail
    go_ret
    exact ⟨rfl, B3.out⟩
set_option maxRecDepth 100000 in
set_option maxHeartbeats 1000000 in
theorem clo76_any (w : World) (o : Org) (mx : Int) (hm : w.cell? ⟨0, 0, none⟩ = some (.int .i64 mx)) (hw : 0 < w.heap.size) (ho : o.id.length = 32) (hp : o.path.length ≤ 4294967200) :
    Calls Tryd.prog 76 #[.agg o.cells.toArray] w fun e w2 => e = .returned (.bool (!rightO o)) ∧ Below w.heap.size w w2 := by
  have hs : (w.alloc (.cells o.cells.toArray 52)).heap.size = w.heap.size + 1 := World.size_alloc _ _
  have r1 := Ar.new w o.cells 52
  have b1 := (Below.refl w.heap.size w).alloc (Nat.le_refl _) (.cells o.cells.toArray 52)
  have p1 := boPath r1 ho
  have HC := Lib.hid (pright_any (w.alloc (.cells o.cells.toArray 52)) o.path mx hp ((b1.cell (p := ⟨0, 0, none⟩) hw).trans hm))
  have R1 := Lib.hid r1
  have B1 := Lib.hid b1
  have HR : Hid (rightO o = (rightS o.path && (decide (0 ≤ o.line) && decide (o.line < 400)))) := Lib.hid rfl
  generalize rightO o = r at *
  generalize rightS o.path = q at *
  clear r1 b1 hm
  go_enter Tryd.func76, Tryd.ntmps76
  go_wp2_with fail
  refine HC.out.mono ?_
  rintro e w2 ⟨rfl, hb⟩
  have l1 := boLine (R1.out.below hb R1.out.lt) ho
  have B2 := Lib.hid (B1.out.trans (hb.mono B1.out.size))
  clear hb HC p1
  generalize o.line = x at *
  cases q
  · go_wp2_with fail
    go_ret
    exact ⟨by rw [HR.out]; rfl, B2.out⟩
  · by_cases h0 : x < 0
    · go_wp2_with fail
      go_ret
      exact ⟨by rw [HR.out]; simp; omega, B2.out⟩
    · by_cases h4 : 400 ≤ x
      · go_wp2_with fail
        go_ret
        exact ⟨by rw [HR.out]; simp; omega, B2.out⟩
      · go_wp2_with fail
        go_ret
        have a1 : decide (0 ≤ x) = true := decide_eq_true (by omega)
        have a2 : decide (x < 400) = true := decide_eq_true (by omega)
        exact ⟨by rw [HR.out, a1, a2]; exact ret_bool (by rw [decide_eq_false (show ¬ x < 0 by omega), decide_eq_false (show ¬ 400 ≤ x by omega)]; rfl), B2.out⟩
/-- A row small enough to be walked. -/
structure Lot.small (r : Lot) : Prop where
  path : r.path.length ≤ 4294967200
  os : ∀ o ∈ r.os, o.path.length ≤ 4294967200
  num : r.os.length ≤ 1000000000
theorem any_step {α : Type} [Inhabited α] (f : α → Bool) (l : List α) (k : Nat) (h : k < l.length) : (l.drop k).any f = (f (l.getD k default) || (l.drop (k + 1)).any f) := by
  rw [List.drop_eq_getElem_cons h, List.any_cons]
  simp [h]
set_option maxRecDepth 100000 in
set_option maxHeartbeats 1000000 in
theorem idx87_any (w : World) (A : Option Addr) (c : Nat) (os : List Org) (mx : Int) (hm : w.cell? ⟨0, 0, none⟩ = some (.int .i64 mx)) (hw : 0 < w.heap.size) (ho : Ov w A c os) (hp : ∀ o ∈ os, o.path.length ≤ 4294967200) (hn : os.length ≤ 1000000000) :
    Calls Tryd.prog 87 #[.slice A os.length c, .func (.func 76) #[] #[]] w fun e w2 => (∃ i : Int, e = .returned (.int .i64 i) ∧ decide (0 ≤ i) = os.any fun o => !rightO o) ∧ Below w.heap.size w w2 := by
  have HO := Lib.hid ho
  have HP := Lib.hid hp
  have HM := Lib.hid hm
  clear ho hp hm
  go_enter Tryd.func87, Tryd.ntmps87
  go_wp2_with fail
  go_loopw [8] (fun kv wr => ∃ k : Nat, k ≤ os.length ∧ kv = .int .i64 k ∧ Hid ((os.any fun o => !rightO o) = (os.drop k).any fun o => !rightO o) ∧ Hid (Below w.heap.size w wr)) (fun kv _ => os.length - (intOf kv).toNat)
  case atStart => exact ⟨0, Nat.zero_le _, rfl, rfl, Lib.hid (Below.refl _ _)⟩
  case round =>
    obtain ⟨k, hk, rfl, hs, hb⟩ := hrel
    by_cases hlt : k < os.length
    · obtain ⟨ad, rfl, _, hc, hok⟩ := (HO.out.below hb.out).at_ hlt
      have hld := ldO52 hc hok.id
      have hpl : (os.getD k default).path.length ≤ 4294967200 := HP.out _ (by simp [hlt])
      have HST := Lib.hid (any_step (fun o => !rightO o) os k hlt)
      have hsz := hb.out.size
      have HC := Lib.hid (clo76_any wr (os.getD k default) mx ((hb.out.cell (p := ⟨0, 0, none⟩) hw).trans HM.out) (by omega) hok.id hpl)
      generalize os.getD k default = o at *
      generalize rightO o = r at *
      clear hc hok hpl
      cases r with
      | false =>
        go_wp2_with (go_at_call 76; refine HC.out.mono ?_; rintro e w1 ⟨rfl, hb1⟩; have B1 := Lib.hid (hb.out.trans (hb1.mono hsz)); clear hb1)
        go_ret
        exact ⟨⟨(k : Int), rfl, by rw [hs.out.trans HST.out]; exact decide_eq_true (by omega)⟩, B1.out⟩
      | true =>
        go_wp2_with (go_at_call 76; refine HC.out.mono ?_; rintro e w1 ⟨rfl, hb1⟩; have B1 := Lib.hid (hb.out.trans (hb1.mono hsz)); clear hb1)
        exact ⟨⟨k + 1, by omega, by go_num, Lib.hid (hs.out.trans HST.out), B1⟩, by simp [intOf]; omega⟩
    · go_wp2
      go_ret
      exact ⟨⟨-1, rfl, by rw [hs.out, List.drop_eq_nil_of_le (by omega)]; rfl⟩, hb.out⟩
set_option maxRecDepth 100000 in
theorem con75_any (w : World) (A : Option Addr) (c : Nat) (os : List Org) (mx : Int) (hm : w.cell? ⟨0, 0, none⟩ = some (.int .i64 mx)) (hw : 0 < w.heap.size) (ho : Ov w A c os) (hp : ∀ o ∈ os, o.path.length ≤ 4294967200) (hn : os.length ≤ 1000000000) :
    Calls Tryd.prog 75 #[.slice A os.length c, .func (.func 76) #[] #[]] w fun e w2 => e = .returned (.bool (os.any fun o => !rightO o)) ∧ Below w.heap.size w w2 := by
  have HC := Lib.hid (idx87_any w A c os mx hm hw ho hp hn)
  clear ho hp hm
  generalize (os.any fun o => !rightO o) = r at *
  go_enter Tryd.func75, Tryd.ntmps75
  go_wp2_with (go_at_call 87; refine HC.out.mono ?_; rintro e w1 ⟨⟨i, rfl, hi⟩, hb⟩; have HI := Lib.hid hi; have HB := Lib.hid hb; clear hi hb)
  go_ret
  exact ⟨ret_bool HI.out, HB.out⟩
set_option maxRecDepth 100000 in
set_option maxHeartbeats 1000000 in
theorem idx77_any (w : World) (A : Option Addr) (c g : Nat) (ms : List Mot) (n : Mot) (hg : Ar w g 47 n.cells) (hni : n.r.id.length = 32) (ho : Mv w A ms) (hn : ms.length ≤ 1000000000) :
    Calls Tryd.prog 77 #[.slice A ms.length c, .func (.func 62) #[] #[.pointer (some ⟨g, 0, none⟩)]] w fun e w2 => (∃ i : Int, e = .returned (.int .i64 i) ∧ decide (0 ≤ i) = ms.any fun m => keyE m.r n.r) ∧ Below w.heap.size w w2 := by
  have HO := Lib.hid ho
  have HG := Lib.hid hg
  clear ho hg
  go_enter Tryd.func77, Tryd.ntmps77
  go_wp2_with fail
  go_loopw [8] (fun kv wr => ∃ k : Nat, k ≤ ms.length ∧ kv = .int .i64 k ∧ Hid ((ms.any fun m => keyE m.r n.r) = (ms.drop k).any fun m => keyE m.r n.r) ∧ Hid (Below w.heap.size w wr)) (fun kv _ => ms.length - (intOf kv).toNat)
  case atStart => exact ⟨0, Nat.zero_le _, rfl, rfl, Lib.hid (Below.refl _ _)⟩
  case round =>
    obtain ⟨k, hk, rfl, hs, hb⟩ := hrel
    by_cases hlt : k < ms.length
    · obtain ⟨ad, rfl, _, hc, hok, _⟩ := (HO.out.below hb.out).at_ hlt
      have hld := ldM47 hc hok.id
      have HST := Lib.hid (any_step (fun m : Mot => keyE m.r n.r) ms k hlt)
      have hsz := hb.out.size
      have HC := Lib.hid (clo62_any wr g (ms.getD k default) n (HG.out.below hb.out HG.out.lt) hok.id hni)
      generalize ms.getD k default = o at *
      generalize keyE o.r n.r = r at *
      clear hc hok
      cases r with
      | true =>
        go_wp2_with (go_at_call 62; refine HC.out.mono ?_; rintro e w1 ⟨rfl, hb1⟩; have B1 := Lib.hid (hb.out.trans (hb1.mono hsz)); clear hb1)
        go_ret
        exact ⟨⟨(k : Int), rfl, by rw [hs.out.trans HST.out]; exact decide_eq_true (by omega)⟩, B1.out⟩
      | false =>
        go_wp2_with (go_at_call 62; refine HC.out.mono ?_; rintro e w1 ⟨rfl, hb1⟩; have B1 := Lib.hid (hb.out.trans (hb1.mono hsz)); clear hb1)
        exact ⟨⟨k + 1, by omega, by go_num, Lib.hid (hs.out.trans HST.out), B1⟩, by simp [intOf]; omega⟩
    · go_wp2
      go_ret
      exact ⟨⟨-1, rfl, by rw [hs.out, List.drop_eq_nil_of_le (by omega)]; rfl⟩, hb.out⟩
set_option maxRecDepth 100000 in
theorem con61_any (w : World) (A : Option Addr) (c g : Nat) (ms : List Mot) (n : Mot) (hg : Ar w g 47 n.cells) (hni : n.r.id.length = 32) (ho : Mv w A ms) (hn : ms.length ≤ 1000000000) :
    Calls Tryd.prog 61 #[.slice A ms.length c, .func (.func 62) #[] #[.pointer (some ⟨g, 0, none⟩)]] w fun e w2 => e = .returned (.bool (ms.any fun m => keyE m.r n.r)) ∧ Below w.heap.size w w2 := by
  have HC := Lib.hid (idx77_any w A c g ms n hg hni ho hn)
  clear ho hg
  generalize (ms.any fun m => keyE m.r n.r) = r at *
  go_enter Tryd.func61, Tryd.ntmps61
  go_wp2_with (go_at_call 77; refine HC.out.mono ?_; rintro e w1 ⟨⟨i, rfl, hi⟩, hb⟩; have HI := Lib.hid hi; have HB := Lib.hid hb; clear hi hb)
  go_ret
  exact ⟨ret_bool HI.out, HB.out⟩
end
end Go.Proofs.YthhmamkphcgocaaDoor

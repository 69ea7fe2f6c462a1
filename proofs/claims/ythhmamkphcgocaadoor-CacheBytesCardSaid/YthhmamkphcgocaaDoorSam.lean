/- sleuthref32.Same and sleuthref33.Same where the two are one; slices.Clone; sleuthlaw33.large; by contracts. -/
import Derived.Test.YthhmamkphcgocaaDoorFck
import Derived.Test.YthhmamkphcgocaaDoorMrw
import Derived.Test.YthhmamkphcgocaaDoorOrd
namespace Go.Proofs.YthhmamkphcgocaaDoor
open Go.RowKit

attribute [local go_sem ↓] load42_eq store42_eq new42_eq run_new42 ldT47 ldT73 ldT52 ldT44 ldT71 ldT94 stT47 stT73 stT52 stT94 nwT47 nwT73 nwT52 nwT94 bxT47 bxT73 bxT52 bxT42 bxT44 bdT47 bdT73 bdT52 bdT94 run_nw47 run_nw73 run_nw52 run_nw94
attribute [local go_sem] run_bxT bs_toList
theorem orgE_refl (o : Org) : orgE o o = true := by simp [orgE]
theorem keyE_refl (r : Lot) : keyE r r = true := by simp [keyE]
set_option maxRecDepth 100000 in
set_option maxHeartbeats 1000000 in
theorem osame_any (w : World) (A D : Option Addr) (c d : Nat) (os : List Org) (ha : Ov w A c os) (hd : Ov w D d os) (hn : os.length ≤ 1000000000) :
    Calls Tryd.prog 16 #[.slice A os.length c, .slice D os.length d] w fun e w2 => e = .returned (.bool true) ∧ Below w.heap.size w w2 := by
  have HA := Lib.hid ha
  have HD := Lib.hid hd
  clear ha hd
  go_enter Tryd.func16, Tryd.ntmps16
  go_wp2_with fail
  go_loopw [5] (fun kv wr => ∃ k : Nat, k ≤ os.length ∧ kv = .int .i64 k ∧ Hid (Below w.heap.size w wr)) (fun kv _ => os.length - (intOf kv).toNat)
  case atStart => exact ⟨0, Nat.zero_le _, rfl, Lib.hid (Below.refl _ _)⟩
  case round =>
    obtain ⟨k, hk, rfl, hb⟩ := hrel
    by_cases hlt : k < os.length
    · have hbd := hb.out.drew
      obtain ⟨ad, rfl, _, hc, hok⟩ := (HA.out.below hbd).at_ hlt
      obtain ⟨ad2, rfl, _, hc2, _⟩ := (HD.out.below hbd).at_ hlt
      have l1 := ldO52 hc hok.id
      have l2 := ldO52 hc2 hok.id
      have e1 := fun W => run_neq_org (os.getD k default) (os.getD k default) hok.id hok.id W
      rw [orgE_refl] at e1
      have HBD := Lib.hid hbd
      clear hc hc2 hok hbd
      generalize (os.getD k default).cells = x at *
      go_wp2_with fail
      go_region_with fail
      all_goals
        go_wp2_with fail
        exact ⟨⟨k + 1, by omega, by go_num, HBD⟩, by simp [intOf]; omega⟩
    · go_wp2_with fail
      go_ret
      exact ⟨rfl, hb.out⟩
theorem getD_same {ms ns : List Mot} (h : ms.map (·.r) = ns.map (·.r)) {k : Nat} (hk : k < ms.length) : (ns.getD k default).r = (ms.getD k default).r := by
  have hl : ms.length = ns.length := by simpa using congrArg List.length h
  rw [← getD_map hk, h, getD_map (by omega)]
set_option maxRecDepth 100000 in
set_option maxHeartbeats 1000000 in
theorem rsame_any (w : World) (A D : Option Addr) (c d : Nat) (ms ns : List Mot) (h : ms.map (·.r) = ns.map (·.r)) (ha : Mv w A ms) (hd : Mv w D ns) (hs : ∀ m ∈ ms, m.r.small) (hn : ms.length ≤ 1000000000) :
    Calls Tryd.prog 9 #[.slice A ms.length c, .slice D ns.length d] w fun e w2 => e = .returned (.bool true) ∧ Below w.heap.size w w2 := by
  have hl : ms.length = ns.length := by simpa using congrArg List.length h
  have HA := Lib.hid ha
  have HD := Lib.hid hd
  have HH := Lib.hid h
  have HS := Lib.hid hs
  clear ha hd h hs
  rw [← hl]
  go_enter Tryd.func9, Tryd.ntmps9
  go_wp2_with fail
  go_loopw [5] (fun kv wr => ∃ k : Nat, k ≤ ms.length ∧ kv = .int .i64 k ∧ Hid (Below w.heap.size w wr)) (fun kv _ => ms.length - (intOf kv).toNat)
  case atStart => exact ⟨0, Nat.zero_le _, rfl, Lib.hid (Below.refl _ _)⟩
  case round =>
    obtain ⟨k, hk, rfl, hb⟩ := hrel
    by_cases hlt : k < ms.length
    · obtain ⟨ad, rfl, had, hc, hok, hov⟩ := (HA.out.below hb.out).at_ hlt
      obtain ⟨ad2, rfl, had2, hc2, hok2, hov2⟩ := (HD.out.below hb.out).at_ (show k < ns.length by omega)
      have hr := getD_same HH.out hlt
      have hsm := HS.out (ms.getD k default) (by simp [hlt])
      generalize ms.getD k default = m at *
      generalize ns.getD k default = n at *
      have HC := Lib.hid (fun W => alike_any W m n hok.id hok2.id)
      rw [hr, keyE_refl] at HC
      have q1 : ∀ W : Aft wr, W.W.cell? ⟨(ad.add (k * 38)).block, (ad.add (k * 38)).off + 37, none⟩ = some (.slice m.A m.r.os.length m.c) := fun W => mOs (hc.later W.h (by rw [block_add]; exact had)) hok.id
      have q2 : ∀ W : Aft wr, W.W.cell? ⟨(ad2.add (k * 38)).block, (ad2.add (k * 38)).off + 37, none⟩ = some (.slice n.A m.r.os.length n.c) := fun W => by
        have := mOs (hc2.later W.h (by rw [block_add]; exact had2)) hok2.id
        rwa [hr] at this
      have l1 : ∀ W : Aft wr, (ldT 73 (ad.add (k * 38))).run Tryd.prog W.W = .ok (.agg m.cells.toArray) W.W := fun W => ldM73 (hc.later W.h (by rw [block_add]; exact had)) hok.id
      have l2 : ∀ W : Aft wr, (ldT 73 (ad2.add (k * 38))).run Tryd.prog W.W = .ok (.agg n.cells.toArray) W.W := fun W => ldM73 (hc2.later W.h (by rw [block_add]; exact had2)) hok2.id
      have hnum := hsm.num
      have HG := Lib.hid (fun W : Aft wr => osame_any W.W m.A n.A m.c n.c m.r.os (hov.below W.h) (by have := hov2.below W.h; rwa [hr] at this) hnum)
      clear hc hc2 hok hok2 hov hov2 hsm hr had had2
      generalize hx1 : m.cells = x1 at *
      generalize hx2 : n.cells = x2 at *
      clear hx1 hx2
      generalize m.r.os.length = len at *
      go_wp2_with fail
      refine wp_region_aft (by kernel_rfl) (by kernel_rfl) ?_
      repeat (first | go_big_quiet_step (first | with_reducible exact aft_call (HC.out _) | with_reducible exact aft_call (HG.out _)))
      refine wpQuiet_nil ?_
      rintro _ ⟨W1, rfl⟩
      have B4 := Lib.hid (hb.out.trans (W1.h.mono hb.out.size))
      go_wp2_with fail
      exact ⟨⟨k + 1, by omega, by go_num, B4⟩, by simp [intOf]; omega⟩
    · go_wp2_with fail
      go_ret
      exact ⟨rfl, hb.out⟩
end Go.Proofs.YthhmamkphcgocaaDoor

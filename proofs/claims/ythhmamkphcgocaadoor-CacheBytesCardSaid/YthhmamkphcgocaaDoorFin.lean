/- cache.Find, where a row has the key, by a contract. -/
import Derived.Test.YthhmamkphcgocaaDoorCln
namespace Go.Proofs.YthhmamkphcgocaaDoor
open Go.RowKit

attribute [local go_sem ↓] load42_eq store42_eq new42_eq run_new42 ldT47 ldT73 ldT52 ldT44 ldT71 ldT94 stT47 stT73 stT52 stT94 nwT47 nwT73 nwT52 nwT94 bxT47 bxT73 bxT52 bxT42 bxT44 bdT47 bdT73 bdT52 bdT94 run_nw47 run_nw73 run_nw52 run_nw94 bsT24 bsT28 bsT45
attribute [local go_sem] run_bxT bs_toList
set_option maxRecDepth 100000 in
set_option maxHeartbeats 2000000 in
theorem find_any (w : World) (A : Option Addr) (c at_ : Nat) (ms : List Mot) (n : Lot) (h : Mv w A ms) (hn : ms.length ≤ 1000000) (hos : ∀ m ∈ ms, m.r.os.length ≤ 1000000000) (hni : n.id.length = 32) (hat : at_ < ms.length)
    (hyes : keyE (ms.getD at_ default).r n = true) (hno : ∀ j, j < at_ → keyE (ms.getD j default).r n = false) :
    Calls Tryd.prog 15 #[.slice A ms.length c, .agg (bys n.id).toArray, .string (bs n.path), .agg #[.int .i64 n.algo, .bool n.de, .bool n.mo, .bool n.co]] w
      fun e w2 => ∃ u, e = .returned (.tuple #[u, .bool true]) ∧ w2.ownsRow w.heap.size 52 34 u (ms.getD at_ default).r.os.length (orgs (ms.getD at_ default).r.os) ∧ Below w.heap.size w w2 := by
  have hs0 : (w.alloc (.cells (bys n.id).toArray 42)).heap.size = w.heap.size + 1 := World.size_alloc _ _
  have r1 := (Ar.new w (bys n.id) 42).alloc (.cells #[.int .i64 n.algo, .bool n.de, .bool n.mo, .bool n.co] 44)
  have r2 := Ar.new (w.alloc (.cells (bys n.id).toArray 42)) [.int .i64 n.algo, .bool n.de, .bool n.mo, .bool n.co] 44
  rw [hs0] at r2
  have hb := ((Below.refl w.heap.size w).alloc (Nat.le_refl _) (.cells (bys n.id).toArray 42)).alloc (by rw [hs0]; omega) (.cells #[.int .i64 n.algo, .bool n.de, .bool n.mo, .bool n.co] 44)
  have R1 := Lib.hid r1
  have R2 := Lib.hid r2
  have H := Lib.hid (h.below hb)
  have HB := Lib.hid hb
  have HOS := Lib.hid hos
  have HY := Lib.hid hyes
  have HN := Lib.hid hno
  clear h r1 r2 hb hos hyes hno
  go_enter Tryd.func15, Tryd.ntmps15
  go_wp2_with fail
  have hsz : ((w.alloc (.cells (bys n.id).toArray 42)).alloc (.cells #[.int .i64 n.algo, .bool n.de, .bool n.mo, .bool n.co] 44)).heap.size = w.heap.size + 1 + 1 := by rw [World.size_alloc, hs0]
  have R2 : Hid (Ar ((w.alloc (.cells (bys n.id).toArray 42)).alloc (.cells #[.int .i64 n.algo, .bool n.de, .bool n.mo, .bool n.co] 44)) (w.heap.size + 1) 44 [.int .i64 n.algo, .bool n.de, .bool n.mo, .bool n.co]) := R2
  generalize (w.alloc (.cells (bys n.id).toArray 42)).alloc (.cells #[.int .i64 n.algo, .bool n.de, .bool n.mo, .bool n.co] 44) = w1 at *
  go_loopw [14] (fun kv wr => ∃ k : Nat, k ≤ at_ ∧ kv = .int .i64 k ∧ Hid (Below w1.heap.size w1 wr)) (fun kv _ => at_ + 1 - (intOf kv).toNat)
  case atStart => exact ⟨0, Nat.zero_le _, rfl, Lib.hid (Below.refl _ _)⟩
  case round =>
    obtain ⟨k, hk, rfl, hb⟩ := hrel
    have hlt : k < ms.length := by omega
    obtain ⟨ad, rfl, had, hc, hok, hov⟩ := (H.out.below hb.out).at_ hlt
    have hld := ldM47 hc hok.id
    have HKE : Hid (k = at_ → keyE (ms.getD k default).r n = true) := Lib.hid (fun e => by rw [e]; exact HY.out)
    have HKN : Hid (k < at_ → keyE (ms.getD k default).r n = false) := Lib.hid (HN.out k)
    have hnum := HOS.out (ms.getD k default) (by simp [hlt])
    have HME : Hid (k = at_ → ms.getD k default = ms.getD at_ default) := Lib.hid (fun e => by rw [e])
    generalize ms.getD k default = o at *
    have n0 : Ar (wr.alloc (.cells zM.cells.toArray 47)) wr.heap.size 47 zM.cells := Ar.new wr _ _
    have hst := stM47 (n := o) n0 rfl hok.id
    have n1 := n0.setRow o.cells
    have hsz2 := hb.out.size
    have bb := below_row ((Below.refl wr.heap.size wr).alloc (Nat.le_refl _) (.cells zM.cells.toArray 47)) wr.heap.size o.cells.toArray (Nat.le_refl _)
    have b1 := hb.out.trans (bb.mono hsz2)
    have g1 := R1.out.below b1 (by omega)
    have g2 := R2.out.below b1 (by omega)
    have ov5 := hov.below bb
    have hbs := bb.size
    have hw5 : ((wr.alloc (.cells zM.cells.toArray 47)).setRow wr.heap.size o.cells.toArray).heap.size = wr.heap.size + 1 := by simp
    clear hc n0 bb hov
    go_wp2_with fail
    generalize (wr.alloc (.cells zM.cells.toArray 47)).setRow wr.heap.size o.cells.toArray = w5 at *
    have B5 := Lib.hid b1
    have q1 : ∀ W : Aft w5, (ldT 47 ⟨wr.heap.size, 0, none⟩).run Tryd.prog W.W = .ok (.agg o.cells.toArray) W.W := fun W => b47 (n1.below W.h n1.lt) hok.id
    have q2 : ∀ W : Aft w5, (load42 ⟨w.heap.size, 0, none⟩).run Tryd.prog W.W = .ok (.agg (bys n.id).toArray) W.W := fun W => ld42 (g1.below W.h g1.lt) hni
    have q3 : ∀ W : Aft w5, (ldT 44 ⟨w.heap.size + 1, 0, none⟩).run Tryd.prog W.W = .ok (.agg #[.int .i64 n.algo, .bool n.de, .bool n.mo, .bool n.co]) W.W := fun W => (g2.below W.h g2.lt).load rfl Tryd.underlying44 rfl inf44
    have q4 := fun W => run_bd94 n hni W
    have q5 := fun W => run_eql_key o.r n hok.id hni W
    have HC := Lib.hid (fun W : Aft w5 => key_any W.W o hok.id)
    have N1 := Lib.hid n1
    have OV := Lib.hid ov5
    have hid := hok.id
    have hl := n1.lt
    clear hst n1 g1 g2 ov5 hok hld b1
    generalize keyE o.r n = q at *
    refine wp_region_aft (by kernel_rfl) (by kernel_rfl) ?_
    repeat (first | go_big_quiet_step (with_reducible exact aft_call (HC.out _)))
    refine wpQuiet_nil ?_
    rintro _ ⟨W1, rfl⟩
    have B6 := Lib.hid (B5.out.trans (W1.h.mono B5.out.size))
    have s1 := bOs (N1.out.below W1.h hl) hid
    have OV6 := Lib.hid (OV.out.below W1.h)
    clear q1 q2 q3 q4 q5 HC N1 OV
    generalize W1.W = w6 at *
    by_cases hke : k = at_
    · obtain rfl : q = true := HKE.out hke
      have HC := Lib.hid (clone_any w6 o.A o.c o.r.os OV6.out hnum)
      have HE := Lib.hid (HME.out hke)
      have hs6 := B6.out.size
      clear HME HKE HKN
      go_wp2_with (go_at_call 47; refine HC.out.mono ?_; rintro e w7 ⟨u, rfl, ho, hb7⟩; have HO7 := Lib.hid ho; have B7 := Lib.hid (B6.out.trans (hb7.mono hs6)); clear ho hb7)
      go_ret2
      refine ⟨_, rfl, ?_, HB.out.trans (B7.out.mono (by omega))⟩
      rw [← HE.out]
      exact own_less HO7.out (by omega)
    · obtain rfl : q = false := HKN.out (by omega)
      clear HME HKE HKN
      go_wp2_with fail
      exact ⟨⟨k + 1, by omega, by go_num, B6⟩, by simp [intOf]; omega⟩
end Go.Proofs.YthhmamkphcgocaaDoor

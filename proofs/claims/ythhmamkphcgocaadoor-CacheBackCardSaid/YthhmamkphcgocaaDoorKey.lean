/- sleuthref33.alike, cache.Row.key, cache.check$1 by contracts. -/
import Derived.Test.YthhmamkphcgocaaDoorMrw
namespace Go.Proofs.YthhmamkphcgocaaDoor
open Go.RowKit

attribute [local go_sem ↓] load42_eq store42_eq new42_eq run_new42 ldT47 ldT73 ldT52 ldT44 ldT71 ldT94 stT47 stT73 stT52 stT94 nwT47 nwT73 nwT52 nwT94 bxT47 bxT73 bxT52 bxT42 bxT44 bdT47 bdT73 bdT52 bdT94 run_nw47 run_nw73 run_nw52 run_nw94
attribute [local go_sem] run_bxT bs_toList
set_option maxRecDepth 100000 in
set_option maxHeartbeats 1000000 in
theorem alike_any (w : World) (m n : Mot) (hm : m.r.id.length = 32) (hn : n.r.id.length = 32) :
    Calls Tryd.prog 31 #[.agg m.cells.toArray, .agg n.cells.toArray] w fun e w2 => e = .returned (.bool (keyE m.r n.r)) ∧ Below w.heap.size w w2 := by
  have hs : (w.alloc (.cells m.cells.toArray 73)).heap.size = w.heap.size + 1 := World.size_alloc _ _
  have r1 := (Ar.new w m.cells 73).alloc (.cells n.cells.toArray 73)
  have r2 := Ar.new (w.alloc (.cells m.cells.toArray 73)) n.cells 73
  rw [hs] at r2
  have i1 := bId r1 hm
  have i2 := bId r2 hn
  have p1 := bPath r1 hm
  have p2 := bPath r2 hn
  have o1 := bOpt71 r1 hm
  have o2 := bOpt71 r2 hn
  have e1 := fun W => run_eql_id m.r.id n.r.id hm hn W
  have e3 := fun W => run_eql_opt (.inr rfl) m.r.algo n.r.algo m.r.de n.r.de m.r.mo n.r.mo m.r.co n.r.co W
  have hb := ((Below.refl w.heap.size w).alloc (Nat.le_refl _) (.cells m.cells.toArray 73)).alloc (by rw [hs]; omega) (.cells n.cells.toArray 73)
  have HB := Lib.hid hb
  have HR : Hid (keyE m.r n.r = (decide (m.r.id = n.r.id) && ((m.r.path == n.r.path) && optE m.r.algo n.r.algo m.r.de n.r.de m.r.mo n.r.mo m.r.co n.r.co))) := Lib.hid (by rw [beq_dec]; rfl)
  generalize keyE m.r n.r = r at *
  generalize decide (m.r.id = n.r.id) = d1 at *
  generalize hd2 : (m.r.path == n.r.path) = d2 at *
  generalize optE m.r.algo n.r.algo m.r.de n.r.de m.r.mo n.r.mo m.r.co n.r.co = d3 at *
  clear hb r1 r2
  cases d1
  · go_enter Tryd.func31, Tryd.ntmps31
    go_wp2_with fail
    go_ret
    exact ⟨by rw [HR.out]; rfl, HB.out⟩
  · cases d2
    · go_enter Tryd.func31, Tryd.ntmps31
      go_wp2_with fail
      go_ret
      exact ⟨by rw [HR.out]; rfl, HB.out⟩
    · go_enter Tryd.func31, Tryd.ntmps31
      go_wp2_with fail
      go_ret
      exact ⟨by rw [HR.out]; rfl, HB.out⟩
set_option maxRecDepth 100000 in
set_option maxHeartbeats 1000000 in
theorem key_any (w : World) (m : Mot) (hm : m.r.id.length = 32) :
    Calls Tryd.prog 46 #[.agg m.cells.toArray] w fun e w2 => e = .returned (.agg m.r.head.toArray) ∧ Below w.heap.size w w2 := by
  have hs : (w.alloc (.cells m.cells.toArray 47)).heap.size = w.heap.size + 1 := World.size_alloc _ _
  have r1 := (Ar.new w m.cells 47).alloc (.cells zM.r.head.toArray 94)
  have r2 := Ar.new (w.alloc (.cells m.cells.toArray 47)) zM.r.head 94
  rw [hs] at r2
  have i1 := bId r1 hm
  have p1 := bPath r1 hm
  have o1 := bOpt44 r1 hm
  have e1 := fun W => run_bd94 m.r hm W
  have e2 := stK94 (s := m.r) r2 rfl hm
  have hb := below_row (((Below.refl w.heap.size w).alloc (Nat.le_refl _) (.cells m.cells.toArray 47)).alloc (by rw [hs]; omega) (.cells zM.r.head.toArray 94)) (w.heap.size + 1) m.r.head.toArray (by omega)
  have HB := Lib.hid hb
  have R2 := Lib.hid (r2.setRow m.r.head)
  have HL := Lib.hid (Lot.len hm)
  clear hb r1 r2
  go_enter Tryd.func46, Tryd.ntmps46
  go_wp2_with fail
  refine bodyPost_ret (results_cell_row rfl _ _ (w.heap.size + 1) 94 _ (0, 0) _ rfl R2.out Tryd.underlying94 rfl (by rw [List.size_toArray, HL.out]; exact inf94)) rfl ?_
  exact ⟨rfl, HB.out⟩
end Go.Proofs.YthhmamkphcgocaaDoor

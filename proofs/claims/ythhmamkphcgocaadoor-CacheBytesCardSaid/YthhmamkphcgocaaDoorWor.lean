/- sleuthlaw33.works by a contract. -/
import Derived.Test.YthhmamkphcgocaaDoorByt
import Derived.Test.YthhmamkphcgocaaDoorRed
namespace Go.Proofs.YthhmamkphcgocaaDoor
open Go.RowKit

def wkO : Org := ⟨2 :: List.replicate 31 0, [98], 3⟩
def wkL : Lot := ⟨1 :: List.replicate 31 0, [97], 0, false, true, false, [wkO]⟩
theorem wk_check : checkP [wkL] = 0 := by decide +kernel
theorem wk_bytes : bytesP [wkL] = (fileB [wkL], 0) := by
  unfold bytesP
  rw [if_neg (by rw [wk_check]; omega)]
theorem wk_read : readP (fileB [wkL]) = ([wkL], 0) := read_file wk_check (fun x hx => by
  rw [List.mem_singleton.1 hx]
  exact ⟨rfl, fun o ho => by rw [List.mem_singleton.1 ho]; rfl⟩)
theorem wk_small : wkL.small := ⟨by decide, fun o ho => by rw [List.mem_singleton.1 ho]; decide, by decide⟩
theorem wk_len : (fileB [wkL]).length ≤ 10000000 := by
  have h := shaOf_len (bodyB [wkL])
  have h2 : (bodyB [wkL]).length ≤ 1000 := by decide +kernel
  rw [fileB, List.length_append, h]
  omega
theorem bdT42 (ps : Array (Nat × Value)) : Instr.build 42 ps = bdT 42 ps := rfl
theorem bdT44 (ps : Array (Nat × Value)) : Instr.build 44 ps = bdT 44 ps := rfl
section
variable (W : World)
theorem wk1 : (bdT 42 #[(0, .int .u8 1)]).run Tryd.prog W = .ok (.agg (bys wkL.id).toArray) W := run_build W _ _ _ (by kernel_rfl)
theorem wk2 : (bdT 42 #[(0, .int .u8 2)]).run Tryd.prog W = .ok (.agg (bys wkO.id).toArray) W := run_build W _ _ _ (by kernel_rfl)
theorem wk3 : (bdT 44 #[(2, .bool true)]).run Tryd.prog W = .ok (.agg #[.int .i64 0, .bool false, .bool true, .bool false]) W := run_build W _ _ _ (by kernel_rfl)
theorem wk4 : (bdT 52 #[(0, .agg (bys wkO.id).toArray), (1, .string ⟨#[98]⟩), (2, .int .i64 3)]).run Tryd.prog W = .ok (.agg wkO.cells.toArray) W := run_build W _ _ _ (by kernel_rfl)
theorem wk5 (A : Option Addr) (c : Nat) : (bdT 47 #[(0, .agg (bys wkL.id).toArray), (1, .string ⟨#[97]⟩), (2, .agg #[.int .i64 0, .bool false, .bool true, .bool false]), (3, .slice A 1 c)]).run Tryd.prog W = .ok (.agg (Mot.mk wkL A c).cells.toArray) W := run_build W _ _ _ (by kernel_rfl)
end
attribute [local go_sem ↓] ldT47 ldT73 ldT52 ldT44 ldT71 ldT94 bdT47 bdT73 bdT52 bdT94 bdT42 bdT44 bsT24 bsT28 bsT45
attribute [local go_sem] bs_toList wk1 wk2 wk3 wk4 wk5
set_option maxRecDepth 100000 in
set_option maxHeartbeats 2000000 in
theorem works_any (w : World) (mx : Int) (hm : w.cell? ⟨0, 0, none⟩ = some (.int .i64 mx)) (hw : 0 < w.heap.size) :
    Calls Tryd.prog 6 #[] w fun e w2 => e = .returned (.bool true) ∧ Below w.heap.size w w2 := by
  have hoi : wkO.id.length = 32 := rfl
  have hli : wkL.id.length = 32 := rfl
  have l1 := fun W => run_bs45 (o := wkO) hoi W
  have l2 := fun W => run_bs24 (m := ⟨wkL, some ⟨w.heap.size, 0, none⟩, 1⟩) hli W
  have hs0 : (w.alloc (.cells wkO.cells.toArray 52)).heap.size = w.heap.size + 1 := World.size_alloc _ _
  have b1 := (Below.refl w.heap.size w).alloc (Nat.le_refl _) (.cells wkO.cells.toArray 52)
  have b2 := b1.alloc (by rw [hs0]; omega) (.cells (Mot.mk wkL (some ⟨w.heap.size, 0, none⟩) 1).cells.toArray 47)
  have ok1 : wkO.ok := ⟨rfl, by decide⟩
  have ok2 : wkL.ok := ⟨rfl, by decide, fun o ho => by rw [List.mem_singleton.1 ho]; exact ok1⟩
  have mv : Mv ((w.alloc (.cells wkO.cells.toArray 52)).alloc (.cells (Mot.mk wkL (some ⟨w.heap.size, 0, none⟩) 1).cells.toArray 47)) (some ⟨w.heap.size + 1, 0, none⟩) [⟨wkL, some ⟨w.heap.size, 0, none⟩, 1⟩] := by
    have r1 := (Ar.new w wkO.cells 52).alloc (.cells (Mot.mk wkL (some ⟨w.heap.size, 0, none⟩) 1).cells.toArray 47)
    have r2 := Ar.new (w.alloc (.cells wkO.cells.toArray 52)) (Mot.mk wkL (some ⟨w.heap.size, 0, none⟩) 1).cells 47
    rw [hs0] at r2
    refine ⟨by rw [mots_single]; exact r2.rv, fun m hm2 => by rw [List.mem_singleton.1 hm2]; exact ok2, fun m hm2 => ?_⟩
    rw [List.mem_singleton.1 hm2]
    exact ⟨by show Rv _ _ _ (orgs [wkO]); rw [orgs_single]; exact r1.rv, fun o ho => by rw [List.mem_singleton.1 ho]; exact ok1, Nat.le_refl _, fun e => by cases e⟩
  have HB := Lib.hid (bytes_any _ (some ⟨w.heap.size + 1, 0, none⟩) 1 [⟨wkL, some ⟨w.heap.size, 0, none⟩, 1⟩] mx ((b2.cell (p := ⟨0, 0, none⟩) hw).trans hm) (by simp) mv (fun m hm2 => by rw [List.mem_singleton.1 hm2]; exact wk_small) (by simp) (Nat.le_refl _))
  have B2 := Lib.hid b2
  have HM := Lib.hid hm
  clear b1 b2 mv hm ok1 ok2 hoi hli
  go_enter Tryd.func6, Tryd.ntmps6
  go_wp2_with fail
  refine HB.out.mono ?_
  rintro en w3 ⟨D, d, rfl, hrv, hD, hd, hb3⟩
  have e1 : bytesP ([(⟨wkL, some ⟨w.heap.size, 0, none⟩, 1⟩ : Mot)].map (·.r)) = (fileB [wkL], 0) := wk_bytes
  rw [e1] at hrv hd ⊢
  have hs2 := B2.out.size
  have B3 := Lib.hid (B2.out.trans (hb3.mono hs2))
  have hs3 := hb3.size
  have hfl := wk_len
  have HRD := Lib.hid (read_any w3 D d (fileB [wkL]) mx ((B3.out.cell (p := ⟨0, 0, none⟩) hw).trans HM.out) (by omega) hrv hD hd hfl)
  dsimp only
  have ewr := wk_read
  rw [wk_read] at HRD
  generalize fileB [wkL] = fb at *
  clear hrv hb3 e1 HB ewr hfl
  go_wp2_with (go_at_call 7; refine HRD.out.mono ?_; rintro en w4 ⟨D2, d2, ns, rfl, hmap, hmv, _, hd2, hD2, hb4⟩; obtain ⟨n, rfl⟩ : ∃ n, ns = [n] := (by rcases ns with _ | ⟨n, _ | ⟨n2, ns⟩⟩; simp at hmap; exact ⟨n, rfl⟩; simp at hmap); have hnr : n.r = wkL := (by simpa using hmap); have B4 := Lib.hid (B3.out.trans (hb4.mono B3.out.size)); obtain ⟨ad, rfl, _, hc, hok, hov⟩ := hmv.at_ (k := 0) (by simp); obtain ⟨bd, hbd, _, hco, hoo⟩ := hov.at_ (k := 0) (by simp [hnr, wkL]); rw [Nat.zero_mul, Addr.add_zero'] at hc hco; have hc : CellsAt w4 ad n.cells := hc; have hid : n.r.id.length = 32 := hok.id; have q1 := mPath hc hid; have q2 := mMo hc hid; have q3 := mOs hc hid; have eo : [n].getD 0 default = n := rfl; rw [eo] at hbd hco hoo; have q4 := oLine hco hoo.id; rw [hnr] at q1 q2 q3 q4; rw [hbd] at q3; have q1 : w4.cell? ⟨ad.block, ad.off + 32, none⟩ = some (.string (bs [97])) := q1; have q2 : w4.cell? ⟨ad.block, ad.off + 35, none⟩ = some (.bool true) := q2; have q3 : w4.cell? ⟨ad.block, ad.off + 37, none⟩ = some (.slice (some bd) 1 n.c) := q3; have q4 : w4.cell? ⟨bd.block, bd.off + 33, none⟩ = some (.int .i64 3) := q4; clear hmv hb4 hov hc hco hoo hok hbd eo hid)
  go_ret
  exact ⟨rfl, B4.out⟩
end Go.Proofs.YthhmamkphcgocaaDoor

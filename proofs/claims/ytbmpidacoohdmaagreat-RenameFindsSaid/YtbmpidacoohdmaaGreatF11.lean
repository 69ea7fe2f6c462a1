/- The document's store: Put of a blob, Read of one. oid: worth, Begin, Read of an id's digits; values of many cells. -/
import Derived.Test.YtbmpidacoohdmaaGreatF10
import Derived.Laws.ResultCell
namespace Go.Proofs.YtbmpidacoohdmaaGreat
open Lib renaming hid → hI
open Go.RowKit Op

attribute [local go_sem] bs_append bs_size
attribute [local go_sem ↓] load42_eq store42_eq new42_eq run_new42 box42_eq run_box42
theorem results_cell2 {P : Program} {fn : Func} {p u : Tmp} {ty : TypeId} (h : fn.results = #[.cell p ty, .tmp u]) (tmps : Array Value) (w : World) (a : Addr) {v : Value} (hp : tmps.getD p undef = .pointer (some a)) (hl : (loadVar ty a).run P w = .ok v w) :
    (results fn tmps).run P w = .ok (.tuple #[v, tmps.getD u undef]) w := by
  rw [results_cell_tmp h, hp]
  simp [asAddr, hl]
theorem Ar.non {w : World} {g : Nat} {t ty : TypeId} {cs : List Value} (h : Ar w g t cs) (ht : ty ≠ t) : Non (fun k => k = g) w ty := by
  rintro k rfl cs f hk
  have := Eq.trans (Eq.symm h) hk
  injection this with this
  injection this with _ h2
  exact ht h2.symm
theorem By.rv {w : World} {b c n : Nat} {xs : List UInt8} (h : By w (.slice (some ⟨b, 0, none⟩) n c) xs) : Rv w.heap.size w (some ⟨b, 0, none⟩) (bys xs) := by
  obtain ⟨b2, c2, e, _, hr, _⟩ := h
  injection e with e1 _ _
  rw [e1]
  exact hr
theorem chs_row (w : World) (n : Nat) (cs : Array Value) : Chs (fun k => k = n) w (w.setRow n cs) :=
  ⟨rfl, rfl, rfl, by simp, fun k _ hn => setRow_other w n k cs hn⟩
theorem Chs.young {S : Nat → Prop} {w w2 w3 : World} {n : Nat} (h : Chs S w w2) (k : Chs (fun k => k = n) w2 w3) (hn : w.heap.size ≤ n) : Chs S w w3 :=
  ⟨k.os.trans h.os, k.tape.trans h.tape, k.output.trans h.output, Nat.le_trans h.size k.size, fun m hm hs => (k.block m (Nat.lt_of_lt_of_le hm h.size) (fun e => by subst e; omega)).trans (h.block m hm hs)⟩
theorem Ar.chs {S : Nat → Prop} {w w2 : World} {g : Nat} {t : TypeId} {cs : List Value} (h : Ar w g t cs) (hc : Chs S w w2) (hn : Non S w t) : Ar w2 g t cs :=
  (hc.block g h.lt (fun q => hn g q _ _ h)).trans h
set_option maxRecDepth 100000 in
set_option maxHeartbeats 1000000 in
theorem fput_any (w : World) (g : Nat) (l : List Ent) (A : Option Addr) (c : Nat) (fr : Bool) (t : Nat) (ht : t ≤ 100) (hs : Rsp w g l A c fr t) (body : List UInt8) (hb : body.length ≤ 400) (D : Option Addr) (d : Nat) (hD : D = none → d = 0) (hr : Rv w.heap.size w D (bys body)) (h39 : l.length < 40) :
    Calls Tryz.prog 39 #[.pointer (some ⟨g, 0, none⟩), .int .i64 1, .slice D body.length d] w fun e w2 => e = .returned (.tuple #[.agg (bys (shaOf (objB body))).toArray, .int .i64 0]) ∧
      ∃ l2 A2 c2 fr2 t2, Rsp w2 g l2 A2 c2 fr2 ((t2 : Nat) : Int) ∧ t2 ≤ t + 1 ∧ Chs (fun k => k = g) w w2 ∧
        (((∃ x, x ∈ l ∧ x.id = shaOf (objB body)) ∧ l2 = l) ∨ ((∀ x ∈ l, x.id ≠ shaOf (objB body)) ∧ ∃ i v, l2 = l.take i ++ ⟨shaOf (objB body), body, v⟩ :: l.drop i)) := by
  have HS := hI hs
  have HR := hI hr
  have HD := hI hD
  have B0 := hI ((Below.refl w.heap.size w).alloc (Nat.le_refl _) (.cells z42 51))
  have hlen := objB_len body
  have hp := hdB_len hb
  have hL3 : 0 < (objB body).length := by omega
  have hL2 : (objB body).length ≤ 1000 := by omega
  have R0 : Hid (Ar (w.alloc (.cells z42 51)) w.heap.size 51 (bys (List.replicate 32 0))) := hI (Ar.new w (bys (List.replicate 32 0)) 51)
  clear hs hr hD hlen hp
  go_enter Tryz.func39, Tryz.ntmps39
  go_wp2_with fail
  refine (fobytes_any _ D d body (HR.out.low B0.out B0.out.size) HD.out hb).mono ?_
  rintro e w1 ⟨u, rfl, ho1, hb1⟩
  obtain ⟨bu, cu, hu, hcu, hru, hty⟩ := By.of_ows ho1 hL3
  have U1 : Hid (By w1 u (objB body)) := hI (By.of_ows ho1 hL3)
  have RU := hI hru
  have R01 := hI (R0.out.below hb1 R0.out.lt)
  have B1 := hI (B0.out.trans (hb1.mono B0.out.size))
  subst hu
  clear ho1 hb1 hru hty
  go_wp2_with fail
  refine (fof_any w1 (some ⟨bu, 0, none⟩) cu (objB body) RU.out (Nat.le_refl _) (fun q => by cases q) (by omega)).mono ?_
  rintro e w2 ⟨rfl, hb2⟩
  have HI := hI (shaOf_len (objB body))
  generalize hid : shaOf (objB body) = id at *
  have HID := hI hid
  clear hid
  have B2 := hI (B1.out.trans (hb2.mono B1.out.size))
  have U2 := hI (U1.out.chs (Chs.of_below hb2 (fun _ => False)) (fun _ q => q.elim))
  have RU2 := hI (RU.out.low hb2 hb2.size)
  have R02 := hI (R01.out.below hb2 R01.out.lt)
  have hne : w.heap.size ≠ w2.heap.size := Nat.ne_of_lt R02.out.lt
  have R03 := hI ((R02.out.alloc (.cells z42 51)).past w2.heap.size (bys id).toArray hne)
  have R2 : Hid (Ar (w2.alloc (.cells z42 51)) w2.heap.size 51 (bys (List.replicate 32 0))) := hI (Ar.new w2 (bys (List.replicate 32 0)) 51)
  have hst := st42 R2.out (by simp) HI.out
  have R3 := hI (R2.out.setRow (bys id))
  have B3 := hI (below_row (B2.out.alloc B2.out.size (.cells z42 51)) w2.heap.size (bys id).toArray B2.out.size)
  have RU3 := hI (RU2.out.low (below_row ((Below.refl w2.heap.size w2).alloc (Nat.le_refl _) (.cells z42 51)) w2.heap.size (bys id).toArray (Nat.le_refl _)) (Below.size (below_row ((Below.refl w2.heap.size w2).alloc (Nat.le_refl _) (.cells z42 51)) w2.heap.size (bys id).toArray (Nat.le_refl _))))
  have U3 := hI (U2.out.chs (Chs.of_below (below_row ((Below.refl w2.heap.size w2).alloc (Nat.le_refl _) (.cells z42 51)) w2.heap.size (bys id).toArray (Nat.le_refl _)) (fun _ => False)) (fun _ q => q.elim))
  have hld3 := ld42 R3.out HI.out
  clear hb2
  generalize hw3 : (w2.alloc (.cells z42 51)).setRow w2.heap.size (bys id).toArray = w3 at *
  have S3 := hI (HS.out.below B3.out)
  go_wp2_with fail
  refine (fget_any w3 g l A c fr t S3.out id HI.out).mono ?_
  rintro e w4 ⟨fr4, hs4, hc4, ⟨x, hm, he, u4, rfl, ho4⟩ | ⟨hno, rfl⟩⟩
  · have S4 := hI hs4
    have C4 := hI hc4
    have R4 := hI (R3.out.chs C4.out (S3.out.non (by decide)))
    have R04 := hI (R03.out.chs C4.out (S3.out.non (by decide)))
    have hld4 := ld42 R4.out HI.out
    have hst4 := st42 R04.out (by simp) HI.out
    clear hs4 hc4 hld3
    go_wp2_with fail
    have R9 := hI (R04.out.setRow (bys id))
    refine bodyPost_ret (results_cell2 rfl _ _ ⟨w.heap.size, 0, none⟩ rfl (R9.out.load (by rw [bys_len, HI.out]) Tryz.underlying51 rfl inf42)) rfl ?_
    have CR := hI (chs_row w4 w.heap.size (bys id).toArray)
    have hgn : g ≠ w.heap.size := Nat.ne_of_lt (Array.getElem?_eq_some_iff.1 HS.out.blk).1
    obtain rfl := HID.out
    refine ⟨rfl, l, A, c, fr4, t, S4.out.chs CR.out (R04.out.non (by decide)) (R04.out.non (by decide)) ((CR.out.block g (Array.getElem?_eq_some_iff.1 S4.out.blk).1 hgn).trans S4.out.blk), by omega, (Chs.trans (Chs.of_below B3.out _) C4.out).young CR.out (Nat.le_refl _), .inl ⟨⟨x, hm, he⟩, rfl⟩⟩
  · have S4 := hI hs4
    have C4 := hI hc4
    have NO := hI hno
    have hcl4 : w4.cell? ⟨g, 0, none⟩ = some (.slice A l.length c) := by rw [cell_of_row w4 g 0 _ _ _ S4.out.blk]; rfl
    have R4 := hI (R3.out.chs C4.out (S3.out.non (by decide)))
    have R04 := hI (R03.out.chs C4.out (S3.out.non (by decide)))
    clear hs4 hc4 hld3 hno
    go_wp2_with fail
    refine (findexes_any w4 g l A c fr4 t S4.out).mono ?_
    rintro e w5 ⟨rfl, hs5, hg5⟩
    have S5 := hI hs5
    have C5 := hI (C4.out.trans (Chs.of_grown hg5))
    have R5 := hI (R4.out.chs (Chs.of_grown hg5) (S4.out.non (by decide)))
    have R05 := hI (R04.out.chs (Chs.of_grown hg5) (S4.out.non (by decide)))
    have hld5 := ld42 R5.out HI.out
    have h600 : (l.length : Int) < 600 := by omega
    clear hs5 hg5 hcl4
    go_wp2_with fail
    refine wp_loop_rounds 1 ?_
    rw [rounds_succ]
    go_wp2_with fail
    refine (fhex_any w5 id HI.out).mono ?_
    rintro e w6 ⟨rfl, hb6⟩
    have hcat : (⟨#[108, 111, 111, 115, 101, 47]⟩ : ByteArray) ++ bs (hexB id) = bs (nmB id) := bs_append looB (hexB id)
    have hsz : (bs (hexB id)).size = 64 := by rw [bs_size, hexB_len]; have := HI.out; omega
    have S6 := hI (S5.out.below hb6)
    have C6 := hI (C5.out.trans (Chs.of_below hb6 _))
    have R6 := hI (R5.out.below hb6 R5.out.lt)
    have R06 := hI (R05.out.below hb6 R05.out.lt)
    clear hb6 hld5
    go_wp2_with fail
    have U6 := hI (U3.out.chs C6.out (S3.out.non (by decide)))
    refine (flay_any w6 g l A c true t S6.out id body HI.out NO.out HID.out.symm hb (some ⟨bu, 0, none⟩) cu (fun q => by cases q) U6.out.rv h39).mono ?_
    rintro e w7 ⟨rfl, v7, A7, c7, i7, hs7, hc7⟩
    have S7 := hI hs7
    have C7 := hI (C6.out.trans hc7)
    have R7 := hI (R6.out.chs hc7 (S6.out.non (by decide)))
    have R07 := hI (R06.out.chs hc7 (S6.out.non (by decide)))
    have hc71 : w7.cell? ⟨g, 1, none⟩ = some (.int .i64 t) := by rw [cell_of_row w7 g 1 _ _ _ S7.out.blk]; rfl
    have hf71 := frozen_of_row w7 g 1 _ _ S7.out.blk
    have hgw : g < w.heap.size := (Array.getElem?_eq_some_iff.1 HS.out.blk).1
    have hn2 : w2.heap.size ≠ g := by have := R02.out.lt; omega
    have hn0 : w.heap.size ≠ g := by omega
    have R8 := hI (R7.out.other ⟨g, 1, none⟩ (.int .i64 ((t : Int) + 1)) hn2)
    have R08 := hI (R07.out.other ⟨g, 1, none⟩ (.int .i64 ((t : Int) + 1)) hn0)
    have hld8 := ld42 R8.out HI.out
    have hst8 := st42 R08.out (by simp) HI.out
    have hb8 : (w7.setCell ⟨g, 1, none⟩ (.int .i64 ((t : Int) + 1))).heap[g]? = some (.cells #[.slice A7 (l.take i7 ++ ⟨id, body, v7⟩ :: l.drop i7 : List Ent).length c7, .int .i64 ((t : Int) + 1), .slice none 0 0, .bool false] 63 (0, 0)) := by
      rw [set_same S7.out.blk]; rfl
    have G8 := hI (Chs.of_grown (grown_set (grown_refl w7 (some g)) 1 (.int .i64 ((t : Int) + 1))))
    have HB8 := hI hb8
    clear hb8
    clear hs7 hc7
    go_wp2_with fail
    have R9 := hI (R08.out.setRow (bys id))
    have CR := hI (chs_row (w7.setCell ⟨g, 1, none⟩ (.int .i64 ((t : Int) + 1))) w.heap.size (bys id).toArray)
    have S8 := hI (S7.out.chs G8.out (S7.out.non (by decide)) (S7.out.non (by decide)) HB8.out)
    refine bodyPost_ret (results_cell2 rfl _ _ ⟨w.heap.size, 0, none⟩ rfl (R9.out.load (by rw [bys_len, HI.out]) Tryz.underlying51 rfl inf42)) rfl ?_
    obtain rfl := HID.out
    exact ⟨rfl, _, A7, c7, false, t + 1, S8.out.chs CR.out (R08.out.non (by decide)) (R08.out.non (by decide)) ((CR.out.block g (Array.getElem?_eq_some_iff.1 S8.out.blk).1 (fun q => hn0 q.symm)).trans S8.out.blk), Nat.le_refl _, (((Chs.of_below B3.out _).trans (C7.out)).trans G8.out).young CR.out (Nat.le_refl _), .inr ⟨NO.out, i7, v7, rfl⟩⟩
end Go.Proofs.YtbmpidacoohdmaaGreat
namespace Go.Proofs.YtbmpidacoohdmaaGreat
open Lib renaming hid → hI
open Go.RowKit Op

def ldT (ty : TypeId) (a : Addr) : Sem Value := loadVar ty a
def stT (ty : TypeId) (a : Addr) (v : Value) : Sem Unit := storeVar ty a v
def nwT (ty : TypeId) : Sem Value := Instr.alloc ty true (.tuple #[])
def bdT (ty : TypeId) (ps : Array (Nat × Value)) : Sem Value := Instr.build ty ps
theorem ldTP (a : Addr) : loadVar 330 a = ldT 330 a := rfl
theorem stTP (a : Addr) (v : Value) : storeVar 330 a v = stT 330 a v := rfl
theorem nwTP : Instr.alloc 330 true (.tuple #[]) = nwT 330 := rfl
theorem bdTP (ps : Array (Nat × Value)) : Instr.build 330 ps = bdT 330 ps := rfl
theorem run_nwT {ty : TypeId} {cs : Array Value} (h : (Tryz.prog.info? ty).map (·.zero) = some (some (.agg cs))) (W : World) : (nwT ty).run Tryz.prog W = .ok (.pointer (some ⟨W.heap.size, 0, none⟩)) (W.alloc (.cells cs ty)) := by
  obtain ⟨i, hi, hz⟩ := Option.map_eq_some_iff.1 h
  simp [nwT, Instr.alloc, zeroValue, typeInfo, hi, hz, newVar, newRow, Value.cells]
theorem ldA {W : World} {g : Nat} {t ty : TypeId} {cs : List Value} (h : Ar W g t cs) {n : Nat} (hn : cs.length = n) {d : TypeDesc} (hu : Tryz.prog.underlying ty = some d) (hd : multi d = true) (hi : (Tryz.prog.info? ty).map (·.size) = some n) : (ldT ty ⟨g, 0, none⟩).run Tryz.prog W = .ok (.agg cs.toArray) W := h.load hn hu hd hi
theorem stA {W : World} {g : Nat} {t ty : TypeId} {cs ds : List Value} (h : Ar W g t cs) {n : Nat} (hn : cs.length = n) (hm : ds.length = n) (h1 : ∀ u ∈ ds, u.oneCell' = true) (hi : (Tryz.prog.info? ty).map (·.size) = some n) : (stT ty ⟨g, 0, none⟩ (.agg ds.toArray)).run Tryz.prog W = .ok () (W.setRow g ds.toArray) := h.store hn hm h1 hi
def zB : List UInt8 := List.replicate 32 0
def cellsP (l : List UInt8) (n : Int) : List Value := bys l ++ [.int .i64 n]
theorem cellsP_len (l : List UInt8) (n : Int) : (cellsP l n).length = l.length + 1 := by simp [cellsP, bys]
theorem cellsP_one (l : List UInt8) (n : Int) : ∀ u ∈ cellsP l n, u.oneCell' = true := by
  intro u hu
  rcases List.mem_append.1 hu with hu | hu
  · exact bys_one l u hu
  · rw [List.mem_singleton.1 hu]; rfl
theorem infP : (Tryz.prog.info? 330).map (·.size) = some 33 := by kernel_rfl
theorem cellsP_set (l : List UInt8) (n : Int) (j : Nat) (x : UInt8) (hj : j < l.length) : (cellsP l n).set j (.int .u8 (x.toNat : Int)) = cellsP (l.set j x) n := by
  unfold cellsP
  rw [List.set_append_left _ _ (by rw [bys_len]; exact hj)]
  simp [bys, List.map_set]
def zP : List Value := cellsP zB 0
theorem zP_info : (Tryz.prog.info? 330).map (·.zero) = some (some (.agg zP.toArray)) := by kernel_rfl
theorem run_nwP (W : World) : (nwT 330).run Tryz.prog W = .ok (.pointer (some ⟨W.heap.size, 0, none⟩)) (W.alloc (.cells zP.toArray 330)) := run_nwT zP_info W
theorem run_bdP (W : World) : (bdT 330 #[(1, .int .i64 64)]).run Tryz.prog W = .ok (.agg (cellsP zB 64).toArray) W := by kernel_rfl
theorem or_lo : ∀ x : Fin 256, bits BinOp.or IntKind.u8 0 (x.val : Int) = (x.val : Int) := by decide +kernel
theorem or_hi : ∀ c : Fin 256, bits BinOp.or IntKind.u8 ((c.val / 16 * 16 : Nat) : Int) ((c.val % 16 : Nat) : Int) = (c.val : Int) := by decide +kernel
/-- An id's first digits, then digits of 0. -/
def preB (id : List UInt8) (i : Nat) : List UInt8 := (List.range 32).map fun j => if 2 * j + 2 ≤ i then id.getD j 0 else if 2 * j + 1 = i then by8 ((id.getD j 0).toNat / 16 * 16) else 0
theorem preB_len (id : List UInt8) (i : Nat) : (preB id i).length = 32 := by simp [preB]
theorem preB_at (id : List UInt8) (i j : Nat) (hj : j < 32) : (preB id i).getD j 0 = if 2 * j + 2 ≤ i then id.getD j 0 else if 2 * j + 1 = i then by8 ((id.getD j 0).toNat / 16 * 16) else 0 := by
  simp only [preB, List.getD_eq_getElem?_getD, List.getElem?_map, List.getElem?_range hj, Option.map_some, Option.getD_some]
theorem preB_zero (id : List UInt8) : preB id 0 = zB := by
  unfold zB
  refine List.ext_getElem (by simp [preB]) fun k h1 h2 => ?_
  rw [List.getElem_replicate]
  simp [preB]
theorem preB_all (id : List UInt8) (h : id.length = 32) : preB id 64 = id := by
  refine List.ext_getElem (by simp [preB, h]) fun k h1 h2 => ?_
  have hk : k < 32 := by simpa [preB] using h1
  simp only [preB, List.getElem_map, List.getElem_range]
  rw [if_pos (by omega)]
  simp [h2]
theorem preB_even (id : List UInt8) (j : Nat) (hj : j < 32) : (preB id (2 * j)).getD j 0 = 0 ∧ (preB id (2 * j)).set j (by8 ((id.getD j 0).toNat / 16 * 16)) = preB id (2 * j + 1) := by
  constructor
  · rw [preB_at _ _ _ hj, if_neg (by omega), if_neg (by omega)]
  · refine List.ext_getElem (by simp [preB]) fun k h1 h2 => ?_
    have hk : k < 32 := by simpa [preB] using h1
    simp only [preB, List.getElem_set, List.getElem_map, List.getElem_range]
    by_cases e : j = k
    · subst e; rw [if_pos rfl, if_neg (by omega), if_pos rfl]
    · rw [if_neg e]
      by_cases e2 : 2 * k + 2 ≤ 2 * j
      · rw [if_pos e2, if_pos (by omega)]
      · rw [if_neg e2, if_neg (by omega), if_neg (by omega), if_neg (by omega)]
theorem preB_odd (id : List UInt8) (j : Nat) (hj : j < 32) : (preB id (2 * j + 1)).getD j 0 = by8 ((id.getD j 0).toNat / 16 * 16) ∧ (preB id (2 * j + 1)).set j (id.getD j 0) = preB id (2 * (j + 1)) := by
  constructor
  · rw [preB_at _ _ _ hj, if_neg (by omega), if_pos rfl]
  · refine List.ext_getElem (by simp [preB]) fun k h1 h2 => ?_
    have hk : k < 32 := by simpa [preB] using h1
    simp only [preB, List.getElem_set, List.getElem_map, List.getElem_range]
    by_cases e : j = k
    · subst e; rw [if_pos rfl, if_pos (by omega)]
    · rw [if_neg e]
      by_cases e2 : 2 * k + 2 ≤ 2 * j + 1
      · rw [if_pos e2, if_pos (by omega)]
      · rw [if_neg e2, if_neg (by omega), if_neg (by omega), if_neg (by omega)]
theorem hexB_at : ∀ (id : List UInt8) (j : Nat), j < id.length → (hexB id).getD (2 * j) 0 = hexD ((id.getD j 0).toNat / 16) ∧ (hexB id).getD (2 * j + 1) 0 = hexD ((id.getD j 0).toNat % 16)
  | [], j, h => by simp at h
  | c :: id, 0, _ => by simp [hexB]
  | c :: id, j + 1, h => by
    have := hexB_at id j (by simpa using h)
    rw [show 2 * (j + 1) = 2 * j + 1 + 1 by omega]
    simpa [hexB] using this
attribute [local go_sem ↓] load42_eq store42_eq new42_eq run_new42 ldTP stTP nwTP bdTP run_nwP
attribute [local go_sem] run_bdP
set_option maxRecDepth 100000 in
set_option maxHeartbeats 1000000 in
theorem worth_any (w : World) (n : Nat) (hn : n < 16) : Calls Tryz.prog 280 #[.int .u8 ((hexD n).toNat : Int)] w fun e w2 => e = .returned (.int .i64 (n : Int)) ∧ w = w2 := by
  have h : (hexD n).toNat = if n < 10 then 48 + n else 87 + n := by revert n; decide
  generalize (hexD n).toNat = d at *
  by_cases h10 : n < 10
  · rw [if_pos h10] at h
    subst h
    go_enter Tryz.func280, Tryz.ntmps280
    go_wp2_with fail
    go_ret
    exact ⟨ret_int (by omega), rfl⟩
  · rw [if_neg h10] at h
    subst h
    go_enter Tryz.func280, Tryz.ntmps280
    go_wp2_with fail
    go_ret
    exact ⟨ret_int (by omega), rfl⟩
set_option maxRecDepth 100000 in
set_option maxHeartbeats 1000000 in
theorem begin_any (w : World) (id : List UInt8) (hi : id.length = 32) : Calls Tryz.prog 209 #[.string (bs (hexB id))] w fun e w2 => e = .returned (.tuple #[.agg (cellsP id 64).toArray, .int .i64 0]) ∧ Below w.heap.size w w2 := by
  have hks : (bs (hexB id)).size = 64 := by rw [bs_size, hexB_len]; omega
  have HX := hI (hexB_at id)
  have HI := hI hi
  have HAT : Hid (∀ k, (h : k < (bs (hexB id)).size) → (bs (hexB id))[k] = (hexB id).getD k 0) := hI fun k h => bs_at h
  have R0 := hI ((Ar.new w zP 330).alloc (.cells zP.toArray 330))
  have R1 := hI (Ar.new (w.alloc (.cells zP.toArray 330)) zP 330)
  have B1 := hI (((Below.refl w.heap.size w).alloc (Nat.le_refl _) (.cells zP.toArray 330)).alloc (by simp) (.cells zP.toArray 330))
  have hsz : (w.alloc (.cells zP.toArray 330)).heap.size = w.heap.size + 1 := by simp
  rw [hsz] at R1
  have hst := stA R1.out (n := 33) (ds := cellsP zB 64) rfl rfl (cellsP_one _ _) infP
  have R2 := hI (R1.out.setRow (cellsP zB 64))
  have R02 := hI (R0.out.past (w.heap.size + 1) (cellsP zB 64).toArray (by omega))
  have B2 := hI (below_row B1.out (w.heap.size + 1) (cellsP zB 64).toArray (by omega))
  clear hi
  go_enter Tryz.func209, Tryz.ntmps209
  go_wp2_with fail
  rw [← preB_zero id] at R2
  go_loopw [16] (fun kv wr => ∃ i : Nat, i ≤ 64 ∧ kv = .int .i64 i ∧ Hid (Ar wr (w.heap.size + 1) 330 (cellsP (preB id i) 64)) ∧ Hid (Ar wr w.heap.size 330 zP) ∧ Hid (Below w.heap.size w wr)) (fun kv _ => 64 - (intOf kv).toNat)
  case atStart => exact ⟨0, Nat.zero_le _, rfl, R2, R02, B2⟩
  case round =>
    obtain ⟨i, hi, rfl, hr, hr0, hb⟩ := hrel
    by_cases hlt : i < 64
    · obtain ⟨j, hj, rfl | rfl⟩ : ∃ j, j < 32 ∧ (i = 2 * j ∨ i = 2 * j + 1) := ⟨i / 2, by omega, by omega⟩
      · obtain ⟨e1, e2⟩ := preB_even id j hj
        obtain ⟨x1, _⟩ := HX.out j (by rw [HI.out]; exact hj)
        have hw := HAT.out (2 * j) (by rw [hks]; omega)
        rw [x1] at hw
        generalize id.getD j 0 = c at *
        have E2 := hI e2
        have hcj : wr.cell? ⟨w.heap.size + 1, j, none⟩ = some (.int .u8 0) := hr.out.cell (by
          rw [cellsP, List.getElem?_append_left (by rw [bys_len, preB_len]; exact hj), bys_at (by rw [preB_len]; exact hj), e1]; rfl)
        have hfj := hr.out.frozen j
        have hcu := c.toNat_lt
        have HW := hI (fun W => worth_any W (c.toNat / 16) (by omega))
        have qv : bits .or .u8 0 ((c.toNat : Int) / 16 * 16) = ((by8 (c.toNat / 16 * 16)).toNat : Int) := by
          rw [by8_nat, show (c.toNat : Int) / 16 * 16 = ((c.toNat / 16 * 16 % 256 : Nat) : Int) by omega]
          exact or_lo ⟨c.toNat / 16 * 16 % 256, by omega⟩
        clear x1 e1 e2
        go_wp2_with (go_at_call 280; refine (HW.out _).mono ?_; rintro e w2 ⟨rfl, rfl⟩)
        have R5 := hr.out.set j (.int .u8 ((by8 (c.toNat / 16 * 16)).toNat : Int))
        rw [show (cellsP (preB id (2 * j)) 64).set j (.int .u8 ((by8 (c.toNat / 16 * 16)).toNat : Int)) = cellsP (preB id (2 * j + 1)) 64 from (cellsP_set _ _ _ _ (by rw [preB_len]; exact hj)).trans (by rw [E2.out])] at R5
        refine ⟨⟨2 * j + 1, by omega, by go_num, hI R5, hI (hr0.out.other _ _ (show w.heap.size ≠ w.heap.size + 1 by omega)), hI (hb.out.setCell (show w.heap.size ≤ w.heap.size + 1 by omega) _)⟩, by simp [intOf]; omega⟩
      · obtain ⟨e1, e2⟩ := preB_odd id j hj
        obtain ⟨_, x1⟩ := HX.out j (by rw [HI.out]; exact hj)
        have hw := HAT.out (2 * j + 1) (by rw [hks]; omega)
        rw [x1] at hw
        generalize id.getD j 0 = c at *
        have E2 := hI e2
        have hcj : wr.cell? ⟨w.heap.size + 1, j, none⟩ = some (.int .u8 ((by8 (c.toNat / 16 * 16)).toNat : Int)) := hr.out.cell (by
          rw [cellsP, List.getElem?_append_left (by rw [bys_len, preB_len]; exact hj), bys_at (by rw [preB_len]; exact hj), e1])
        have hfj := hr.out.frozen j
        have hcu := c.toNat_lt
        have qd : (2 * j + 1) / 2 = j := by omega
        have HW := hI (fun W => worth_any W (c.toNat % 16) (by omega))
        have qv : bits .or .u8 ((by8 (c.toNat / 16 * 16)).toNat : Int) ((c.toNat : Int) % 16) = (c.toNat : Int) := by
          rw [by8_nat, show c.toNat / 16 * 16 % 256 = c.toNat / 16 * 16 by omega, show (c.toNat : Int) % 16 = ((c.toNat % 16 : Nat) : Int) by omega]
          exact or_hi ⟨c.toNat, hcu⟩
        clear x1 e1 e2
        go_wp2_with (go_at_call 280; refine (HW.out _).mono ?_; rintro e w2 ⟨rfl, rfl⟩)
        have R5 := hr.out.set j (.int .u8 (c.toNat : Int))
        rw [show (cellsP (preB id (2 * j + 1)) 64).set j (.int .u8 (c.toNat : Int)) = cellsP (preB id (2 * (j + 1))) 64 from (cellsP_set _ _ _ _ (by rw [preB_len]; exact hj)).trans (by rw [E2.out])] at R5
        refine ⟨⟨2 * (j + 1), by omega, by go_num, hI R5, hI (hr0.out.other _ _ (show w.heap.size ≠ w.heap.size + 1 by omega)), hI (hb.out.setCell (show w.heap.size ≤ w.heap.size + 1 by omega) _)⟩, by simp [intOf]; omega⟩
    · have he : i = 64 := by omega
      subst he
      rw [preB_all id HI.out] at hr
      have hld := ldA hr.out (n := 33) (by rw [cellsP_len, HI.out]) Tryz.underlying330 rfl infP
      have hst := stA hr0.out (n := 33) (ds := cellsP id 64) rfl (by rw [cellsP_len, HI.out]) (cellsP_one _ _) infP
      go_wp2_with fail
      have R9 := hI (hr0.out.setRow (cellsP id 64))
      refine bodyPost_ret (results_cell2 rfl _ _ ⟨w.heap.size, 0, none⟩ rfl (R9.out.load (n := 33) (by rw [cellsP_len, HI.out]) Tryz.underlying330 rfl infP)) rfl ?_
      exact ⟨rfl, below_row hb.out w.heap.size (cellsP id 64).toArray (Nat.le_refl _)⟩
set_option maxRecDepth 100000 in
set_option maxHeartbeats 1000000 in
theorem oread_any (w : World) (id : List UInt8) (hi : id.length = 32) : Calls Tryz.prog 156 #[.string (bs (hexB id))] w fun e w2 => e = .returned (.tuple #[.agg (bys id).toArray, .int .i64 0]) ∧ Below w.heap.size w w2 := by
  have hks : (bs (hexB id)).size = 64 := by rw [bs_size, hexB_len]; omega
  have HI := hI hi
  have R0 := hI (Ar.new w (bys (List.replicate 32 0)) 51)
  have B0 := hI ((Below.refl w.heap.size w).alloc (Nat.le_refl _) (.cells z42 51))
  clear hi
  go_enter Tryz.func156, Tryz.ntmps156
  go_wp2_with fail
  refine (begin_any _ id HI.out).mono ?_
  rintro e w2 ⟨rfl, hb2⟩
  have R2 := hI (R0.out.below hb2 R0.out.lt)
  have B2 := hI (B0.out.trans (hb2.mono B0.out.size))
  have P2 := hI (Ar.new w2 zP 330)
  have hlt := R2.out.lt
  have hstP := stA P2.out (n := 33) (ds := cellsP id 64) rfl (by rw [cellsP_len, HI.out]) (cellsP_one _ _) infP
  have P3 := hI (P2.out.setRow (cellsP id 64))
  have R3 := hI ((R2.out.alloc (.cells zP.toArray 330)).past w2.heap.size (cellsP id 64).toArray (Nat.ne_of_lt hlt))
  have B3 := hI (below_row (B2.out.alloc B2.out.size (.cells zP.toArray 330)) w2.heap.size (cellsP id 64).toArray B2.out.size)
  have hldI : (load42 ⟨w2.heap.size, 0, none⟩).run Tryz.prog ((w2.alloc (.cells zP.toArray 330)).setRow w2.heap.size (cellsP id 64).toArray) = .ok (.agg (bys id).toArray) _ :=
    run_loadVar_cells Tryz.underlying51 rfl (by rw [bys_len, HI.out]; exact inf42) (fun j v hv => by
      rw [Addr.add_lit, Nat.zero_add]
      exact P3.out.cell (by rw [cellsP, List.getElem?_append_left (List.getElem?_eq_some_iff.1 hv).1]; exact hv))
  have hstI := st42 R3.out (by simp) HI.out
  clear hb2
  go_wp2_with fail
  have R9 := hI (R3.out.setRow (bys id))
  refine bodyPost_ret (results_cell2 rfl _ _ ⟨w.heap.size, 0, none⟩ rfl (R9.out.load (by rw [bys_len, HI.out]) Tryz.underlying51 rfl inf42)) rfl ?_
  exact ⟨rfl, below_row B3.out w.heap.size (bys id).toArray (Nat.le_refl _)⟩
end Go.Proofs.YtbmpidacoohdmaaGreat

/- rename: near's lists of ids, as laws of two loops. rename: near, where no text can be read. -/
import Derived.Test.YtbmpidacoohdmaaGreatF21
namespace Go.Proofs.YtbmpidacoohdmaaGreat
open Lib renaming hid → hI
open Go.RowKit Op
open Rn (Chg LReads CellsAt Fnd St isSource isTarget)

def u8b (l : List Int) : List UInt8 := l.map fun x => UInt8.ofNat x.toNat
theorem u8b_len (l : List Int) : (u8b l).length = l.length := by simp [u8b]
/-- Numbers that are bytes. -/
def Byt (l : List Int) : Prop := ∀ x ∈ l, 0 ≤ x ∧ x < 256
theorem u8b_back {l : List Int} (h : Byt l) : intsU (u8b l) = l := by
  unfold intsU u8b
  rw [List.map_map]
  conv => rhs; rw [← List.map_id l]
  refine List.map_congr_left fun x hx => ?_
  obtain ⟨h1, h2⟩ := h x hx
  simp only [Function.comp, id]
  rw [UInt8.toNat_ofNat', Nat.mod_eq_of_lt (by omega)]
  omega
/-- The ids of changes are bytes. -/
def BytL (l : List Chg) : Prop := ∀ (k : Nat) (x : Chg), l[k]? = some x → Byt x.oid ∧ Byt x.nid
attribute [local go_sem ↓] bsI_eq load42_eq
theorem ld_oid {w : World} {ad : Addr} {x : Chg} (hcs : CellsAt w ad x.cells) (ok : x.ok) (hb : Byt x.oid) : (load42 ⟨ad.block, ad.off + 5, none⟩).run Tryz.prog w = .ok (.agg (bys (u8b x.oid)).toArray) w := by
  have hp := (hcs.part 5).take 32
  rw [Chg.oid_part _ ok, show Rn.u8s x.oid = bys (u8b x.oid) by rw [bys_rn, u8b_back hb]] at hp
  exact run_loadVar_cells Tryz.underlying51 rfl (by rw [bys_len, u8b_len, ok.oid]; exact inf42) hp
theorem ld_nid {w : World} {ad : Addr} {x : Chg} (hcs : CellsAt w ad x.cells) (ok : x.ok) (hb : Byt x.nid) : (load42 ⟨ad.block, ad.off + 37, none⟩).run Tryz.prog w = .ok (.agg (bys (u8b x.nid)).toArray) w := by
  have hp := (hcs.part 37).take 32
  rw [Chg.nid_part _ ok, show Rn.u8s x.nid = bys (u8b x.nid) by rw [bys_rn, u8b_back hb]] at hp
  exact run_loadVar_cells Tryz.underlying51 rfl (by rw [bys_len, u8b_len, ok.nid]; exact inf42) hp
noncomputable def near_o_code : Code := ((Tryz.f19.body.map loopsIn).getD []).getD 0 .skip
set_option maxRecDepth 100000 in
set_option maxHeartbeats 1000000 in
theorem near_o (w : World) (B b F S K T : Nat) (A : Option Addr) (c : Nat) (l : List Chg) (s : St) (pb : Nat) (hf : Fnd w B b F S K T A c l s) (hpb : Ar w pb 67 [.pointer (some ⟨b, 0, none⟩)]) (hby : BytL l) (L : List Nat) (D : Option Addr) (d : Nat) (hL : ∀ k ∈ L, k < l.length) (hLn : L.length ≤ 40) (hd : Rv w.heap.size w D (ntI2 L)) (Q0 : Exit → Act → World → Prop) (z0 z1 z2 z4 z5 z6 z7 z8 z9 z11 z12 z13 z14 z15 z16 z17 z18 z19 z20 z21 z22 z23 z24 z25 z26 z27 z28 z29 z30 z31 z32 z33 z34 z35 z36 z37 z38 z39 z40 z41 z42 z43 z44 z45 z46 z47 z48 z49 z50 z51 z52 z53 z54 z55 z56 z57 z58 z59 z60 z61 z62 z63 z64 z68 z69 z70 z71 z72 z73 z74 z75 z76 z77 z78 z79 z80 z81 z82 z83 z84 z85 z86 z87 z88 z89 z90 z91 z92 z93 z94 z95 z96 z97 z98 z99 z100 z101 z102 z103 z104 z105 z106 z107 z108 z109 z110 z111 z112 z113 z114 z115 z116 z117 z118 z119 z120 z121 z122 z123 z124 z125 z126 z127 z128 z129 z130 z131 z132 z133 z134 z135 z136 z137 z138 z139 z140 z141 z142 z143 z144 z145 z146 z147 z148 z149 z150 z151 z152 z153 z154 z155 z156 z157 : Value)
    (hexit : Hid (∀ (ov : Value) (wr : World) (y13 y68 y69 y70 y71 y72 y73 y74 y75 y76 y77 y78 y79 y80 y81 y82 : Value), Hid (wr.ownsRow w.heap.size 51 32 ov L.length ((L.map fun k => u8b (l.getD k default).oid).flatMap bys)) → Hid (Below w.heap.size w wr) → Q0 (.exit 0) ⟨List.toArray (z0::z1::z2::(.pointer (some ⟨pb, 0, none⟩))::z4::z5::z6::z7::z8::z9::ov::z11::z12::y13::z14::z15::z16::z17::z18::z19::z20::z21::z22::z23::z24::z25::z26::z27::z28::z29::z30::z31::z32::z33::z34::z35::z36::z37::z38::z39::z40::z41::z42::z43::z44::z45::z46::z47::z48::z49::z50::z51::z52::z53::z54::z55::z56::z57::z58::z59::z60::z61::z62::z63::z64::(.slice D L.length d)::(.int .i64 (L.length : Int))::(.int .i64 (L.length : Int))::y68::y69::y70::y71::y72::y73::y74::y75::y76::y77::y78::y79::y80::y81::y82::z83::z84::z85::z86::z87::z88::z89::z90::z91::z92::z93::z94::z95::z96::z97::z98::z99::z100::z101::z102::z103::z104::z105::z106::z107::z108::z109::z110::z111::z112::z113::z114::z115::z116::z117::z118::z119::z120::z121::z122::z123::z124::z125::z126::z127::z128::z129::z130::z131::z132::z133::z134::z135::z136::z137::z138::z139::z140::z141::z142::z143::z144::z145::z146::z147::z148::z149::z150::z151::z152::z153::z154::z155::z156::z157::[]), []⟩ wr)) :
    Code.wp Tryz.prog (Code.loop near_o_code) Q0 ⟨List.toArray (z0::z1::z2::(.pointer (some ⟨pb, 0, none⟩))::z4::z5::z6::z7::z8::z9::(.slice none 0 0)::z11::z12::z13::z14::z15::z16::z17::z18::z19::z20::z21::z22::z23::z24::z25::z26::z27::z28::z29::z30::z31::z32::z33::z34::z35::z36::z37::z38::z39::z40::z41::z42::z43::z44::z45::z46::z47::z48::z49::z50::z51::z52::z53::z54::z55::z56::z57::z58::z59::z60::z61::z62::z63::z64::(.slice D L.length d)::(.int .i64 (L.length : Int))::(.int .i64 0)::z68::z69::z70::z71::z72::z73::z74::z75::z76::z77::z78::z79::z80::z81::z82::z83::z84::z85::z86::z87::z88::z89::z90::z91::z92::z93::z94::z95::z96::z97::z98::z99::z100::z101::z102::z103::z104::z105::z106::z107::z108::z109::z110::z111::z112::z113::z114::z115::z116::z117::z118::z119::z120::z121::z122::z123::z124::z125::z126::z127::z128::z129::z130::z131::z132::z133::z134::z135::z136::z137::z138::z139::z140::z141::z142::z143::z144::z145::z146::z147::z148::z149::z150::z151::z152::z153::z154::z155::z156::z157::[]), []⟩ w := by
  conv => arg 2; arg 1; whnf
  have HF := hI hf
  have HB := hI hpb
  have HY := hI hby
  have HL := hI hL
  have HD := hI hd
  clear hf hpb hby hL hd
  go_loopw [10, 67] (fun ov kv wr => ∃ k : Nat, k ≤ L.length ∧ kv = .int .i64 k ∧ Hid (wr.ownsRow w.heap.size 51 32 ov k (((L.take k).map fun k => u8b (l.getD k default).oid).flatMap bys)) ∧ Hid (Below w.heap.size w wr)) (fun _ kv _ => L.length - (intOf kv).toNat)
  case atStart => exact ⟨0, Nat.zero_le _, rfl, hI (World.ownsRow_nil _ _ _ _), hI (Below.refl _ _)⟩
  case round =>
    obtain ⟨k, hk, rfl, ho, hb⟩ := hrel
    by_cases hlt : k < L.length
    · obtain ⟨i, hi⟩ : ∃ i, L[k]? = some i := ⟨L[k], List.getElem?_eq_getElem hlt⟩
      have hil := HL.out i (List.mem_of_getElem? hi)
      obtain ⟨ad, rfl, hadb, hcell⟩ := HD.out.at_ (k := k) (x := .int .i64 (i : Int)) (by simp [ntI2, hi])
      have hcs := (hb.out.cell (p := ad.add k) (by rw [block_add]; exact hadb)).trans hcell
      have hr : Fnd wr B b F S K T A c l s := HF.out.keep fun q hq => hb.out.block q hq
      have hp0 := (HB.out.below hb.out HB.out.lt).cell (k := 0) rfl
      have hb0 : wr.cell? ⟨b, 0, none⟩ = some (.slice A l.length c) := hr.cell 0
      obtain ⟨a2, rfl, _, hcc, ok⟩ := hr.at_ i hil
      have hld := ld_oid hcc ok (HY.out i _ (by simp [hil])).1
      have HT : Hid (((L.take (k + 1)).map fun k => u8b (l.getD k default).oid).flatMap bys = ((L.take k).map fun k => u8b (l.getD k default).oid).flatMap bys ++ bys (u8b (l.getD i default).oid)) := hI (by rw [List.take_add_one, hi]; simp)
      have h32 : (u8b (l.getD i default).oid).length = 32 := by rw [u8b_len]; exact ok.oid
      clear hcell hcc hr ok hi
      generalize u8b (l.getD i default).oid = id at *
      have hbs := run_bsI id h32
      have b3 := (Below.refl wr.heap.size wr).alloc (Nat.le_refl _) (.cells (bys id).toArray 51)
      have O3 := hI (own_below ho.out b3)
      have B3 := hI (hb.out.trans (b3.mono hb.out.size))
      have N3 := hI (new_rv wr (bys id) 51 ⟨wr.heap.size, 0, none⟩ rfl)
      have H1 := hI (show (bys id).length = 1 * 32 by rw [bys_len, h32])
      obtain ⟨Do, do_, hvv, _⟩ := own_all ho.out
      subst hvv
      clear b3
      go_wp2_with (at_builtin; refine wpList_app slI rfl (.tmp 71) (.tmp 80) rfl w.heap.size _ k _ rfl O3.out (some ⟨wr.heap.size, 0, none⟩) 1 1 (bys id) rfl (fun q => by cases q) H1.out N3.out (bys_one id) (by unfold maxLen; omega) (by omega) B3.out.size ?_; intro v7 w7 ho7 ha7; have O7 := hI ho7; have A7 := hI ha7.grown; clear ho7 ha7)
      exact ⟨⟨k + 1, by omega, by go_num, hI (by rw [HT.out]; exact O7.out), hI (B3.out.grown A7.out B3.out.size (fun q hq => (O3.out.lt q hq).1))⟩, by simp [intOf]; omega⟩
    · have hke : k = L.length := by omega
      subst hke
      rw [List.take_length] at ho
      go_wp2_with fail
      exact hexit.out _ _ _ _ _ _ _ _ _ _ _ _ _ _ _ _ _ _ ho hb
noncomputable def near_n_code : Code := ((Tryz.f19.body.map loopsIn).getD []).getD 1 .skip
set_option maxRecDepth 100000 in
set_option maxHeartbeats 1000000 in
theorem near_n (w : World) (B b F S K T : Nat) (A : Option Addr) (c : Nat) (l : List Chg) (s : St) (pb : Nat) (hf : Fnd w B b F S K T A c l s) (hpb : Ar w pb 67 [.pointer (some ⟨b, 0, none⟩)]) (hby : BytL l) (L : List Nat) (D : Option Addr) (d : Nat) (hL : ∀ k ∈ L, k < l.length) (hLn : L.length ≤ 40) (hd : Rv w.heap.size w D (ntI2 L)) (Q0 : Exit → Act → World → Prop) (z0 z1 z2 z4 z5 z6 z7 z8 z9 z10 z12 z13 z14 z15 z16 z17 z18 z19 z20 z21 z22 z23 z24 z25 z26 z27 z28 z29 z30 z31 z32 z33 z34 z35 z36 z37 z38 z39 z40 z41 z42 z43 z44 z45 z46 z47 z48 z49 z50 z51 z52 z53 z54 z55 z56 z57 z58 z59 z60 z61 z62 z63 z64 z65 z66 z67 z68 z69 z70 z71 z72 z73 z74 z75 z76 z77 z78 z79 z80 z81 z82 z86 z87 z88 z89 z90 z91 z92 z93 z94 z95 z96 z97 z98 z99 z100 z101 z102 z103 z104 z105 z106 z107 z108 z109 z110 z111 z112 z113 z114 z115 z116 z117 z118 z119 z120 z121 z122 z123 z124 z125 z126 z127 z128 z129 z130 z131 z132 z133 z134 z135 z136 z137 z138 z139 z140 z141 z142 z143 z144 z145 z146 z147 z148 z149 z150 z151 z152 z153 z154 z155 z156 z157 : Value)
    (hexit : Hid (∀ (ov : Value) (wr : World) (y15 y86 y87 y88 y89 y90 y91 y92 y93 y94 y95 y96 y97 y98 y99 y100 : Value), Hid (wr.ownsRow w.heap.size 51 32 ov L.length ((L.map fun k => u8b (l.getD k default).nid).flatMap bys)) → Hid (Below w.heap.size w wr) → Q0 (.exit 2) ⟨List.toArray (z0::z1::z2::(.pointer (some ⟨pb, 0, none⟩))::z4::z5::z6::z7::z8::z9::z10::ov::z12::z13::z14::y15::z16::z17::z18::z19::z20::z21::z22::z23::z24::z25::z26::z27::z28::z29::z30::z31::z32::z33::z34::z35::z36::z37::z38::z39::z40::z41::z42::z43::z44::z45::z46::z47::z48::z49::z50::z51::z52::z53::z54::z55::z56::z57::z58::z59::z60::z61::z62::z63::z64::z65::z66::z67::z68::z69::z70::z71::z72::z73::z74::z75::z76::z77::z78::z79::z80::z81::z82::(.slice D L.length d)::(.int .i64 (L.length : Int))::(.int .i64 (L.length : Int))::y86::y87::y88::y89::y90::y91::y92::y93::y94::y95::y96::y97::y98::y99::y100::z101::z102::z103::z104::z105::z106::z107::z108::z109::z110::z111::z112::z113::z114::z115::z116::z117::z118::z119::z120::z121::z122::z123::z124::z125::z126::z127::z128::z129::z130::z131::z132::z133::z134::z135::z136::z137::z138::z139::z140::z141::z142::z143::z144::z145::z146::z147::z148::z149::z150::z151::z152::z153::z154::z155::z156::z157::[]), []⟩ wr)) :
    Code.wp Tryz.prog (Code.loop near_n_code) Q0 ⟨List.toArray (z0::z1::z2::(.pointer (some ⟨pb, 0, none⟩))::z4::z5::z6::z7::z8::z9::z10::(.slice none 0 0)::z12::z13::z14::z15::z16::z17::z18::z19::z20::z21::z22::z23::z24::z25::z26::z27::z28::z29::z30::z31::z32::z33::z34::z35::z36::z37::z38::z39::z40::z41::z42::z43::z44::z45::z46::z47::z48::z49::z50::z51::z52::z53::z54::z55::z56::z57::z58::z59::z60::z61::z62::z63::z64::z65::z66::z67::z68::z69::z70::z71::z72::z73::z74::z75::z76::z77::z78::z79::z80::z81::z82::(.slice D L.length d)::(.int .i64 (L.length : Int))::(.int .i64 0)::z86::z87::z88::z89::z90::z91::z92::z93::z94::z95::z96::z97::z98::z99::z100::z101::z102::z103::z104::z105::z106::z107::z108::z109::z110::z111::z112::z113::z114::z115::z116::z117::z118::z119::z120::z121::z122::z123::z124::z125::z126::z127::z128::z129::z130::z131::z132::z133::z134::z135::z136::z137::z138::z139::z140::z141::z142::z143::z144::z145::z146::z147::z148::z149::z150::z151::z152::z153::z154::z155::z156::z157::[]), []⟩ w := by
  conv => arg 2; arg 1; whnf
  have HF := hI hf
  have HB := hI hpb
  have HY := hI hby
  have HL := hI hL
  have HD := hI hd
  clear hf hpb hby hL hd
  go_loopw [11, 85] (fun ov kv wr => ∃ k : Nat, k ≤ L.length ∧ kv = .int .i64 k ∧ Hid (wr.ownsRow w.heap.size 51 32 ov k (((L.take k).map fun k => u8b (l.getD k default).nid).flatMap bys)) ∧ Hid (Below w.heap.size w wr)) (fun _ kv _ => L.length - (intOf kv).toNat)
  case atStart => exact ⟨0, Nat.zero_le _, rfl, hI (World.ownsRow_nil _ _ _ _), hI (Below.refl _ _)⟩
  case round =>
    obtain ⟨k, hk, rfl, ho, hb⟩ := hrel
    by_cases hlt : k < L.length
    · obtain ⟨i, hi⟩ : ∃ i, L[k]? = some i := ⟨L[k], List.getElem?_eq_getElem hlt⟩
      have hil := HL.out i (List.mem_of_getElem? hi)
      obtain ⟨ad, rfl, hadb, hcell⟩ := HD.out.at_ (k := k) (x := .int .i64 (i : Int)) (by simp [ntI2, hi])
      have hcs := (hb.out.cell (p := ad.add k) (by rw [block_add]; exact hadb)).trans hcell
      have hr : Fnd wr B b F S K T A c l s := HF.out.keep fun q hq => hb.out.block q hq
      have hp0 := (HB.out.below hb.out HB.out.lt).cell (k := 0) rfl
      have hb0 : wr.cell? ⟨b, 0, none⟩ = some (.slice A l.length c) := hr.cell 0
      obtain ⟨a2, rfl, _, hcc, ok⟩ := hr.at_ i hil
      have hld := ld_nid hcc ok (HY.out i _ (by simp [hil])).2
      have HT : Hid (((L.take (k + 1)).map fun k => u8b (l.getD k default).nid).flatMap bys = ((L.take k).map fun k => u8b (l.getD k default).nid).flatMap bys ++ bys (u8b (l.getD i default).nid)) := hI (by rw [List.take_add_one, hi]; simp)
      have h32 : (u8b (l.getD i default).nid).length = 32 := by rw [u8b_len]; exact ok.nid
      clear hcell hcc hr ok hi
      generalize u8b (l.getD i default).nid = id at *
      have hbs := run_bsI id h32
      have b3 := (Below.refl wr.heap.size wr).alloc (Nat.le_refl _) (.cells (bys id).toArray 51)
      have O3 := hI (own_below ho.out b3)
      have B3 := hI (hb.out.trans (b3.mono hb.out.size))
      have N3 := hI (new_rv wr (bys id) 51 ⟨wr.heap.size, 0, none⟩ rfl)
      have H1 := hI (show (bys id).length = 1 * 32 by rw [bys_len, h32])
      obtain ⟨Do, do_, hvv, _⟩ := own_all ho.out
      subst hvv
      clear b3
      go_wp2_with (at_builtin; refine wpList_app slI rfl (.tmp 89) (.tmp 98) rfl w.heap.size _ k _ rfl O3.out (some ⟨wr.heap.size, 0, none⟩) 1 1 (bys id) rfl (fun q => by cases q) H1.out N3.out (bys_one id) (by unfold maxLen; omega) (by omega) B3.out.size ?_; intro v7 w7 ho7 ha7; have O7 := hI ho7; have A7 := hI ha7.grown; clear ho7 ha7)
      exact ⟨⟨k + 1, by omega, by go_num, hI (by rw [HT.out]; exact O7.out), hI (B3.out.grown A7.out B3.out.size (fun q hq => (O3.out.lt q hq).1))⟩, by simp [intOf]; omega⟩
    · have hke : k = L.length := by omega
      subst hke
      rw [List.take_length] at ho
      go_wp2_with fail
      exact hexit.out _ _ _ _ _ _ _ _ _ _ _ _ _ _ _ _ _ _ ho hb
end Go.Proofs.YtbmpidacoohdmaaGreat
namespace Go.Proofs.YtbmpidacoohdmaaGreat
open Go.RowKit Op
open Rn (Chg LReads CellsAt Fnd St isSource isTarget)

theorem Rn.Fnd.chsg {w w2 : World} {g B b F S K T : Nat} {A : Option Addr} {c : Nat} {l : List Chg} {s : St} (h : Fnd w B b F S K T A c l s) (hc : Chs (fun q => q = g) w w2) (hgB : g < B) (hA : ∀ ad, A = some ad → ad.block ≠ g) : Fnd w2 B b F S K T A c l s := by
  have lt : ∀ {q : Nat} {o : Obj}, w.heap[q]? = some o → q < w.heap.size := fun h => (Array.getElem?_eq_some_iff.1 h).1
  have up : ∀ {q : Nat} {o : Obj}, w.heap[q]? = some o → B ≤ q → w2.heap[q]? = some o := fun {q} {o} h hq => (hc.block q (lt h) (fun e => by omega)).trans h
  refine ⟨up h.self h.bb, up h.hF h.bF, up h.hS h.bS, up h.hK h.bK, up h.hT h.bT, h.lF, h.lS, h.lK, h.lT, h.bb, h.bF, h.bS, h.bK, h.bT, h.FSX, h.FK, h.SK, fun k x hx => ?_, h.oks, h.short⟩
  obtain ⟨ad, e, hb, hcs⟩ := h.reads k x hx
  refine ⟨ad, e, hb, hcs.keep fun p hp => ?_⟩
  rw [block_add] at hp
  have hB : B ≤ w.heap.size := Nat.le_trans h.bb (Nat.le_of_lt (lt h.self))
  exact World.cell?_of_block (hc.block p.block (by rw [hp]; omega) (fun q => hA ad e (by rw [← hp]; exact q)))
def limN (o : Int) : Int := if o < 0 ∨ 32 < o then 32 else o
/-- Is nothing held against anything? -/
def earlyN (o1 o2 : Int) (a b : Nat) : Prop := 1000 < o1 ∨ a = 0 ∨ b = 0 ∨ limN o2 < a ∨ limN o2 < b
instance (o1 o2 : Int) (a b : Nat) : Decidable (earlyN o1 o2 a b) := by unfold earlyN; infer_instance
def srcs (l : List Chg) (s : St) : List Nat := pls (isSource l s) l.length
def tgts (l : List Chg) (s : St) : List Nat := pls (isTarget l s) l.length
def oldI (l : List Chg) (s : St) : List (List UInt8) := (srcs l s).map fun k => u8b (l.getD k default).oid
def newI (l : List Chg) (s : St) : List (List UInt8) := (tgts l s).map fun k => u8b (l.getD k default).nid
theorem Rn.Fnd.blt {w : World} {B b F S K T : Nat} {A : Option Addr} {c : Nat} {l : List Chg} {s : St} (h : Fnd w B b F S K T A c l s) : B ≤ w.heap.size := Nat.le_trans h.bb (Nat.le_of_lt (Array.getElem?_eq_some_iff.1 h.self).1)
structure NPost (w : World) (g m : Nat) (l0 : List Ent) (t : Int) (B b F S K T : Nat) (A : Option Addr) (c : Nat) (l : List Chg) (s : St) (w2 : World) : Prop where
  st : ∃ kn, Psp w2 g m l0 t kn
  fd : Fnd w2 B b F S K T A c l s
  chs : Chs (fun k => k = g) w w2
end Go.Proofs.YtbmpidacoohdmaaGreat

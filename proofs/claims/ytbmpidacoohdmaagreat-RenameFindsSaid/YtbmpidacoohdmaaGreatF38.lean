/- sleuthref26.near over a store that has nothing. sleuthref26.near's loops that read the texts, as laws. -/
import Derived.Test.YtbmpidacoohdmaaGreatF37
import Derived.Test.YtbmpidacoohdmaaGreatF36
import Derived.Test.YtbmpidacoohdmaaGreatF20
namespace Go.Proofs.YtbmpidacoohdmaaGreat
open Go.RowKit Op
open Rn (Chg LReads CellsAt Fnd St isSource isTarget Flds rowsS int_at boo_at info3c info4c)

structure RPost (w : World) (gs : Nat) (t : Int) (B g : Nat) (vs : List Value) (r : St) (w2 : World) : Prop where
  st : ∃ A c fr, Rsp w2 gs [] A c fr t
  fl : Flds w2 B g 73 vs (rowsS r)
  chs : Chs (fun k => k = gs) w w2
theorem Rn.Flds.chs {w w2 : World} {gs B g : Nat} {t : TypeId} {vs : List Value} {rs : List (TypeId × List Value)} (h : Flds w B g t vs rs) (hc : Chs (fun k => k = gs) w w2) (h1 : gs < B) (h2 : gs ≠ g) : Flds w2 B g t vs rs :=
  h.keep fun k hk hl => hc.block k hl (fun e => by subst e; rcases hk with hk | hk <;> omega)
end Go.Proofs.YtbmpidacoohdmaaGreat
namespace Go.Proofs.YtbmpidacoohdmaaGreat
open Lib renaming hid → hI
open Go.RowKit Op
open Rn (Chg LReads CellsAt St)
attribute [local go_sem ↓] load42_eq

noncomputable def rnear2_code : Code := ((Tryz.f23.body.map loopsIn).getD []).getD 1 .skip
set_option maxRecDepth 100000 in
set_option maxHeartbeats 1000000 in
theorem rnear2 (w : World) (gs : Nat) (l0 : List Ent) (AA : Option Addr) (cc : Nat) (fr : Bool) (t : Int) (f : List UInt8 → Option (List UInt8)) (hs : Rsp w gs l0 AA cc fr t) (hc : Cnt l0 f) (l : List Chg) (A : Option Addr) (c : Nat) (hl : LReads w w.heap.size A l) (hA : ∀ ad, A = some ad → ad.block ≠ gs) (ok : ∀ (k : Nat) (x : Chg), l[k]? = some x → x.ok) (hby : BytL l) (D : Option Addr) (d : Nat) (L : List Nat) (hL : ∀ k ∈ L, k < l.length) (hn : L.length ≤ 40) (hD : Rv w.heap.size w D (ntI2 L)) (hDn : ∀ ad, D = some ad → ad.block ≠ gs) (Q0 : Exit → Act → World → Prop) (z2 z3 z4 z5 z6 z7 z8 z9 z10 z12 z13 z15 z17 z18 z19 z20 z21 z22 z23 z24 z25 z26 z27 z28 z29 z30 z31 z32 z33 z34 z35 z36 z37 z38 z39 z40 z41 z42 z43 z44 z45 z46 z47 z48 z49 z50 z51 z52 z53 z54 z55 z56 z57 z58 z59 z60 z61 z62 z63 z64 z65 z66 z67 z68 z69 z70 z71 z72 z73 z74 z75 z76 z77 z78 z79 z80 z81 z82 z83 z84 z85 z86 z87 z88 z89 z90 z91 z92 z93 z94 z95 z96 z97 z98 z99 z100 z101 z102 z103 z104 z105 z106 z107 z108 z109 z110 z111 z112 z113 z114 z115 z116 z117 z118 z119 z120 z121 z122 z123 z124 z125 z126 z127 z128 z129 z130 z131 z132 z133 z134 z135 z136 z137 z138 z139 z140 z141 z142 z143 z144 z145 z146 z147 z148 z149 z150 z151 z152 z153 z154 z155 z156 z157 z158 z159 z160 z161 z162 z163 z164 z165 z166 z167 z168 z169 z170 z171 z172 z173 z174 z175 z176 z177 z178 z179 z180 z181 z182 z183 z184 z185 z186 z187 z188 z189 z190 z191 z192 z193 z194 z195 z196 z197 z198 z199 z200 z201 z202 z203 z204 z205 z206 z207 z208 z209 z210 z211 z212 z213 z214 z215 z216 z217 z218 z219 z220 z221 z222 z223 z224 z225 z226 z227 z228 z229 z230 z231 z232 z233 z234 z235 z236 z237 z238 z239 z240 z241 z242 z243 z244 z245 z246 z247 z248 z249 z250 z251 z252 z253 z254 z255 z256 z257 z258 z259 z260 z261 z262 z263 z264 z265 z266 z267 z268 z269 z270 z271 z272 z273 z274 z275 z276 z277 z278 z279 z280 z281 z282 z283 z284 z285 z286 z287 z288 z289 : Value)
    (hexit : Hid (∀ (v : Value) (us : List Value) (xs : List (List UInt8)) (fr2 : Bool) (wr : World) (y8 y17 y18 y108 y109 y110 y111 y112 y113 y114 y115 y116 y117 y118 y119 y120 y121 y122 y123 y124 y125 y126 y127 y128 y129 y130 y131 y132 y133 : Value), Hid (txs f (L.map fun k => u8b (l.getD k default).oid) = some xs) → Hid (Rsp wr gs l0 AA cc fr2 t) → Hid (Chs (fun q => q = gs) w wr) → Hid (wr.ownsRow w.heap.size 57 1 v xs.length us) → Hid (Txt wr w.heap.size us xs) → Q0 (.exit 2) ⟨List.toArray ((.pointer (some ⟨gs, 0, none⟩))::(.slice A l.length c)::z2::z3::z4::z5::z6::z7::y8::z9::z10::(.slice D L.length d)::z12::z13::v::z15::(.int .i64 (L.length : Int))::y17::y18::z19::z20::z21::z22::z23::z24::z25::z26::z27::z28::z29::z30::z31::z32::z33::z34::z35::z36::z37::z38::z39::z40::z41::z42::z43::z44::z45::z46::z47::z48::z49::z50::z51::z52::z53::z54::z55::z56::z57::z58::z59::z60::z61::z62::z63::z64::z65::z66::z67::z68::z69::z70::z71::z72::z73::z74::z75::z76::z77::z78::z79::z80::z81::z82::z83::z84::z85::z86::z87::z88::z89::z90::z91::z92::z93::z94::z95::z96::z97::z98::z99::z100::z101::z102::z103::z104::z105::z106::z107::y108::y109::y110::y111::y112::y113::y114::y115::y116::y117::y118::y119::y120::y121::y122::y123::y124::y125::y126::y127::y128::y129::y130::y131::y132::y133::z134::z135::z136::z137::z138::z139::z140::z141::z142::z143::z144::z145::z146::z147::z148::z149::z150::z151::z152::z153::z154::z155::z156::z157::z158::z159::z160::z161::z162::z163::z164::z165::z166::z167::z168::z169::z170::z171::z172::z173::z174::z175::z176::z177::z178::z179::z180::z181::z182::z183::z184::z185::z186::z187::z188::z189::z190::z191::z192::z193::z194::z195::z196::z197::z198::z199::z200::z201::z202::z203::z204::z205::z206::z207::z208::z209::z210::z211::z212::z213::z214::z215::z216::z217::z218::z219::z220::z221::z222::z223::z224::z225::z226::z227::z228::z229::z230::z231::z232::z233::z234::z235::z236::z237::z238::z239::z240::z241::z242::z243::z244::z245::z246::z247::z248::z249::z250::z251::z252::z253::z254::z255::z256::z257::z258::z259::z260::z261::z262::z263::z264::z265::z266::z267::z268::z269::z270::z271::z272::z273::z274::z275::z276::z277::z278::z279::z280::z281::z282::z283::z284::z285::z286::z287::z288::z289::[]), []⟩ wr))
    (hret : Hid (∀ (fr2 : Bool) (wr : World), Hid (txs f (L.map fun k => u8b (l.getD k default).oid) = none) → Hid (Rsp wr gs l0 AA cc fr2 t) → Hid (Chs (fun q => q = gs) w wr) → ∀ z0 z1 z2 z3 z4 z5 z6 z7 z9 z10 z11 z12 z13 z14 z15 z16 z17 z18 z19 z20 z21 z22 z23 z24 z25 z26 z27 z28 z29 z30 z31 z32 z33 z34 z35 z36 z37 z38 z39 z40 z41 z42 z43 z44 z45 z46 z47 z48 z49 z50 z51 z52 z53 z54 z55 z56 z57 z58 z59 z60 z61 z62 z63 z64 z65 z66 z67 z68 z69 z70 z71 z72 z73 z74 z75 z76 z77 z78 z79 z80 z81 z82 z83 z84 z85 z86 z87 z88 z89 z90 z91 z92 z93 z94 z95 z96 z97 z98 z99 z100 z101 z102 z103 z104 z105 z106 z107 z108 z109 z110 z111 z112 z113 z114 z115 z116 z117 z118 z119 z120 z121 z122 z123 z124 z125 z126 z127 z128 z129 z130 z131 z132 z133 z134 z135 z136 z137 z138 z139 z140 z141 z142 z143 z144 z145 z146 z147 z148 z149 z150 z151 z152 z153 z154 z155 z156 z157 z158 z159 z160 z161 z162 z163 z164 z165 z166 z167 z168 z169 z170 z171 z172 z173 z174 z175 z176 z177 z178 z179 z180 z181 z182 z183 z184 z185 z186 z187 z188 z189 z190 z191 z192 z193 z194 z195 z196 z197 z198 z199 z200 z201 z202 z203 z204 z205 z206 z207 z208 z209 z210 z211 z212 z213 z214 z215 z216 z217 z218 z219 z220 z221 z222 z223 z224 z225 z226 z227 z228 z229 z230 z231 z232 z233 z234 z235 z236 z237 z238 z239 z240 z241 z242 z243 z244 z245 z246 z247 z248 z249 z250 z251 z252 z253 z254 z255 z256 z257 z258 z259 z260 z261 z262 z263 z264 z265 z266 z267 z268 z269 z270 z271 z272 z273 z274 z275 z276 z277 z278 z279 z280 z281 z282 z283 z284 z285 z286 z287 z288 z289 : Value, Q0 .ret ⟨List.toArray (z0::z1::z2::z3::z4::z5::z6::z7::(.int .i64 30)::z9::z10::z11::z12::z13::z14::z15::z16::z17::z18::z19::z20::z21::z22::z23::z24::z25::z26::z27::z28::z29::z30::z31::z32::z33::z34::z35::z36::z37::z38::z39::z40::z41::z42::z43::z44::z45::z46::z47::z48::z49::z50::z51::z52::z53::z54::z55::z56::z57::z58::z59::z60::z61::z62::z63::z64::z65::z66::z67::z68::z69::z70::z71::z72::z73::z74::z75::z76::z77::z78::z79::z80::z81::z82::z83::z84::z85::z86::z87::z88::z89::z90::z91::z92::z93::z94::z95::z96::z97::z98::z99::z100::z101::z102::z103::z104::z105::z106::z107::z108::z109::z110::z111::z112::z113::z114::z115::z116::z117::z118::z119::z120::z121::z122::z123::z124::z125::z126::z127::z128::z129::z130::z131::z132::z133::z134::z135::z136::z137::z138::z139::z140::z141::z142::z143::z144::z145::z146::z147::z148::z149::z150::z151::z152::z153::z154::z155::z156::z157::z158::z159::z160::z161::z162::z163::z164::z165::z166::z167::z168::z169::z170::z171::z172::z173::z174::z175::z176::z177::z178::z179::z180::z181::z182::z183::z184::z185::z186::z187::z188::z189::z190::z191::z192::z193::z194::z195::z196::z197::z198::z199::z200::z201::z202::z203::z204::z205::z206::z207::z208::z209::z210::z211::z212::z213::z214::z215::z216::z217::z218::z219::z220::z221::z222::z223::z224::z225::z226::z227::z228::z229::z230::z231::z232::z233::z234::z235::z236::z237::z238::z239::z240::z241::z242::z243::z244::z245::z246::z247::z248::z249::z250::z251::z252::z253::z254::z255::z256::z257::z258::z259::z260::z261::z262::z263::z264::z265::z266::z267::z268::z269::z270::z271::z272::z273::z274::z275::z276::z277::z278::z279::z280::z281::z282::z283::z284::z285::z286::z287::z288::z289::[]), []⟩ wr)) :
    Code.wp Tryz.prog (Code.loop rnear2_code) Q0 ⟨List.toArray ((.pointer (some ⟨gs, 0, none⟩))::(.slice A l.length c)::z2::z3::z4::z5::z6::z7::z8::z9::z10::(.slice D L.length d)::z12::z13::(.slice none 0 0)::z15::(.int .i64 0)::z17::z18::z19::z20::z21::z22::z23::z24::z25::z26::z27::z28::z29::z30::z31::z32::z33::z34::z35::z36::z37::z38::z39::z40::z41::z42::z43::z44::z45::z46::z47::z48::z49::z50::z51::z52::z53::z54::z55::z56::z57::z58::z59::z60::z61::z62::z63::z64::z65::z66::z67::z68::z69::z70::z71::z72::z73::z74::z75::z76::z77::z78::z79::z80::z81::z82::z83::z84::z85::z86::z87::z88::z89::z90::z91::z92::z93::z94::z95::z96::z97::z98::z99::z100::z101::z102::z103::z104::z105::z106::z107::z108::z109::z110::z111::z112::z113::z114::z115::z116::z117::z118::z119::z120::z121::z122::z123::z124::z125::z126::z127::z128::z129::z130::z131::z132::z133::z134::z135::z136::z137::z138::z139::z140::z141::z142::z143::z144::z145::z146::z147::z148::z149::z150::z151::z152::z153::z154::z155::z156::z157::z158::z159::z160::z161::z162::z163::z164::z165::z166::z167::z168::z169::z170::z171::z172::z173::z174::z175::z176::z177::z178::z179::z180::z181::z182::z183::z184::z185::z186::z187::z188::z189::z190::z191::z192::z193::z194::z195::z196::z197::z198::z199::z200::z201::z202::z203::z204::z205::z206::z207::z208::z209::z210::z211::z212::z213::z214::z215::z216::z217::z218::z219::z220::z221::z222::z223::z224::z225::z226::z227::z228::z229::z230::z231::z232::z233::z234::z235::z236::z237::z238::z239::z240::z241::z242::z243::z244::z245::z246::z247::z248::z249::z250::z251::z252::z253::z254::z255::z256::z257::z258::z259::z260::z261::z262::z263::z264::z265::z266::z267::z268::z269::z270::z271::z272::z273::z274::z275::z276::z277::z278::z279::z280::z281::z282::z283::z284::z285::z286::z287::z288::z289::[]), []⟩ w := by
  conv => arg 2; arg 1; whnf
  have HS := hI hs
  have HC := hI hc
  have HLR := hI hl
  have HA := hI hA
  have HK := hI ok
  have HY := hI hby
  have HL := hI hL
  have HD := hI hD
  have HDN := hI hDn
  obtain ⟨ids, hids⟩ : ∃ ids, (L.map fun k => u8b (l.getD k default).oid) = ids := ⟨_, rfl⟩
  have hil : ids.length = L.length := by rw [← hids]; simp
  have HID := hI hids
  rw [hids] at hexit hret
  have HIL := hI hil
  clear hs hc hl hA ok hby hL hD hDn hids hil
  go_loopw [14, 16] (fun ov kv wr => ∃ (k : Nat) (xs : List (List UInt8)) (us : List Value) (fr2 : Bool), k ≤ L.length ∧ Hid (us.length = k) ∧ kv = .int .i64 k ∧ Hid (txs f (ids.take k) = some xs) ∧ Hid (Rsp wr gs l0 AA cc fr2 t) ∧ Hid (Chs (fun q => q = gs) w wr) ∧ Hid (wr.ownsRow w.heap.size 57 1 ov k us) ∧ Hid (Txt wr w.heap.size us xs)) (fun _ kv _ => L.length - (intOf kv).toNat)
  case atStart => exact ⟨0, [], [], fr, Nat.zero_le _, hI rfl, rfl, hI rfl, HS, hI (Chs.of_below (Below.refl _ _) _), hI (World.ownsRow_nil _ _ _ _), hI ⟨rfl, fun k u x hu => by simp at hu⟩⟩
  case round =>
    obtain ⟨k, xs, us, fr2, hk, hus, rfl, hb, hp, hch, ho, ht⟩ := hrel
    by_cases hlt : k < L.length
    · obtain ⟨i, hie⟩ : ∃ i, L.getD k 0 = i := ⟨_, rfl⟩
      have hmem : i ∈ L := by rw [← hie, List.getD_eq_getElem?_getD, List.getElem?_eq_getElem hlt]; exact List.getElem_mem hlt
      have hil := HL.out i hmem
      have hki : k < ids.length := by rw [HIL.out]; exact hlt
      have hid2 : ids.getD k [] = u8b (l.getD i default).oid := by
        rw [← HID.out, ← hie]
        simp [hlt]
      have hcell := rv_chs4 HD.out hch.out (fun ad e q => HDN.out ad e q)
      obtain ⟨a1, rfl, _, hc1⟩ := hcell.at_ (k := k) (x := .int .i64 (i : Int)) (by rw [← hie]; simp [ntI2, hlt])
      obtain ⟨a2, rfl, hl2, hcc⟩ := HLR.out i (l.getD i default) (by simp [hil])
      have hcc2 : CellsAt wr (a2.add (i * 70)) (l.getD i default).cells := hcc.keep fun p hp => World.cell?_of_block (hch.out.block p.block (by rw [hp, block_add]; exact hl2) (fun e => HA.out a2 rfl (by rw [hp, block_add] at e; exact e)))
      have hok := HK.out i (l.getD i default) (by simp [hil])
      have hld := ld_oid hcc2 hok (HY.out i _ (by simp [hil])).1
      have h32 : (u8b (l.getD i default).oid).length = 32 := by rw [u8b_len]; exact hok.oid
      have HTK : Hid (∀ b, f (u8b (l.getD i default).oid) = some b → txs f (ids.take (k + 1)) = some (xs ++ [b])) := hI (fun b e => by
        rw [List.take_add_one, List.getElem?_eq_getElem hki, Option.toList_some, txs_snoc f _ _ xs hb.out, show ids[k] = u8b (l.getD i default).oid by rw [← hid2]; simp [hki], e]
        rfl)
      have HTN : Hid (f (u8b (l.getD i default).oid) = none → txs f ids = none) := hI (fun e => txs_none f ids _ (by rw [← hid2]; exact getD_mem hki) e)
      have HR := hI (fread_any wr gs l0 _ _ _ _ hp.out (u8b (l.getD i default).oid) h32)
      have hgl : gs < w.heap.size := HS.out.lt
      have LI : (i : Int) < (l.length : Int) := by omega
      clear hcell hcc hcc2 hok h32 hid2 hie hmem hki hl2
      generalize u8b (l.getD i default).oid = id at *
      obtain ⟨Do, do_, hvv, _⟩ := own_all ho.out
      subst hvv
      go_wp2_with fail
      refine HR.out.mono ?_
      rintro e w3 ⟨fr3, hp3, hc3, ⟨x, hm, he, u, rfl, hu⟩ | ⟨hno, rfl⟩⟩
      · have P3 := hI hp3
        have C3 := hI (hch.out.trans hc3)
        have O3 := hI (own_c ho.out hc3 (fun q e => by have : q = gs := e; omega))
        have T3 := hI (ht.out.chs hc3 (fun q e => by have : q = gs := e; omega))
        have U3 := hI (hu.less (b := w.heap.size) hch.out.size)
        have HB := hI (HTK.out x.body (by rw [← he]; exact HC.out.yes x hm))
        have hs3 := C3.out.size
        have hone := hu.one
        obtain ⟨Du, du, hueq, _⟩ := hu.form
        subst hueq
        have b4 := (Below.refl w3.heap.size w3).alloc (Nat.le_refl _) (.cells #[.slice Du (bys x.body).length du] 57)
        have P4 := hI (P3.out.below b4)
        have C4 := hI (C3.out.trans (Chs.of_below b4 _))
        have O4 := hI (own_below O3.out b4)
        have T4 := hI (T3.out.chs (Chs.of_below b4 (fun _ => False)) (fun q h => h.elim))
        have U4 := hI (U3.out.chs (Chs.of_below b4 (fun _ => False)) (fun q h => h.elim))
        have N4 := hI (new_rv w3 [.slice Du (bys x.body).length du] 57 ⟨w3.heap.size, 0, none⟩ rfl)
        clear hp3 hc3 hu hm he b4
        go_wp2_with (at_builtin; refine wpList_app slT rfl (.tmp 130) (.tmp 132) rfl w.heap.size _ k us rfl O4.out (some ⟨w3.heap.size, 0, none⟩) 1 1 [.slice Du (bys x.body).length du] rfl (fun q => by cases q) rfl N4.out (by intro v hv; rw [List.mem_singleton.1 hv]; rfl) (by unfold maxLen; omega) (by omega) C4.out.size ?_; intro v7 w7 ho7 ha7; have O7 := hI ho7; have A7 := hI ha7.grown; clear ho7 ha7)
        have GR : Hid (Chs (fun q => some q = (Value.slice Do k do_).ownBlock) (w3.alloc (.cells #[.slice Du (bys x.body).length du] 57)) w7) := hI (Chs.of_row A7.out)
        have NR : Hid (∀ ty, ty ≠ 57 → Non (fun q => some q = (Value.slice Do k do_).ownBlock) (w3.alloc (.cells #[.slice Du (bys x.body).length du] 57)) ty) := hI (fun ty hty q hq cs fr hh => by
          obtain ⟨cs2, f2, h2⟩ := own_typ O4.out q hq
          have := h2.symm.trans hh
          injection this with this
          injection this with _ e
          exact hty e.symm)
        exact ⟨⟨k + 1, xs ++ [x.body], us ++ [.slice Du (bys x.body).length du], fr3, by omega, hI (by rw [List.length_append, List.length_singleton, hus.out]), by go_num, HB, hI (P4.out.far GR.out (NR.out _ (by decide)) (NR.out _ (by decide)) (fun q => by have := (O4.out.lt gs q.symm).1; omega)), hI (C4.out.old GR.out (fun q hq => (O4.out.lt q hq.symm).1)), O7, hI ((T4.out.non GR.out (NR.out _ (by decide))).snoc (U4.out.non GR.out (NR.out _ (by decide))))⟩, by simp [intOf]; omega⟩
      · have P3 := hI hp3
        have C3 := hI (hch.out.trans hc3)
        have HN := hI (HTN.out (HC.out.no id hno))
        clear hp3 hc3 hno
        go_wp2_with fail
        exact hret.out _ _ HN P3 C3 _ _ _ _ _ _ _ _ _ _ _ _ _ _ _ _ _ _ _ _ _ _ _ _ _ _ _ _ _ _ _ _ _ _ _ _ _ _ _ _ _ _ _ _ _ _ _ _ _ _ _ _ _ _ _ _ _ _ _ _ _ _ _ _ _ _ _ _ _ _ _ _ _ _ _ _ _ _ _ _ _ _ _ _ _ _ _ _ _ _ _ _ _ _ _ _ _ _ _ _ _ _ _ _ _ _ _ _ _ _ _ _ _ _ _ _ _ _ _ _ _ _ _ _ _ _ _ _ _ _ _ _ _ _ _ _ _ _ _ _ _ _ _ _ _ _ _ _ _ _ _ _ _ _ _ _ _ _ _ _ _ _ _ _ _ _ _ _ _ _ _ _ _ _ _ _ _ _ _ _ _ _ _ _ _ _ _ _ _ _ _ _ _ _ _ _ _ _ _ _ _ _ _ _ _ _ _ _ _ _ _ _ _ _ _ _ _ _ _ _ _ _ _ _ _ _ _ _ _ _ _ _ _ _ _ _ _ _ _ _ _ _ _ _ _ _ _ _ _ _ _ _ _ _ _ _ _ _ _ _ _ _ _ _ _ _ _ _ _ _ _ _ _ _ _ _ _ _ _ _ _ _ _ _ _ _ _ _ _
    · have hke : k = L.length := by omega
      subst hke
      rw [show ids.take L.length = ids by rw [← HIL.out]; exact List.take_length] at hb
      obtain ⟨Do, do_, hvv, _⟩ := own_all ho.out
      subst hvv
      go_wp2_with fail
      have hxl : xs.length = L.length := ht.out.1.symm.trans hus.out
      exact hexit.out _ us xs _ _ _ _ _ _ _ _ _ _ _ _ _ _ _ _ _ _ _ _ _ _ _ _ _ _ _ _ _ _ _ hb hp hch (by rw [hxl]; exact ho) ht
noncomputable def rnear3_code : Code := ((Tryz.f23.body.map loopsIn).getD []).getD 2 .skip
set_option maxRecDepth 100000 in
set_option maxHeartbeats 1000000 in
theorem rnear3 (w : World) (gs : Nat) (l0 : List Ent) (AA : Option Addr) (cc : Nat) (fr : Bool) (t : Int) (f : List UInt8 → Option (List UInt8)) (hs : Rsp w gs l0 AA cc fr t) (hc : Cnt l0 f) (l : List Chg) (A : Option Addr) (c : Nat) (hl : LReads w w.heap.size A l) (hA : ∀ ad, A = some ad → ad.block ≠ gs) (ok : ∀ (k : Nat) (x : Chg), l[k]? = some x → x.ok) (hby : BytL l) (D : Option Addr) (d : Nat) (L : List Nat) (hL : ∀ k ∈ L, k < l.length) (hn : L.length ≤ 40) (hD : Rv w.heap.size w D (ntI2 L)) (hDn : ∀ ad, D = some ad → ad.block ≠ gs) (Q0 : Exit → Act → World → Prop) (z2 z3 z4 z5 z6 z7 z8 z9 z10 z11 z13 z14 z16 z17 z18 z20 z21 z22 z23 z24 z25 z26 z27 z28 z29 z30 z31 z32 z33 z34 z35 z36 z37 z38 z39 z40 z41 z42 z43 z44 z45 z46 z47 z48 z49 z50 z51 z52 z53 z54 z55 z56 z57 z58 z59 z60 z61 z62 z63 z64 z65 z66 z67 z68 z69 z70 z71 z72 z73 z74 z75 z76 z77 z78 z79 z80 z81 z82 z83 z84 z85 z86 z87 z88 z89 z90 z91 z92 z93 z94 z95 z96 z97 z98 z99 z100 z101 z102 z103 z104 z105 z106 z107 z108 z109 z110 z111 z112 z113 z114 z115 z116 z117 z118 z119 z120 z121 z122 z123 z124 z125 z126 z127 z128 z129 z130 z131 z132 z133 z134 z135 z136 z137 z138 z139 z140 z141 z142 z143 z144 z145 z146 z147 z148 z149 z150 z151 z152 z153 z154 z155 z156 z157 z158 z159 z160 z161 z162 z163 z164 z165 z166 z167 z168 z169 z170 z171 z172 z173 z174 z175 z176 z177 z178 z179 z180 z181 z182 z183 z184 z185 z186 z187 z188 z189 z190 z191 z192 z193 z194 z195 z196 z197 z198 z199 z200 z201 z202 z203 z204 z205 z206 z207 z208 z209 z210 z211 z212 z213 z214 z215 z216 z217 z218 z219 z220 z221 z222 z223 z224 z225 z226 z227 z228 z229 z230 z231 z232 z233 z234 z235 z236 z237 z238 z239 z240 z241 z242 z243 z244 z245 z246 z247 z248 z249 z250 z251 z252 z253 z254 z255 z256 z257 z258 z259 z260 z261 z262 z263 z264 z265 z266 z267 z268 z269 z270 z271 z272 z273 z274 z275 z276 z277 z278 z279 z280 z281 z282 z283 z284 z285 z286 z287 z288 z289 : Value)
    (hexit : Hid (∀ (v : Value) (us : List Value) (xs : List (List UInt8)) (fr2 : Bool) (wr : World) (y8 y20 y21 y134 y135 y136 y137 y138 y139 y140 y141 y142 y143 y144 y145 y146 y147 y148 y149 y150 y151 y152 y153 y154 y155 y156 y157 y158 y159 : Value), Hid (txs f (L.map fun k => u8b (l.getD k default).nid) = some xs) → Hid (Rsp wr gs l0 AA cc fr2 t) → Hid (Chs (fun q => q = gs) w wr) → Hid (wr.ownsRow w.heap.size 57 1 v xs.length us) → Hid (Txt wr w.heap.size us xs) → Q0 (.exit 4) ⟨List.toArray ((.pointer (some ⟨gs, 0, none⟩))::(.slice A l.length c)::z2::z3::z4::z5::z6::z7::y8::z9::z10::z11::(.slice D L.length d)::z13::z14::v::z16::z17::z18::(.int .i64 (L.length : Int))::y20::y21::z22::z23::z24::z25::z26::z27::z28::z29::z30::z31::z32::z33::z34::z35::z36::z37::z38::z39::z40::z41::z42::z43::z44::z45::z46::z47::z48::z49::z50::z51::z52::z53::z54::z55::z56::z57::z58::z59::z60::z61::z62::z63::z64::z65::z66::z67::z68::z69::z70::z71::z72::z73::z74::z75::z76::z77::z78::z79::z80::z81::z82::z83::z84::z85::z86::z87::z88::z89::z90::z91::z92::z93::z94::z95::z96::z97::z98::z99::z100::z101::z102::z103::z104::z105::z106::z107::z108::z109::z110::z111::z112::z113::z114::z115::z116::z117::z118::z119::z120::z121::z122::z123::z124::z125::z126::z127::z128::z129::z130::z131::z132::z133::y134::y135::y136::y137::y138::y139::y140::y141::y142::y143::y144::y145::y146::y147::y148::y149::y150::y151::y152::y153::y154::y155::y156::y157::y158::y159::z160::z161::z162::z163::z164::z165::z166::z167::z168::z169::z170::z171::z172::z173::z174::z175::z176::z177::z178::z179::z180::z181::z182::z183::z184::z185::z186::z187::z188::z189::z190::z191::z192::z193::z194::z195::z196::z197::z198::z199::z200::z201::z202::z203::z204::z205::z206::z207::z208::z209::z210::z211::z212::z213::z214::z215::z216::z217::z218::z219::z220::z221::z222::z223::z224::z225::z226::z227::z228::z229::z230::z231::z232::z233::z234::z235::z236::z237::z238::z239::z240::z241::z242::z243::z244::z245::z246::z247::z248::z249::z250::z251::z252::z253::z254::z255::z256::z257::z258::z259::z260::z261::z262::z263::z264::z265::z266::z267::z268::z269::z270::z271::z272::z273::z274::z275::z276::z277::z278::z279::z280::z281::z282::z283::z284::z285::z286::z287::z288::z289::[]), []⟩ wr))
    (hret : Hid (∀ (fr2 : Bool) (wr : World), Hid (txs f (L.map fun k => u8b (l.getD k default).nid) = none) → Hid (Rsp wr gs l0 AA cc fr2 t) → Hid (Chs (fun q => q = gs) w wr) → ∀ z0 z1 z2 z3 z4 z5 z6 z7 z9 z10 z11 z12 z13 z14 z15 z16 z17 z18 z19 z20 z21 z22 z23 z24 z25 z26 z27 z28 z29 z30 z31 z32 z33 z34 z35 z36 z37 z38 z39 z40 z41 z42 z43 z44 z45 z46 z47 z48 z49 z50 z51 z52 z53 z54 z55 z56 z57 z58 z59 z60 z61 z62 z63 z64 z65 z66 z67 z68 z69 z70 z71 z72 z73 z74 z75 z76 z77 z78 z79 z80 z81 z82 z83 z84 z85 z86 z87 z88 z89 z90 z91 z92 z93 z94 z95 z96 z97 z98 z99 z100 z101 z102 z103 z104 z105 z106 z107 z108 z109 z110 z111 z112 z113 z114 z115 z116 z117 z118 z119 z120 z121 z122 z123 z124 z125 z126 z127 z128 z129 z130 z131 z132 z133 z134 z135 z136 z137 z138 z139 z140 z141 z142 z143 z144 z145 z146 z147 z148 z149 z150 z151 z152 z153 z154 z155 z156 z157 z158 z159 z160 z161 z162 z163 z164 z165 z166 z167 z168 z169 z170 z171 z172 z173 z174 z175 z176 z177 z178 z179 z180 z181 z182 z183 z184 z185 z186 z187 z188 z189 z190 z191 z192 z193 z194 z195 z196 z197 z198 z199 z200 z201 z202 z203 z204 z205 z206 z207 z208 z209 z210 z211 z212 z213 z214 z215 z216 z217 z218 z219 z220 z221 z222 z223 z224 z225 z226 z227 z228 z229 z230 z231 z232 z233 z234 z235 z236 z237 z238 z239 z240 z241 z242 z243 z244 z245 z246 z247 z248 z249 z250 z251 z252 z253 z254 z255 z256 z257 z258 z259 z260 z261 z262 z263 z264 z265 z266 z267 z268 z269 z270 z271 z272 z273 z274 z275 z276 z277 z278 z279 z280 z281 z282 z283 z284 z285 z286 z287 z288 z289 : Value, Q0 .ret ⟨List.toArray (z0::z1::z2::z3::z4::z5::z6::z7::(.int .i64 30)::z9::z10::z11::z12::z13::z14::z15::z16::z17::z18::z19::z20::z21::z22::z23::z24::z25::z26::z27::z28::z29::z30::z31::z32::z33::z34::z35::z36::z37::z38::z39::z40::z41::z42::z43::z44::z45::z46::z47::z48::z49::z50::z51::z52::z53::z54::z55::z56::z57::z58::z59::z60::z61::z62::z63::z64::z65::z66::z67::z68::z69::z70::z71::z72::z73::z74::z75::z76::z77::z78::z79::z80::z81::z82::z83::z84::z85::z86::z87::z88::z89::z90::z91::z92::z93::z94::z95::z96::z97::z98::z99::z100::z101::z102::z103::z104::z105::z106::z107::z108::z109::z110::z111::z112::z113::z114::z115::z116::z117::z118::z119::z120::z121::z122::z123::z124::z125::z126::z127::z128::z129::z130::z131::z132::z133::z134::z135::z136::z137::z138::z139::z140::z141::z142::z143::z144::z145::z146::z147::z148::z149::z150::z151::z152::z153::z154::z155::z156::z157::z158::z159::z160::z161::z162::z163::z164::z165::z166::z167::z168::z169::z170::z171::z172::z173::z174::z175::z176::z177::z178::z179::z180::z181::z182::z183::z184::z185::z186::z187::z188::z189::z190::z191::z192::z193::z194::z195::z196::z197::z198::z199::z200::z201::z202::z203::z204::z205::z206::z207::z208::z209::z210::z211::z212::z213::z214::z215::z216::z217::z218::z219::z220::z221::z222::z223::z224::z225::z226::z227::z228::z229::z230::z231::z232::z233::z234::z235::z236::z237::z238::z239::z240::z241::z242::z243::z244::z245::z246::z247::z248::z249::z250::z251::z252::z253::z254::z255::z256::z257::z258::z259::z260::z261::z262::z263::z264::z265::z266::z267::z268::z269::z270::z271::z272::z273::z274::z275::z276::z277::z278::z279::z280::z281::z282::z283::z284::z285::z286::z287::z288::z289::[]), []⟩ wr)) :
    Code.wp Tryz.prog (Code.loop rnear3_code) Q0 ⟨List.toArray ((.pointer (some ⟨gs, 0, none⟩))::(.slice A l.length c)::z2::z3::z4::z5::z6::z7::z8::z9::z10::z11::(.slice D L.length d)::z13::z14::(.slice none 0 0)::z16::z17::z18::(.int .i64 0)::z20::z21::z22::z23::z24::z25::z26::z27::z28::z29::z30::z31::z32::z33::z34::z35::z36::z37::z38::z39::z40::z41::z42::z43::z44::z45::z46::z47::z48::z49::z50::z51::z52::z53::z54::z55::z56::z57::z58::z59::z60::z61::z62::z63::z64::z65::z66::z67::z68::z69::z70::z71::z72::z73::z74::z75::z76::z77::z78::z79::z80::z81::z82::z83::z84::z85::z86::z87::z88::z89::z90::z91::z92::z93::z94::z95::z96::z97::z98::z99::z100::z101::z102::z103::z104::z105::z106::z107::z108::z109::z110::z111::z112::z113::z114::z115::z116::z117::z118::z119::z120::z121::z122::z123::z124::z125::z126::z127::z128::z129::z130::z131::z132::z133::z134::z135::z136::z137::z138::z139::z140::z141::z142::z143::z144::z145::z146::z147::z148::z149::z150::z151::z152::z153::z154::z155::z156::z157::z158::z159::z160::z161::z162::z163::z164::z165::z166::z167::z168::z169::z170::z171::z172::z173::z174::z175::z176::z177::z178::z179::z180::z181::z182::z183::z184::z185::z186::z187::z188::z189::z190::z191::z192::z193::z194::z195::z196::z197::z198::z199::z200::z201::z202::z203::z204::z205::z206::z207::z208::z209::z210::z211::z212::z213::z214::z215::z216::z217::z218::z219::z220::z221::z222::z223::z224::z225::z226::z227::z228::z229::z230::z231::z232::z233::z234::z235::z236::z237::z238::z239::z240::z241::z242::z243::z244::z245::z246::z247::z248::z249::z250::z251::z252::z253::z254::z255::z256::z257::z258::z259::z260::z261::z262::z263::z264::z265::z266::z267::z268::z269::z270::z271::z272::z273::z274::z275::z276::z277::z278::z279::z280::z281::z282::z283::z284::z285::z286::z287::z288::z289::[]), []⟩ w := by
  conv => arg 2; arg 1; whnf
  have HS := hI hs
  have HC := hI hc
  have HLR := hI hl
  have HA := hI hA
  have HK := hI ok
  have HY := hI hby
  have HL := hI hL
  have HD := hI hD
  have HDN := hI hDn
  obtain ⟨ids, hids⟩ : ∃ ids, (L.map fun k => u8b (l.getD k default).nid) = ids := ⟨_, rfl⟩
  have hil : ids.length = L.length := by rw [← hids]; simp
  have HID := hI hids
  rw [hids] at hexit hret
  have HIL := hI hil
  clear hs hc hl hA ok hby hL hD hDn hids hil
  go_loopw [15, 19] (fun ov kv wr => ∃ (k : Nat) (xs : List (List UInt8)) (us : List Value) (fr2 : Bool), k ≤ L.length ∧ Hid (us.length = k) ∧ kv = .int .i64 k ∧ Hid (txs f (ids.take k) = some xs) ∧ Hid (Rsp wr gs l0 AA cc fr2 t) ∧ Hid (Chs (fun q => q = gs) w wr) ∧ Hid (wr.ownsRow w.heap.size 57 1 ov k us) ∧ Hid (Txt wr w.heap.size us xs)) (fun _ kv _ => L.length - (intOf kv).toNat)
  case atStart => exact ⟨0, [], [], fr, Nat.zero_le _, hI rfl, rfl, hI rfl, HS, hI (Chs.of_below (Below.refl _ _) _), hI (World.ownsRow_nil _ _ _ _), hI ⟨rfl, fun k u x hu => by simp at hu⟩⟩
  case round =>
    obtain ⟨k, xs, us, fr2, hk, hus, rfl, hb, hp, hch, ho, ht⟩ := hrel
    by_cases hlt : k < L.length
    · obtain ⟨i, hie⟩ : ∃ i, L.getD k 0 = i := ⟨_, rfl⟩
      have hmem : i ∈ L := by rw [← hie, List.getD_eq_getElem?_getD, List.getElem?_eq_getElem hlt]; exact List.getElem_mem hlt
      have hil := HL.out i hmem
      have hki : k < ids.length := by rw [HIL.out]; exact hlt
      have hid2 : ids.getD k [] = u8b (l.getD i default).nid := by
        rw [← HID.out, ← hie]
        simp [hlt]
      have hcell := rv_chs4 HD.out hch.out (fun ad e q => HDN.out ad e q)
      obtain ⟨a1, rfl, _, hc1⟩ := hcell.at_ (k := k) (x := .int .i64 (i : Int)) (by rw [← hie]; simp [ntI2, hlt])
      obtain ⟨a2, rfl, hl2, hcc⟩ := HLR.out i (l.getD i default) (by simp [hil])
      have hcc2 : CellsAt wr (a2.add (i * 70)) (l.getD i default).cells := hcc.keep fun p hp => World.cell?_of_block (hch.out.block p.block (by rw [hp, block_add]; exact hl2) (fun e => HA.out a2 rfl (by rw [hp, block_add] at e; exact e)))
      have hok := HK.out i (l.getD i default) (by simp [hil])
      have hld := ld_nid hcc2 hok (HY.out i _ (by simp [hil])).2
      have h32 : (u8b (l.getD i default).nid).length = 32 := by rw [u8b_len]; exact hok.nid
      have HTK : Hid (∀ b, f (u8b (l.getD i default).nid) = some b → txs f (ids.take (k + 1)) = some (xs ++ [b])) := hI (fun b e => by
        rw [List.take_add_one, List.getElem?_eq_getElem hki, Option.toList_some, txs_snoc f _ _ xs hb.out, show ids[k] = u8b (l.getD i default).nid by rw [← hid2]; simp [hki], e]
        rfl)
      have HTN : Hid (f (u8b (l.getD i default).nid) = none → txs f ids = none) := hI (fun e => txs_none f ids _ (by rw [← hid2]; exact getD_mem hki) e)
      have HR := hI (fread_any wr gs l0 _ _ _ _ hp.out (u8b (l.getD i default).nid) h32)
      have hgl : gs < w.heap.size := HS.out.lt
      have LI : (i : Int) < (l.length : Int) := by omega
      clear hcell hcc hcc2 hok h32 hid2 hie hmem hki hl2
      generalize u8b (l.getD i default).nid = id at *
      obtain ⟨Do, do_, hvv, _⟩ := own_all ho.out
      subst hvv
      go_wp2_with fail
      refine HR.out.mono ?_
      rintro e w3 ⟨fr3, hp3, hc3, ⟨x, hm, he, u, rfl, hu⟩ | ⟨hno, rfl⟩⟩
      · have P3 := hI hp3
        have C3 := hI (hch.out.trans hc3)
        have O3 := hI (own_c ho.out hc3 (fun q e => by have : q = gs := e; omega))
        have T3 := hI (ht.out.chs hc3 (fun q e => by have : q = gs := e; omega))
        have U3 := hI (hu.less (b := w.heap.size) hch.out.size)
        have HB := hI (HTK.out x.body (by rw [← he]; exact HC.out.yes x hm))
        have hs3 := C3.out.size
        have hone := hu.one
        obtain ⟨Du, du, hueq, _⟩ := hu.form
        subst hueq
        have b4 := (Below.refl w3.heap.size w3).alloc (Nat.le_refl _) (.cells #[.slice Du (bys x.body).length du] 57)
        have P4 := hI (P3.out.below b4)
        have C4 := hI (C3.out.trans (Chs.of_below b4 _))
        have O4 := hI (own_below O3.out b4)
        have T4 := hI (T3.out.chs (Chs.of_below b4 (fun _ => False)) (fun q h => h.elim))
        have U4 := hI (U3.out.chs (Chs.of_below b4 (fun _ => False)) (fun q h => h.elim))
        have N4 := hI (new_rv w3 [.slice Du (bys x.body).length du] 57 ⟨w3.heap.size, 0, none⟩ rfl)
        clear hp3 hc3 hu hm he b4
        go_wp2_with (at_builtin; refine wpList_app slT rfl (.tmp 156) (.tmp 158) rfl w.heap.size _ k us rfl O4.out (some ⟨w3.heap.size, 0, none⟩) 1 1 [.slice Du (bys x.body).length du] rfl (fun q => by cases q) rfl N4.out (by intro v hv; rw [List.mem_singleton.1 hv]; rfl) (by unfold maxLen; omega) (by omega) C4.out.size ?_; intro v7 w7 ho7 ha7; have O7 := hI ho7; have A7 := hI ha7.grown; clear ho7 ha7)
        have GR : Hid (Chs (fun q => some q = (Value.slice Do k do_).ownBlock) (w3.alloc (.cells #[.slice Du (bys x.body).length du] 57)) w7) := hI (Chs.of_row A7.out)
        have NR : Hid (∀ ty, ty ≠ 57 → Non (fun q => some q = (Value.slice Do k do_).ownBlock) (w3.alloc (.cells #[.slice Du (bys x.body).length du] 57)) ty) := hI (fun ty hty q hq cs fr hh => by
          obtain ⟨cs2, f2, h2⟩ := own_typ O4.out q hq
          have := h2.symm.trans hh
          injection this with this
          injection this with _ e
          exact hty e.symm)
        exact ⟨⟨k + 1, xs ++ [x.body], us ++ [.slice Du (bys x.body).length du], fr3, by omega, hI (by rw [List.length_append, List.length_singleton, hus.out]), by go_num, HB, hI (P4.out.far GR.out (NR.out _ (by decide)) (NR.out _ (by decide)) (fun q => by have := (O4.out.lt gs q.symm).1; omega)), hI (C4.out.old GR.out (fun q hq => (O4.out.lt q hq.symm).1)), O7, hI ((T4.out.non GR.out (NR.out _ (by decide))).snoc (U4.out.non GR.out (NR.out _ (by decide))))⟩, by simp [intOf]; omega⟩
      · have P3 := hI hp3
        have C3 := hI (hch.out.trans hc3)
        have HN := hI (HTN.out (HC.out.no id hno))
        clear hp3 hc3 hno
        go_wp2_with fail
        exact hret.out _ _ HN P3 C3 _ _ _ _ _ _ _ _ _ _ _ _ _ _ _ _ _ _ _ _ _ _ _ _ _ _ _ _ _ _ _ _ _ _ _ _ _ _ _ _ _ _ _ _ _ _ _ _ _ _ _ _ _ _ _ _ _ _ _ _ _ _ _ _ _ _ _ _ _ _ _ _ _ _ _ _ _ _ _ _ _ _ _ _ _ _ _ _ _ _ _ _ _ _ _ _ _ _ _ _ _ _ _ _ _ _ _ _ _ _ _ _ _ _ _ _ _ _ _ _ _ _ _ _ _ _ _ _ _ _ _ _ _ _ _ _ _ _ _ _ _ _ _ _ _ _ _ _ _ _ _ _ _ _ _ _ _ _ _ _ _ _ _ _ _ _ _ _ _ _ _ _ _ _ _ _ _ _ _ _ _ _ _ _ _ _ _ _ _ _ _ _ _ _ _ _ _ _ _ _ _ _ _ _ _ _ _ _ _ _ _ _ _ _ _ _ _ _ _ _ _ _ _ _ _ _ _ _ _ _ _ _ _ _ _ _ _ _ _ _ _ _ _ _ _ _ _ _ _ _ _ _ _ _ _ _ _ _ _ _ _ _ _ _ _ _ _ _ _ _ _ _ _ _ _ _ _ _ _ _ _ _ _ _ _ _ _ _ _
    · have hke : k = L.length := by omega
      subst hke
      rw [show ids.take L.length = ids by rw [← HIL.out]; exact List.take_length] at hb
      obtain ⟨Do, do_, hvv, _⟩ := own_all ho.out
      subst hvv
      go_wp2_with fail
      have hxl : xs.length = L.length := ht.out.1.symm.trans hus.out
      exact hexit.out _ us xs _ _ _ _ _ _ _ _ _ _ _ _ _ _ _ _ _ _ _ _ _ _ _ _ _ _ _ _ _ _ _ hb hp hch (by rw [hxl]; exact ho) ht
end Go.Proofs.YtbmpidacoohdmaaGreat

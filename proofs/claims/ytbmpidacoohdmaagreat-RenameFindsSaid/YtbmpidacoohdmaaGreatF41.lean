/- sleuthref26.near's two loops that make the rows, as laws. -/
import Derived.Test.YtbmpidacoohdmaaGreatF40
import Derived.Deep.CutRange
namespace Go.Proofs.YtbmpidacoohdmaaGreat
open Lib renaming hid → hI
open Go.RowKit Op
open Rn (Chg LReads CellsAt St Oks isNamed)

attribute [local go_sem ↓] ld53_eq ldW_eq
noncomputable def rrow_code : Code := (loopsIn (((Tryz.f23.body.map loopsIn).getD []).getD 3 .skip)).getD 0 .skip
set_option maxRecDepth 100000 in
set_option maxHeartbeats 4000000 in
theorem rrow (u : World) (l : List Chg) (A : Option Addr) (c : Nat) (hl : LReads u u.heap.size A l) (ok : Oks l) (S T : List Nat) (hS : ∀ k ∈ S, k < l.length) (hT : ∀ k ∈ T, k < l.length) (_hSn : S.length ≤ 40) (hTn : T.length ≤ 40) (_hln : l.length ≤ 40) (D1 D2 D4 D5 : Option Addr) (d1 d2 d4 d5 : Nat) (h1 : Rv u.heap.size u D1 (ntI2 S)) (h2 : Rv u.heap.size u D2 (ntI2 T)) (us vs : List Value) (xs ys : List (List UInt8)) (h4 : Txr u D4 us xs) (h5 : Txr u D5 vs ys) (hxl : xs.length = S.length) (hyl : ys.length = T.length) (ls : Int) (w : World) (hub : Below u.heap.size u w) (i : Nat) (hi : i < S.length) (P : List Rw) (hP : P.length ≤ 1600) (v22 : Value) (ho : w.ownsRow u.heap.size 130 4 v22 P.length (P.flatMap encW)) (Q0 : Exit → Act → World → Prop) (z0 z2 z3 z4 z5 z6 z7 z8 z9 z13 z16 z17 z18 z19 z20 z21 z25 z26 z27 z28 z29 z30 z31 z32 z33 z34 z35 z36 z37 z38 z39 z40 z41 z42 z43 z44 z45 z46 z47 z48 z49 z50 z51 z52 z53 z54 z55 z56 z57 z58 z59 z60 z61 z62 z63 z64 z65 z66 z67 z68 z69 z70 z71 z72 z73 z74 z75 z76 z77 z78 z79 z80 z81 z82 z83 z84 z85 z86 z87 z88 z89 z90 z91 z92 z93 z94 z95 z96 z97 z98 z99 z100 z101 z102 z103 z104 z105 z106 z107 z108 z109 z110 z111 z112 z113 z114 z115 z116 z117 z118 z119 z120 z121 z122 z123 z124 z125 z126 z127 z128 z129 z130 z131 z132 z133 z134 z135 z136 z137 z138 z139 z140 z141 z142 z143 z144 z145 z146 z147 z148 z149 z150 z151 z152 z153 z154 z155 z156 z157 z158 z159 z160 z161 z162 z163 z164 z165 z166 z167 z168 z169 z170 z171 z172 z173 z174 z175 z176 z177 z178 z179 z180 z181 z182 z183 z184 z185 z186 z187 z188 z189 z190 z191 z192 z193 z194 z195 z196 z197 z198 z199 z200 z201 z202 z203 z204 z205 z206 z207 z208 z209 z210 z211 z212 z213 z214 z215 z216 z217 z218 z219 z220 z221 z222 z223 z224 z225 z226 z227 z228 z229 z230 z231 z232 z233 z234 z235 z236 z237 z238 z239 z240 z241 z242 z243 z244 z245 z246 z247 z248 z249 z250 z251 z252 z253 z254 z255 z256 z257 z258 z259 z260 z261 z262 z263 z264 z265 z266 z267 z268 z269 z270 z271 z272 z273 z274 z275 z276 z277 z278 z279 z280 z281 z282 z283 z284 z285 z286 z287 z288 z289 : Value)
    (hpan : ∀ c a o v w, Q0 (.panic c) (Act.put a o v) w → Q0 (.panic c) a w)
    (hexit : Hid (∀ (v : Value) (wr : World) (y25 y166 y167 y168 y169 y170 y171 y172 y173 y174 y175 y176 y177 y178 y179 y180 y181 y182 y183 y184 y185 y186 y187 y188 y189 y190 y191 y192 y193 y194 y195 y196 y197 y198 y199 y200 y201 y202 y203 y204 y205 y206 y207 y208 y209 y210 y211 y212 : Value), Hid (wr.ownsRow u.heap.size 130 4 v (P ++ rowIn l S T xs ys ls i T.length).length ((P ++ rowIn l S T xs ys ls i T.length).flatMap encW)) → Hid (Below u.heap.size u wr) → Q0 (.exit 8) ⟨List.toArray (z0::(.slice A l.length c)::z2::z3::z4::z5::z6::z7::z8::z9::(.int .i64 ls)::(.slice D1 S.length d1)::(.slice D2 T.length d2)::z13::(.slice D4 xs.length d4)::(.slice D5 ys.length d5)::z16::z17::z18::z19::z20::z21::v::(.int .i64 (i : Int))::(.int .i64 (T.length : Int))::y25::z26::z27::z28::z29::z30::z31::z32::z33::z34::z35::z36::z37::z38::z39::z40::z41::z42::z43::z44::z45::z46::z47::z48::z49::z50::z51::z52::z53::z54::z55::z56::z57::z58::z59::z60::z61::z62::z63::z64::z65::z66::z67::z68::z69::z70::z71::z72::z73::z74::z75::z76::z77::z78::z79::z80::z81::z82::z83::z84::z85::z86::z87::z88::z89::z90::z91::z92::z93::z94::z95::z96::z97::z98::z99::z100::z101::z102::z103::z104::z105::z106::z107::z108::z109::z110::z111::z112::z113::z114::z115::z116::z117::z118::z119::z120::z121::z122::z123::z124::z125::z126::z127::z128::z129::z130::z131::z132::z133::z134::z135::z136::z137::z138::z139::z140::z141::z142::z143::z144::z145::z146::z147::z148::z149::z150::z151::z152::z153::z154::z155::z156::z157::z158::z159::z160::z161::z162::z163::z164::z165::y166::y167::y168::y169::y170::y171::y172::y173::y174::y175::y176::y177::y178::y179::y180::y181::y182::y183::y184::y185::y186::y187::y188::y189::y190::y191::y192::y193::y194::y195::y196::y197::y198::y199::y200::y201::y202::y203::y204::y205::y206::y207::y208::y209::y210::y211::y212::z213::z214::z215::z216::z217::z218::z219::z220::z221::z222::z223::z224::z225::z226::z227::z228::z229::z230::z231::z232::z233::z234::z235::z236::z237::z238::z239::z240::z241::z242::z243::z244::z245::z246::z247::z248::z249::z250::z251::z252::z253::z254::z255::z256::z257::z258::z259::z260::z261::z262::z263::z264::z265::z266::z267::z268::z269::z270::z271::z272::z273::z274::z275::z276::z277::z278::z279::z280::z281::z282::z283::z284::z285::z286::z287::z288::z289::[]), []⟩ wr)) :
    Code.wp Tryz.prog (Code.loop rrow_code) Q0 ⟨List.toArray (z0::(.slice A l.length c)::z2::z3::z4::z5::z6::z7::z8::z9::(.int .i64 ls)::(.slice D1 S.length d1)::(.slice D2 T.length d2)::z13::(.slice D4 xs.length d4)::(.slice D5 ys.length d5)::z16::z17::z18::z19::z20::z21::v22::(.int .i64 (i : Int))::(.int .i64 0)::z25::z26::z27::z28::z29::z30::z31::z32::z33::z34::z35::z36::z37::z38::z39::z40::z41::z42::z43::z44::z45::z46::z47::z48::z49::z50::z51::z52::z53::z54::z55::z56::z57::z58::z59::z60::z61::z62::z63::z64::z65::z66::z67::z68::z69::z70::z71::z72::z73::z74::z75::z76::z77::z78::z79::z80::z81::z82::z83::z84::z85::z86::z87::z88::z89::z90::z91::z92::z93::z94::z95::z96::z97::z98::z99::z100::z101::z102::z103::z104::z105::z106::z107::z108::z109::z110::z111::z112::z113::z114::z115::z116::z117::z118::z119::z120::z121::z122::z123::z124::z125::z126::z127::z128::z129::z130::z131::z132::z133::z134::z135::z136::z137::z138::z139::z140::z141::z142::z143::z144::z145::z146::z147::z148::z149::z150::z151::z152::z153::z154::z155::z156::z157::z158::z159::z160::z161::z162::z163::z164::z165::z166::z167::z168::z169::z170::z171::z172::z173::z174::z175::z176::z177::z178::z179::z180::z181::z182::z183::z184::z185::z186::z187::z188::z189::z190::z191::z192::z193::z194::z195::z196::z197::z198::z199::z200::z201::z202::z203::z204::z205::z206::z207::z208::z209::z210::z211::z212::z213::z214::z215::z216::z217::z218::z219::z220::z221::z222::z223::z224::z225::z226::z227::z228::z229::z230::z231::z232::z233::z234::z235::z236::z237::z238::z239::z240::z241::z242::z243::z244::z245::z246::z247::z248::z249::z250::z251::z252::z253::z254::z255::z256::z257::z258::z259::z260::z261::z262::z263::z264::z265::z266::z267::z268::z269::z270::z271::z272::z273::z274::z275::z276::z277::z278::z279::z280::z281::z282::z283::z284::z285::z286::z287::z288::z289::[]), []⟩ w := by
  conv => arg 2; arg 1; whnf
  have HL := hI hl
  have HK := hI ok
  have HS := hI hS
  have HT := hI hT
  have H1 := hI h1
  have H2 := hI h2
  have H4 := hI h4
  have H5 := hI h5
  have HXL := hI hxl
  have HYL := hI hyl
  have HO := hI ho
  have HUB := hI hub
  have INS := hI (fun k => rowIn_succ l S T xs ys ls i k)
  have INL := hI (fun k => rowIn_len l S T xs ys ls i k)
  have IN0 : Hid (rowIn l S T xs ys ls i 0 = []) := hI rfl
  generalize rowIn l S T xs ys ls i = IN at *
  clear hl ok hS hT h1 h2 h4 h5 hxl hyl ho hub
  go_loopw [22, 24] (fun vv kv wr => ∃ k : Nat, k ≤ T.length ∧ kv = .int .i64 k ∧ Hid (wr.ownsRow u.heap.size 130 4 vv (P ++ IN k).length ((P ++ IN k).flatMap encW)) ∧ Hid (Below u.heap.size u wr)) (fun _ kv _ => T.length - (intOf kv).toNat)
  case atStart => exact ⟨0, Nat.zero_le _, rfl, hI (by rw [IN0.out, List.append_nil]; exact HO.out), HUB⟩
  case round =>
    clear HO HUB
    obtain ⟨k, hk, rfl, ho, hb⟩ := hrel
    by_cases hlt : k < T.length
    · obtain ⟨a, ha⟩ : ∃ a, S.getD i 0 = a := ⟨_, rfl⟩
      obtain ⟨b, hbe⟩ : ∃ b, T.getD k 0 = b := ⟨_, rfl⟩
      have hal : a < l.length := HS.out a (by rw [← ha, List.getD_eq_getElem?_getD, List.getElem?_eq_getElem hi]; exact List.getElem_mem hi)
      have hbl : b < l.length := HT.out b (by rw [← hbe, List.getD_eq_getElem?_getD, List.getElem?_eq_getElem hlt]; exact List.getElem_mem hlt)
      have hix : i < xs.length := by rw [HXL.out]; exact hi
      have hky : k < ys.length := by rw [HYL.out]; exact hlt
      obtain ⟨ad1, e1, c1⟩ := rv_all H1.out (k := i) (x := .int .i64 (a : Int)) (by rw [← ha]; simp [ntI2, hi])
      obtain ⟨ad2, e2, c2⟩ := rv_all H2.out (k := k) (x := .int .i64 (b : Int)) (by rw [← hbe]; simp [ntI2, hlt])
      obtain ⟨ad4, Da, da, e4, hda, h4a, c4⟩ := H4.out.all_at hix
      obtain ⟨ad5, Db, db, e5, hdb, h4b, c5⟩ := H5.out.all_at hky
      obtain ⟨ad, eA, ca⟩ := chg_cells HL.out hal
      obtain ⟨ad', eA', cb⟩ := chg_cells HL.out hbl
      obtain rfl := Option.some.inj (eA.symm.trans eA')
      clear eA'
      have UP := hI (fun (W : World) (hW : Below wr.heap.size wr W) => show Below u.heap.size u W from hb.out.trans (hW.mono hb.out.size))
      have X1 : Hid (∀ W, Below wr.heap.size wr W → W.cell? (ad1.add i) = some (.int .i64 (a : Int))) := hI fun W hW => c1 W (UP.out W hW)
      have X2 : Hid (∀ W, Below wr.heap.size wr W → W.cell? (ad2.add k) = some (.int .i64 (b : Int))) := hI fun W hW => c2 W (UP.out W hW)
      have X4 : Hid (∀ W, Below wr.heap.size wr W → W.cell? (ad4.add i) = some (.slice Da (xs.getD i []).length da)) := hI fun W hW => (c4 W (UP.out W hW)).1
      have X5 : Hid (∀ W, Below wr.heap.size wr W → W.cell? (ad5.add k) = some (.slice Db (ys.getD k []).length db)) := hI fun W hW => (c5 W (UP.out W hW)).1
      have oka : (l.getD a default).ok := HK.out a _ (by simp [hal])
      have okb : (l.getD b default).ok := HK.out b _ (by simp [hbl])
      have LA : Hid (∀ W, Below wr.heap.size wr W → (ldT 53 (ad.add (a * 70))).run Tryz.prog W = .ok (.agg (l.getD a default).cells.toArray) W) := hI fun W hW => ldC oka (ca W (UP.out W hW))
      have LB : Hid (∀ W, Below wr.heap.size wr W → (ldT 53 (ad.add (b * 70))).run Tryz.prog W = .ok (.agg (l.getD b default).cells.toArray) W) := hI fun W hW => ldC okb (cb W (UP.out W hW))
      have HSC := hI (fun (W : World) (hW : Below wr.heap.size wr W) => score25_any W Da Db da db (xs.getD i []) (ys.getD k []) (c4 W (UP.out W hW)).2 (c5 W (UP.out W hW)).2 hda hdb h4a h4b)
      have HNM := hI (fun W : World => show Calls Tryz.prog 54 #[.agg (l.getD a default).cells.toArray, .agg (l.getD b default).cells.toArray] W fun e w' => e = .returned (.bool (isNamed l a b)) ∧ Below W.heap.size W w' from Rn.rnamed_any W _ _ oka okb)
      have INK := hI (INS.out k)
      have INKL := INL.out k
      rw [ha, hbe] at INK
      have AB1 : (a : Int) < (l.length : Int) := by omega
      have AB2 : (b : Int) < (l.length : Int) := by omega
      have AB3 : (i : Int) < (S.length : Int) := by omega
      have AB4 : (k : Int) < (T.length : Int) := by omega
      have AB5 : (i : Int) < (xs.length : Int) := by omega
      have AB6 : (k : Int) < (ys.length : Int) := by omega
      subst e1 e2 e4 e5 eA
      clear c1 c2 c4 c5 ca cb oka okb hda hdb h4a h4b ha hbe UP
      generalize isNamed l a b = nm at *
      generalize scoB (xs.getD i []) (ys.getD k []) = sc at *
      generalize (l.getD a default) = xa at *
      generalize (l.getD b default) = xb at *
      generalize (xs.getD i []).length = la at *
      generalize (ys.getD k []).length = lb at *
      have PL : (P ++ IN k).length ≤ 1640 := by rw [List.length_append]; omega
      have INK2 : Hid (P ++ IN (k + 1) = if ls ≤ (sc : Int) then (P ++ IN k) ++ [(a, b, sc, nm)] else P ++ IN k) := hI (by rw [INK.out]; split; exact (List.append_assoc _ _ _).symm; rfl)
      clear INK INKL
      generalize P ++ IN k = PR at *
      go_upto_region 39 with fail
      go_cut [25] from 172 to 204 (fun xv w' => ∃ bx, xv = .pointer (some ⟨bx, 0, none⟩) ∧ Hid (Ar w' bx 130 (encW (a, b, sc, nm))) ∧ Hid (Below wr.heap.size wr w'))
      case first =>
        refine region_of (fun W => Below wr.heap.size wr W) (by kernel_rfl) ?_
        have C2 := hI ((Below.refl wr.heap.size wr).drew)
        have HC := C2
        generalize wr.drew = w2 at *
        refine anyC_take 0 (v := ?_) HC.out rfl (by kernel_rfl) (by kernel_rfl) (by kernel_rfl) (fun c a w h => hpan c a _ _ w h) rfl (fun W hW => ?_) ?_
        rotate_left
        · go_simp
          try rfl
        simp only [Act.put]
        refine anyC_take 1 (v := ?_) HC.out rfl (by kernel_rfl) (by kernel_rfl) (by kernel_rfl) (fun c a w h => hpan c a _ _ w h) rfl (fun W hW => ?_) ?_
        rotate_left
        · go_simp
          try rfl
        simp only [Act.put]
        refine anyC_take 2 (v := ?_) HC.out rfl (by kernel_rfl) (by kernel_rfl) (by kernel_rfl) (fun c a w h => hpan c a _ _ w h) rfl (fun W hW => ?_) ?_
        rotate_left
        · go_simp
          try rfl
        simp only [Act.put]
        refine anyC_take 3 (v := ?_) HC.out rfl (by kernel_rfl) (by kernel_rfl) (by kernel_rfl) (fun c a w h => hpan c a _ _ w h) rfl (fun W hW => ?_) ?_
        rotate_left
        · have := X1.out W hW; go_simp
          try rfl
        simp only [Act.put]
        refine anyC_take 4 (v := ?_) HC.out rfl (by kernel_rfl) (by kernel_rfl) (by kernel_rfl) (fun c a w h => hpan c a _ _ w h) rfl (fun W hW => ?_) ?_
        rotate_left
        · go_simp
          try rfl
        simp only [Act.put]
        refine anyC_take 5 (v := ?_) HC.out rfl (by kernel_rfl) (by kernel_rfl) (by kernel_rfl) (fun c a w h => hpan c a _ _ w h) rfl (fun W hW => ?_) ?_
        rotate_left
        · go_simp
          try rfl
        simp only [Act.put]
        refine anyC_take 6 (v := ?_) HC.out rfl (by kernel_rfl) (by kernel_rfl) (by kernel_rfl) (fun c a w h => hpan c a _ _ w h) rfl (fun W hW => ?_) ?_
        rotate_left
        · go_simp
          try rfl
        simp only [Act.put]
        refine anyC_take 7 (v := ?_) HC.out rfl (by kernel_rfl) (by kernel_rfl) (by kernel_rfl) (fun c a w h => hpan c a _ _ w h) rfl (fun W hW => ?_) ?_
        rotate_left
        · have := X2.out W hW; go_simp
          try rfl
        simp only [Act.put]
        refine anyC_take 8 (v := ?_) HC.out rfl (by kernel_rfl) (by kernel_rfl) (by kernel_rfl) (fun c a w h => hpan c a _ _ w h) rfl (fun W hW => ?_) ?_
        rotate_left
        · go_simp
          try rfl
        simp only [Act.put]
        refine anyC_take 9 (v := ?_) HC.out rfl (by kernel_rfl) (by kernel_rfl) (by kernel_rfl) (fun c a w h => hpan c a _ _ w h) rfl (fun W hW => ?_) ?_
        rotate_left
        · go_simp
          try rfl
        simp only [Act.put]
        refine anyC_take 10 (v := ?_) HC.out rfl (by kernel_rfl) (by kernel_rfl) (by kernel_rfl) (fun c a w h => hpan c a _ _ w h) rfl (fun W hW => ?_) ?_
        rotate_left
        · go_simp
          try rfl
        simp only [Act.put]
        refine anyC_take 11 (v := ?_) HC.out rfl (by kernel_rfl) (by kernel_rfl) (by kernel_rfl) (fun c a w h => hpan c a _ _ w h) rfl (fun W hW => ?_) ?_
        rotate_left
        · have := X4.out W hW; go_simp
          try rfl
        simp only [Act.put]
        refine anyC_take 12 (v := ?_) HC.out rfl (by kernel_rfl) (by kernel_rfl) (by kernel_rfl) (fun c a w h => hpan c a _ _ w h) rfl (fun W hW => ?_) ?_
        rotate_left
        · go_simp
          try rfl
        simp only [Act.put]
        refine anyC_take 13 (v := ?_) HC.out rfl (by kernel_rfl) (by kernel_rfl) (by kernel_rfl) (fun c a w h => hpan c a _ _ w h) rfl (fun W hW => ?_) ?_
        rotate_left
        · go_simp
          try rfl
        simp only [Act.put]
        refine anyC_take 14 (v := ?_) HC.out rfl (by kernel_rfl) (by kernel_rfl) (by kernel_rfl) (fun c a w h => hpan c a _ _ w h) rfl (fun W hW => ?_) ?_
        rotate_left
        · go_simp
          try rfl
        simp only [Act.put]
        refine anyC_take 15 (v := ?_) HC.out rfl (by kernel_rfl) (by kernel_rfl) (by kernel_rfl) (fun c a w h => hpan c a _ _ w h) rfl (fun W hW => ?_) ?_
        rotate_left
        · have := X5.out W hW; go_simp
          try rfl
        simp only [Act.put]
        refine anyC_take 17 (v := ?_) HC.out rfl (by kernel_rfl) (by kernel_rfl) (by kernel_rfl) (fun c a w h => hpan c a _ _ w h) rfl (fun W hW => ?_) ?_
        rotate_left
        · go_simp
          try rfl
        simp only [Act.put]
        refine anyC_take 18 (v := ?_) HC.out rfl (by kernel_rfl) (by kernel_rfl) (by kernel_rfl) (fun c a w h => hpan c a _ _ w h) rfl (fun W hW => ?_) ?_
        rotate_left
        · go_simp
          try rfl
        simp only [Act.put]
        refine anyC_take 19 (v := ?_) HC.out rfl (by kernel_rfl) (by kernel_rfl) (by kernel_rfl) (fun c a w h => hpan c a _ _ w h) rfl (fun W hW => ?_) ?_
        rotate_left
        · go_simp
          try rfl
        simp only [Act.put]
        refine anyC_take 20 (v := ?_) HC.out rfl (by kernel_rfl) (by kernel_rfl) (by kernel_rfl) (fun c a w h => hpan c a _ _ w h) rfl (fun W hW => ?_) ?_
        rotate_left
        · go_simp
          try rfl
        simp only [Act.put]
        refine anyC_take 21 (v := ?_) HC.out rfl (by kernel_rfl) (by kernel_rfl) (by kernel_rfl) (fun c a w h => hpan c a _ _ w h) rfl (fun W hW => ?_) ?_
        rotate_left
        · have := X1.out W hW; go_simp
          try rfl
        simp only [Act.put]
        refine anyC_take 22 (v := ?_) HC.out rfl (by kernel_rfl) (by kernel_rfl) (by kernel_rfl) (fun c a w h => hpan c a _ _ w h) rfl (fun W hW => ?_) ?_
        rotate_left
        · go_simp
          try rfl
        simp only [Act.put]
        refine anyC_take 23 (v := ?_) HC.out rfl (by kernel_rfl) (by kernel_rfl) (by kernel_rfl) (fun c a w h => hpan c a _ _ w h) rfl (fun W hW => ?_) ?_
        rotate_left
        · have := LA.out W hW; go_simp
          try rfl
        simp only [Act.put]
        refine anyC_take 24 (v := ?_) HC.out rfl (by kernel_rfl) (by kernel_rfl) (by kernel_rfl) (fun c a w h => hpan c a _ _ w h) rfl (fun W hW => ?_) ?_
        rotate_left
        · go_simp
          try rfl
        simp only [Act.put]
        refine anyC_take 25 (v := ?_) HC.out rfl (by kernel_rfl) (by kernel_rfl) (by kernel_rfl) (fun c a w h => hpan c a _ _ w h) rfl (fun W hW => ?_) ?_
        rotate_left
        · go_simp
          try rfl
        simp only [Act.put]
        refine anyC_take 26 (v := ?_) HC.out rfl (by kernel_rfl) (by kernel_rfl) (by kernel_rfl) (fun c a w h => hpan c a _ _ w h) rfl (fun W hW => ?_) ?_
        rotate_left
        · go_simp
          try rfl
        simp only [Act.put]
        refine anyC_take 27 (v := ?_) HC.out rfl (by kernel_rfl) (by kernel_rfl) (by kernel_rfl) (fun c a w h => hpan c a _ _ w h) rfl (fun W hW => ?_) ?_
        rotate_left
        · go_simp
          try rfl
        simp only [Act.put]
        refine anyC_take 28 (v := ?_) HC.out rfl (by kernel_rfl) (by kernel_rfl) (by kernel_rfl) (fun c a w h => hpan c a _ _ w h) rfl (fun W hW => ?_) ?_
        rotate_left
        · have := X2.out W hW; go_simp
          try rfl
        simp only [Act.put]
        refine anyC_take 29 (v := ?_) HC.out rfl (by kernel_rfl) (by kernel_rfl) (by kernel_rfl) (fun c a w h => hpan c a _ _ w h) rfl (fun W hW => ?_) ?_
        rotate_left
        · go_simp
          try rfl
        simp only [Act.put]
        refine anyC_take 30 (v := ?_) HC.out rfl (by kernel_rfl) (by kernel_rfl) (by kernel_rfl) (fun c a w h => hpan c a _ _ w h) rfl (fun W hW => ?_) ?_
        rotate_left
        · have := LB.out W hW; go_simp
          try rfl
        simp only [Act.put]
        refine anyC_two 16 33 C2.out (by kernel_rfl) rfl rfl ?_ ?_
        · go_wp2_with (go_at_call 56; refine (HSC.out _ C2.out).mono ?_; rintro e w3 ⟨rfl, hb3⟩; have C3 := hI (C2.out.trans (hb3.mono C2.out.size)); clear hb3)
          refine anyC_two 31 33 C3.out (by kernel_rfl) rfl rfl ?_ ?_
          · go_wp2_with (go_at_call 54; refine (HNM.out _).mono ?_; rintro e w4 ⟨rfl, hb4⟩; have C4 := hI (C3.out.trans (hb4.mono C3.out.size)); clear hb4)
            refine anyC_take 32 (v := ?_) C4.out rfl (by kernel_rfl) (by kernel_rfl) (by kernel_rfl) (fun c a w h => hpan c a _ _ w h) rfl (fun W hW => ?_) ?_
            rotate_left
            · go_simp
              try rfl
            simp only [Act.put]
            refine anyC_one 33 C4.out (by kernel_rfl) rfl ?_
            go_wp2_with fail
            have AB4b := hI (Ar.new w4 [.int .i64 0, .int .i64 0, .int .i64 0, .bool false] 130)
            have C4b := hI (C4.out.alloc C4.out.size (.cells [.int .i64 0, .int .i64 0, .int .i64 0, .bool false].toArray 130))
            have BXL := hI C4.out.size
            generalize w4.heap.size = bx at *
            refine anyC_one 34 (o := { dst := none, op := .store 130 (.tmp 25) (.tmp 204), type := 0, pos := _, after := _, guard := none }) C4b.out (by kernel_rfl) rfl ?_
            go_wp2_with (refine wpList_store_row rfl 130 (.tmp 25) (.tmp 204) rfl bx (encW (a, b, sc, nm)).toArray rfl rfl 130 _ AB4b.out infoW rfl (encW_all (a, b, sc, nm)) ?_)
            simp only [Act.put]
            refine anyC_done (below_row C4b.out bx _ BXL.out) (by kernel_rfl) ?_ _
            go_wp2_with fail
            go_meet
            exact ⟨bx, rfl, hI (AB4b.out.setRow _), hI (below_row C4b.out bx _ BXL.out)⟩
          · go_wp2_with fail
            have AB3b := hI (Ar.new w3 [.int .i64 0, .int .i64 0, .int .i64 0, .bool false] 130)
            have C3b := hI (C3.out.alloc C3.out.size (.cells [.int .i64 0, .int .i64 0, .int .i64 0, .bool false].toArray 130))
            have BXL := hI C3.out.size
            generalize w3.heap.size = bx at *
            have C4 := C3b
            have AB4 := AB3b
            refine anyC_one 31 C4.out (by kernel_rfl) rfl ?_
            go_wp2_with (go_at_call 54; refine (HNM.out _).mono ?_; rintro e w5 ⟨rfl, hb5⟩; have C5 := hI (C4.out.trans (hb5.mono C4.out.size)); have AB5 := hI (AB4.out.below hb5 AB4.out.lt); clear hb5)
            refine anyC_one 32 C5.out (by kernel_rfl) rfl ?_
            go_wp2_with fail
            refine anyC_one 34 (o := { dst := none, op := .store 130 (.tmp 25) (.tmp 204), type := 0, pos := _, after := _, guard := none }) C5.out (by kernel_rfl) rfl ?_
            go_wp2_with (refine wpList_store_row rfl 130 (.tmp 25) (.tmp 204) rfl bx (encW (a, b, sc, nm)).toArray rfl rfl 130 _ AB5.out infoW rfl (encW_all (a, b, sc, nm)) ?_)
            simp only [Act.put]
            refine anyC_done (below_row C5.out bx _ BXL.out) (by kernel_rfl) ?_ _
            go_wp2_with fail
            go_meet
            exact ⟨bx, rfl, hI (AB5.out.setRow _), hI (below_row C5.out bx _ BXL.out)⟩
        · go_wp2_with fail
          have AB2b := hI (Ar.new w2 [.int .i64 0, .int .i64 0, .int .i64 0, .bool false] 130)
          have C2b := hI (C2.out.alloc C2.out.size (.cells [.int .i64 0, .int .i64 0, .int .i64 0, .bool false].toArray 130))
          have BXL := hI C2.out.size
          generalize w2.heap.size = bx at *
          have C3 := C2b
          have AB3 := AB2b
          refine anyC_one 16 C3.out (by kernel_rfl) rfl ?_
          go_wp2_with (go_at_call 56; refine (HSC.out _ C3.out).mono ?_; rintro e w4 ⟨rfl, hb4⟩; have C4 := hI (C3.out.trans (hb4.mono C3.out.size)); have AB4 := hI (AB3.out.below hb4 AB3.out.lt); clear hb4)
          refine anyC_one 31 C4.out (by kernel_rfl) rfl ?_
          go_wp2_with (go_at_call 54; refine (HNM.out _).mono ?_; rintro e w5 ⟨rfl, hb5⟩; have C5 := hI (C4.out.trans (hb5.mono C4.out.size)); have AB5 := hI (AB4.out.below hb5 AB4.out.lt); clear hb5)
          refine anyC_one 32 C5.out (by kernel_rfl) rfl ?_
          go_wp2_with fail
          refine anyC_one 34 (o := { dst := none, op := .store 130 (.tmp 25) (.tmp 204), type := 0, pos := _, after := _, guard := none }) C5.out (by kernel_rfl) rfl ?_
          go_wp2_with (refine wpList_store_row rfl 130 (.tmp 25) (.tmp 204) rfl bx (encW (a, b, sc, nm)).toArray rfl rfl 130 _ AB5.out infoW rfl (encW_all (a, b, sc, nm)) ?_)
          simp only [Act.put]
          refine anyC_done (below_row C5.out bx _ BXL.out) (by kernel_rfl) ?_ _
          go_wp2_with fail
          go_meet
          exact ⟨bx, rfl, hI (AB5.out.setRow _), hI (below_row C5.out bx _ BXL.out)⟩
      obtain ⟨bx, rfl, ABX, CBX⟩ := hcut
      have OX := hI (own_below ho.out CBX.out)
      have HB2 := hI (hb.out.trans (CBX.out.mono hb.out.size))
      have lx2 := ABX.out.cell (k := 2) (v := .int .i64 (sc : Int)) rfl
      have hld : (ldT 130 ⟨bx, 0, none⟩).run Tryz.prog wc = .ok (.agg #[.int .i64 (a : Int), .int .i64 (b : Int), .int .i64 (sc : Int), .bool nm]) wc := ldW ABX.out.cellsW
      have hz6 := HB2.out.size
      clear X1 X2 X4 X5 LA LB HSC HNM INS INL
      by_cases hsc : ls ≤ (sc : Int)
      · rw [if_pos hsc] at INK2
        obtain ⟨Do, do_, hvv, _⟩ := own_all OX.out
        subst hvv
        have N5 := hI (new_rv wc (encW (a, b, sc, nm)) 130 ⟨wc.heap.size, 0, none⟩ rfl)
        have O6 := hI (OX.out.alloc (.cells (encW (a, b, sc, nm)).toArray 130))
        have B6 := hI (HB2.out.alloc HB2.out.size (.cells (encW (a, b, sc, nm)).toArray 130))
        go_wp2_with (at_builtin; refine wpList_app slW rfl (.tmp 209) (.tmp 211) rfl u.heap.size _ PR.length (PR.flatMap encW) rfl O6.out (some ⟨wc.heap.size, 0, none⟩) 1 1 (encW (a, b, sc, nm)) rfl (fun q => by cases q) rfl N5.out (encW_one _) (by unfold maxLen; omega) (by omega) (by rw [World.size_alloc]; omega) ?_; intro v7 w7 ho7 ha7; have O7 := hI ho7; have A7 := hI ha7.grown; clear ho7 ha7)
        refine ⟨⟨k + 1, by omega, by go_num, hI ?_, hI (B6.out.grown A7.out B6.out.size (fun q hq => (O6.out.lt q hq).1))⟩, by simp [intOf]; omega⟩
        have := O7.out
        rw [encs_snoc] at this
        rw [INK2.out, List.length_append]
        exact this
      · rw [if_neg hsc] at INK2
        go_wp2_with fail
        exact ⟨⟨k + 1, by omega, by go_num, hI (by rw [INK2.out]; exact OX.out), HB2⟩, by simp [intOf]; omega⟩
    · have hke : k = T.length := by omega
      subst hke
      go_wp2_with fail
      exact hexit.out _ _ _ _ _ _ _ _ _ _ _ _ _ _ _ _ _ _ _ _ _ _ _ _ _ _ _ _ _ _ _ _ _ _ _ _ _ _ _ _ _ _ _ _ _ _ _ _ _ _ ho hb
noncomputable def rtab_code : Code := (((Tryz.f23.body.map loopsIn).getD []).getD 3 .skip)
set_option maxRecDepth 100000 in
set_option maxHeartbeats 4000000 in
theorem rtab (u : World) (l : List Chg) (A : Option Addr) (c : Nat) (hl : LReads u u.heap.size A l) (ok : Oks l) (S T : List Nat) (hS : ∀ k ∈ S, k < l.length) (hT : ∀ k ∈ T, k < l.length) (hSn : S.length ≤ 40) (hTn : T.length ≤ 40) (hln : l.length ≤ 40) (D1 D2 D4 D5 : Option Addr) (d1 d2 d4 d5 : Nat) (h1 : Rv u.heap.size u D1 (ntI2 S)) (h2 : Rv u.heap.size u D2 (ntI2 T)) (us vs : List Value) (xs ys : List (List UInt8)) (h4 : Txr u D4 us xs) (h5 : Txr u D5 vs ys) (hxl : xs.length = S.length) (hyl : ys.length = T.length) (ls : Int) (w : World) (hub : Below u.heap.size u w)  (Q0 : Exit → Act → World → Prop) (z0 z2 z3 z4 z5 z6 z7 z8 z9 z13 z16 z17 z18 z19 z20 z21 z24 z25 z26 z27 z28 z29 z30 z31 z32 z33 z34 z35 z36 z37 z38 z39 z40 z41 z42 z43 z44 z45 z46 z47 z48 z49 z50 z51 z52 z53 z54 z55 z56 z57 z58 z59 z60 z61 z62 z63 z64 z65 z66 z67 z68 z69 z70 z71 z72 z73 z74 z75 z76 z77 z78 z79 z80 z81 z82 z83 z84 z85 z86 z87 z88 z89 z90 z91 z92 z93 z94 z95 z96 z97 z98 z99 z100 z101 z102 z103 z104 z105 z106 z107 z108 z109 z110 z111 z112 z113 z114 z115 z116 z117 z118 z119 z120 z121 z122 z123 z124 z125 z126 z127 z128 z129 z130 z131 z132 z133 z134 z135 z136 z137 z138 z139 z140 z141 z142 z143 z144 z145 z146 z147 z148 z149 z150 z151 z152 z153 z154 z155 z156 z157 z158 z159 z160 z161 z162 z163 z164 z165 z166 z167 z168 z169 z170 z171 z172 z173 z174 z175 z176 z177 z178 z179 z180 z181 z182 z183 z184 z185 z186 z187 z188 z189 z190 z191 z192 z193 z194 z195 z196 z197 z198 z199 z200 z201 z202 z203 z204 z205 z206 z207 z208 z209 z210 z211 z212 z213 z214 z215 z216 z217 z218 z219 z220 z221 z222 z223 z224 z225 z226 z227 z228 z229 z230 z231 z232 z233 z234 z235 z236 z237 z238 z239 z240 z241 z242 z243 z244 z245 z246 z247 z248 z249 z250 z251 z252 z253 z254 z255 z256 z257 z258 z259 z260 z261 z262 z263 z264 z265 z266 z267 z268 z269 z270 z271 z272 z273 z274 z275 z276 z277 z278 z279 z280 z281 z282 z283 z284 z285 z286 z287 z288 z289 : Value)
    (hpan : ∀ c a o v w, Q0 (.panic c) (Act.put a o v) w → Q0 (.panic c) a w)
    (hexit : Hid (∀ (v : Value) (wr : World) (y24 y25 y160 y161 y162 y163 y164 y165 y166 y167 y168 y169 y170 y171 y172 y173 y174 y175 y176 y177 y178 y179 y180 y181 y182 y183 y184 y185 y186 y187 y188 y189 y190 y191 y192 y193 y194 y195 y196 y197 y198 y199 y200 y201 y202 y203 y204 y205 y206 y207 y208 y209 y210 y211 y212 : Value), Hid (wr.ownsRow u.heap.size 130 4 v (rowTo l S T xs ys ls S.length).length ((rowTo l S T xs ys ls S.length).flatMap encW)) → Hid (Below u.heap.size u wr) → Q0 (.exit 6) ⟨List.toArray (z0::(.slice A l.length c)::z2::z3::z4::z5::z6::z7::z8::z9::(.int .i64 ls)::(.slice D1 S.length d1)::(.slice D2 T.length d2)::z13::(.slice D4 xs.length d4)::(.slice D5 ys.length d5)::z16::z17::z18::z19::z20::z21::v::(.int .i64 (S.length : Int))::y24::y25::z26::z27::z28::z29::z30::z31::z32::z33::z34::z35::z36::z37::z38::z39::z40::z41::z42::z43::z44::z45::z46::z47::z48::z49::z50::z51::z52::z53::z54::z55::z56::z57::z58::z59::z60::z61::z62::z63::z64::z65::z66::z67::z68::z69::z70::z71::z72::z73::z74::z75::z76::z77::z78::z79::z80::z81::z82::z83::z84::z85::z86::z87::z88::z89::z90::z91::z92::z93::z94::z95::z96::z97::z98::z99::z100::z101::z102::z103::z104::z105::z106::z107::z108::z109::z110::z111::z112::z113::z114::z115::z116::z117::z118::z119::z120::z121::z122::z123::z124::z125::z126::z127::z128::z129::z130::z131::z132::z133::z134::z135::z136::z137::z138::z139::z140::z141::z142::z143::z144::z145::z146::z147::z148::z149::z150::z151::z152::z153::z154::z155::z156::z157::z158::z159::y160::y161::y162::y163::y164::y165::y166::y167::y168::y169::y170::y171::y172::y173::y174::y175::y176::y177::y178::y179::y180::y181::y182::y183::y184::y185::y186::y187::y188::y189::y190::y191::y192::y193::y194::y195::y196::y197::y198::y199::y200::y201::y202::y203::y204::y205::y206::y207::y208::y209::y210::y211::y212::z213::z214::z215::z216::z217::z218::z219::z220::z221::z222::z223::z224::z225::z226::z227::z228::z229::z230::z231::z232::z233::z234::z235::z236::z237::z238::z239::z240::z241::z242::z243::z244::z245::z246::z247::z248::z249::z250::z251::z252::z253::z254::z255::z256::z257::z258::z259::z260::z261::z262::z263::z264::z265::z266::z267::z268::z269::z270::z271::z272::z273::z274::z275::z276::z277::z278::z279::z280::z281::z282::z283::z284::z285::z286::z287::z288::z289::[]), []⟩ wr)) :
    Code.wp Tryz.prog (Code.loop rtab_code) Q0 ⟨List.toArray (z0::(.slice A l.length c)::z2::z3::z4::z5::z6::z7::z8::z9::(.int .i64 ls)::(.slice D1 S.length d1)::(.slice D2 T.length d2)::z13::(.slice D4 xs.length d4)::(.slice D5 ys.length d5)::z16::z17::z18::z19::z20::z21::(.slice none 0 0)::(.int .i64 0)::z24::z25::z26::z27::z28::z29::z30::z31::z32::z33::z34::z35::z36::z37::z38::z39::z40::z41::z42::z43::z44::z45::z46::z47::z48::z49::z50::z51::z52::z53::z54::z55::z56::z57::z58::z59::z60::z61::z62::z63::z64::z65::z66::z67::z68::z69::z70::z71::z72::z73::z74::z75::z76::z77::z78::z79::z80::z81::z82::z83::z84::z85::z86::z87::z88::z89::z90::z91::z92::z93::z94::z95::z96::z97::z98::z99::z100::z101::z102::z103::z104::z105::z106::z107::z108::z109::z110::z111::z112::z113::z114::z115::z116::z117::z118::z119::z120::z121::z122::z123::z124::z125::z126::z127::z128::z129::z130::z131::z132::z133::z134::z135::z136::z137::z138::z139::z140::z141::z142::z143::z144::z145::z146::z147::z148::z149::z150::z151::z152::z153::z154::z155::z156::z157::z158::z159::z160::z161::z162::z163::z164::z165::z166::z167::z168::z169::z170::z171::z172::z173::z174::z175::z176::z177::z178::z179::z180::z181::z182::z183::z184::z185::z186::z187::z188::z189::z190::z191::z192::z193::z194::z195::z196::z197::z198::z199::z200::z201::z202::z203::z204::z205::z206::z207::z208::z209::z210::z211::z212::z213::z214::z215::z216::z217::z218::z219::z220::z221::z222::z223::z224::z225::z226::z227::z228::z229::z230::z231::z232::z233::z234::z235::z236::z237::z238::z239::z240::z241::z242::z243::z244::z245::z246::z247::z248::z249::z250::z251::z252::z253::z254::z255::z256::z257::z258::z259::z260::z261::z262::z263::z264::z265::z266::z267::z268::z269::z270::z271::z272::z273::z274::z275::z276::z277::z278::z279::z280::z281::z282::z283::z284::z285::z286::z287::z288::z289::[]), []⟩ w := by
  conv => arg 2; arg 1; whnf
  have HL := hI hl
  have HK := hI ok
  have HS := hI hS
  have HT := hI hT
  have H1 := hI h1
  have H2 := hI h2
  have H4 := hI h4
  have H5 := hI h5
  have HXL := hI hxl
  have HYL := hI hyl
  have HUB := hI hub
  clear hl ok hS hT h1 h2 h4 h5 hxl hyl hub
  go_loopw [22, 23] (fun vv iv wr => ∃ i : Nat, i ≤ S.length ∧ iv = .int .i64 i ∧ Hid (wr.ownsRow u.heap.size 130 4 vv (rowTo l S T xs ys ls i).length ((rowTo l S T xs ys ls i).flatMap encW)) ∧ Hid (Below u.heap.size u wr)) (fun _ iv _ => S.length - (intOf iv).toNat)
  case atStart => exact ⟨0, Nat.zero_le _, rfl, hI (World.ownsRow_nil _ _ _ _), HUB⟩
  case round =>
    clear HUB
    obtain ⟨i, hi, rfl, ho, hb⟩ := hrel
    by_cases hlt : i < S.length
    · have RS := hI (rowTo_succ l S T xs ys ls i)
      rw [HYL.out] at RS
      have RL : (rowTo l S T xs ys ls i).length ≤ 1600 := Nat.le_trans (rowTo_len l S T xs ys ls i) (by rw [HYL.out]; exact Nat.le_trans (Nat.mul_le_mul (show i ≤ 40 by omega) hTn) (by omega))
      go_wp2_with fail
      refine rrow u l A c HL.out HK.out S T HS.out HT.out hSn hTn hln D1 D2 D4 D5 d1 d2 d4 d5 H1.out H2.out us vs xs ys H4.out H5.out HXL.out HYL.out ls wr hb.out i hlt (rowTo l S T xs ys ls i) RL _ ho.out _ _ _ _ _ _ _ _ _ _ _ _ _ _ _ _ _ _ _ _ _ _ _ _ _ _ _ _ _ _ _ _ _ _ _ _ _ _ _ _ _ _ _ _ _ _ _ _ _ _ _ _ _ _ _ _ _ _ _ _ _ _ _ _ _ _ _ _ _ _ _ _ _ _ _ _ _ _ _ _ _ _ _ _ _ _ _ _ _ _ _ _ _ _ _ _ _ _ _ _ _ _ _ _ _ _ _ _ _ _ _ _ _ _ _ _ _ _ _ _ _ _ _ _ _ _ _ _ _ _ _ _ _ _ _ _ _ _ _ _ _ _ _ _ _ _ _ _ _ _ _ _ _ _ _ _ _ _ _ _ _ _ _ _ _ _ _ _ _ _ _ _ _ _ _ _ _ _ _ _ _ _ _ _ _ _ _ _ _ _ _ _ _ _ _ _ _ _ _ _ _ _ _ _ _ _ _ _ _ _ _ _ _ _ _ _ _ _ _ _ _ _ _ _ _ _ _ _ _ _ _ _ _ _ _ _ _ _ _ _ _ _ _ _ _ _ _ _ _ _ _ _ _ _ _ _ _ _ _ _ _ _ _ _ _ _ _ _ _ _ _ _ _ _ _ _ _ _ _ _ _ _ (fun c a o v w h => hpan c a o v w h) ?_
      refine hI ?_
      intro v w2
      intros
      rename_i ho2 hb2
      go_wp2_with fail
      exact ⟨⟨i + 1, by omega, by go_num, hI (by rw [RS.out]; exact ho2.out), hb2⟩, by simp [intOf]; omega⟩
    · have hke : i = S.length := by omega
      subst hke
      go_wp2_with fail
      exact hexit.out _ _ _ _ _ _ _ _ _ _ _ _ _ _ _ _ _ _ _ _ _ _ _ _ _ _ _ _ _ _ _ _ _ _ _ _ _ _ _ _ _ _ _ _ _ _ _ _ _ _ _ _ _ _ _ _ _ ho hb
end Go.Proofs.YtbmpidacoohdmaaGreat

/- sleuthref26.near's innermost search for the best pair, as a law of the loop. sleuthref26.near's outer loop: the best pair again and again, as a law of the loop. -/
import Derived.Test.YtbmpidacoohdmaaGreatF40
import Derived.Deep.CutRange
namespace Go.Proofs.YtbmpidacoohdmaaGreat
open Lib renaming hid → hI
open Go.RowKit Op
open Rn (Chg LReads CellsAt St Flds rowsS int_at boo_at)

theorem best_lt (s : St) (rows : List Rw) (k : Nat) (hk : k ≤ rows.length) : bestTo s rows k = -1 ∨ ∃ b : Nat, b < k ∧ bestTo s rows k = b := by
  induction k with
  | zero => exact .inl rfl
  | succ k ih =>
    unfold bestTo
    split
    · exact .inr ⟨k, by omega, rfl⟩
    · rcases ih (by omega) with h | ⟨b, h1, h2⟩
      · exact .inl h
      · exact .inr ⟨b, by omega, h2⟩
noncomputable def rbest_code : Code := (loopsIn (((Tryz.f23.body.map loopsIn).getD []).getD 4 .skip)).getD 0 .skip
set_option maxRecDepth 100000 in
set_option maxHeartbeats 1000000 in
theorem rbest (w : World) (B h : Nat) (v0 v1 v2 v3 : Value) (n : Nat) (r : St) (hf : Flds w B h 73 [v0, v1, v2, v3] (rowsS r)) (hlen : r.fr.length = n ∧ r.sc.length = n ∧ r.kd.length = n ∧ r.tk.length = n) (D : Option Addr) (d : Nat) (rows : List Rw) (hr : Rv w.heap.size w D (rows.flatMap encW)) (hn : rows.length ≤ 1000) (hin : ∀ x ∈ rows, x.1 < n ∧ x.2.1 < n) (_hn2 : n ≤ 1000) (hD0 : ∀ ad, D = some ad → ∃ G, ad = ⟨G, 0, none⟩) (Q0 : Exit → Act → World → Prop) (z0 z1 z2 z3 z4 z5 z7 z8 z9 z10 z11 z12 z13 z14 z15 z16 z17 z18 z19 z20 z21 z23 z24 z25 z26 z29 z30 z31 z32 z33 z34 z35 z36 z37 z38 z39 z40 z41 z42 z43 z44 z45 z46 z47 z48 z49 z50 z51 z52 z53 z54 z55 z56 z57 z58 z59 z60 z61 z62 z63 z64 z65 z66 z67 z68 z69 z70 z71 z72 z73 z74 z75 z76 z77 z78 z79 z80 z81 z82 z83 z84 z85 z86 z87 z88 z89 z90 z91 z92 z93 z94 z95 z96 z97 z98 z99 z100 z101 z102 z103 z104 z105 z106 z107 z108 z109 z110 z111 z112 z113 z114 z115 z116 z117 z118 z119 z120 z121 z122 z123 z124 z125 z126 z127 z128 z129 z130 z131 z132 z133 z134 z135 z136 z137 z138 z139 z140 z141 z142 z143 z144 z145 z146 z147 z148 z149 z150 z151 z152 z153 z154 z155 z156 z157 z158 z159 z160 z161 z162 z163 z164 z165 z166 z167 z168 z169 z170 z171 z172 z173 z174 z175 z176 z177 z178 z179 z180 z181 z182 z183 z184 z185 z186 z187 z188 z189 z190 z191 z192 z193 z194 z195 z196 z197 z198 z199 z200 z201 z202 z203 z204 z205 z206 z207 z208 z209 z210 z211 z212 z213 z214 z215 z216 z217 z218 z219 z220 z221 z222 z223 z224 z225 z226 z227 z228 z229 z230 z231 z232 z233 z234 z235 z236 z237 z238 z239 z240 z241 z242 z243 z244 z245 z246 z247 z248 z249 z250 z251 z252 z253 z254 z255 z256 z257 z258 z259 z260 z261 z262 z263 z264 z265 z266 z267 z268 z269 z270 z271 z272 z273 z274 z275 z276 z277 z278 z279 z280 z281 z282 z283 z284 z285 z286 z287 z288 z289 : Value)
    (hexit : Hid (∀ (wr : World) (y219 y220 y221 y222 y223 y224 y225 y226 y227 y228 y229 y230 y231 y232 y233 y234 y235 y236 y237 y238 y239 y240 y241 y242 y243 y244 y245 y246 y247 y248 y249 y250 y251 y252 y253 y254 y255 y256 y257 y258 y259 : Value), Hid (Below w.heap.size w wr) → Q0 (.exit 12) ⟨List.toArray (z0::z1::z2::z3::z4::z5::(.pointer (some ⟨h, 0, none⟩))::z7::z8::z9::z10::z11::z12::z13::z14::z15::z16::z17::z18::z19::z20::z21::(.slice D rows.length d)::z23::z24::z25::z26::(.int .i64 (bestTo r rows rows.length))::(.int .i64 (rows.length : Int))::z29::z30::z31::z32::z33::z34::z35::z36::z37::z38::z39::z40::z41::z42::z43::z44::z45::z46::z47::z48::z49::z50::z51::z52::z53::z54::z55::z56::z57::z58::z59::z60::z61::z62::z63::z64::z65::z66::z67::z68::z69::z70::z71::z72::z73::z74::z75::z76::z77::z78::z79::z80::z81::z82::z83::z84::z85::z86::z87::z88::z89::z90::z91::z92::z93::z94::z95::z96::z97::z98::z99::z100::z101::z102::z103::z104::z105::z106::z107::z108::z109::z110::z111::z112::z113::z114::z115::z116::z117::z118::z119::z120::z121::z122::z123::z124::z125::z126::z127::z128::z129::z130::z131::z132::z133::z134::z135::z136::z137::z138::z139::z140::z141::z142::z143::z144::z145::z146::z147::z148::z149::z150::z151::z152::z153::z154::z155::z156::z157::z158::z159::z160::z161::z162::z163::z164::z165::z166::z167::z168::z169::z170::z171::z172::z173::z174::z175::z176::z177::z178::z179::z180::z181::z182::z183::z184::z185::z186::z187::z188::z189::z190::z191::z192::z193::z194::z195::z196::z197::z198::z199::z200::z201::z202::z203::z204::z205::z206::z207::z208::z209::z210::z211::z212::z213::z214::z215::z216::z217::z218::y219::y220::y221::y222::y223::y224::y225::y226::y227::y228::y229::y230::y231::y232::y233::y234::y235::y236::y237::y238::y239::y240::y241::y242::y243::y244::y245::y246::y247::y248::y249::y250::y251::y252::y253::y254::y255::y256::y257::y258::y259::z260::z261::z262::z263::z264::z265::z266::z267::z268::z269::z270::z271::z272::z273::z274::z275::z276::z277::z278::z279::z280::z281::z282::z283::z284::z285::z286::z287::z288::z289::[]), []⟩ wr)) :
    Code.wp Tryz.prog (Code.loop rbest_code) Q0 ⟨List.toArray (z0::z1::z2::z3::z4::z5::(.pointer (some ⟨h, 0, none⟩))::z7::z8::z9::z10::z11::z12::z13::z14::z15::z16::z17::z18::z19::z20::z21::(.slice D rows.length d)::z23::z24::z25::z26::(.int .i64 (-1))::(.int .i64 0)::z29::z30::z31::z32::z33::z34::z35::z36::z37::z38::z39::z40::z41::z42::z43::z44::z45::z46::z47::z48::z49::z50::z51::z52::z53::z54::z55::z56::z57::z58::z59::z60::z61::z62::z63::z64::z65::z66::z67::z68::z69::z70::z71::z72::z73::z74::z75::z76::z77::z78::z79::z80::z81::z82::z83::z84::z85::z86::z87::z88::z89::z90::z91::z92::z93::z94::z95::z96::z97::z98::z99::z100::z101::z102::z103::z104::z105::z106::z107::z108::z109::z110::z111::z112::z113::z114::z115::z116::z117::z118::z119::z120::z121::z122::z123::z124::z125::z126::z127::z128::z129::z130::z131::z132::z133::z134::z135::z136::z137::z138::z139::z140::z141::z142::z143::z144::z145::z146::z147::z148::z149::z150::z151::z152::z153::z154::z155::z156::z157::z158::z159::z160::z161::z162::z163::z164::z165::z166::z167::z168::z169::z170::z171::z172::z173::z174::z175::z176::z177::z178::z179::z180::z181::z182::z183::z184::z185::z186::z187::z188::z189::z190::z191::z192::z193::z194::z195::z196::z197::z198::z199::z200::z201::z202::z203::z204::z205::z206::z207::z208::z209::z210::z211::z212::z213::z214::z215::z216::z217::z218::z219::z220::z221::z222::z223::z224::z225::z226::z227::z228::z229::z230::z231::z232::z233::z234::z235::z236::z237::z238::z239::z240::z241::z242::z243::z244::z245::z246::z247::z248::z249::z250::z251::z252::z253::z254::z255::z256::z257::z258::z259::z260::z261::z262::z263::z264::z265::z266::z267::z268::z269::z270::z271::z272::z273::z274::z275::z276::z277::z278::z279::z280::z281::z282::z283::z284::z285::z286::z287::z288::z289::[]), []⟩ w := by
  conv => arg 2; arg 1; whnf
  have HF := hI hf
  have HR := hI hr
  have LEN := hI hlen
  have HIN := hI hin
  have HD0 := hI hD0
  clear hf hr hlen hin hD0
  go_loopw [27, 28] (fun bv kv wr => ∃ k : Nat, k ≤ rows.length ∧ bv = .int .i64 (bestTo r rows k) ∧ kv = .int .i64 k ∧ Hid (Below w.heap.size w wr)) (fun _ kv _ => rows.length - (intOf kv).toNat)
  case atStart => exact ⟨0, Nat.zero_le _, rfl, rfl, hI (Below.refl _ _)⟩
  case round =>
    obtain ⟨k, hk, rfl, rfl, hb⟩ := hrel
    by_cases hlt : k < rows.length
    · obtain ⟨x, hx⟩ : ∃ x, rows.getD k default = x := ⟨_, rfl⟩
      have hmx : x ∈ rows := by rw [← hx, List.getD_eq_getElem?_getD, List.getElem?_eq_getElem hlt]; exact List.getElem_mem hlt
      obtain ⟨hi1, hi2⟩ := HIN.out x hmx
      have BS : Hid (bestTo r rows (k + 1) = if elig r x && (decide (bestTo r rows k < 0) || ahd x (rows.getD (bestTo r rows k).toNat default)) then (k : Int) else bestTo r rows k) := hI (by rw [← hx]; rfl)
      obtain ⟨lF, lS, lK, lT⟩ := LEN.out
      have h4 : Flds wr B h 73 [v0, v1, v2, v3] (rowsS r) := HF.out.later (Rn.later_of_below hb.out (Nat.le_refl _))
      obtain ⟨KB, cK, rfl, _, zK, gK, eK, fK⟩ := h4.at_ (i := 1) (k := x.2.1) (v := v1) rfl rfl (int_at (by omega))
      obtain ⟨TB, cT, rfl, _, zT, gT, eT, fT⟩ := h4.at_ (i := 3) (k := x.1) (v := v3) rfl rfl (boo_at (by omega))
      have ck : wr.cell? ⟨h, 1, none⟩ = some (.slice (some ⟨KB, 0, none⟩) n cK) := (h4.cell 1).trans (by rw [show (Rn.ints r.kd).length = n by simp [Rn.ints, lK]]; rfl)
      have ct : wr.cell? ⟨h, 3, none⟩ = some (.slice (some ⟨TB, 0, none⟩) n cT) := (h4.cell 3).trans (by rw [show (Rn.boos r.tk).length = n by simp [Rn.boos, lT]]; rfl)
      have EL : Hid (elig r x = (!r.tk.getD x.1 false && !decide (0 < r.kd.getD x.2.1 0))) := hI rfl
      have hrv := HR.out.low hb.out hb.out.size
      obtain ⟨ad, e1, _, c0⟩ := hrv.at_ (k := k * 4 + 0) (x := .int .i64 (x.1 : Int)) (by rw [encW_at rows hlt (by omega), hx]; rfl)
      obtain ⟨ad1, e2, _, c1⟩ := hrv.at_ (k := k * 4 + 1) (x := .int .i64 (x.2.1 : Int)) (by rw [encW_at rows hlt (by omega), hx]; rfl)
      obtain rfl := Option.some.inj (e2.symm.trans e1)
      subst e1
      obtain ⟨G, rfl⟩ := HD0.out _ rfl
      rw [Addr.add_lit, Nat.zero_add] at c0 c1
      rw [Nat.add_zero] at c0
      have HC4 := hI (fun (W : World) (hW : Below wr.heap.size wr W) j (hj : j < rows.length) => row_cells (hrv.low hW hW.size) hj)
      clear h4 lF lS lK lT fK fT gK gT zK zT hrv
      generalize r.tk.getD x.1 false = tb at *
      generalize r.kd.getD x.2.1 0 = kd at *
      obtain ⟨x1, x2, x3, x4⟩ := x
      simp only at hi1 hi2 c0 c1 eK eT
      have mixed : Tryz.prog.follows .mixedOrders = true := by kernel_rfl
      have u22 := run_underlying Tryz.underlying127
      have b1 : (k : Int) < (rows.length : Int) := by omega
      have b2 : (x1 : Int) < (n : Int) := by omega
      have b3 : (x2 : Int) < (n : Int) := by omega
      have b4 : (0 : Int) ≤ (k : Int) := by omega
      cases tb with
      | true =>
        have BE : Hid (bestTo r rows (k + 1) = bestTo r rows k) := hI (by rw [BS.out, EL.out]; rfl)
        clear BS EL
        go_wp2_with fail
        refine wp_region_quiet_lit (by kernel_rfl) (by kernel_rfl) ?_
        repeat (go_big_quiet_step (fail))
        refine wpQuiet_nil ?_
        rintro _ ⟨n1, rfl⟩
        go_wp2_with fail
        exact ⟨⟨k + 1, by omega, by rw [BE.out], by go_num, hI (below_dr hb.out n1)⟩, by simp [intOf]; omega⟩
      | false =>
        by_cases hkd : 0 < kd
        · have BE : Hid (bestTo r rows (k + 1) = bestTo r rows k) := hI (by rw [BS.out, EL.out, decide_eq_true hkd]; rfl)
          clear BS EL
          go_wp2_with fail
          refine wp_region_quiet_lit (by kernel_rfl) (by kernel_rfl) ?_
          repeat (go_big_quiet_step (fail))
          refine wpQuiet_nil ?_
          rintro _ ⟨n1, rfl⟩
          go_wp2_with fail
          exact ⟨⟨k + 1, by omega, by rw [BE.out], by go_num, hI (below_dr hb.out n1)⟩, by simp [intOf]; omega⟩
        · have BE : Hid (bestTo r rows (k + 1) = if (decide (bestTo r rows k < 0) || ahd (x1, x2, x3, x4) (rows.getD (bestTo r rows k).toNat default)) then (k : Int) else bestTo r rows k) := hI (by rw [BS.out, EL.out, decide_eq_false hkd]; rfl)
          clear BS EL
          go_wp2_with fail
          refine wp_region_quiet_lit (by kernel_rfl) (by kernel_rfl) ?_
          repeat (go_big_quiet_step (fail))
          refine wpQuiet_nil ?_
          rintro _ ⟨n1, rfl⟩
          rcases best_lt r rows k (by omega) with hbm | ⟨b, hb1, hbm⟩
          · have BF : Hid (bestTo r rows (k + 1) = (k : Int)) := hI (by rw [BE.out, hbm]; rfl)
            clear BE
            rw [hbm]
            go_wp2_with fail
            refine wp_region_quiet_lit (by kernel_rfl) (by kernel_rfl) ?_
            repeat (go_big_quiet_step (fail))
            refine wpQuiet_nil ?_
            rintro _ ⟨n2, rfl⟩
            go_wp2_with fail
            exact ⟨⟨k + 1, by omega, by rw [BF.out], by go_num, hI (below_dr hb.out (n1 + n2))⟩, by simp [intOf]; omega⟩
          · have hbn : ¬ ((b : Int) < 0) := by omega
            have hbd : decide ((b : Int) < 0) = false := decide_eq_false hbn
            have hbl : (b : Int) < (rows.length : Int) := by omega
            have hb0 : (0 : Int) ≤ (b : Int) := by omega
            rw [hbm, Int.toNat_natCast, decide_eq_false hbn, Bool.false_or] at BE
            rw [hbm]
            have HK : Hid (∀ W, (∃ U : Aft (wr.drewN n1), W = U.W) → CellsAt W ⟨G, k * 4, none⟩ (encW (x1, x2, x3, x4))) := hI (by
              rintro W ⟨U, rfl⟩
              have := HC4.out U.W ((below_dr (Below.refl wr.heap.size wr) n1).trans U.h) k hlt
              rwa [hx] at this)
            have HB : Hid (∀ W, (∃ U : Aft (wr.drewN n1), W = U.W) → CellsAt W ⟨G, b * 4, none⟩ (encW (rows.getD b default))) := hI (by
              rintro W ⟨U, rfl⟩
              exact HC4.out U.W ((below_dr (Below.refl wr.heap.size wr) n1).trans U.h) b (by omega))
            clear HC4 hx
            obtain ⟨y, hy⟩ : ∃ y, rows.getD b default = y := ⟨_, rfl⟩
            rw [hy] at HB
            have HAH := hI (fun W => (ahead_any W (x1, x2, x3, x4) y).mono fun e w2 h => And.intro h.1 (show Below W.heap.size W w2 by obtain ⟨os, e2⟩ := h.2; rw [e2]; exact below_grw _ _))
            go_wp2_with fail
            refine wp_region_aft (by kernel_rfl) (by kernel_rfl) ?_
            repeat (first
              | (go_big_quiet_want; refine quiet_load_cells 130 _ rfl _ rfl (encW (x1, x2, x3, x4)) Tryz.underlying130 rfl infoW HK.out ?_; simp only [Act.put, List.setIfInBounds_toArray, List.set_cons_succ, List.set_cons_zero]; go_big_quiet_on)
              | (go_big_quiet_want; refine quiet_load_cells 130 _ rfl _ rfl (encW y) Tryz.underlying130 rfl infoW HB.out ?_; simp only [Act.put, List.setIfInBounds_toArray, List.set_cons_succ, List.set_cons_zero]; go_big_quiet_on)
              | go_big_quiet_step (with_reducible exact aft_call (HAH.out _)))
            refine wpQuiet_nil ?_
            rintro _ ⟨W1, rfl⟩
            have HBW := hI ((below_dr hb.out n1).trans (W1.h.mono (below_dr hb.out n1).size))
            generalize W1.W = w5 at *
            rw [hy] at BE
            generalize ahd (x1, x2, x3, x4) y = q at *
            cases q with
            | true =>
              have BF : Hid (bestTo r rows (k + 1) = (k : Int)) := hI BE.out
              clear BE
              go_wp2_with fail
              exact ⟨⟨k + 1, by omega, by rw [BF.out], by go_num, HBW⟩, by simp [intOf]; omega⟩
            | false =>
              have BF : Hid (bestTo r rows (k + 1) = (b : Int)) := hI (BE.out.trans (if_neg (by simp)))
              clear BE
              go_wp2_with fail
              exact ⟨⟨k + 1, by omega, by rw [BF.out], by go_num, HBW⟩, by simp [intOf]; omega⟩
    · have hke : k = rows.length := by omega
      subst hke
      go_wp2_with fail
      exact hexit.out _ _ _ _ _ _ _ _ _ _ _ _ _ _ _ _ _ _ _ _ _ _ _ _ _ _ _ _ _ _ _ _ _ _ _ _ _ _ _ _ _ _ hb
end Go.Proofs.YtbmpidacoohdmaaGreat
namespace Go.Proofs.YtbmpidacoohdmaaGreat
open Lib renaming hid → hI
open Go.RowKit Op
open Rn (Chg LReads CellsAt St Flds rowsS int_at boo_at info3c info4c)

attribute [local go_sem ↓] ldW_eq
theorem titer_lens {n : Nat} (rows : List Rw) (r : St) (h : r.fr.length = n ∧ r.sc.length = n ∧ r.kd.length = n ∧ r.tk.length = n) : ∀ k, (titer rows r k).fr.length = n ∧ (titer rows r k).sc.length = n ∧ (titer rows r k).kd.length = n ∧ (titer rows r k).tk.length = n
  | 0 => h
  | k + 1 => by
    have ih := titer_lens rows r h k
    show (tstep rows (titer rows r k)).fr.length = n ∧ (tstep rows (titer rows r k)).sc.length = n ∧ (tstep rows (titer rows r k)).kd.length = n ∧ (tstep rows (titer rows r k)).tk.length = n
    unfold tstep
    split
    · exact ih
    · unfold putR Rn.pairSt
      simp only [List.length_set]
      exact ih
/-- The blocks of Found's rows. -/
def FB (v0 v1 v2 v3 : Value) (q : Nat) : Prop := v0.ownBlock = some q ∨ v1.ownBlock = some q ∨ v2.ownBlock = some q ∨ v3.ownBlock = some q
theorem Chs.set {S : Nat → Prop} {w w2 : World} (h : Chs S w w2) {g k : Nat} (hg : S g) (x : Value) : Chs S w (w2.setCell ⟨g, k, none⟩ x) :=
  h.trans ⟨rfl, rfl, rfl, by rw [World.size_setCell]; exact Nat.le_refl _, fun q _ hq => Below.heap_setCell _ _ _ _ (fun e => hq (by have : q = g := e; rw [this]; exact hg))⟩
noncomputable def rturn_code : Code := ((Tryz.f23.body.map loopsIn).getD []).getD 4 .skip
set_option maxRecDepth 100000 in
set_option maxHeartbeats 1000000 in
theorem rturn (w : World) (B h : Nat) (v0 v1 v2 v3 : Value) (n : Nat) (r : St) (hf : Flds w B h 73 [v0, v1, v2, v3] (rowsS r)) (hlen : r.fr.length = n ∧ r.sc.length = n ∧ r.kd.length = n ∧ r.tk.length = n) (D : Option Addr) (d : Nat) (rows : List Rw) (hr : Rv w.heap.size w D (rows.flatMap encW)) (hn : rows.length ≤ 1000) (hin : ∀ x ∈ rows, x.1 < n ∧ x.2.1 < n) (hn2 : n ≤ 1000) (hD0 : ∀ ad, D = some ad → ∃ G, ad = ⟨G, 0, none⟩) (hDF : ∀ ad, D = some ad → ¬ FB v0 v1 v2 v3 ad.block) (Q0 : Exit → Act → World → Prop) (z0 z1 z2 z3 z4 z5 z7 z8 z9 z10 z11 z12 z13 z14 z15 z16 z17 z18 z19 z20 z21 z23 z24 z25 z27 z28 z29 z30 z31 z32 z33 z34 z35 z36 z37 z38 z39 z40 z41 z42 z43 z44 z45 z46 z47 z48 z49 z50 z51 z52 z53 z54 z55 z56 z57 z58 z59 z60 z61 z62 z63 z64 z65 z66 z67 z68 z69 z70 z71 z72 z73 z74 z75 z76 z77 z78 z79 z80 z81 z82 z83 z84 z85 z86 z87 z88 z89 z90 z91 z92 z93 z94 z95 z96 z97 z98 z99 z100 z101 z102 z103 z104 z105 z106 z107 z108 z109 z110 z111 z112 z113 z114 z115 z116 z117 z118 z119 z120 z121 z122 z123 z124 z125 z126 z127 z128 z129 z130 z131 z132 z133 z134 z135 z136 z137 z138 z139 z140 z141 z142 z143 z144 z145 z146 z147 z148 z149 z150 z151 z152 z153 z154 z155 z156 z157 z158 z159 z160 z161 z162 z163 z164 z165 z166 z167 z168 z169 z170 z171 z172 z173 z174 z175 z176 z177 z178 z179 z180 z181 z182 z183 z184 z185 z186 z187 z188 z189 z190 z191 z192 z193 z194 z195 z196 z197 z198 z199 z200 z201 z202 z203 z204 z205 z206 z207 z208 z209 z210 z211 z212 z213 z214 z215 z216 z217 z218 z219 z220 z221 z222 z223 z224 z225 z226 z227 z228 z229 z230 z231 z232 z233 z234 z235 z236 z237 z238 z239 z240 z241 z242 z243 z244 z245 z246 z247 z248 z249 z250 z251 z252 z253 z254 z255 z256 z257 z258 z259 z260 z261 z262 z263 z264 z265 z266 z267 z268 z269 z270 z271 z272 z273 z274 z275 z276 z277 z278 z279 z280 z281 z282 z283 z284 z285 z286 z287 z288 z289 : Value)
    (hexit : Hid (∀ (wr : World) (y26 y27 y28 y29 y213 y214 y215 y216 y217 y218 y219 y220 y221 y222 y223 y224 y225 y226 y227 y228 y229 y230 y231 y232 y233 y234 y235 y236 y237 y238 y239 y240 y241 y242 y243 y244 y245 y246 y247 y248 y249 y250 y251 y252 y253 y254 y255 y256 y257 y258 y259 y260 y261 y262 y263 y264 y265 y266 y267 y268 y269 y270 y271 y272 y273 y274 y275 y276 y277 y278 y279 y280 y281 y282 y283 y284 y285 y286 y287 y288 y289 : Value), Hid (Flds wr B h 73 [v0, v1, v2, v3] (rowsS (titer rows r rows.length))) → Hid (Chs (FB v0 v1 v2 v3) w wr) → Q0 (.exit 10) ⟨List.toArray (z0::z1::z2::z3::z4::z5::(.pointer (some ⟨h, 0, none⟩))::z7::z8::z9::z10::z11::z12::z13::z14::z15::z16::z17::z18::z19::z20::z21::(.slice D rows.length d)::z23::z24::z25::y26::y27::y28::y29::z30::z31::z32::z33::z34::z35::z36::z37::z38::z39::z40::z41::z42::z43::z44::z45::z46::z47::z48::z49::z50::z51::z52::z53::z54::z55::z56::z57::z58::z59::z60::z61::z62::z63::z64::z65::z66::z67::z68::z69::z70::z71::z72::z73::z74::z75::z76::z77::z78::z79::z80::z81::z82::z83::z84::z85::z86::z87::z88::z89::z90::z91::z92::z93::z94::z95::z96::z97::z98::z99::z100::z101::z102::z103::z104::z105::z106::z107::z108::z109::z110::z111::z112::z113::z114::z115::z116::z117::z118::z119::z120::z121::z122::z123::z124::z125::z126::z127::z128::z129::z130::z131::z132::z133::z134::z135::z136::z137::z138::z139::z140::z141::z142::z143::z144::z145::z146::z147::z148::z149::z150::z151::z152::z153::z154::z155::z156::z157::z158::z159::z160::z161::z162::z163::z164::z165::z166::z167::z168::z169::z170::z171::z172::z173::z174::z175::z176::z177::z178::z179::z180::z181::z182::z183::z184::z185::z186::z187::z188::z189::z190::z191::z192::z193::z194::z195::z196::z197::z198::z199::z200::z201::z202::z203::z204::z205::z206::z207::z208::z209::z210::z211::z212::y213::y214::y215::y216::y217::y218::y219::y220::y221::y222::y223::y224::y225::y226::y227::y228::y229::y230::y231::y232::y233::y234::y235::y236::y237::y238::y239::y240::y241::y242::y243::y244::y245::y246::y247::y248::y249::y250::y251::y252::y253::y254::y255::y256::y257::y258::y259::y260::y261::y262::y263::y264::y265::y266::y267::y268::y269::y270::y271::y272::y273::y274::y275::y276::y277::y278::y279::y280::y281::y282::y283::y284::y285::y286::y287::y288::y289::[]), []⟩ wr)) :
    Code.wp Tryz.prog (Code.loop rturn_code) Q0 ⟨List.toArray (z0::z1::z2::z3::z4::z5::(.pointer (some ⟨h, 0, none⟩))::z7::z8::z9::z10::z11::z12::z13::z14::z15::z16::z17::z18::z19::z20::z21::(.slice D rows.length d)::z23::z24::z25::(.int .i64 0)::z27::z28::z29::z30::z31::z32::z33::z34::z35::z36::z37::z38::z39::z40::z41::z42::z43::z44::z45::z46::z47::z48::z49::z50::z51::z52::z53::z54::z55::z56::z57::z58::z59::z60::z61::z62::z63::z64::z65::z66::z67::z68::z69::z70::z71::z72::z73::z74::z75::z76::z77::z78::z79::z80::z81::z82::z83::z84::z85::z86::z87::z88::z89::z90::z91::z92::z93::z94::z95::z96::z97::z98::z99::z100::z101::z102::z103::z104::z105::z106::z107::z108::z109::z110::z111::z112::z113::z114::z115::z116::z117::z118::z119::z120::z121::z122::z123::z124::z125::z126::z127::z128::z129::z130::z131::z132::z133::z134::z135::z136::z137::z138::z139::z140::z141::z142::z143::z144::z145::z146::z147::z148::z149::z150::z151::z152::z153::z154::z155::z156::z157::z158::z159::z160::z161::z162::z163::z164::z165::z166::z167::z168::z169::z170::z171::z172::z173::z174::z175::z176::z177::z178::z179::z180::z181::z182::z183::z184::z185::z186::z187::z188::z189::z190::z191::z192::z193::z194::z195::z196::z197::z198::z199::z200::z201::z202::z203::z204::z205::z206::z207::z208::z209::z210::z211::z212::z213::z214::z215::z216::z217::z218::z219::z220::z221::z222::z223::z224::z225::z226::z227::z228::z229::z230::z231::z232::z233::z234::z235::z236::z237::z238::z239::z240::z241::z242::z243::z244::z245::z246::z247::z248::z249::z250::z251::z252::z253::z254::z255::z256::z257::z258::z259::z260::z261::z262::z263::z264::z265::z266::z267::z268::z269::z270::z271::z272::z273::z274::z275::z276::z277::z278::z279::z280::z281::z282::z283::z284::z285::z286::z287::z288::z289::[]), []⟩ w := by
  conv => arg 2; arg 1; whnf
  have HF := hI hf
  have HR := hI hr
  have LEN := hI hlen
  have HIN := hI hin
  have HD0 := hI hD0
  have HDF := hI hDF
  clear hf hr hlen hin hD0 hDF
  go_loopw [26] (fun kv wr => ∃ k : Nat, k ≤ rows.length ∧ kv = .int .i64 k ∧ Hid (Flds wr B h 73 [v0, v1, v2, v3] (rowsS (titer rows r k))) ∧ Hid (Chs (FB v0 v1 v2 v3) w wr)) (fun kv _ => rows.length - (intOf kv).toNat)
  case atStart => exact ⟨0, Nat.zero_le _, rfl, HF, hI (Chs.of_below (Below.refl _ _) _)⟩
  case round =>
    clear HF
    obtain ⟨k, hk, rfl, hF, hC⟩ := hrel
    by_cases hlt : k < rows.length
    · have LK := hI (titer_lens rows r LEN.out k)
      have HST : Hid (titer rows r (k + 1) = tstep rows (titer rows r k)) := hI rfl
      have HEND := hI (fun h : bestTo (titer rows r k) rows rows.length < 0 => titer_end rows r h (Nat.le_of_lt hlt))
      have HRW := hI (rv_chs4 HR.out hC.out HDF.out)
      generalize titer rows r k = st at *
      go_wp2_with fail
      refine rbest wr B h v0 v1 v2 v3 n st hF.out LK.out D d rows HRW.out hn HIN.out hn2 HD0.out _ _ _ _ _ _ _ _ _ _ _ _ _ _ _ _ _ _ _ _ _ _ _ _ _ _ _ _ _ _ _ _ _ _ _ _ _ _ _ _ _ _ _ _ _ _ _ _ _ _ _ _ _ _ _ _ _ _ _ _ _ _ _ _ _ _ _ _ _ _ _ _ _ _ _ _ _ _ _ _ _ _ _ _ _ _ _ _ _ _ _ _ _ _ _ _ _ _ _ _ _ _ _ _ _ _ _ _ _ _ _ _ _ _ _ _ _ _ _ _ _ _ _ _ _ _ _ _ _ _ _ _ _ _ _ _ _ _ _ _ _ _ _ _ _ _ _ _ _ _ _ _ _ _ _ _ _ _ _ _ _ _ _ _ _ _ _ _ _ _ _ _ _ _ _ _ _ _ _ _ _ _ _ _ _ _ _ _ _ _ _ _ _ _ _ _ _ _ _ _ _ _ _ _ _ _ _ _ _ _ _ _ _ _ _ _ _ _ _ _ _ _ _ _ _ _ _ _ _ _ _ _ _ _ _ _ _ _ _ _ _ _ _ _ _ _ _ _ _ _ _ _ _ _ _ _ _ _ _ _ _ _ _ _ _ _ _ _ _ _ _ _ _ _ _ _ _ _ _ _ _ _ _ _ _ _ _ ?_
      refine hI ?_
      intro w2
      intros
      rename_i hb2
      rcases best_lt st rows rows.length (Nat.le_refl _) with hbm | ⟨b, hb1, hbm⟩
      · rw [hbm]
        have HE := hI (HEND.out (by omega))
        clear HEND HST hbm
        go_wp2_with fail
        exact hexit.out _ _ _ _ _ _ _ _ _ _ _ _ _ _ _ _ _ _ _ _ _ _ _ _ _ _ _ _ _ _ _ _ _ _ _ _ _ _ _ _ _ _ _ _ _ _ _ _ _ _ _ _ _ _ _ _ _ _ _ _ _ _ _ _ _ _ _ _ _ _ _ _ _ _ _ _ _ _ _ _ _ _ (hI (by rw [HE.out]; exact hF.out.later (Rn.later_of_below hb2.out (Nat.le_refl _)))) (hI (hC.out.trans (Chs.of_below hb2.out _)))
      · rw [hbm]
        have hbn : ¬ ((b : Int) < 0) := by omega
        have hbl : (b : Int) < (rows.length : Int) := by omega
        have hb0 : (0 : Int) ≤ (b : Int) := by omega
        have HT2 : Hid (titer rows r (k + 1) = putR st (rows.getD b default)) := hI (by rw [HST.out]; unfold tstep; rw [hbm, if_neg hbn, Int.toNat_natCast])
        clear HEND HST hbm
        obtain ⟨x, hx⟩ : ∃ x, rows.getD b default = x := ⟨_, rfl⟩
        have hmx : x ∈ rows := by rw [← hx, List.getD_eq_getElem?_getD, List.getElem?_eq_getElem hb1]; exact List.getElem_mem hb1
        obtain ⟨hi1, hi2⟩ := HIN.out x hmx
        rw [hx] at HT2
        obtain ⟨ad, rfl⟩ : ∃ ad, D = some ad := by
          obtain ⟨ad, e, _⟩ := HRW.out.at_ (k := b * 4 + 0) (x := .int .i64 (x.1 : Int)) (by rw [encW_at rows hb1 (by omega), hx]; rfl)
          exact ⟨ad, e⟩
        obtain ⟨G, rfl⟩ := HD0.out _ rfl
        have HCE := row_cells (HRW.out.low hb2.out hb2.out.size) hb1
        rw [hx] at HCE
        have F2 := hF.out.later (Rn.later_of_below hb2.out (Nat.le_refl _))
        obtain ⟨lF, lS, lK, lT⟩ := LK.out
        obtain ⟨x1, x2, x3, x4⟩ := x
        simp only at hi1 hi2
        obtain ⟨FF, cF, rfl, _, zF, gF, eF, fF⟩ := F2.at_ (i := 0) (k := x2) (v := v0) rfl rfl (int_at (by omega))
        obtain ⟨KB, cK, rfl, _, zK, gK, eK, fK⟩ := F2.at_ (i := 1) (k := x2) (v := v1) rfl rfl (int_at (by omega))
        obtain ⟨SB, cS, rfl, _, zS, gS, eS, fS⟩ := F2.at_ (i := 2) (k := x2) (v := v2) rfl rfl (int_at (by omega))
        obtain ⟨TB, cT, rfl, _, zT, gT, eT, fT⟩ := F2.at_ (i := 3) (k := x1) (v := v3) rfl rfl (boo_at (by omega))
        have hle0 : (Rn.ints st.fr).length = n := by simp [Rn.ints, lF]
        have hle1 : (Rn.ints st.kd).length = n := by simp [Rn.ints, lK]
        have hle2 : (Rn.ints st.sc).length = n := by simp [Rn.ints, lS]
        have hle3 : (Rn.boos st.tk).length = n := by simp [Rn.boos, lT]
        have b2 : (x1 : Int) < (n : Int) := by omega
        have b3 : (x2 : Int) < (n : Int) := by omega
        have hld := ldW HCE
        have F3 := hI (F2.alloc (.cells (encW (x1, x2, x3, x4)).toArray 130))
        have X3 := hI (Ar.new w2 (encW (x1, x2, x3, x4)) 130)
        have C3 := hI ((hC.out.trans (Chs.of_below hb2.out _)).trans (Chs.of_below ((Below.refl w2.heap.size w2).alloc (Nat.le_refl _) (.cells (encW (x1, x2, x3, x4)).toArray 130)) _))
        have N0 : Hid (w2.heap.size ≠ FF ∧ w2.heap.size ≠ KB ∧ w2.heap.size ≠ SB ∧ w2.heap.size ≠ TB) := hI ⟨by omega, by omega, by omega, by omega⟩
        have E0 := hI (F3.out.elem (i := 0) (k := x2) rfl rfl (int_at (xs := st.fr) (by omega)))
        have xc0 := X3.out.cell (k := 0) rfl
        have xc1 := X3.out.cell (k := 1) rfl
        have d0 := F3.out.cell 0
        simp only [List.getElem?_cons_zero, hle0] at d0
        clear eF eK eS eT fF fK fS fT gF gK gS gT hmx hx HCE F2
        go_upto_region 54 with (refine wpList_store_row rfl 130 (.tmp 29) (.tmp 265) rfl w2.heap.size (encW (x1, x2, x3, x4)).toArray rfl rfl 130 _ (heap_alloc_new _ _) infoW rfl (encW_all (x1, x2, x3, x4)) ?_; rw [setRow_alloc_at _ _ _ _ _ rfl])
        generalize w2.heap.size = bx at *
        generalize w2.alloc (.cells (encW (x1, x2, x3, x4)).toArray 130) = w3 at *
        trace_state
        go_wp2_with (first
          | (refine wpList_store1 rfl 3 (.tmp 272) (.tmp 271) rfl ⟨FF, x2, none⟩ rfl (.int .i64 (x1 : Int)) _ rfl rfl info3c E0.out.1 E0.out.2.1 rfl ?_; intro V1 hV1; have G1 := hI (hV1 ▸ F3.out.stored (i := 0) (k := x2) (x := .int .i64 (x1 : Int)) rfl rfl); have X4 := hI (hV1 ▸ X3.out.other ⟨FF, x2, none⟩ (.int .i64 (x1 : Int)) N0.out.1); have C4 := hI (hV1 ▸ C3.out.set (g := FF) (k := x2) (.inl rfl) (.int .i64 (x1 : Int))); clear hV1; have E1 := hI (G1.out.elem (i := 1) (k := x2) rfl rfl (int_at (xs := st.kd) (by omega))); have d1 := G1.out.cell 1; simp only [List.getElem?_cons_succ, List.getElem?_cons_zero, hle1] at d1; have xd1 := X4.out.cell (k := 1) rfl)
          | (refine wpList_store1 rfl 3 (.tmp 277) (.const (.int .i64 4)) rfl ⟨KB, x2, none⟩ rfl (.int .i64 4) _ rfl rfl info3c E1.out.1 E1.out.2.1 rfl ?_; intro V2 hV2; have G2 := hI (hV2 ▸ G1.out.stored (i := 1) (k := x2) (x := .int .i64 4) rfl rfl); have X5 := hI (hV2 ▸ X4.out.other ⟨KB, x2, none⟩ (.int .i64 4) N0.out.2.1); have C5 := hI (hV2 ▸ C4.out.set (g := KB) (k := x2) (.inr (.inl rfl)) (.int .i64 4)); clear hV2; have E2 := hI (G2.out.elem (i := 2) (k := x2) rfl rfl (int_at (xs := st.sc) (by omega))); have d2 := G2.out.cell 2; simp only [List.getElem?_cons_succ, List.getElem?_cons_zero, hle2] at d2; have xe1 := X5.out.cell (k := 1) rfl; have xe2 := X5.out.cell (k := 2) rfl)
          | (refine wpList_store1 rfl 3 (.tmp 284) (.tmp 283) rfl ⟨SB, x2, none⟩ rfl (.int .i64 (x3 : Int)) _ rfl rfl info3c E2.out.1 E2.out.2.1 rfl ?_; intro V3 hV3; have G3 := hI (hV3 ▸ G2.out.stored (i := 2) (k := x2) (x := .int .i64 (x3 : Int)) rfl rfl); have X6 := hI (hV3 ▸ X5.out.other ⟨SB, x2, none⟩ (.int .i64 (x3 : Int)) N0.out.2.2.1); have C6 := hI (hV3 ▸ C5.out.set (g := SB) (k := x2) (.inr (.inr (.inl rfl))) (.int .i64 (x3 : Int))); clear hV3; have E3 := hI (G3.out.elem (i := 3) (k := x1) rfl rfl (boo_at (xs := st.tk) (by omega))); have d3 := G3.out.cell 3; simp only [List.getElem?_cons_succ, List.getElem?_cons_zero, hle3] at d3; have xf0 := X6.out.cell (k := 0) rfl)
          | (refine wpList_store1 rfl 4 (.tmp 289) (.const (.bool true)) rfl ⟨TB, x1, none⟩ rfl (.bool true) _ rfl rfl info4c E3.out.1 E3.out.2.1 rfl ?_; intro V4 hV4; have G4 := hI (hV4 ▸ G3.out.stored (i := 3) (k := x1) (x := .bool true) rfl rfl); have C7 := hI (hV4 ▸ C6.out.set (g := TB) (k := x1) (.inr (.inr (.inr rfl))) (.bool true)); clear hV4))
        refine ⟨⟨k + 1, by omega, by go_num, ?_, C7⟩, by simp [intOf]; omega⟩
        rw [HT2.out]
        change Hid (Flds V4 B h 73 _ (rowsS (Rn.pairSt st x1 x2 (x3 : Int))))
        have hh := G4.out
        simp only [rowsS, Rn.rows4, Rn.pairSt, Rn.ints_set, Rn.boos_set]
        exact hh
    · have hke : k = rows.length := by omega
      subst hke
      go_wp2_with fail
      exact hexit.out _ _ _ _ _ _ _ _ _ _ _ _ _ _ _ _ _ _ _ _ _ _ _ _ _ _ _ _ _ _ _ _ _ _ _ _ _ _ _ _ _ _ _ _ _ _ _ _ _ _ _ _ _ _ _ _ _ _ _ _ _ _ _ _ _ _ _ _ _ _ _ _ _ _ _ _ _ _ _ _ _ _ hF hC
end Go.Proofs.YtbmpidacoohdmaaGreat

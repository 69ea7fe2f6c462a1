/- cache.Bytes by a contract. -/
import Derived.Test.YthhmamkphcgocaaDoorBtc
import Derived.Test.YthhmamkphcgocaaDoorChk
import Derived.Lib.SlBytesConst
namespace Go.Proofs.YthhmamkphcgocaaDoor
open Go.RowKit

theorem new_rvf (w : World) (cs : List Value) (t : TypeId) (fr : Nat × Nat) : Rv (w.heap.size + 1) (w.alloc (.cells cs.toArray t fr)) (some ⟨w.heap.size, 0, none⟩) cs := fun k x hx => by
  refine ⟨_, rfl, Nat.lt_succ_self _, ?_⟩
  rw [Addr.add_lit, Nat.zero_add, cell_of_row _ _ _ _ _ _ (heap_alloc_new w _)]
  simpa using hx
def magic : List UInt8 := [66, 76, 77, 67]
/-- What rows are as a file. -/
def bytesP (l : List Lot) : List UInt8 × Nat := if checkP l ≠ 0 then ([], checkP l) else (fileB l, 0)
def BtOut (w : World) (R : List UInt8 × Nat) (e : Ending) (w2 : World) : Prop :=
  ∃ D d, e = .returned (.tuple #[.slice D R.1.length d, .int .i64 (R.2 : Int)]) ∧ Rv w2.heap.size w2 D (bys R.1) ∧ (D = none → d = 0) ∧ R.1.length ≤ d ∧ Below w.heap.size w w2
attribute [local go_sem ↓] load42_eq store42_eq new42_eq run_new42 all42 ldT47 ldT73 ldT52 ldT44 ldT71 ldT94 stT47 stT73 stT52 stT94 nwT47 nwT73 nwT52 nwT94 bxT47 bxT73 bxT52 bxT42 bxT44 bdT47 bdT73 bdT52 bdT94 run_nw47 run_nw73 run_nw52 run_nw94 bsT24 bsT28 bsT45
attribute [local go_sem] run_bxT bs_toList
set_option maxRecDepth 100000 in
set_option maxHeartbeats 2000000 in
theorem bytes_any (w : World) (A : Option Addr) (c : Nat) (ms : List Mot) (mx : Int) (hm : w.cell? ⟨0, 0, none⟩ = some (.int .i64 mx)) (hw : 0 < w.heap.size) (ho : Mv w A ms) (hs : ∀ m ∈ ms, m.r.small) (hn : ms.length ≤ 1000000) (hc : ms.length ≤ c) :
    Calls Tryd.prog 13 #[.slice A ms.length c] w (BtOut w (bytesP (ms.map (·.r)))) := by
  have HCK := Lib.hid (check_any w A c ms mx hm hw ho hs (by omega) hc)
  have HR : Hid (bytesP (ms.map (·.r)) = if checkP (ms.map (·.r)) ≠ 0 then ([], checkP (ms.map (·.r))) else (fileB (ms.map (·.r)), 0)) := Lib.hid rfl
  have hfit := fun h => check_fit (l := ms.map (·.r)) h (fun x hx => by
    obtain ⟨m, hm2, rfl⟩ := List.mem_map.1 hx
    exact ⟨(ho.ok m hm2).id, fun o ho2 => ((ho.ok m hm2).os o ho2).id⟩)
  rw [List.length_map] at hfit
  have HFIT := Lib.hid hfit
  have H := Lib.hid ho
  generalize hck : checkP (ms.map (·.r)) = ck at *
  clear hfit ho hm hck
  by_cases hz : ck = 0
  rotate_left
  · have HRR : Hid (bytesP (ms.map (·.r)) = ([], ck)) := Lib.hid (by rw [HR.out, if_pos hz])
    generalize bytesP (ms.map (·.r)) = R at *
    have hq : ((ck : Int) == 0) = false := beq_eq_false_iff_ne.2 (by omega)
    go_enter Tryd.func13, Tryd.ntmps13
    go_wp2_with (go_at_call 23; refine HCK.out.mono ?_; rintro e w1 ⟨rfl, hb1⟩; have B1 := Lib.hid hb1; clear hb1)
    go_ret2
    rw [HRR.out]
    exact ⟨none, 0, rfl, Rv.nil, fun _ => rfl, Nat.le_refl _, B1.out⟩
  subst hz
  obtain ⟨hl64, hft⟩ := HFIT.out rfl
  obtain ⟨ls, hls⟩ : ∃ ls, ms.map (·.r) = ls := ⟨_, rfl⟩
  have hlen : ls.length = ms.length := by rw [← hls, List.length_map]
  have HRR : Hid (bytesP ls = (fileB ls, 0)) := Lib.hid (by rw [← hls, HR.out, if_neg (by omega)])
  rw [hls] at hft ⊢
  have HFT := Lib.hid hft
  have HLE := Lib.hid (lots_le hft (by omega))
  have HLS := Lib.hid hls
  generalize bytesP ls = R at *
  clear HR HFIT hft
  go_enter Tryd.func13, Tryd.ntmps13
  go_wp2_with (go_at_call 23; refine HCK.out.mono ?_; rintro e w1 ⟨rfl, hb1⟩; have B1 := Lib.hid hb1; clear hb1 HCK)
  refine (wnew_any w1).mono ?_
  rintro en w2 ⟨rfl, hw2⟩
  subst hw2
  have T2 : Hid (Bt w1 (w1.alloc (.cells #[.slice none 0 0] 117)) w1.heap.size []) := Lib.hid ⟨⟨_, wr_new w1⟩, (Below.refl _ _).alloc (Nat.le_refl _) _, Nat.le_refl _⟩
  have HM1 := Lib.hid (H.out.below B1.out)
  have hw1 := B1.out.size
  obtain ⟨g, hg⟩ : ∃ g, w1.heap.size = g := ⟨_, rfl⟩
  rw [hg] at T2
  have hgl := T2.out.lt
  generalize hw2 : w1.alloc (.cells #[.slice none 0 0] 117) = w2 at *
  clear hw2
  have T3 := Lib.hid (T2.out.alloc (.cells #[.int .u8 66, .int .u8 76, .int .u8 77, .int .u8 67] 5 (4, 5)))
  have hcv := Lib.run_convert_bytes_const (P := Tryd.prog) w2 22 5 #[.int .u8 66, .int .u8 76, .int .u8 77, .int .u8 67] 4 4 Tryd.underlying22 Tryd.underlying5
  have hcv : (convert 22 22 (.slice (some ⟨w2.heap.size, 0, none⟩) 4 4)).run Tryd.prog (w2.alloc (.cells #[.int .u8 66, .int .u8 76, .int .u8 77, .int .u8 67] 5)) = .ok (.slice (some ⟨w2.heap.size, 0, none⟩) 4 4) (w2.alloc (.cells #[.int .u8 66, .int .u8 76, .int .u8 77, .int .u8 67] 5 (4, 5))) := hcv
  have HC3 := Lib.hid (btraw T3.out (m := magic) (some ⟨w2.heap.size, 0, none⟩) 4 _ (by simp) (by simp [magic]) (new_rvf w2 (bys magic) 5 (4, 5)) (fun e => by cases e))
  rw [hg]
  go_wp2_with (first | (go_at_call 34; refine HC3.out.mono ?_; rintro en w4 ⟨rfl, hT, hK⟩; have T4 := Lib.hid hT; clear hT hK))
  clear hcv T3 HC3 T2
  have HC4 := Lib.hid (btu32 T4.out 1 (by omega) (by simp [magic]))
  go_wp2_with (first | (go_at_call 35; refine HC4.out.mono ?_; rintro en w5 ⟨rfl, hT, hK⟩; have T5 := Lib.hid hT; clear hT hK HC4))
  have hc5 := btu32 T5.out ms.length (by omega) (by simp [magic, be4_len])
  rw [show ([] ++ magic ++ be4 1) ++ be4 ms.length = headB ms.length by simp [headB, magic]] at hc5
  have HC5 := Lib.hid hc5
  have wu : IntKind.u32.wrap (ms.length : Int) = (ms.length : Int) := Go.wraps_u32 _ (by omega) (by omega)
  clear hc5 T4
  go_wp2_with (first | (go_at_call 35; refine HC5.out.mono ?_; rintro en w6 ⟨rfl, hT, hK⟩; have T6 := Lib.hid hT; clear hT hK HC5))
  clear T5
  have hhl : (headB ms.length).length = 12 := rfl
  have HHL := Lib.hid hhl
  clear hhl wu
  go_loopw [30] (fun kv wr => ∃ k : Nat, k ≤ ms.length ∧ kv = .int .i64 k ∧ Hid (Bt w1 wr g (headB ms.length ++ (ls.take k).flatMap lotB))) (fun kv _ => ms.length - (intOf kv).toNat)
  case atStart => exact ⟨0, Nat.zero_le _, rfl, by simpa using T6⟩
  case round =>
    clear T6
    obtain ⟨k, hk, rfl, hT⟩ := hrel
    by_cases hlt : k < ms.length
    · obtain ⟨ad, rfl, _, hc, hok, hov⟩ := (HM1.out.below hT.out.bel).at_ hlt
      have HOV := Lib.hid (HM1.out.os (ms.getD k default) (by simp [hlt]))
      have hfo : fitL (ms.getD k default).r := HFT.out _ (by rw [← HLS.out]; exact List.mem_map.2 ⟨_, by simp [hlt], rfl⟩)
      have HNX : Hid ((ls.take (k + 1)).flatMap lotB = (ls.take k).flatMap lotB ++ lotB (ms.getD k default).r) := Lib.hid (by rw [flat_next lotB ls k (by omega), ← HLS.out, getD_map hlt])
      have hpl := HLE.out k
      generalize ms.getD k default = o at *
      generalize (ls.take k).flatMap lotB = pre at *
      have hid := hok.id
      have HLR := Lib.hid (lotB_row o.r)
      have HRH := Lib.hid (rowH_len hfo)
      have HOL := Lib.hid (orgs_le hfo)
      have HFO := Lib.hid hfo
      obtain ⟨f1, f2, f3, f4, f5, f6⟩ := hfo
      have hld := ldM47 hc hid
      have n0 : Ar (wr.alloc (.cells zM.cells.toArray 47)) wr.heap.size 47 zM.cells := Ar.new wr _ _
      have hst := stM47 (n := o) n0 rfl hid
      have n1 := n0.setRow o.cells
      have hgx : wr.heap.size ≠ g := by have := hT.out.lt; omega
      have T7 := Lib.hid ((hT.out.alloc (.cells zM.cells.toArray 47)).row n0 (by decide) hgx hT.out.bel.size o.cells.toArray)
      have A7 := Lib.hid n1
      have hc7 := btraw T7.out (m := o.r.id) (some ⟨wr.heap.size, 0, none⟩) 32 _ (by rw [List.length_append, HHL.out]; omega) (by omega) (Rv.of_ar n1 (Mot.c_id hid)) (fun e => by cases e)
      rw [hid] at hc7
      have HC7 := Lib.hid hc7
      have wu : IntKind.u8.wrap o.r.algo = o.r.algo := by rw [IntKind.wrap_u8]; omega
      have wv : IntKind.u64.wrap (o.r.os.length : Int) = (o.r.os.length : Int) := wraps_u64 _ (by omega) (by omega)
      clear hc n0 n1 hov hT hc7 hok f6
      go_wp2_with (first | (go_at_call 34; refine HC7.out.mono ?_; rintro en w8 ⟨rfl, hT, hK⟩; have T8 := Lib.hid hT; have A8 := Lib.hid (hK.ar _ _ _ A7.out (by decide) hgx); have p8 := bPath A8.out hid; clear hT hK HC7))
      generalize wr.heap.size = X at *
      clear T7 A7 hst hld
      have HC8 := Lib.hid (bttext T8.out (m := o.r.path) (by simp only [List.length_append, HHL.out, f1]; omega) (by omega))
      go_wp2_with (first | (go_at_call 36; refine HC8.out.mono ?_; rintro en w9 ⟨rfl, hT, hK⟩; have T9 := Lib.hid hT; have A9 := Lib.hid (hK.ar _ _ _ A8.out (by decide) hgx); have p9 := bAlgo A9.out hid; clear hT hK HC8))
      clear T8 A8 p8
      have hvp := varB_ten (n := o.r.path.length) (by omega)
      have HC9 := Lib.hid (btbyte T9.out o.r.algo (by8 o.r.algo.toNat) (by rw [by8_nat]; omega) (by simp only [List.length_append, HHL.out, f1]; omega))
      go_wp2_with (first | (go_at_call 37; refine HC9.out.mono ?_; rintro en w10 ⟨rfl, hT, hK⟩; have T10 := Lib.hid hT; have A10 := Lib.hid (hK.ar _ _ _ A9.out (by decide) hgx); have p10 := bOpt44 A10.out hid; clear hT hK HC9))
      clear T9 A9 p9 wu
      have HCF := Lib.hid (flags_any w10 o.r.algo o.r.de o.r.mo o.r.co)
      go_wp2_with (first | (go_at_call 38; refine HCF.out.mono ?_; rintro en w11 ⟨rfl, hb⟩; have T11 := Lib.hid (T10.out.below hb); have A11 := Lib.hid (A10.out.below hb A10.out.lt); clear hb HCF))
      clear T10 A10 p10
      have hfl := (bits3 o.r.de o.r.mo o.r.co).2.2.2
      have HC11 := Lib.hid (btbyte T11.out (flN o.r.de o.r.mo o.r.co 3 : Int) (by8 (flN o.r.de o.r.mo o.r.co 3)) (by rw [by8_nat]; omega) (by simp only [List.length_append, HHL.out, f1, List.length_cons, List.length_nil]; omega))
      go_wp2_with (first | (go_at_call 37; refine HC11.out.mono ?_; rintro en w12 ⟨rfl, hT, hK⟩; have T12 := Lib.hid hT; have A12 := Lib.hid (hK.ar _ _ _ A11.out (by decide) hgx); have p12 := bOs A12.out hid; clear hT hK HC11))
      clear T11 A11
      have hc12 := btvar T12.out o.r.os.length (by omega) (by simp only [List.length_append, HHL.out, f1, List.length_cons, List.length_nil]; omega)
      rw [show headB ms.length ++ pre ++ o.r.id ++ (varB o.r.path.length ++ o.r.path) ++ [by8 o.r.algo.toNat] ++ [by8 (flN o.r.de o.r.mo o.r.co 3)] ++ varB o.r.os.length = headB ms.length ++ pre ++ rowH o.r by simp [rowH]] at hc12
      have HC12 := Lib.hid hc12
      clear hc12
      go_wp2_with (first | (go_at_call 39; refine HC12.out.mono ?_; rintro en w13 ⟨rfl, hT, hK⟩; have T13 := Lib.hid hT; have A13 := Lib.hid (hK.ar _ _ _ A12.out (by decide) hgx); have p13 := bOs A13.out hid; clear hT hK HC12))
      clear T12 A12 p12 wv p13 A13
      go_loopw [62] (fun jv wr => ∃ j : Nat, j ≤ o.r.os.length ∧ jv = .int .i64 j ∧ Hid (Bt w1 wr g (headB ms.length ++ pre ++ rowH o.r ++ (o.r.os.take j).flatMap orgB))) (fun jv _ => o.r.os.length - (intOf jv).toNat)
      case atStart => exact ⟨0, Nat.zero_le _, rfl, by simpa using T13⟩
      case round =>
        clear T13
        obtain ⟨j, hj, rfl, hT⟩ := hrel
        by_cases hlj : j < o.r.os.length
        · obtain ⟨bd, hbd, _, hc, hok⟩ := (HOV.out.below hT.out.bel).at_ hlj
          have hfx : fitO (o.r.os.getD j default) := HFO.out.2.2.2.2.2 _ (by simp [hlj])
          have HNJ := Lib.hid (flat_next orgB o.r.os j hlj)
          have hol := HOL.out j
          generalize o.r.os.getD j default = x at *
          generalize (o.r.os.take j).flatMap orgB = qre at *
          have hxi := hok.id
          obtain ⟨x1, x2, x3, x4⟩ := hfx
          have hld := ldO52 hc hxi
          have hrh := HRH.out
          have wu : IntKind.u64.wrap x.line = x.line := wraps_u64 _ (by omega) (by omega)
          have n0 : Ar (wr.alloc (.cells zO.cells.toArray 52)) wr.heap.size 52 zO.cells := Ar.new wr _ _
          have hst := stO52 (p := x) n0 rfl hxi
          have n1 := n0.setRow x.cells
          have hgy : wr.heap.size ≠ g := by have := hT.out.lt; omega
          have T7 := Lib.hid ((hT.out.alloc (.cells zO.cells.toArray 52)).row n0 (by decide) hgy hT.out.bel.size x.cells.toArray)
          have A7 := Lib.hid n1
          have hc7 := btraw T7.out (m := x.id) (some ⟨wr.heap.size, 0, none⟩) 32 _ (by simp only [List.length_append, HHL.out]; omega) (by omega) (Rv.of_ar n1 (Org.c_id hxi)) (fun e => by cases e)
          rw [hxi] at hc7
          have HC7 := Lib.hid hc7
          clear hc n0 n1 hT hc7 hok
          rw [hbd]
          go_wp2_with (first | (go_at_call 34; refine HC7.out.mono ?_; rintro en w8 ⟨rfl, hT, hK⟩; have T8 := Lib.hid hT; have A8 := Lib.hid (hK.ar _ _ _ A7.out (by decide) hgy); have p8 := boPath A8.out hxi; clear hT hK HC7))
          generalize wr.heap.size = Y at *
          clear T7 A7 hst hld
          have HC8 := Lib.hid (bttext T8.out (m := x.path) (by simp only [List.length_append, HHL.out, x1]; omega) (by omega))
          go_wp2_with (first | (go_at_call 36; refine HC8.out.mono ?_; rintro en w9 ⟨rfl, hT, hK⟩; have T9 := Lib.hid hT; have A9 := Lib.hid (hK.ar _ _ _ A8.out (by decide) hgy); have p9 := boLine A9.out hxi; clear hT hK HC8))
          clear T8 A8 p8
          have hvp2 := varB_ten (n := x.path.length) (by omega)
          have hc9 := btvar T9.out x.line.toNat (by omega) (by simp only [List.length_append, HHL.out, x1]; omega)
          rw [show headB ms.length ++ pre ++ rowH o.r ++ qre ++ x.id ++ (varB x.path.length ++ x.path) ++ varB x.line.toNat = headB ms.length ++ pre ++ rowH o.r ++ (qre ++ orgB x) by simp [orgB], show ((x.line.toNat : Nat) : Int) = x.line by omega] at hc9
          have HC9 := Lib.hid hc9
          clear hc9
          go_wp2_with (first | (go_at_call 39; refine HC9.out.mono ?_; rintro en w10 ⟨rfl, hT, hK⟩; have T10 := Lib.hid hT; clear hT hK HC9))
          exact ⟨⟨j + 1, by omega, by go_num, by rw [HNJ.out]; exact T10⟩, by simp [intOf]; omega⟩
        · have hje : j = o.r.os.length := by omega
          subst hje
          rw [List.take_length] at hT
          have T9 : Hid (Bt w1 wr g (headB ms.length ++ (pre ++ lotB o.r))) := by
            rw [HLR.out, ← List.append_assoc, ← List.append_assoc]
            exact hT
          clear hT
          go_wp2_with fail
          go_goals
          exact ⟨⟨k + 1, by omega, by go_num, by rw [HNX.out]; exact T9⟩, by simp [intOf]; omega⟩
    · have hke : k = ms.length := by omega
      subst hke
      have hT2 : Hid (Bt w1 wr g (bodyB ls)) := by
        rw [bodyB, hlen]
        rw [List.take_of_length_le (by omega)] at hT
        exact hT
      have hbl : (bodyB ls).length ≤ 4480012 := by
        have := HLE.out ls.length
        rw [List.take_length] at this
        rw [bodyB, List.length_append, hlen, HHL.out]
        omega
      have HFB : Hid (bodyB ls ++ shaOf (bodyB ls) = fileB ls) := Lib.hid rfl
      have hsl := shaOf_len (bodyB ls)
      have HC1 := Lib.hid (btbytes hT2.out (by omega))
      generalize bodyB ls = bd at *
      clear hT HFT HLE
      go_wp2_with (first | (go_at_call 40; refine HC1.out.mono ?_; rintro en wA ⟨u, rfl, ho, hT, hb⟩; obtain ⟨D, d, hv, hD, hd, hrv, _⟩ := own_all ho; subst hv; have TA := Lib.hid hT; have HRV := Lib.hid hrv; clear ho hT hb hrv HC1))
      have hsA : (wA.alloc (.cells #[.slice D bd.length d] 22)).heap.size = wA.heap.size + 1 := World.size_alloc _ _
      have TB := Lib.hid (TA.out.alloc (.cells #[.slice D bd.length d] 22))
      have HOF := Lib.hid (of_any (wA.alloc (.cells #[.slice D bd.length d] 22)) ⟨wA.heap.size, 0, none⟩ 1 bd D d ((Ar.new wA [.slice D bd.length d] 22).cell rfl) (by rw [hsA]; exact Nat.lt_succ_self _) ((HRV.out.below ((Below.refl _ _).alloc (Nat.le_refl _) _)).more (by rw [hsA]; omega)) hd (by omega))
      refine HOF.out.mono ?_
      rintro en wC ⟨rfl, hbC⟩
      have TC := Lib.hid (TB.out.below hbC)
      have n0 : Ar (wC.alloc (.cells z42 42)) wC.heap.size 42 (bys (List.replicate 32 0)) := Ar.new wC (bys (List.replicate 32 0)) 42
      have hst := st42 (m := shaOf bd) n0 (by simp) hsl
      have n1 := n0.setRow (bys (shaOf bd))
      have hgy : wC.heap.size ≠ g := by have := TC.out.lt; omega
      have TD := Lib.hid ((TC.out.alloc (.cells z42 42)).row n0 (by decide) hgy TC.out.bel.size (bys (shaOf bd)).toArray)
      have hcr := btraw TD.out (m := shaOf bd) (some ⟨wC.heap.size, 0, none⟩) 32 _ (by omega) (by omega) (Rv.of_ar n1 (n := 32) (List.take_of_length_le (by rw [bys_len, hsl]; omega))) (fun e => by cases e)
      rw [HFB.out, hsl] at hcr
      have HCR := Lib.hid hcr
      have hfl : (fileB ls).length = bd.length + 32 := by rw [← HFB.out, List.length_append, hsl]
      clear hcr hbC HOF TA TB n0 n1 TC HRV
      go_wp2_with (first | (go_at_call 34; refine HCR.out.mono ?_; rintro en wE ⟨rfl, hT, hK⟩; have TE := Lib.hid hT; clear hT hK HCR))
      refine (btbytes TE.out (by omega)).mono ?_
      rintro en wF ⟨u, rfl, ho, hT, _⟩
      obtain ⟨D2, d2, hv, hD2, hd2, hrv2, _⟩ := own_all ho
      subst hv
      have HRV2 := Lib.hid hrv2
      have TF := Lib.hid hT
      clear ho hT hrv2 hst
      go_wp2_with fail
      go_ret2
      rw [HRR.out]
      exact ⟨D2, d2, by show _ = Ending.returned (.tuple #[.slice D2 (fileB ls).length d2, .int .i64 ((0 : Nat) : Int)]); rw [hfl]; rfl, HRV2.out, hD2, hd2, B1.out.trans (TF.out.bel.mono hw1)⟩
end Go.Proofs.YthhmamkphcgocaaDoor

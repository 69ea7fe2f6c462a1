/- slices.SortStableFunc at alike.Row, of fewer than 40 rows: by a contract. rename's near: the comparison of two rows, by a contract. -/
import Derived.Test.YtbmpidacoohdmaaGreatF29
import Derived.Test.YtbmpidacoohdmaaGreatF30
import Derived.Test.YtbmpidacoohdmaaGreatF28
import Derived.Test.YtbmpidacoohdmaaGreatF22
namespace Go.Proofs.YtbmpidacoohdmaaGreat
open Lib renaming hid → hI
open Go.Shelf Go.RowKit Go.Lib Go.Sort

variable {α : Type} [Inhabited α] {enc : α → List Value} {w0 : World} {blk off : Nat} {d0 : Array α}
/-- What the sort is told. -/
structure Tld (enc : α → List Value) (w0 : World) (blk off : Nat) (d0 : Array α) (lt : α → α → Bool) (cf : α → α → Int) (g : Nat) (cb : Array Value) : Prop where
  R : RowK enc 3 w0 blk off d0
  hS : SWO lt
  hO : SWO (ltOf cf)
  eg : ∀ args w, (callFunc g args).run Tryz.prog w = .ok (.enter g args) w
  hC : CmpLays Tryz.prog g cb enc 3 cf blk off d0.size w0
theorem ins_any {lt : α → α → Bool} {cf : α → α → Int} {g : Nat} {cb : Array Value} (T : Tld enc w0 blk off d0 lt cf g cb) (dk : Array α) (W : World) (h : SWK enc 3 w0 blk off dk W) (hs : dk.size = d0.size) (cap a b : Nat) (hab : a ≤ b) (hb : b ≤ dk.size) (hn : dk.size < 40) (ha : ∀ q p, q < b → a ≤ p → p < q → ltOf cf dk[q]! dk[p]! = lt dk[q]! dk[p]!) :
    Calls Tryz.prog 171 #[.slice (some ⟨blk, off, none⟩) dk.size cap, .int .i64 a, .int .i64 b, .func (.func g) #[] cb] W fun e w2 => e = .returned (.tuple #[]) ∧ ∃ d2, SWK enc 3 w0 blk off d2 w2 ∧ PermIn a b dk d2 ∧ SortedIn lt a b d2 := by
  have hc := AnyQ.insertionSortCmpFunc_w { Tryz.sortRow with } 3 Tryz.isAgg120 Tryz.sizeOf120 enc cf g cb blk off cap a b d0 dk w0 W T.eg T.hC T.R hs.symm h T.hO hab hb (by omega)
  change Calls Tryz.prog 171 _ _ _ at hc
  refine hc.mono ?_
  rintro e w2 ⟨rfl, h2⟩
  rw [insertion_same (ltOf cf) lt dk a b hb ha] at h2
  obtain ⟨p1, p2⟩ := insertionSort_holds T.hS dk a b hab hb
  exact ⟨rfl, _, h2, p1, p2⟩
set_option maxRecDepth 100000 in
set_option maxHeartbeats 2000000 in
theorem stable_any {lt : α → α → Bool} {cf : α → α → Int} {g : Nat} {cb : Array Value} (T : Tld enc w0 blk off d0 lt cf g cb) (SYM : ∀ (sz : Nat) (dk : Array α) (W : World) (_ : SWK enc 3 w0 blk off dk W) (_ : dk.size = d0.size) (cap a m b : Nat) (_ : b - a ≤ sz) (_ : a < m) (_ : m < b) (_ : dk.size < 4611686018427387904) (_ : Mrg lt (ltOf cf) a m b dk),
    Calls Tryz.prog 172 #[.slice (some ⟨blk, off, none⟩) dk.size cap, .int .i64 a, .int .i64 m, .int .i64 b, .func (.func g) #[] cb] W fun e w2 => e = .returned (.tuple #[]) ∧ ∃ d2, SWK enc 3 w0 blk off d2 w2 ∧ PermIn a b dk d2 ∧ SortedIn lt a b d2)
    (dk : Array α) (W : World) (h : SWK enc 3 w0 blk off dk W) (hs : dk.size = d0.size) (cap : Nat) (hn : dk.size < 40) (ha : ∀ q p, q < dk.size → p < q → ltOf cf dk[q]! dk[p]! = lt dk[q]! dk[p]!) :
    Calls Tryz.prog 107 #[.slice (some ⟨blk, off, none⟩) dk.size cap, .int .i64 dk.size, .func (.func g) #[] cb] W fun e w2 => e = .returned (.tuple #[]) ∧ ∃ d2, SWK enc 3 w0 blk off d2 w2 ∧ PermIn 0 dk.size dk d2 ∧ SortedIn lt 0 dk.size d2 := by
  have HS0 := hI hs
  have HA := hI ha
  have TT := hI T
  have SY := hI SYM
  have H := hI h
  clear hs ha T SYM h
  obtain ⟨n, hne⟩ : ∃ n, dk.size = n := ⟨_, rfl⟩
  have HN := hI hne
  rw [hne] at hn ⊢
  by_cases h20 : n < 20
  · have HI := hI (ins_any TT.out dk W H.out HS0.out cap 0 n (Nat.zero_le _) (by omega) (by omega) (fun q p hq _ hp => HA.out q p (by omega) hp))
    rw [hne] at HI
    clear hne
    go_enter Tryz.func107, Tryz.ntmps107
    go_wp2_with fail
    go_loopw [7, 8] (fun av bv wr => av = .int .i64 0 ∧ bv = .int .i64 20 ∧ Hid (W = wr)) (fun _ _ _ => 0)
    case atStart => exact ⟨rfl, rfl, hI rfl⟩
    case round =>
      obtain ⟨rfl, rfl, hw⟩ := hrel
      have hw := hw.out
      subst hw
      go_wp2_with (go_at_call 171; refine HI.out.mono ?_; rintro e w2 ⟨rfl, d2, hk2, hp2, hs2⟩; have K2 := hI hk2; have P2 := hI hp2; have S2 := hI hs2; clear hk2 hp2 hs2)
      go_loopw [6, 7, 8] (fun cv _ _ wr => cv = .int .i64 20 ∧ Hid (w2 = wr)) (fun _ _ _ _ => 0)
      case atStart => exact ⟨rfl, hI rfl⟩
      case round =>
        obtain ⟨rfl, hw⟩ := hrel
        have hw := hw.out
        subst hw
        go_wp2_with fail
        go_end0
        exact ⟨rfl, d2, K2.out, P2.out, S2.out⟩
  · have HI := hI (ins_any TT.out dk W H.out HS0.out cap 0 20 (by omega) (by omega) (by omega) (fun q p hq _ hp => HA.out q p (by omega) hp))
    rw [hne] at HI
    clear hne
    have hn20 : 20 ≤ n := by omega
    go_enter Tryz.func107, Tryz.ntmps107
    go_wp2_with fail
    go_loopw [7, 8] (fun av bv wr => ∃ c : Nat, c ≤ 1 ∧ av = .int .i64 ((20 * c : Nat) : Int) ∧ bv = .int .i64 ((20 * c + 20 : Nat) : Int) ∧ Hid (c = 0 → W = wr) ∧ Hid (c = 1 → ∃ d1, SWK enc 3 w0 blk off d1 wr ∧ PermIn 0 20 dk d1 ∧ SortedIn lt 0 20 d1)) (fun av _ _ => 40 - (intOf av).toNat)
    case atStart => exact ⟨0, by omega, rfl, rfl, hI (fun _ => rfl), hI (fun h => by cases h)⟩
    case round =>
      obtain ⟨c, hc, rfl, rfl, h0, h1⟩ := hrel
      have hcc : c = 0 ∨ c = 1 := by omega
      rcases hcc with rfl | rfl
      · have hw := h0.out rfl
        subst hw
        go_wp2_with (go_at_call 171; refine HI.out.mono ?_; rintro e w2 ⟨rfl, d2, hk2, hp2, hs2⟩; have K2 := hI hk2; have P2 := hI hp2; have S2 := hI hs2; clear hk2 hp2 hs2)
        exact ⟨⟨1, by omega, rfl, rfl, hI (fun h => by cases h), hI (fun _ => ⟨d2, K2.out, P2.out, S2.out⟩)⟩, by simp [intOf]⟩
      · obtain ⟨d1, hk1, hp1, hs1⟩ := h1.out rfl
        have K1 := hI hk1
        have P1 := hI hp1
        have S1 := hI hs1
        have Z1 : Hid (d1.size = d0.size ∧ d1.size = n) := hI ⟨hp1.1.trans HS0.out, hp1.1.trans HN.out⟩
        have HI2 := hI (ins_any TT.out d1 wr hk1 Z1.out.1 cap 20 n hn20 (by rw [Z1.out.2]; exact Nat.le_refl _) (by rw [Z1.out.2]; exact hn) (fun q p hq hp hpq => by
          rw [hp1.2.1 q (.inr (by omega)), hp1.2.1 p (.inr hp)]
          exact HA.out q p (by rw [HN.out]; exact hq) hpq))
        rw [Z1.out.2] at HI2
        clear h0 h1 hk1 hp1 hs1 HI H
        go_wp2_with (go_at_call 171; refine HI2.out.mono ?_; rintro e w2 ⟨rfl, d2, hk2, hp2, hs2⟩; have K2 := hI hk2; have P2 := hI hp2; have S2 := hI hs2; clear hk2 hp2 hs2)
        have Z2 : Hid (d2.size = d0.size ∧ d2.size = n) := hI ⟨P2.out.1.trans Z1.out.1, P2.out.1.trans Z1.out.2⟩
        have PA : Hid (PermIn 0 n dk d2) := hI (permIn_trans _ _ _ _ _ (permIn_mono dk d1 0 20 0 n (Nat.le_refl _) hn20 (by rw [HN.out]; exact Nat.le_refl _) P1.out) (permIn_mono d1 d2 20 n 0 n (by omega) (Nat.le_refl _) (by rw [Z1.out.2]; exact Nat.le_refl _) P2.out))
        have SL : Hid (SortedIn lt 0 20 d2) := hI (fun i j hi hij hj => by
          rw [P2.out.2.1 i (.inl (by omega)), P2.out.2.1 j (.inl hj)]
          exact S1.out i j hi hij hj)
        have AS : Hid (∀ i j, i < 20 → 20 ≤ j → j < n → ltOf cf d2[j]! d2[i]! = lt d2[j]! d2[i]!) := hI (fun i j hi hj hjn => by
          rw [P2.out.2.1 i (.inl hi)]
          refine permIn_all d1 d2 20 n (fun x => ltOf cf x d1[i]! = lt x d1[i]!) (by rw [Z1.out.2]; exact Nat.le_refl _) P2.out (fun q hq hqn => ?_) j hj hjn
          rw [P1.out.2.1 q (.inr hq)]
          exact permIn_all dk d1 0 20 (fun x => ltOf cf dk[q]! x = lt dk[q]! x) (by rw [HN.out]; exact hn20) P1.out (fun p _ hp => HA.out q p (by rw [HN.out]; exact hqn) (by omega)) i (Nat.zero_le _) hi)
        clear K1 S1
        by_cases hgt : 20 < n
        · have MG : Hid (Mrg lt (ltOf cf) 0 20 n d2) := hI ⟨by rw [Z2.out.2]; exact Nat.le_refl _, SL.out, S2.out, fun i j _ hi hj hjn => AS.out i j hi hj hjn⟩
          have SM := hI (SY.out n d2 w2 K2.out Z2.out.1 cap 0 20 n (by omega) (by omega) hgt (by rw [Z2.out.2]; omega) MG.out)
          rw [Z2.out.2] at SM
          clear MG SL AS S2 P2 P1
          go_loopw [6, 7, 8] (fun cv _ _ wr => ∃ c : Nat, c ≤ 1 ∧ cv = .int .i64 ((20 * c + 20 : Nat) : Int) ∧ Hid (c = 0 → w2 = wr) ∧ Hid (c = 1 → ∃ d3, SWK enc 3 w0 blk off d3 wr ∧ PermIn 0 n d2 d3 ∧ SortedIn lt 0 n d3)) (fun cv _ _ _ => 40 - (intOf cv).toNat)
          case atStart => exact ⟨0, by omega, rfl, hI (fun _ => rfl), hI (fun h => by cases h)⟩
          case round =>
            obtain ⟨c, hc, rfl, h0, h1⟩ := hrel
            have hcc : c = 0 ∨ c = 1 := by omega
            rcases hcc with rfl | rfl
            · have hw := h0.out rfl
              subst hw
              clear h0 h1
              go_wp2_with fail
              go_loopw [7, 8] (fun av bv wr => av = .int .i64 0 ∧ bv = .int .i64 40 ∧ Hid (w2 = wr)) (fun _ _ _ => 0)
              case atStart => exact ⟨rfl, rfl, hI rfl⟩
              case round =>
                obtain ⟨rfl, rfl, hw⟩ := hrel
                have hw := hw.out
                subst hw
                go_wp2_with (go_at_call 172; refine SM.out.mono ?_; rintro e w4 ⟨rfl, d3, hk3, hp3, hs3⟩; have K3 := hI hk3; have P3 := hI hp3; have S3 := hI hs3; clear hk3 hp3 hs3)
                exact ⟨⟨1, by omega, rfl, hI (fun h => by cases h), hI (fun _ => ⟨d3, K3.out, P3.out, S3.out⟩)⟩, by simp [intOf]⟩
            · obtain ⟨d3, hk3, hp3, hs3⟩ := h1.out rfl
              have K3 := hI hk3
              have P3 := hI hp3
              have S3 := hI hs3
              clear hk3 hp3 hs3 h0 h1
              go_wp2_with fail
              go_end0
              exact ⟨rfl, d3, K3.out, permIn_trans _ _ _ _ _ PA.out P3.out, S3.out⟩
        · have hne : n = 20 := by omega
          have SF : Hid (SortedIn lt 0 n d2) := hI (by rw [hne]; exact SL.out)
          clear SL AS S2 P2 P1 hne
          go_loopw [6, 7, 8] (fun cv _ _ wr => cv = .int .i64 20 ∧ Hid (w2 = wr)) (fun _ _ _ _ => 0)
          case atStart => exact ⟨rfl, hI rfl⟩
          case round =>
            obtain ⟨rfl, hw⟩ := hrel
            have hw := hw.out
            subst hw
            go_wp2_with fail
            go_end0
            exact ⟨rfl, d2, K2.out, PA.out, SF.out⟩
set_option maxRecDepth 100000 in
theorem sortstable_any {lt : α → α → Bool} {cf : α → α → Int} {g : Nat} {cb : Array Value} (T : Tld enc w0 blk off d0 lt cf g cb) (SYM : ∀ (sz : Nat) (dk : Array α) (W : World) (_ : SWK enc 3 w0 blk off dk W) (_ : dk.size = d0.size) (cap a m b : Nat) (_ : b - a ≤ sz) (_ : a < m) (_ : m < b) (_ : dk.size < 4611686018427387904) (_ : Mrg lt (ltOf cf) a m b dk),
    Calls Tryz.prog 172 #[.slice (some ⟨blk, off, none⟩) dk.size cap, .int .i64 a, .int .i64 m, .int .i64 b, .func (.func g) #[] cb] W fun e w2 => e = .returned (.tuple #[]) ∧ ∃ d2, SWK enc 3 w0 blk off d2 w2 ∧ PermIn a b dk d2 ∧ SortedIn lt a b d2)
    (dk : Array α) (W : World) (h : SWK enc 3 w0 blk off dk W) (hs : dk.size = d0.size) (cap : Nat) (hn : dk.size < 40) (ha : ∀ q p, q < dk.size → p < q → ltOf cf dk[q]! dk[p]! = lt dk[q]! dk[p]!) :
    Calls Tryz.prog 48 #[.slice (some ⟨blk, off, none⟩) dk.size cap, .func (.func g) #[] cb] W fun e w2 => e = .returned (.tuple #[]) ∧ ∃ d2, SWK enc 3 w0 blk off d2 w2 ∧ PermIn 0 dk.size dk d2 ∧ SortedIn lt 0 dk.size d2 := by
  have HC := hI (stable_any T SYM dk W h hs cap hn ha)
  clear hs ha T SYM h
  obtain ⟨n, hne⟩ : ∃ n, dk.size = n := ⟨_, rfl⟩
  rw [hne] at HC ⊢
  clear hne
  go_enter Tryz.func48, Tryz.ntmps48
  go_wp2_with fail
  refine HC.out.mono ?_
  rintro e w2 ⟨rfl, d2, hk2, hp2, hs2⟩
  go_wp2_with fail
  go_end0
  exact ⟨rfl, d2, hk2, hp2, hs2⟩
end Go.Proofs.YtbmpidacoohdmaaGreat
namespace Go.Proofs.YtbmpidacoohdmaaGreat
open Lib renaming hid → hI
open Go.RowKit Op
open Rn (Chg LReads CellsAt Fnd St isSource isTarget isNamed)

def lat (b : Bool) : Int := if b then 0 else 1
set_option maxRecDepth 100000 in
theorem later_any (w : World) (b : Bool) : Calls Tryz.prog 50 #[.bool b] w fun e w2 => e = .returned (.int .i64 (lat b)) ∧ w = w2 := by
  cases b with
  | true =>
    go_enter Tryz.func50, Tryz.ntmps50
    go_wp2_with fail
    go_ret
    exact ⟨rfl, rfl⟩
  | false =>
    go_enter Tryz.func50, Tryz.ntmps50
    go_wp2_with fail
    go_ret
    exact ⟨rfl, rfl⟩
def cfN (l : List Chg) (S T : List Nat) (x y : Nat × Nat × Nat) : Int := if x.2.2 ≠ y.2.2 then (y.2.2 : Int) - x.2.2 else lat (isNamed l (S.getD x.1 0) (T.getD x.2.1 0)) - lat (isNamed l (S.getD y.1 0) (T.getD y.2.1 0))
structure TN (w5 W0 : World) (n : Nat) (x y : List Value) (W : World) : Prop where
  tc : TC W0 n x y W
  bel : Below w5.heap.size w5 W
theorem TN.drewN {w5 W0 W : World} {n : Nat} {x y : List Value} (h : TN w5 W0 n x y W) (m : Nat) : TN w5 W0 n x y (W.drewN m) := by
  obtain ⟨q, os, e⟩ := h.tc.grow
  exact ⟨⟨⟨q + m, os, by rw [e]; show Sort.grow ((W0.drewN q).drewN m) os = _; rw [World.drewN_drewN]⟩, h.tc.x.drewN m, h.tc.y.drewN m⟩, below_dr h.bel m⟩
set_option maxRecDepth 100000 in
set_option maxHeartbeats 2000000 in
theorem near1_any (w5 : World) {B b F S K T : Nat} {A : Option Addr} {c : Nat} {l : List Chg} {s : St} (hf : Fnd w5 B b F S K T A c l s) (pf p8 p9 : Nat) (D3 D7 : Option Addr) (d3 d7 : Nat) (Sl Tl : List Nat)
    (cf : w5.cell? ⟨pf, 0, none⟩ = some (.pointer (some ⟨b, 0, none⟩))) (c8 : w5.cell? ⟨p8, 0, none⟩ = some (.slice D3 Sl.length d3)) (c9 : w5.cell? ⟨p9, 0, none⟩ = some (.slice D7 Tl.length d7)) (l1 : pf < w5.heap.size) (l2 : p8 < w5.heap.size) (l3 : p9 < w5.heap.size)
    (h3 : Rv w5.heap.size w5 D3 (ntI2 Sl)) (h7 : Rv w5.heap.size w5 D7 (ntI2 Tl)) (hS : ∀ k ∈ Sl, k < l.length) (hT : ∀ k ∈ Tl, k < l.length) (V : World) (hV : Below w5.heap.size w5 V) (x y : Nat × Nat × Nat)
    (hx : x.1 < Sl.length ∧ x.2.1 < Tl.length ∧ x.2.2 ≤ 1000) (hy : y.1 < Sl.length ∧ y.2.1 < Tl.length ∧ y.2.2 ≤ 1000) :
    Calls Tryz.prog 49 #[.agg (encR x).toArray, .agg (encR y).toArray, .pointer (some ⟨pf, 0, none⟩), .pointer (some ⟨p8, 0, none⟩), .pointer (some ⟨p9, 0, none⟩)] V fun e w2 => e = .returned (.int .i64 (cfN l Sl Tl x y)) ∧ ∃ q os, w2 = Sort.grow (V.drewN q) os := by
  obtain ⟨x1, x2, x3⟩ := x
  obtain ⟨y1, y2, y3⟩ := y
  obtain ⟨hx1, hx2, hx3⟩ := hx
  obtain ⟨hy1, hy2, hy3⟩ := hy
  simp only at hx1 hx2 hx3 hy1 hy2 hy3
  have hsz : (V.alloc (.cells (encR (x1, x2, x3)).toArray 120)).heap.size = V.heap.size + 1 := by simp
  have hb0 := (hV.alloc hV.size (.cells (encR (x1, x2, x3)).toArray 120))
  have H0 : Hid (TN w5 V V.heap.size (encR (x1, x2, x3)) (encR (y1, y2, y3)) ((V.alloc (.cells (encR (x1, x2, x3)).toArray 120)).alloc (.cells (encR (y1, y2, y3)).toArray 120))) := hI ⟨⟨⟨0, _, by rw [Sort.alloc_eq_grow, Sort.alloc_eq_grow, Sort.grow_grow]; rfl⟩, (Ar.new V (encR (x1, x2, x3)) 120).alloc _, by
    have := Ar.new (V.alloc (.cells (encR (x1, x2, x3)).toArray 120)) (encR (y1, y2, y3)) 120
    rwa [hsz] at this⟩, hb0.alloc hb0.size _⟩
  have HR : Hid (cfN l Sl Tl (x1, x2, x3) (y1, y2, y3) = if x3 ≠ y3 then (y3 : Int) - x3 else lat (isNamed l (Sl.getD x1 0) (Tl.getD x2 0)) - lat (isNamed l (Sl.getD y1 0) (Tl.getD y2 0))) := hI rfl
  obtain ⟨r, hr⟩ : ∃ r, cfN l Sl Tl (x1, x2, x3) (y1, y2, y3) = r := ⟨_, rfl⟩
  rw [hr] at HR ⊢
  have gd : ∀ (L : List Nat) (i : Nat), i < L.length → L[i]? = some (L.getD i 0) := fun L i h => by rw [List.getD_eq_getElem?_getD, List.getElem?_eq_getElem h]; rfl
  have CS : ∀ i, i < Sl.length → ∃ ad, D3 = some ad ∧ Sl.getD i 0 < l.length ∧ ∀ W, Below w5.heap.size w5 W → W.cell? (ad.add i) = some (.int .i64 ((Sl.getD i 0 : Nat) : Int)) := fun i hi => by
    obtain ⟨ad, e, hl, hc⟩ := h3.at_ (k := i) (x := .int .i64 ((Sl.getD i 0 : Nat) : Int)) (by simp [ntI2, hi])
    exact ⟨ad, e, hS _ (List.mem_of_getElem? (gd Sl i hi)), fun W hW => (hW.cell (p := ad.add i) (by rw [block_add]; exact hl)).trans hc⟩
  have CT : ∀ i, i < Tl.length → ∃ ad, D7 = some ad ∧ Tl.getD i 0 < l.length ∧ ∀ W, Below w5.heap.size w5 W → W.cell? (ad.add i) = some (.int .i64 ((Tl.getD i 0 : Nat) : Int)) := fun i hi => by
    obtain ⟨ad, e, hl, hc⟩ := h7.at_ (k := i) (x := .int .i64 ((Tl.getD i 0 : Nat) : Int)) (by simp [ntI2, hi])
    exact ⟨ad, e, hT _ (List.mem_of_getElem? (gd Tl i hi)), fun W hW => (hW.cell (p := ad.add i) (by rw [block_add]; exact hl)).trans hc⟩
  obtain ⟨a3, e3, ls1, cs1⟩ := CS x1 hx1
  obtain ⟨a3', e3', ls2, cs2⟩ := CS y1 hy1
  obtain rfl := Option.some.inj (e3'.symm.trans e3)
  obtain ⟨a7, e7, lt1, ct1⟩ := CT x2 hx2
  obtain ⟨a7', e7', lt2, ct2⟩ := CT y2 hy2
  obtain rfl := Option.some.inj (e7'.symm.trans e7)
  subst e3 e7
  have NM := hI (fun W (hW : Below w5.heap.size w5 W) i k (hi : i < l.length) (hk : k < l.length) => Rn.named_any (hf.keep (fun q hq => hW.block q hq)) i k hi hk)
  have CF := hI (fun W (hW : Below w5.heap.size w5 W) => And.intro ((hW.cell (p := ⟨pf, 0, none⟩) l1).trans cf) (And.intro ((hW.cell (p := ⟨p8, 0, none⟩) l2).trans c8) ((hW.cell (p := ⟨p9, 0, none⟩) l3).trans c9)))
  have S1 := hI cs1
  have S2 := hI cs2
  have T1 := hI ct1
  have T2 := hI ct2
  have LT := hI (And.intro ls1 (And.intro ls2 (And.intro lt1 lt2)))
  clear hr hsz CS CT hf cf c8 c9 l1 l2 l3 h3 h7 hS hT hV hb0 gd cs1 cs2 ct1 ct2 ls1 ls2 lt1 lt2 e3' e7'
  generalize Sl.getD x1 0 = i1 at *
  generalize Sl.getD y1 0 = i2 at *
  generalize Tl.getD x2 0 = k1 at *
  generalize Tl.getD y2 0 = k2 at *
  have L8 := hI (fun W b => later_any W b)
  go_enter Tryz.func49, Tryz.ntmps49
  have ax := H0.out.tc.x.cell (k := 2) rfl
  have ay := H0.out.tc.y.cell (k := 2) rfl
  by_cases hne : x3 ≠ y3
  · rw [if_pos hne] at HR
    have q1 : ((x3 : Int) != (y3 : Int)) = true := bne_iff_ne.2 (by omega)
    clear hne
    go_wp2_with fail
    go_ret
    exact ⟨ret_int HR.out.symm, H0.out.tc.grow⟩
  · rw [if_neg hne] at HR
    have q1 : ((x3 : Int) != (y3 : Int)) = false := by simp; omega
    clear hne
    go_wp2_with fail
    refine region_of (fun W => TN w5 V V.heap.size (encR (x1, x2, x3)) (encR (y1, y2, y3)) W) (by kernel_rfl) ?_
    have H1 : Hid (TN w5 V V.heap.size (encR (x1, x2, x3)) (encR (y1, y2, y3)) _) := hI (H0.out.drewN 1)
    clear ax ay H0
    generalize hw0 : ((V.alloc (.cells (encR (x1, x2, x3)).toArray 120)).alloc (.cells (encR (y1, y2, y3)).toArray 120)).drew = w0 at *
    change Hid (TN w5 V V.heap.size (encR (x1, x2, x3)) (encR (y1, y2, y3)) (((V.alloc (.cells (encR (x1, x2, x3)).toArray 120)).alloc (.cells (encR (y1, y2, y3)).toArray 120)).drew)) at H1
    rw [hw0] at H1
    clear hw0
    refine anyC_take 0 (v := ?_) H1.out rfl (by kernel_rfl) (by kernel_rfl) (by kernel_rfl) (fun c a w h => by exact h) rfl (fun W hW => ?_) ?_
    rotate_left
    · have := (CF.out W hW.bel).1; go_simp
      try rfl
    simp only [Act.put]
    refine anyC_take 1 (v := ?_) H1.out rfl (by kernel_rfl) (by kernel_rfl) (by kernel_rfl) (fun c a w h => by exact h) rfl (fun W hW => ?_) ?_
    rotate_left
    · have := (CF.out W hW.bel).2.1; go_simp
      try rfl
    simp only [Act.put]
    refine anyC_take 2 (v := ?_) H1.out rfl (by kernel_rfl) (by kernel_rfl) (by kernel_rfl) (fun c a w h => by exact h) rfl (fun W hW => ?_) ?_
    rotate_left
    · go_simp
      try rfl
    simp only [Act.put]
    refine anyC_take 3 (v := ?_) H1.out rfl (by kernel_rfl) (by kernel_rfl) (by kernel_rfl) (fun c a w h => by exact h) rfl (fun W hW => ?_) ?_
    rotate_left
    · have := hW.tc.x.cell (k := 0) rfl; go_simp
      try rfl
    simp only [Act.put]
    refine anyC_take 4 (v := ?_) H1.out rfl (by kernel_rfl) (by kernel_rfl) (by kernel_rfl) (fun c a w h => by exact h) rfl (fun W hW => ?_) ?_
    rotate_left
    · go_simp
      try rfl
    simp only [Act.put]
    refine anyC_take 5 (v := ?_) H1.out rfl (by kernel_rfl) (by kernel_rfl) (by kernel_rfl) (fun c a w h => by exact h) rfl (fun W hW => ?_) ?_
    rotate_left
    · have := S1.out W hW.bel; go_simp
      try rfl
    simp only [Act.put]
    refine anyC_take 6 (v := ?_) H1.out rfl (by kernel_rfl) (by kernel_rfl) (by kernel_rfl) (fun c a w h => by exact h) rfl (fun W hW => ?_) ?_
    rotate_left
    · have := (CF.out W hW.bel).2.2; go_simp
      try rfl
    simp only [Act.put]
    refine anyC_take 7 (v := ?_) H1.out rfl (by kernel_rfl) (by kernel_rfl) (by kernel_rfl) (fun c a w h => by exact h) rfl (fun W hW => ?_) ?_
    rotate_left
    · go_simp
      try rfl
    simp only [Act.put]
    refine anyC_take 8 (v := ?_) H1.out rfl (by kernel_rfl) (by kernel_rfl) (by kernel_rfl) (fun c a w h => by exact h) rfl (fun W hW => ?_) ?_
    rotate_left
    · have := hW.tc.x.cell (k := 1) rfl; go_simp
      try rfl
    simp only [Act.put]
    refine anyC_take 9 (v := ?_) H1.out rfl (by kernel_rfl) (by kernel_rfl) (by kernel_rfl) (fun c a w h => by exact h) rfl (fun W hW => ?_) ?_
    rotate_left
    · go_simp
      try rfl
    simp only [Act.put]
    refine anyC_take 10 (v := ?_) H1.out rfl (by kernel_rfl) (by kernel_rfl) (by kernel_rfl) (fun c a w h => by exact h) rfl (fun W hW => ?_) ?_
    rotate_left
    · have := T1.out W hW.bel; go_simp
      try rfl
    simp only [Act.put]
    refine anyC_take 13 (v := ?_) H1.out rfl (by kernel_rfl) (by kernel_rfl) (by kernel_rfl) (fun c a w h => by exact h) rfl (fun W hW => ?_) ?_
    rotate_left
    · have := (CF.out W hW.bel).1; go_simp
      try rfl
    simp only [Act.put]
    refine anyC_take 14 (v := ?_) H1.out rfl (by kernel_rfl) (by kernel_rfl) (by kernel_rfl) (fun c a w h => by exact h) rfl (fun W hW => ?_) ?_
    rotate_left
    · have := (CF.out W hW.bel).2.1; go_simp
      try rfl
    simp only [Act.put]
    refine anyC_take 15 (v := ?_) H1.out rfl (by kernel_rfl) (by kernel_rfl) (by kernel_rfl) (fun c a w h => by exact h) rfl (fun W hW => ?_) ?_
    rotate_left
    · go_simp
      try rfl
    simp only [Act.put]
    refine anyC_take 16 (v := ?_) H1.out rfl (by kernel_rfl) (by kernel_rfl) (by kernel_rfl) (fun c a w h => by exact h) rfl (fun W hW => ?_) ?_
    rotate_left
    · have := hW.tc.y.cell (k := 0) rfl; go_simp
      try rfl
    simp only [Act.put]
    refine anyC_take 17 (v := ?_) H1.out rfl (by kernel_rfl) (by kernel_rfl) (by kernel_rfl) (fun c a w h => by exact h) rfl (fun W hW => ?_) ?_
    rotate_left
    · go_simp
      try rfl
    simp only [Act.put]
    refine anyC_take 18 (v := ?_) H1.out rfl (by kernel_rfl) (by kernel_rfl) (by kernel_rfl) (fun c a w h => by exact h) rfl (fun W hW => ?_) ?_
    rotate_left
    · have := S2.out W hW.bel; go_simp
      try rfl
    simp only [Act.put]
    refine anyC_take 19 (v := ?_) H1.out rfl (by kernel_rfl) (by kernel_rfl) (by kernel_rfl) (fun c a w h => by exact h) rfl (fun W hW => ?_) ?_
    rotate_left
    · have := (CF.out W hW.bel).2.2; go_simp
      try rfl
    simp only [Act.put]
    refine anyC_take 20 (v := ?_) H1.out rfl (by kernel_rfl) (by kernel_rfl) (by kernel_rfl) (fun c a w h => by exact h) rfl (fun W hW => ?_) ?_
    rotate_left
    · go_simp
      try rfl
    simp only [Act.put]
    refine anyC_take 21 (v := ?_) H1.out rfl (by kernel_rfl) (by kernel_rfl) (by kernel_rfl) (fun c a w h => by exact h) rfl (fun W hW => ?_) ?_
    rotate_left
    · have := hW.tc.y.cell (k := 1) rfl; go_simp
      try rfl
    simp only [Act.put]
    refine anyC_take 22 (v := ?_) H1.out rfl (by kernel_rfl) (by kernel_rfl) (by kernel_rfl) (fun c a w h => by exact h) rfl (fun W hW => ?_) ?_
    rotate_left
    · go_simp
      try rfl
    simp only [Act.put]
    refine anyC_take 23 (v := ?_) H1.out rfl (by kernel_rfl) (by kernel_rfl) (by kernel_rfl) (fun c a w h => by exact h) rfl (fun W hW => ?_) ?_
    rotate_left
    · have := T2.out W hW.bel; go_simp
      try rfl
    simp only [Act.put]
    refine anyC_one 11 H1.out (by kernel_rfl) rfl ?_
    go_wp2_with (go_at_call 43; refine (NM.out _ H1.out.bel i1 k1 LT.out.1 LT.out.2.2.1).mono ?_; rintro e w2 ⟨rfl, m1, rfl⟩)
    have H2 := hI (H1.out.drewN m1)
    refine anyC_one 12 H2.out (by kernel_rfl) rfl ?_
    go_wp2_with (go_at_call 50; refine (L8.out _ _).mono ?_; rintro e w3 ⟨rfl, rfl⟩)
    refine anyC_one 24 H2.out (by kernel_rfl) rfl ?_
    go_wp2_with (go_at_call 43; refine (NM.out _ H2.out.bel i2 k2 LT.out.2.1 LT.out.2.2.2).mono ?_; rintro e w2 ⟨rfl, m2, rfl⟩)
    have H3 := hI (H1.out.drewN (m1 + m2))
    refine anyC_one 25 H3.out (by kernel_rfl) rfl ?_
    go_wp2_with (go_at_call 50; refine (L8.out _ _).mono ?_; rintro e w3 ⟨rfl, rfl⟩)
    have HL1 : 0 ≤ lat (isNamed l i1 k1) ∧ lat (isNamed l i1 k1) ≤ 1 := by unfold lat; split <;> omega
    have HL2 : 0 ≤ lat (isNamed l i2 k2) ∧ lat (isNamed l i2 k2) ≤ 1 := by unfold lat; split <;> omega
    generalize lat (isNamed l i1 k1) = v1 at *
    generalize lat (isNamed l i2 k2) = v2 at *
    obtain ⟨u1, u2⟩ := HL1
    obtain ⟨u3, u4⟩ := HL2
    refine anyC_one 26 H3.out (by kernel_rfl) rfl ?_
    go_wp2_with fail
    refine anyC_one 27 H3.out (by kernel_rfl) rfl ?_
    go_wp2_with fail
    refine anyC_done H3.out (by kernel_rfl) ?_ _
    go_wp2_with fail
    go_ret
    exact ⟨ret_int HR.out.symm, H3.out.tc.grow⟩
end Go.Proofs.YtbmpidacoohdmaaGreat

/- The document's store: Numbers, indexes (there are none), Get. -/
import Derived.Test.YtbmpidacoohdmaaGreatFst
namespace Go.Proofs.YtbmpidacoohdmaaGreat
open Go.RowKit Op

attribute [local go_sem] bs_append bs_size
set_option maxRecDepth 100000 in
set_option maxHeartbeats 1000000 in
theorem fnumbers_any (w : World) (g : Nat) (l : List Ent) (A : Option Addr) (c : Nat) (fr : Bool) (t : Int) (hs : Rsp w g l A c fr t) :
    Calls Tryz.prog 165 #[.pointer (some ⟨g, 0, none⟩)] w fun e w2 => e = .returned (.slice none 0 0) ∧ w = w2 := by
  have hcl : w.cell? ⟨g, 0, none⟩ = some (.slice A l.length c) := by rw [cell_of_row w g 0 _ _ _ hs.blk]; rfl
  have HC := Lib.hid (fun k x hx => hs.at_ (k := k) (x := x) hx)
  have HI := Lib.hid (fun x hx => (hs.all x hx).1)
  have hcap := hs.cap
  have hfew := hs.few
  clear hs
  go_enter Tryz.func165, Tryz.ntmps165
  go_wp2_with fail
  go_loop [3, 4] (fun ov kv => ov = .slice none 0 0 ∧ ∃ k : Nat, k ≤ l.length ∧ kv = .int .i64 k) (fun _ kv => l.length - (intOf kv).toNat)
  case atStart => exact ⟨rfl, 0, Nat.zero_le _, rfl⟩
  case round =>
    obtain ⟨rfl, k, hk, rfl⟩ := hrel
    by_cases hlt : k < l.length
    · obtain ⟨x, hx⟩ : ∃ x, l[k]? = some x := ⟨l[k], List.getElem?_eq_getElem hlt⟩
      obtain ⟨b, hA, hc, _⟩ := HC.out k x hx
      have HN := Lib.hid (fnum_no w x.id (HI.out x (List.mem_of_getElem? hx)))
      clear hx
      subst hA
      go_wp2_with (go_at_call 136; refine HN.out.mono ?_; rintro e w2 ⟨rfl, rfl⟩)
      exact ⟨⟨rfl, k + 1, by omega, by go_num⟩, by simp [intOf]; omega⟩
    · have hke : k = l.length := by omega
      subst hke
      go_wp2_with fail
      go_ret
      exact ⟨rfl, rfl⟩
set_option maxRecDepth 100000 in
set_option maxHeartbeats 1000000 in
theorem findexes_any (w : World) (g : Nat) (l : List Ent) (A : Option Addr) (c : Nat) (fr : Bool) (t : Int) (hs : Rsp w g l A c fr t) :
    Calls Tryz.prog 96 #[.pointer (some ⟨g, 0, none⟩)] w fun e w2 => e = .returned (.slice none 0 0) ∧ Rsp w2 g l A c true t ∧ w.grownBy w2 (some g) := by
  have HS := Lib.hid hs
  have hc2 : w.cell? ⟨g, 2, none⟩ = some (.slice none 0 0) := by rw [cell_of_row w g 2 _ _ _ hs.blk]; rfl
  have hc3 : w.cell? ⟨g, 3, none⟩ = some (.bool fr) := by rw [cell_of_row w g 3 _ _ _ hs.blk]; rfl
  have hf3 := frozen_of_row w g 3 _ _ hs.blk
  have hf2 := frozen_of_row w g 2 _ _ hs.blk
  clear hs
  cases fr with
  | true =>
    go_enter Tryz.func96, Tryz.ntmps96
    go_wp2_with fail
    go_ret
    exact ⟨rfl, HS.out, grown_refl w _⟩
  | false =>
    obtain ⟨w1, hw1⟩ : ∃ w1, w.setCell ⟨g, 2, none⟩ (.slice none 0 0) = w1 := ⟨_, rfl⟩
    have hb1 : w1.heap[g]? = some (.cells #[.slice A l.length c, .int .i64 t, .slice none 0 0, .bool false] 63 (0, 0)) := by
      rw [← hw1, set_same HS.out.blk]; rfl
    have C1 : Hid (w.grownBy w1 (some g)) := Lib.hid (hw1 ▸ grown_set (grown_refl w _) 2 _)
    have S1 := Lib.hid (HS.out.chs (Chs.of_grown C1.out) (HS.out.non (by decide)) (HS.out.non (by decide)) hb1)
    have hd3 : w1.cell? ⟨g, 3, none⟩ = some (.bool false) := by rw [cell_of_row w1 g 3 _ _ _ hb1]; rfl
    have hd2 : w1.cell? ⟨g, 2, none⟩ = some (.slice none 0 0) := by rw [cell_of_row w1 g 2 _ _ _ hb1]; rfl
    have he3 := frozen_of_row w1 g 3 _ _ hb1
    have hb2 : (w1.setCell ⟨g, 3, none⟩ (.bool true)).heap[g]? = some (.cells #[.slice A l.length c, .int .i64 t, .slice none 0 0, .bool true] 63 (0, 0)) := by
      rw [set_same hb1]; rfl
    have C2 := Lib.hid (grown_set C1.out 3 (.bool true))
    have S2 := Lib.hid (HS.out.chs (Chs.of_grown C2.out) (HS.out.non (by decide)) (HS.out.non (by decide)) hb2)
    have hg2 : (w1.setCell ⟨g, 3, none⟩ (.bool true)).cell? ⟨g, 2, none⟩ = some (.slice none 0 0) := by rw [cell_of_row _ g 2 _ _ _ hb2]; rfl
    clear hb1 hb2
    go_enter Tryz.func96, Tryz.ntmps96
    go_wp2_with fail
    refine (fnumbers_any w1 g l A c false t S1.out).mono ?_
    rintro e w2 ⟨rfl, rfl⟩
    go_wp2_with fail
    refine wp_loop_rounds 1 ?_
    rw [rounds_succ]
    go_wp2_with fail
    go_ret
    exact ⟨rfl, S2.out, C2.out⟩
def intsU (l : List UInt8) : List Int := l.map fun x => (x.toNat : Int)
theorem ints_u8s (l : List UInt8) : bys l = u8s (intsU l) := by simp [bys, u8s, intsU]
theorem ints_inj (a b : List UInt8) : intsU a = intsU b ↔ a = b := by
  constructor
  · intro h
    have := congrArg (List.map fun x : Int => UInt8.ofNat x.toNat) h
    simp only [intsU, List.map_map] at this
    have e : ((fun x : Int => UInt8.ofNat x.toNat) ∘ fun b : UInt8 => (b.toNat : Int)) = id := funext fun b => by simp
    rwa [e, List.map_id, List.map_id] at this
  · rintro rfl; rfl
theorem inf5u : (Tryz.prog.info? 5).map (·.size) = some 1 := by kernel_rfl
theorem run_eql_id {a b : List UInt8} (ha : a.length = 32) (hb : b.length = 32) (w : World) : (binOp .eql 51 (.agg (bys a).toArray) (.agg (bys b).toArray)).run Tryz.prog w = .ok (.bool (decide (a = b))) w := by
  obtain ⟨i, hi, hs⟩ := Option.map_eq_some_iff.1 inf5u
  rw [ints_u8s, ints_u8s, run_eql_u8s w Tryz.underlying51 Tryz.underlying5 hi hs (intsU a) (intsU b) (by simp [intsU, ha]) (by simp [intsU, hb])]
  exact congrArg (fun x => Result.ok (Value.bool x) w) (decide_eq_decide.2 (ints_inj a b))
theorem Rsp.below {w w2 : World} {g : Nat} {l : List Ent} {A : Option Addr} {c : Nat} {fr : Bool} {t : Int} (h : Rsp w g l A c fr t) (hb : Below w.heap.size w w2) : Rsp w2 g l A c fr t :=
  h.chs (Chs.of_below hb (fun _ => False)) (fun _ q => q.elim) (fun _ q => q.elim) ((hb.block g (Array.getElem?_eq_some_iff.1 h.blk).1).trans h.blk)
attribute [local go_sem ↓] load42_eq box42_eq run_box42
set_option maxRecDepth 100000 in
set_option maxHeartbeats 1000000 in
theorem fget_any (w : World) (g : Nat) (l : List Ent) (A : Option Addr) (c : Nat) (fr : Bool) (t : Int) (hs : Rsp w g l A c fr t) (id : List UInt8) (hi : id.length = 32) :
    Calls Tryz.prog 82 #[.pointer (some ⟨g, 0, none⟩), .agg (bys id).toArray] w fun e w2 => ∃ fr2, Rsp w2 g l A c fr2 t ∧ Chs (fun k => k = g) w w2 ∧
      ((∃ x, x ∈ l ∧ x.id = id ∧ ∃ u, e = .returned (.tuple #[.int .i64 1, u, .int .i64 0]) ∧ Ows w2 w.heap.size 5 u (bys x.body)) ∨
       ((∀ x ∈ l, x.id ≠ id) ∧ e = .returned (.tuple #[.int .i64 0, .slice none 0 0, .int .i64 30]))) := by
  have HS := Lib.hid hs
  have R0 := Lib.hid (Ar.new w (bys id) 51)
  have hld := ld42 R0.out hi
  have hcat : (⟨#[108, 111, 111, 115, 101, 47]⟩ : ByteArray) ++ bs (hexB id) = bs (nmB id) := bs_append looB (hexB id)
  have hsz : (bs (hexB id)).size = 64 := by rw [bs_size, hexB_len]; omega
  have B0 := Lib.hid ((Below.refl w.heap.size w).alloc (Nat.le_refl _) (.cells (bys id).toArray 51))
  clear hs
  go_enter Tryz.func82, Tryz.ntmps82
  go_wp2_with fail
  refine (fhex_any _ id hi).mono ?_
  rintro e w1 ⟨rfl, hb1⟩
  have B1 := Lib.hid (B0.out.trans (hb1.mono B0.out.size))
  have R1 := Lib.hid (R0.out.below hb1 R0.out.lt)
  have S1 := Lib.hid (HS.out.below B1.out)
  clear hb1 hld
  go_wp2_with fail
  refine (ffind_any w1 g l A c fr t S1.out id).mono ?_
  rintro e w2 ⟨rfl, ⟨rfl, hno⟩ | ⟨k, rfl, x, hk, he⟩⟩
  · have HNO := Lib.hid hno
    clear hno
    go_wp2_with fail
    refine (findexes_any w1 g l A c fr t S1.out).mono ?_
    rintro e w3 ⟨rfl, hs3, hg3⟩
    have S3 := Lib.hid hs3
    have C3 := Lib.hid ((Chs.of_below B1.out _).trans (Chs.of_grown hg3))
    clear hs3 hg3
    go_wp2_with fail
    refine wp_loop_rounds 1 ?_
    rw [rounds_succ]
    go_wp2_with fail
    go_ret3
    exact ⟨true, S3.out, C3.out, .inr ⟨HNO.out, rfl⟩⟩
  · have HX : Hid (∃ x ∈ l, x.id = id) := Lib.hid ⟨x, List.mem_of_getElem? hk, he⟩
    clear hk he
    go_wp2_with fail
    refine (ffile_any w1 g l A c fr t S1.out id HX.out).mono ?_
    rintro e w3 ⟨rfl, x, hm, he, rfl⟩
    obtain ⟨h1, h2, ⟨b, cc, hv, hcc, hrv, hty⟩, h4⟩ := S1.out.all x hm
    have HM := Lib.hid (And.intro hm he)
    have HV := Lib.hid hrv
    have H4 : Hid (shaOf (objB x.body) = id) := Lib.hid (h4.symm.trans he)
    have hL := objB_len x.body
    have hp := hdB_len h2
    have hL2 : (objB x.body).length ≤ 1000 := by omega
    rw [hv]
    clear h1 hm he hrv hty h4 hv HX hL hp
    go_wp2_with fail
    refine (fsplit_any w1 b cc x.body HV.out hcc h2).mono ?_
    rintro e w4 ⟨u, rfl, ho, hb4⟩
    have O4 := Lib.hid (ho.less (base := w1.heap.size) B1.out.size)
    have B4 := Lib.hid (B1.out.trans (hb4.mono B1.out.size))
    have V4 := Lib.hid (HV.out.low hb4 hb4.size)
    have R4 := Lib.hid (R1.out.below hb4 R1.out.lt)
    have S4 := Lib.hid (S1.out.below hb4)
    clear ho hb4
    have hq := fun W => run_eql_id (a := id) (b := id) hi hi W
    go_upto_region 7 with fail
    have D0 := Lib.hid (Below.refl w4.heap.size w4).drew
    have B4d := Lib.hid (B4.out.trans (D0.out.mono B4.out.size))
    have V4d := Lib.hid (V4.out.below D0.out)
    have R4d := Lib.hid (R4.out.below D0.out R4.out.lt)
    have S4d := Lib.hid (S4.out.below D0.out)
    have O4d := Lib.hid (O4.out.below D0.out)
    have hld4 := ld42 R4d.out hi
    clear B4 V4 R4 S4 O4 D0
    go_region_with (go_at_call 95; refine (fof_any w4.drew (some ⟨b, 0, none⟩) cc (objB x.body) V4d.out (Nat.le_refl _) (fun q => by cases q) (by omega)).mono ?_; rintro e w5 ⟨rfl, hb5⟩; rw [H4.out]; have hld5 := ld42 (R4d.out.below hb5 R4d.out.lt) hi; have B5 := Lib.hid (B4d.out.trans (hb5.mono B4d.out.size)); have S5 := Lib.hid (S4d.out.below hb5); have O5 := Lib.hid (O4d.out.below hb5); clear hb5)
    all_goals
      go_wp2_with fail
      go_ret3
      exact ⟨fr, S5.out, Chs.of_below B5.out _, .inl ⟨x, HM.out.1, HM.out.2, u, rfl, O5.out⟩⟩
end Go.Proofs.YtbmpidacoohdmaaGreat

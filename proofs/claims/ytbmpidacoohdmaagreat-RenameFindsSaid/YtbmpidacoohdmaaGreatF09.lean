/- The document's store: Numbers, indexes (there are none), Get. The program's store: what it holds as data. The program's store: New, dead, a walk over the files, numbers, indexes. -/
import Derived.Test.YtbmpidacoohdmaaGreatF08
import Derived.Maps.OwnSet
import Derived.Maps.OwnOps
import Derived.Maps.RangeWalk
import Derived.Test.YtbmpidacoohdmaaGreatF07
import Derived.Carry
import Derived.WalkSpells
namespace Go.Proofs.YtbmpidacoohdmaaGreat
open Lib renaming hid → hI
open Go.RowKit Op

attribute [local go_sem] bs_append bs_size
set_option maxRecDepth 100000 in
set_option maxHeartbeats 1000000 in
theorem fnumbers_any (w : World) (g : Nat) (l : List Ent) (A : Option Addr) (c : Nat) (fr : Bool) (t : Int) (hs : Rsp w g l A c fr t) :
    Calls Tryz.prog 165 #[.pointer (some ⟨g, 0, none⟩)] w fun e w2 => e = .returned (.slice none 0 0) ∧ w = w2 := by
  have hcl : w.cell? ⟨g, 0, none⟩ = some (.slice A l.length c) := by rw [cell_of_row w g 0 _ _ _ hs.blk]; rfl
  have HC := hI (fun k x hx => hs.at_ (k := k) (x := x) hx)
  have HI := hI (fun x hx => (hs.all x hx).1)
  have hcap := hs.cap
  have hfew := hs.few
  clear hs
  go_enter Tryz.func165, Tryz.ntmps165
  go_wp2_with fail
  go_loop [3, 4] (fun ov kv => ov = .slice none 0 0 ∧ ∃ k : Nat, k ≤ l.length ∧ kv = .int .i64 k) (fun _ kv => l.length - (intOf kv).toNat)
  case atStart => exact ⟨rfl, 0, Nat.zero_le _, rfl⟩
  case round =>
    obtain ⟨rfl, k, hk, rfl⟩ := hrel
    by_cases hlt : k < l.length
    · obtain ⟨x, hx⟩ : ∃ x, l[k]? = some x := ⟨l[k], List.getElem?_eq_getElem hlt⟩
      obtain ⟨b, hA, hc, _⟩ := HC.out k x hx
      have HN := hI (fnum_no w x.id (HI.out x (List.mem_of_getElem? hx)))
      clear hx
      subst hA
      go_wp2_with (go_at_call 136; refine HN.out.mono ?_; rintro e w2 ⟨rfl, rfl⟩)
      exact ⟨⟨rfl, k + 1, by omega, by go_num⟩, by simp [intOf]; omega⟩
    · have hke : k = l.length := by omega
      subst hke
      go_wp2_with fail
      go_ret
      exact ⟨rfl, rfl⟩
set_option maxRecDepth 100000 in
set_option maxHeartbeats 1000000 in
theorem findexes_any (w : World) (g : Nat) (l : List Ent) (A : Option Addr) (c : Nat) (fr : Bool) (t : Int) (hs : Rsp w g l A c fr t) :
    Calls Tryz.prog 96 #[.pointer (some ⟨g, 0, none⟩)] w fun e w2 => e = .returned (.slice none 0 0) ∧ Rsp w2 g l A c true t ∧ w.grownBy w2 (some g) := by
  have HS := hI hs
  have hc2 : w.cell? ⟨g, 2, none⟩ = some (.slice none 0 0) := by rw [cell_of_row w g 2 _ _ _ hs.blk]; rfl
  have hc3 : w.cell? ⟨g, 3, none⟩ = some (.bool fr) := by rw [cell_of_row w g 3 _ _ _ hs.blk]; rfl
  have hf3 := frozen_of_row w g 3 _ _ hs.blk
  have hf2 := frozen_of_row w g 2 _ _ hs.blk
  clear hs
  cases fr with
  | true =>
    go_enter Tryz.func96, Tryz.ntmps96
    go_wp2_with fail
    go_ret
    exact ⟨rfl, HS.out, grown_refl w _⟩
  | false =>
    obtain ⟨w1, hw1⟩ : ∃ w1, w.setCell ⟨g, 2, none⟩ (.slice none 0 0) = w1 := ⟨_, rfl⟩
    have hb1 : w1.heap[g]? = some (.cells #[.slice A l.length c, .int .i64 t, .slice none 0 0, .bool false] 63 (0, 0)) := by
      rw [← hw1, set_same HS.out.blk]; rfl
    have C1 : Hid (w.grownBy w1 (some g)) := hI (hw1 ▸ grown_set (grown_refl w _) 2 _)
    have S1 := hI (HS.out.chs (Chs.of_grown C1.out) (HS.out.non (by decide)) (HS.out.non (by decide)) hb1)
    have hd3 : w1.cell? ⟨g, 3, none⟩ = some (.bool false) := by rw [cell_of_row w1 g 3 _ _ _ hb1]; rfl
    have hd2 : w1.cell? ⟨g, 2, none⟩ = some (.slice none 0 0) := by rw [cell_of_row w1 g 2 _ _ _ hb1]; rfl
    have he3 := frozen_of_row w1 g 3 _ _ hb1
    have hb2 : (w1.setCell ⟨g, 3, none⟩ (.bool true)).heap[g]? = some (.cells #[.slice A l.length c, .int .i64 t, .slice none 0 0, .bool true] 63 (0, 0)) := by
      rw [set_same hb1]; rfl
    have C2 := hI (grown_set C1.out 3 (.bool true))
    have S2 := hI (HS.out.chs (Chs.of_grown C2.out) (HS.out.non (by decide)) (HS.out.non (by decide)) hb2)
    have hg2 : (w1.setCell ⟨g, 3, none⟩ (.bool true)).cell? ⟨g, 2, none⟩ = some (.slice none 0 0) := by rw [cell_of_row _ g 2 _ _ _ hb2]; rfl
    clear hb1 hb2
    go_enter Tryz.func96, Tryz.ntmps96
    go_wp2_with fail
    refine (fnumbers_any w1 g l A c false t S1.out).mono ?_
    rintro e w2 ⟨rfl, rfl⟩
    go_wp2_with fail
    refine wp_loop_rounds 1 ?_
    rw [rounds_succ]
    go_wp2_with fail
    go_ret
    exact ⟨rfl, S2.out, C2.out⟩
def intsU (l : List UInt8) : List Int := l.map fun x => (x.toNat : Int)
theorem ints_u8s (l : List UInt8) : bys l = u8s (intsU l) := by simp [bys, u8s, intsU]
theorem ints_inj (a b : List UInt8) : intsU a = intsU b ↔ a = b := by
  constructor
  · intro h
    have := congrArg (List.map fun x : Int => UInt8.ofNat x.toNat) h
    simp only [intsU, List.map_map] at this
    have e : ((fun x : Int => UInt8.ofNat x.toNat) ∘ fun b : UInt8 => (b.toNat : Int)) = id := funext fun b => by simp
    rwa [e, List.map_id, List.map_id] at this
  · rintro rfl; rfl
theorem inf5u : (Tryz.prog.info? 5).map (·.size) = some 1 := by kernel_rfl
theorem run_eql_id {a b : List UInt8} (ha : a.length = 32) (hb : b.length = 32) (w : World) : (binOp .eql 51 (.agg (bys a).toArray) (.agg (bys b).toArray)).run Tryz.prog w = .ok (.bool (decide (a = b))) w := by
  obtain ⟨i, hi, hs⟩ := Option.map_eq_some_iff.1 inf5u
  rw [ints_u8s, ints_u8s, run_eql_u8s w Tryz.underlying51 Tryz.underlying5 hi hs (intsU a) (intsU b) (by simp [intsU, ha]) (by simp [intsU, hb])]
  exact congrArg (fun x => Result.ok (Value.bool x) w) (decide_eq_decide.2 (ints_inj a b))
theorem Rsp.below {w w2 : World} {g : Nat} {l : List Ent} {A : Option Addr} {c : Nat} {fr : Bool} {t : Int} (h : Rsp w g l A c fr t) (hb : Below w.heap.size w w2) : Rsp w2 g l A c fr t :=
  h.chs (Chs.of_below hb (fun _ => False)) (fun _ q => q.elim) (fun _ q => q.elim) ((hb.block g (Array.getElem?_eq_some_iff.1 h.blk).1).trans h.blk)
attribute [local go_sem ↓] load42_eq box42_eq run_box42
set_option maxRecDepth 100000 in
set_option maxHeartbeats 1000000 in
theorem fget_any (w : World) (g : Nat) (l : List Ent) (A : Option Addr) (c : Nat) (fr : Bool) (t : Int) (hs : Rsp w g l A c fr t) (id : List UInt8) (hi : id.length = 32) :
    Calls Tryz.prog 82 #[.pointer (some ⟨g, 0, none⟩), .agg (bys id).toArray] w fun e w2 => ∃ fr2, Rsp w2 g l A c fr2 t ∧ Chs (fun k => k = g) w w2 ∧
      ((∃ x, x ∈ l ∧ x.id = id ∧ ∃ u, e = .returned (.tuple #[.int .i64 1, u, .int .i64 0]) ∧ Ows w2 w.heap.size 5 u (bys x.body)) ∨
       ((∀ x ∈ l, x.id ≠ id) ∧ e = .returned (.tuple #[.int .i64 0, .slice none 0 0, .int .i64 30]))) := by
  have HS := hI hs
  have R0 := hI (Ar.new w (bys id) 51)
  have hld := ld42 R0.out hi
  have hcat : (⟨#[108, 111, 111, 115, 101, 47]⟩ : ByteArray) ++ bs (hexB id) = bs (nmB id) := bs_append looB (hexB id)
  have hsz : (bs (hexB id)).size = 64 := by rw [bs_size, hexB_len]; omega
  have B0 := hI ((Below.refl w.heap.size w).alloc (Nat.le_refl _) (.cells (bys id).toArray 51))
  clear hs
  go_enter Tryz.func82, Tryz.ntmps82
  go_wp2_with fail
  refine (fhex_any _ id hi).mono ?_
  rintro e w1 ⟨rfl, hb1⟩
  have B1 := hI (B0.out.trans (hb1.mono B0.out.size))
  have R1 := hI (R0.out.below hb1 R0.out.lt)
  have S1 := hI (HS.out.below B1.out)
  clear hb1 hld
  go_wp2_with fail
  refine (ffind_any w1 g l A c fr t S1.out id).mono ?_
  rintro e w2 ⟨rfl, ⟨rfl, hno⟩ | ⟨k, rfl, x, hk, he⟩⟩
  · have HNO := hI hno
    clear hno
    go_wp2_with fail
    refine (findexes_any w1 g l A c fr t S1.out).mono ?_
    rintro e w3 ⟨rfl, hs3, hg3⟩
    have S3 := hI hs3
    have C3 := hI ((Chs.of_below B1.out _).trans (Chs.of_grown hg3))
    clear hs3 hg3
    go_wp2_with fail
    refine wp_loop_rounds 1 ?_
    rw [rounds_succ]
    go_wp2_with fail
    go_ret3
    exact ⟨true, S3.out, C3.out, .inr ⟨HNO.out, rfl⟩⟩
  · have HX : Hid (∃ x ∈ l, x.id = id) := hI ⟨x, List.mem_of_getElem? hk, he⟩
    clear hk he
    go_wp2_with fail
    refine (ffile_any w1 g l A c fr t S1.out id HX.out).mono ?_
    rintro e w3 ⟨rfl, x, hm, he, rfl⟩
    obtain ⟨h1, h2, ⟨b, cc, hv, hcc, hrv, hty⟩, h4⟩ := S1.out.all x hm
    have HM := hI (And.intro hm he)
    have HV := hI hrv
    have H4 : Hid (shaOf (objB x.body) = id) := hI (h4.symm.trans he)
    have hL := objB_len x.body
    have hp := hdB_len h2
    have hL2 : (objB x.body).length ≤ 1000 := by omega
    rw [hv]
    clear h1 hm he hrv hty h4 hv HX hL hp
    go_wp2_with fail
    refine (fsplit_any w1 b cc x.body HV.out hcc h2).mono ?_
    rintro e w4 ⟨u, rfl, ho, hb4⟩
    have O4 := hI (ho.less (base := w1.heap.size) B1.out.size)
    have B4 := hI (B1.out.trans (hb4.mono B1.out.size))
    have V4 := hI (HV.out.low hb4 hb4.size)
    have R4 := hI (R1.out.below hb4 R1.out.lt)
    have S4 := hI (S1.out.below hb4)
    clear ho hb4
    have hq := fun W => run_eql_id (a := id) (b := id) hi hi W
    go_upto_region 7 with fail
    have D0 := hI (Below.refl w4.heap.size w4).drew
    have B4d := hI (B4.out.trans (D0.out.mono B4.out.size))
    have V4d := hI (V4.out.below D0.out)
    have R4d := hI (R4.out.below D0.out R4.out.lt)
    have S4d := hI (S4.out.below D0.out)
    have O4d := hI (O4.out.below D0.out)
    have hld4 := ld42 R4d.out hi
    clear B4 V4 R4 S4 O4 D0
    go_region_with (go_at_call 95; refine (fof_any w4.drew (some ⟨b, 0, none⟩) cc (objB x.body) V4d.out (Nat.le_refl _) (fun q => by cases q) (by omega)).mono ?_; rintro e w5 ⟨rfl, hb5⟩; rw [H4.out]; have hld5 := ld42 (R4d.out.below hb5 R4d.out.lt) hi; have B5 := hI (B4d.out.trans (hb5.mono B4d.out.size)); have S5 := hI (S4d.out.below hb5); have O5 := hI (O4d.out.below hb5); clear hb5)
    all_goals
      go_wp2_with fail
      go_ret3
      exact ⟨fr, S5.out, Chs.of_below B5.out _, .inl ⟨x, HM.out.1, HM.out.2, u, rfl, O5.out⟩⟩
end Go.Proofs.YtbmpidacoohdmaaGreat
namespace Go.Proofs.YtbmpidacoohdmaaGreat
open Lib renaming hid → hI
open Go.RowKit Op

def keyL (id : List UInt8) : Lit := .string (nmB id)
theorem keyL_key (id : List UInt8) : WideAt.IsKeyLit (keyL id) := trivial
def RV (v : Value) : Option (DataW Value × List MemPlace) := some (.held v, [])
theorem RV_inj {v u : Value} {ps : List MemPlace} (h : RV v = some (.held u, ps)) : v = u := by
  unfold RV at h
  simp only [Option.some.injEq, Prod.mk.injEq, DataW.held.injEq] at h
  exact h.1
theorem keyd : Maps.Keyed Tryz.prog 9 := Maps.string_keyed Tryz.underlying9
theorem keyL_inj {a b : List UInt8} (h : keyL a = keyL b) : a = b := nmB_inj (Lit.string.inj h)
theorem key_nm (id : List UInt8) (hi : id.length ≤ 32) : keyOf Tryz.prog 9 (.string (bs (nmB id))) = some (keyL id) := by
  have h : (bs (nmB id)).size ≤ maxLen := by
    have := hexB_len id
    rw [bs_size]; simp only [nmB, looB, List.length_append, List.length_cons, List.length_nil]; unfold maxLen; omega
  have := WideMaps.keyOf_string_mk (P := Tryz.prog) Tryz.underlying9 h
  simpa [bs, keyL] using this
theorem key_inv {key : Value} {id : List UInt8} (h : keyOf Tryz.prog 9 key = some (keyL id)) : key = .string (bs (nmB id)) := by
  obtain ⟨s, rfl, e, _⟩ := WideMaps.string_of_keyOf (P := Tryz.prog) Tryz.underlying9 h
  have e2 : s.data.toList = nmB id := (Lit.string.inj e).symm
  rw [← bs_of s, e2]
theorem own_map_of {P : Program} {k : TypeId} {w w2 : World} {m n : Nat} {D : DataW Value} (h : w.ownsMap P k RV m n D) (hb : w2.heap[m]? = w.heap[m]?) : w2.ownsMap P k RV m n D := by
  obtain ⟨es, clock, h1, h2⟩ := h
  exact ⟨es, clock, hb.trans h1, h2⟩
/-- The entries of a map are these. -/
structure Mp (l : List Ent) (D : DataW Value) : Prop where
  has : ∀ kl, Maps.has D kl = true ↔ ∃ x ∈ l, kl = keyL x.id
  at_ : ∀ x ∈ l, ∀ z, D.atKey (keyL x.id) z = .held x.v
/-- The program's store holds these. -/
structure Psp (w : World) (g m : Nat) (l : List Ent) (t kn : Int) : Prop where
  blk : w.heap[g]? = some (.cells #[.map (some m), .int .i64 t, .slice none 0 0, .int .i64 kn] 135 (0, 0))
  map : ∃ D, w.ownsMap Tryz.prog 9 RV m l.length D ∧ Mp l D
  all : ∀ x ∈ l, x.id.length = 32 ∧ x.body.length ≤ 400 ∧ By w x.v (objB x.body) ∧ x.id = shaOf (objB x.body)
  few : l.length ≤ 40
theorem Psp.chs {S : Nat → Prop} {w w2 : World} {g m : Nat} {l : List Ent} {t kn t2 kn2 : Int} (h : Psp w g m l t kn) (hc : Chs S w w2) (hn : Non S w 5) (hm : w2.heap[m]? = w.heap[m]?)
    (hg : w2.heap[g]? = some (.cells #[.map (some m), .int .i64 t2, .slice none 0 0, .int .i64 kn2] 135 (0, 0))) : Psp w2 g m l t2 kn2 where
  blk := hg
  map := by
    obtain ⟨D, h1, h2⟩ := h.map
    exact ⟨D, own_map_of h1 hm, h2⟩
  all := fun x hx => by
    obtain ⟨h1, h2, h3, h4⟩ := h.all x hx
    exact ⟨h1, h2, h3.chs hc hn, h4⟩
  few := h.few
theorem Psp.mlt {w : World} {g m : Nat} {l : List Ent} {t kn : Int} (h : Psp w g m l t kn) : m < w.heap.size := by
  obtain ⟨D, h1, _⟩ := h.map
  exact h1.lt
theorem Psp.glt {w : World} {g m : Nat} {l : List Ent} {t kn : Int} (h : Psp w g m l t kn) : g < w.heap.size := (Array.getElem?_eq_some_iff.1 h.blk).1
theorem Psp.below {w w2 : World} {g m : Nat} {l : List Ent} {t kn : Int} (h : Psp w g m l t kn) (hb : Below w.heap.size w w2) : Psp w2 g m l t kn :=
  h.chs (Chs.of_below hb (fun _ => False)) (fun _ q => q.elim) (hb.block m h.mlt) ((hb.block g h.glt).trans h.blk)
theorem Psp.ne {w : World} {g m : Nat} {l : List Ent} {t kn : Int} (h : Psp w g m l t kn) : m ≠ g := by
  rintro rfl
  obtain ⟨D, ⟨es, clock, h1, _⟩, _⟩ := h.map
  have := h.blk.symm.trans h1
  injection this with this
  cases this
theorem Psp.non {w : World} {g m : Nat} {l : List Ent} {t kn : Int} (h : Psp w g m l t kn) {ty : TypeId} (ht : ty ≠ 135) : Non (fun k => k = g ∨ k = m) w ty := by
  rintro k (rfl | rfl) cs f hk
  · have := h.blk.symm.trans hk
    injection this with this
    injection this with _ h2
    exact ht h2.symm
  · obtain ⟨D, ⟨es, clock, h1, _⟩, _⟩ := h.map
    have := h1.symm.trans hk
    injection this with this
    cases this
/-- Only the block of the store turned. -/
theorem Psp.turn {w w2 : World} {g m : Nat} {l : List Ent} {t kn t2 kn2 : Int} (h : Psp w g m l t kn) (hc : Chs (fun k => k = g) w w2)
    (hg : w2.heap[g]? = some (.cells #[.map (some m), .int .i64 t2, .slice none 0 0, .int .i64 kn2] 135 (0, 0))) : Psp w2 g m l t2 kn2 :=
  h.chs hc (fun k hk => h.non (ty := 5) (by decide) k (.inl hk)) (hc.block m h.mlt h.ne) hg
/-- A file is looked for. -/
theorem Psp.look_yes {w : World} {g m : Nat} {l : List Ent} {t kn : Int} (h : Psp w g m l t kn) {x : Ent} (hm : x ∈ l) :
    (Instr.lookup 132 (.map (some m)) (.string (bs (nmB x.id))) true).run Tryz.prog w = .ok (.tuple #[x.v, .bool true]) w := by
  obtain ⟨D, h1, h2⟩ := h.map
  obtain ⟨v, ps, hr, hv⟩ := h1.look_ok keyd Tryz.underlying132 (z := .slice none 0 0) (Tryz.zeroValue57 w) (zd := .held (.slice none 0 0)) (zp := []) rfl (key_nm x.id (Nat.le_of_eq (h.all x hm).1))
  rw [(h2.has _).2 ⟨x, hm, rfl⟩] at hr
  rw [h2.at_ x hm] at hv
  have e : v = x.v := RV_inj hv
  subst e
  exact hr
theorem Psp.look_no {w : World} {g m : Nat} {l : List Ent} {t kn : Int} (h : Psp w g m l t kn) {id : List UInt8} (hi : id.length = 32) (hn : ∀ x ∈ l, x.id ≠ id) :
    (Instr.lookup 132 (.map (some m)) (.string (bs (nmB id))) true).run Tryz.prog w = .ok (.tuple #[.slice none 0 0, .bool false]) w := by
  obtain ⟨D, h1, h2⟩ := h.map
  obtain ⟨v, ps, hr, hv⟩ := h1.look_ok keyd Tryz.underlying132 (z := .slice none 0 0) (Tryz.zeroValue57 w) (zd := .held (.slice none 0 0)) (zp := []) rfl (key_nm id (by omega))
  have hno : Maps.has D (keyL id) = false := by
    rw [← Bool.not_eq_true, h2.has]
    rintro ⟨x, hm, e⟩
    exact hn x hm (keyL_inj e).symm
  rw [hno] at hr
  rw [Maps.atKey_of_not_has hno] at hv
  have e : v = .slice none 0 0 := RV_inj hv
  subst e
  exact hr
theorem Mp.put {l : List Ent} {D : DataW Value} (h : Mp l D) (hD : Maps.IsMap D) {e : Ent} (hno : ∀ x ∈ l, x.id ≠ e.id) : Mp (e :: l) (D.put (keyL e.id) (.held e.v)) where
  has := fun kl => by
    by_cases hk : kl = keyL e.id
    · subst hk
      rw [Maps.has_put_same hD (keyL_key _)]
      exact ⟨fun _ => ⟨e, by simp, rfl⟩, fun _ => rfl⟩
    · rw [Maps.has_put_other hk, h.has]
      constructor
      · rintro ⟨x, hx, rfl⟩
        exact ⟨x, by simp [hx], rfl⟩
      · rintro ⟨x, hx, rfl⟩
        rcases List.mem_cons.1 hx with rfl | hx
        · exact absurd rfl hk
        · exact ⟨x, hx, rfl⟩
  at_ := fun x hx z => by
    rcases List.mem_cons.1 hx with rfl | hx
    · exact Maps.atKey_put_same hD (keyL_key _) _ _
    · rw [Maps.atKey_put_other (fun e2 => hno x hx (keyL_inj e2))]
      exact h.at_ x hx z
end Go.Proofs.YtbmpidacoohdmaaGreat
namespace Go.Proofs.YtbmpidacoohdmaaGreat
open Lib renaming hid → hI
open Go.RowKit Op

/-- A walk over the files is under way; these are behind it. -/
def Rng (w : World) (m r : Nat) (l : List Ent) (vis : List (List UInt8)) : Prop := ∃ D n left cnt, Mp l D ∧ w.ranges Tryz.prog 9 RV m r n D left cnt ∧ (∀ kl, left kl = true ↔ ∃ x ∈ l, kl = keyL x.id ∧ x.id ∉ vis) ∧ vis.length + cnt ≤ l.length ∧ vis.Nodup ∧ ∀ id ∈ vis, ∃ x ∈ l, x.id = id
theorem Rng.few {w : World} {m r : Nat} {l : List Ent} {vis : List (List UInt8)} (h : Rng w m r l vis) : vis.length ≤ l.length := by
  obtain ⟨_, _, _, _, _, _, _, h4, _⟩ := h
  omega
theorem Rng.lt {w : World} {m r : Nat} {l : List Ent} {vis : List (List UInt8)} (h : Rng w m r l vis) : m < w.heap.size ∧ r < w.heap.size := by
  obtain ⟨_, _, _, _, _, h2, _⟩ := h
  exact ⟨h2.owns.lt, h2.lt⟩
theorem Rng.same {w w2 : World} {m r : Nat} {l : List Ent} {vis : List (List UInt8)} (h : Rng w m r l vis) (hm : w2.heap[m]? = w.heap[m]?) (hr : w2.heap[r]? = w.heap[r]?) : Rng w2 m r l vis ∧ w2.rangeLeft m r = w.rangeLeft m r := by
  obtain ⟨D, n, left, cnt, h1, ⟨es, clock, since, seen, c0, hb, F, hs, hD, hr2, rest⟩, h3⟩ := h
  exact ⟨⟨D, n, left, cnt, h1, ⟨es, clock, since, seen, c0, hm.trans hb, F, hs, hD, hr.trans hr2, rest⟩, h3⟩, by simp only [World.rangeLeft, hm, hr]⟩
theorem Rng.below {w w2 : World} {m r : Nat} {l : List Ent} {vis : List (List UInt8)} (h : Rng w m r l vis) (hb : Below w.heap.size w w2) : Rng w2 m r l vis ∧ w2.rangeLeft m r = w.rangeLeft m r :=
  h.same (hb.block m h.lt.1) (hb.block r h.lt.2)
theorem Psp.range {w : World} {g m : Nat} {l : List Ent} {t kn : Int} (h : Psp w g m l t kn) : ∃ w', (Instr.range 132 (.map (some m))).run Tryz.prog w = .ok (.pointer (some ⟨w.heap.size, 0, none⟩)) w' ∧ Rng w' m w.heap.size l [] ∧ Below w.heap.size w w' ∧ w'.heap.size = w.heap.size + 1 := by
  obtain ⟨D, h1, h2⟩ := h.map
  obtain ⟨w', hr, h3, h4, h5⟩ := h1.range keyd Tryz.underlying132
  refine ⟨w', hr, ⟨D, _, _, _, h2, h3, fun kl => ?_, by simpa using h1.size_le, List.nodup_nil, fun id hid => by cases hid⟩, ⟨h4.os, h4.tape, h4.output, h4.size, fun k hk => h4.block k hk (by simp)⟩, h5⟩
  rw [h2.has]
  simp
theorem wpList_next_ent (w : World) {ops : Array Oper} {rest : List Oper} {o : Oper} {a : Act} {Q : Exit → Act → World → Prop} (hg : o.guard = none) (it : Operand) (hop : o.op = Op.next it false) (m r : Nat) (l : List Ent) (vis : List (List UInt8)) (hit : a.eval it = .pointer (some ⟨r, 0, none⟩)) (h : Rng w m r l vis)
    (hDone : wpList Tryz.prog ops Q rest (a.put o.dst (.tuple #[.bool false])) w)
    (hMore : ∀ (x : Ent) (w' : World), x ∈ l → x.id ∉ vis → Rng w' m r l (vis ++ [x.id]) → w'.rangeLeft m r < w.rangeLeft m r → w.grownBy w' (some r) → w'.heap.size = w.heap.size → (Instr.entry (.pointer (some ⟨r, 0, none⟩))).run Tryz.prog w' = .ok (.tuple #[.string (bs (nmB x.id)), x.v]) w' → wpList Tryz.prog ops Q rest (a.put o.dst (.tuple #[.bool true, .string (bs (nmB x.id)), x.v])) w') :
    wpList Tryz.prog ops Q (o :: rest) a w := by
  refine wpList_plain hg fun K' hK' => ?_
  unfold Oper.wp
  obtain ⟨D, n, left, cnt, h1, h2, h3, h4, h5, h6⟩ := h
  have hle := h2.left_eq
  rcases h2.next keyd o.type with ⟨h0, hl, hrun⟩ | ⟨key, v, kl, y, w', cnt', hkey, hlk, hv, hat, hrun, hrg, hlt, hgr, hsz, hen⟩
  · simp [execOp, hop, hit, hrun, Result.andThen]
    exact hK' _ _ hDone
  · obtain ⟨x, hx, rfl, hnv⟩ := (h3 kl).1 hlk
    obtain rfl := key_inv hkey
    have e : v = x.v := by
      have := (hat (.held (.slice none 0 0))).symm.trans (h1.at_ x hx _)
      have e2 : y = (.held v, []) := (Option.some.inj hv).symm
      rw [e2] at this
      injection this
    subst e
    simp [execOp, hop, hit, hrun, Result.andThen]
    refine hK' _ _ (hMore x w' hx hnv ⟨D, n, _, cnt', h1, hrg, fun kl => ?_, by rw [List.length_append, List.length_singleton]; omega, List.nodup_append.2 ⟨h5, by simp, fun a ha b hb e => ?_⟩, fun id hid => ?_⟩ (by rw [hrg.left_eq, hle]; exact hlt) hgr hsz hen)
    · rw [Bool.and_eq_true, h3]
      constructor
      · rintro ⟨⟨z, hz, rfl, hzv⟩, hne⟩
        refine ⟨z, hz, rfl, fun hm => ?_⟩
        rcases List.mem_append.1 hm with hm | hm
        · exact hzv hm
        · rw [List.mem_singleton.1 hm, WideAt.sameKey_self (keyL_key _)] at hne
          cases hne
      · rintro ⟨z, hz, rfl, hzv⟩
        rw [List.mem_append, not_or, List.mem_singleton] at hzv
        refine ⟨⟨z, hz, rfl, hzv.1⟩, ?_⟩
        rw [Maps.sameKey_ne (fun e => hzv.2 (keyL_inj e))]
        rfl
    · rw [List.mem_singleton.1 hb] at e
      subst e
      exact hnv ha
    · rcases List.mem_append.1 hid with hid | hid
      · exact h6 id hid
      · rw [List.mem_singleton.1 hid]
        exact ⟨x, hx, rfl⟩
theorem cut_no (id : List UInt8) (w : World) : Calls Tryz.prog 155 #[.string (bs (nmB id)), .string ⟨#[105, 110, 100, 101, 120, 47]⟩] w fun e w2 => e = .returned (.tuple #[.string (bs (nmB id)), .bool false]) ∧ w = w2 :=
  (Tryz.strings_CutPrefix (bs (nmB id)) ⟨#[105, 110, 100, 101, 120, 47]⟩ w).mono fun e w2 ⟨h1, h2⟩ => ⟨h1.trans (by
    have e1 : Lib.hasPrefix (bs (nmB id)).data.toList [105, 110, 100, 101, 120, 47] = false := by simp [bs, Lib.hasPrefix, nmB, looB, List.isPrefixOf]
    have e2 : Lib.trimPrefix (bs (nmB id)).data.toList [105, 110, 100, 101, 120, 47] = nmB id := by simp [Lib.trimPrefix, e1]; simp [bs]
    rw [e1, e2]; rfl), h2.symm⟩
theorem cut_yes (id : List UInt8) (w : World) : Calls Tryz.prog 155 #[.string (bs (nmB id)), .string ⟨#[108, 111, 111, 115, 101, 47]⟩] w fun e w2 => e = .returned (.tuple #[.string (bs (hexB id)), .bool true]) ∧ w = w2 :=
  (Tryz.strings_CutPrefix (bs (nmB id)) ⟨#[108, 111, 111, 115, 101, 47]⟩ w).mono fun e w2 ⟨h1, h2⟩ => ⟨h1.trans (by
    have e1 : Lib.hasPrefix (bs (nmB id)).data.toList [108, 111, 111, 115, 101, 47] = true := by simp [bs, Lib.hasPrefix, nmB, looB]
    have e2 : Lib.trimPrefix (bs (nmB id)).data.toList [108, 111, 111, 115, 101, 47] = hexB id := by simp [Lib.trimPrefix, e1]; simp [bs, nmB, looB]
    rw [e1, e2]; rfl), h2.symm⟩
set_option maxRecDepth 100000 in
set_option maxHeartbeats 1000000 in
theorem new_any (w : World) : Calls Tryz.prog 27 #[] w fun e w2 => e = .returned (.pointer (some ⟨w.heap.size + 1, 0, none⟩)) ∧ Psp w2 (w.heap.size + 1) w.heap.size [] 0 (-1) ∧ Below w.heap.size w w2 := by
  have hmm := @run_makeMap Tryz.prog
  go_enter Tryz.func27, Tryz.ntmps27
  go_wp2_with fail
  go_ret
  have B := hI ((Below.refl w.heap.size w).alloc (Nat.le_refl _) (.map #[] 0))
  have M := World.ownsMap_made w Tryz.prog 9 RV
  refine ⟨rfl, ⟨?_, ⟨.map [], M.alloc _, ⟨fun kl => ⟨fun h => (by cases h), fun h => (by obtain ⟨x, hx, _⟩ := h; cases hx)⟩, fun x hx => (by cases hx)⟩⟩, fun x hx => (by cases hx), Nat.zero_le _⟩, B.out.alloc B.out.size _⟩
  have e := Ar.new (w.alloc (.map #[] 0)) [.map (some w.heap.size), .int .i64 0, .slice none 0 0, .int .i64 (-1)] 135
  simpa [Ar] using e
set_option maxRecDepth 100000 in
set_option maxHeartbeats 1000000 in
theorem dead_any (w : World) (g m : Nat) (l : List Ent) (t kn : Int) (hs : Psp w g m l t kn) : Calls Tryz.prog 71 #[.pointer (some ⟨g, 0, none⟩)] w fun e w2 => e = .returned (.bool false) ∧ w = w2 := by
  have hc0 : w.cell? ⟨g, 0, none⟩ = some (.map (some m)) := by rw [cell_of_row w g 0 _ _ _ hs.blk]; rfl
  clear hs
  have hq := fun W => run_eql_map_nil (P := Tryz.prog) W 132 _ _ (some m) Tryz.underlying132
  go_enter Tryz.func71, Tryz.ntmps71
  go_wp2_with fail

  go_ret
  exact ⟨rfl, rfl⟩
set_option maxRecDepth 100000 in
set_option maxHeartbeats 1000000 in
theorem numbers_any (w : World) (g m : Nat) (l : List Ent) (t kn : Int) (hs : Psp w g m l t kn) : Calls Tryz.prog 116 #[.pointer (some ⟨g, 0, none⟩), .string ⟨#[105, 110, 100, 101, 120, 47]⟩] w fun e w2 => e = .returned (.slice none 0 0) ∧ Below w.heap.size w w2 := by
  have hc0 : w.cell? ⟨g, 0, none⟩ = some (.map (some m)) := by rw [cell_of_row w g 0 _ _ _ hs.blk]; rfl
  obtain ⟨w1, hrun, hrg, hb1, hs1⟩ := hs.range
  have RG := hI hrg
  have B1 := hI hb1
  clear hs hrg hb1
  go_enter Tryz.func116, Tryz.ntmps116
  go_wp2_with fail
  go_loopw [5] (fun ov wr => ov = .slice none 0 0 ∧ Hid (∃ vis, Rng wr m w.heap.size l vis) ∧ Hid (Below w.heap.size w wr)) (fun _ wr => wr.rangeLeft m w.heap.size)
  case atStart => exact ⟨rfl, hI ⟨[], RG.out⟩, B1⟩
  case round =>
    obtain ⟨rfl, hv, hb⟩ := hrel
    obtain ⟨vis, hv⟩ := hv.out
    have V := hI hv
    clear hv
    go_wp2_with (first | (at_next; refine wpList_next_ent _ rfl _ rfl m w.heap.size l vis rfl V.out ?_ ?_))
    · go_wp2_with fail
      refine (Tryz.slices_Sort_int_none none 0 wr).mono ?_
      rintro e w2 ⟨rfl, rfl⟩
      go_wp2_with fail
      go_ret
      exact ⟨rfl, hb.out⟩
    · intro x w1 hx hnv hR hlt hg1 hs1 hen
      have R1 := hI hR
      have HC := hI (fun W => cut_no x.id W)
      have B2 := hI (hb.out.grown hg1 hb.out.size (fun j hj => by cases hj; exact Nat.le_refl _))
      clear hR hg1
      go_wp2_with (go_at_call 155; refine (HC.out _).mono ?_; rintro e w2 ⟨rfl, rfl⟩)
      exact ⟨⟨rfl, hI ⟨_, R1.out⟩, B2⟩, hlt⟩
end Go.Proofs.YtbmpidacoohdmaaGreat

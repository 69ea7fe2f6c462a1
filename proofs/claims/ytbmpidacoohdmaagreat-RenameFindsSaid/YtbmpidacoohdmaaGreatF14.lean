/- The document's store: Read of a blob. Both stores, side by side: empty, Built of nothing, OK. -/
import Derived.Test.YtbmpidacoohdmaaGreatF11
import Derived.Test.YtbmpidacoohdmaaGreatF13
namespace Go.Proofs.YtbmpidacoohdmaaGreat
open Lib renaming hid → hI
open Go.RowKit Op

attribute [local go_sem ↓] load42_eq store42_eq box42_eq run_box42
set_option maxRecDepth 100000 in
set_option maxHeartbeats 1000000 in
theorem fread_any (w : World) (g : Nat) (l : List Ent) (A : Option Addr) (c : Nat) (fr : Bool) (t : Int) (hs : Rsp w g l A c fr t) (id : List UInt8) (hi : id.length = 32) :
    Calls Tryz.prog 55 #[.pointer (some ⟨g, 0, none⟩), .agg (bys id).toArray, .int .i64 1] w fun e w2 => ∃ fr2, Rsp w2 g l A c fr2 t ∧ Chs (fun k => k = g) w w2 ∧
      ((∃ x, x ∈ l ∧ x.id = id ∧ ∃ u, e = .returned (.tuple #[u, .int .i64 0]) ∧ Ows w2 w.heap.size 5 u (bys x.body)) ∨
       ((∀ x ∈ l, x.id ≠ id) ∧ e = .returned (.tuple #[.slice none 0 0, .int .i64 30]))) := by
  have HS := hI hs
  have R0 := hI (Ar.new w (bys id) 51)
  have B0 := hI ((Below.refl w.heap.size w).alloc (Nat.le_refl _) (.cells (bys id).toArray 51))
  have S0 := hI (hs.below B0.out)
  have hld0 := ld42 R0.out hi
  have hsz : (w.alloc (.cells (bys id).toArray 51)).heap.size = w.heap.size + 1 := by simp
  clear hs
  generalize hw0 : w.alloc (.cells (bys id).toArray 51) = w0 at *
  go_enter Tryz.func55, Tryz.ntmps55
  go_wp2_with fail
  refine (fget_any w0 g l A c fr t S0.out id hi).mono ?_
  rintro e w2 ⟨kn2, hs2, hc2, ⟨x, hm, he, u, rfl, ho⟩ | ⟨hno, rfl⟩⟩
  · have S2 := hI hs2
    have C2 := hI ((Chs.of_below B0.out _).trans hc2)
    have O2 := hI (ho.less (b := w.heap.size) (by omega))
    have HM := hI (And.intro hm he)
    clear hs2 hc2 ho hm he
    go_wp2_with fail
    go_ret2
    exact ⟨kn2, S2.out, C2.out, .inl ⟨x, HM.out.1, HM.out.2, u, rfl, O2.out⟩⟩
  · have S2 := hI hs2
    have C2 := hI ((Chs.of_below B0.out _).trans hc2)
    have NO := hI hno
    clear hs2 hc2 hno
    go_wp2_with fail
    go_ret2
    exact ⟨kn2, S2.out, C2.out, .inr ⟨NO.out, rfl⟩⟩
end Go.Proofs.YtbmpidacoohdmaaGreat
namespace Go.Proofs.YtbmpidacoohdmaaGreat
open Lib renaming hid → hI
open Go.RowKit Op

/-- An object that was put. -/
structure Kpt where
  id : List UInt8
  body : List UInt8
def cellsK (x : Kpt) : List Value := bys x.id ++ [.int .i64 1, .string (bs x.body)]
/-- What files hold, as a function of the id. -/
structure Cnt (l : List Ent) (f : List UInt8 → Option (List UInt8)) : Prop where
  yes : ∀ x ∈ l, f x.id = some x.body
  no : ∀ id, (∀ x ∈ l, x.id ≠ id) → f id = none
/-- The two stores hold the same. -/
structure Bth (w : World) (B b g m gd : Nat) (ov : Value) (ks : List Kpt) (n : Nat) (f : List UInt8 → Option (List UInt8)) : Prop where
  blk : ∃ cl, w.heap[b]? = some (.cells #[.pointer (some ⟨g, 0, none⟩), .pointer (some ⟨gd, 0, none⟩), .slice none 0 0, .slice none 0 0, .slice none 0 0, .bool cl, .bool false, ov, .bool false] 40 (0, 0))
  psp : ∃ l kn, ∃ t : Nat, Psp w g m l t kn ∧ l.length ≤ n ∧ t ≤ n ∧ Cnt l f
  rsp : ∃ l A c fr, ∃ t : Nat, Rsp w gd l A c fr t ∧ l.length ≤ n ∧ t ≤ n ∧ Cnt l f
  own : w.ownsRow B 105 34 ov ks.length (ks.flatMap cellsK)
  ids : ∀ x ∈ ks, x.id.length = 32 ∧ x.body.length ≤ 400
  few : ks.length ≤ n
  low : B ≤ b ∧ B ≤ g ∧ B ≤ m ∧ B ≤ gd
theorem Rsp.lt {w : World} {g : Nat} {l : List Ent} {A : Option Addr} {c : Nat} {fr : Bool} {t : Int} (h : Rsp w g l A c fr t) : g < w.heap.size := (Array.getElem?_eq_some_iff.1 h.blk).1
set_option maxRecDepth 100000 in
set_option maxHeartbeats 1000000 in
theorem empty_any (w : World) : Calls Tryz.prog 28 #[] w fun e w2 => e = .returned (.pointer (some ⟨w.heap.size, 0, none⟩)) ∧ Rsp w2 w.heap.size [] none 0 false 0 ∧ Below w.heap.size w w2 := by
  have R := hI (Ar.new w [.slice none 0 0, .int .i64 0, .slice none 0 0, .bool false] 63)
  have B := hI ((Below.refl w.heap.size w).alloc (Nat.le_refl _) (.cells #[.slice none 0 0, .int .i64 0, .slice none 0 0, .bool false] 63))
  go_enter Tryz.func28, Tryz.ntmps28
  go_wp2_with fail
  go_ret
  exact ⟨rfl, ⟨R.out, fun _ => rfl, Nat.le_refl _, Rv.nil, fun ad e => (by cases e), fun x hx => (by cases hx), Nat.zero_le _⟩, B.out⟩
set_option maxRecDepth 100000 in
set_option maxHeartbeats 1000000 in
theorem built_any (w : World) : Calls Tryz.prog 13 #[.agg #[.slice none 0 0, .bool false, .slice none 0 0]] w fun e w2 => ∃ b g m gd, e = .returned (.tuple #[.pointer (some ⟨b, 0, none⟩), .bool true]) ∧ Bth w2 w.heap.size b g m gd (.slice none 0 0) [] 0 (fun _ => none) ∧ Below w.heap.size w w2 := by
  have B0 := hI ((Below.refl w.heap.size w).alloc (Nat.le_refl _) (.cells #[.slice none 0 0, .bool false, .slice none 0 0] 59))
  have R0 := hI (Ar.new w [.slice none 0 0, .bool false, .slice none 0 0] 59)
  go_enter Tryz.func13, Tryz.ntmps13
  go_wp2_with fail
  refine (new_any _).mono ?_
  rintro e w1 ⟨rfl, hp1, hb1⟩
  generalize hw0 : w.alloc (.cells #[.slice none 0 0, .bool false, .slice none 0 0] 59) = w0 at *
  have P1 := hI hp1
  have B1 := hI (B0.out.trans (hb1.mono B0.out.size))
  have R1 := hI (R0.out.below hb1 R0.out.lt)
  have hl0 : w.heap.size < w0.heap.size := R0.out.lt
  have hl1 : w0.heap.size < w1.heap.size := hp1.mlt
  have hl1g := hp1.glt
  clear hp1 hb1
  generalize w0.heap.size = m at *
  go_wp2_with fail
  refine (empty_any _).mono ?_
  rintro e w2 ⟨rfl, hr2, hb2⟩
  have P2 := hI (P1.out.below hb2)
  have Q2 := hI hr2
  have B2 := hI (B1.out.trans (hb2.mono B1.out.size))
  have R2 := hI (R1.out.below hb2 R1.out.lt)
  have hl2 : w1.heap.size < w2.heap.size := hr2.lt
  clear hr2 hb2
  have b3 := (Below.refl w2.heap.size w2).alloc (Nat.le_refl _) (.cells #[.pointer (some ⟨m + 1, 0, none⟩), .pointer (some ⟨w1.heap.size, 0, none⟩), .slice none 0 0, .slice none 0 0, .slice none 0 0, .bool false, .bool false, .slice none 0 0, .bool false] 40)
  have P3 := hI (P2.out.below b3)
  have Q3 := hI (Q2.out.below b3)
  have B3 := hI (B2.out.trans (b3.mono B2.out.size))
  have R3 := hI (R2.out.below b3 R2.out.lt)
  have K3 := hI (Ar.new w2 [.pointer (some ⟨m + 1, 0, none⟩), .pointer (some ⟨w1.heap.size, 0, none⟩), .slice none 0 0, .slice none 0 0, .slice none 0 0, .bool false, .bool false, .slice none 0 0, .bool false] 40)
  have hc0 := R3.out.cell (k := 0) rfl
  have hc1 := R3.out.cell (k := 1) rfl
  have hc2 := R3.out.cell (k := 2) rfl
  have hk0 := K3.out.cell (k := 0) rfl
  have hk8 := K3.out.cell (k := 8) rfl
  clear b3
  generalize hw3 : w2.alloc (.cells #[.pointer (some ⟨m + 1, 0, none⟩), .pointer (some ⟨w1.heap.size, 0, none⟩), .slice none 0 0, .slice none 0 0, .slice none 0 0, .bool false, .bool false, .slice none 0 0, .bool false] 40) = w3 at *
  go_wp2_with fail
  refine wp_loop_rounds 1 ?_
  rw [rounds_succ]
  go_wp2_with fail
  refine wp_loop_rounds 1 ?_
  rw [rounds_succ]
  go_wp2_with fail
  refine wp_region_quiet_lit (by kernel_rfl) (by kernel_rfl) ?_
  repeat (go_big_quiet_step (fail))
  refine wpQuiet_nil ?_
  rintro _ ⟨n, rfl⟩
  go_wp2_with fail
  go_ret2
  have D3 := hI (below_dr (Below.refl w3.heap.size w3) n)
  have hl3 := K3.out.lt
  refine ⟨w2.heap.size, m + 1, m, w1.heap.size, rfl, ⟨⟨false, K3.out.drewN n⟩, ⟨[], -1, 0, P3.out.below D3.out, Nat.le_refl _, Nat.le_refl _, ⟨fun x hx => (by cases hx), fun _ _ => rfl⟩⟩, ⟨[], none, 0, false, 0, Q3.out.below D3.out, Nat.le_refl _, Nat.le_refl _, ⟨fun x hx => (by cases hx), fun _ _ => rfl⟩⟩, World.ownsRow_nil _ _ _ _, fun x hx => (by cases hx), Nat.le_refl _, ⟨by omega, by omega, by omega, by omega⟩⟩, B3.out.trans (D3.out.mono B3.out.size)⟩
end Go.Proofs.YtbmpidacoohdmaaGreat

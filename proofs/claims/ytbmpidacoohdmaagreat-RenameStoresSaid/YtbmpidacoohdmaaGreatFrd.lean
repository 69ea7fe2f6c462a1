/- The document's store: Read of a blob. -/
import Derived.Test.YtbmpidacoohdmaaGreatPut
namespace Go.Proofs.YtbmpidacoohdmaaGreat
open Go.RowKit Op

attribute [local go_sem ↓] load42_eq store42_eq box42_eq run_box42
set_option maxRecDepth 100000 in
set_option maxHeartbeats 1000000 in
theorem fread_any (w : World) (g : Nat) (l : List Ent) (A : Option Addr) (c : Nat) (fr : Bool) (t : Int) (hs : Rsp w g l A c fr t) (id : List UInt8) (hi : id.length = 32) :
    Calls Tryz.prog 55 #[.pointer (some ⟨g, 0, none⟩), .agg (bys id).toArray, .int .i64 1] w fun e w2 => ∃ fr2, Rsp w2 g l A c fr2 t ∧ Chs (fun k => k = g) w w2 ∧
      ((∃ x, x ∈ l ∧ x.id = id ∧ ∃ u, e = .returned (.tuple #[u, .int .i64 0]) ∧ Ows w2 w.heap.size 5 u (bys x.body)) ∨
       ((∀ x ∈ l, x.id ≠ id) ∧ e = .returned (.tuple #[.slice none 0 0, .int .i64 30]))) := by
  have HS := Lib.hid hs
  have R0 := Lib.hid (Ar.new w (bys id) 51)
  have B0 := Lib.hid ((Below.refl w.heap.size w).alloc (Nat.le_refl _) (.cells (bys id).toArray 51))
  have S0 := Lib.hid (hs.below B0.out)
  have hld0 := ld42 R0.out hi
  have hsz : (w.alloc (.cells (bys id).toArray 51)).heap.size = w.heap.size + 1 := by simp
  clear hs
  generalize hw0 : w.alloc (.cells (bys id).toArray 51) = w0 at *
  go_enter Tryz.func55, Tryz.ntmps55
  go_wp2_with fail
  refine (fget_any w0 g l A c fr t S0.out id hi).mono ?_
  rintro e w2 ⟨kn2, hs2, hc2, ⟨x, hm, he, u, rfl, ho⟩ | ⟨hno, rfl⟩⟩
  · have S2 := Lib.hid hs2
    have C2 := Lib.hid ((Chs.of_below B0.out _).trans hc2)
    have O2 := Lib.hid (ho.less (b := w.heap.size) (by omega))
    have HM := Lib.hid (And.intro hm he)
    clear hs2 hc2 ho hm he
    go_wp2_with fail
    go_ret2
    exact ⟨kn2, S2.out, C2.out, .inl ⟨x, HM.out.1, HM.out.2, u, rfl, O2.out⟩⟩
  · have S2 := Lib.hid hs2
    have C2 := Lib.hid ((Chs.of_below B0.out _).trans hc2)
    have NO := Lib.hid hno
    clear hs2 hc2 hno
    go_wp2_with fail
    go_ret2
    exact ⟨kn2, S2.out, C2.out, .inr ⟨NO.out, rfl⟩⟩
end Go.Proofs.YtbmpidacoohdmaaGreat

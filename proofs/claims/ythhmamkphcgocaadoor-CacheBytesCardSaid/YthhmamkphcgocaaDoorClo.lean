/- sleuthref10.Closed by a contract. -/
import Derived.Test.YthhmamkphcgocaaDoorIdd
import Derived.Test.YthhmamkphcgocaaDoorRfa
namespace Go.Proofs.YthhmamkphcgocaaDoor
open Go.RowKit

attribute [local go_sem ↓] new42_eq load42_eq store42_eq run_new42
set_option maxRecDepth 100000 in
set_option maxHeartbeats 1000000 in
theorem closed_any (w : World) (A : Option Addr) (c : Nat) (m : List UInt8) (h : Rv w.heap.size w A (bys m)) (hn : A = none → c = 0) (hm : m.length ≤ 90000000) :
    Calls Tryd.prog 45 #[.slice A m.length c] w fun e w2 => ∃ u, e = .returned u ∧ w2.ownsRow w.heap.size 5 1 u (m.length + 32) (bys (m ++ shaOf m)) ∧ Below w.heap.size w w2 := by
  have HX := Lib.hid h
  have HN := Lib.hid hn
  have HF := Lib.hid (fof_any w A c m h (Nat.le_refl _) hn (by omega))
  have hSL := shaOf_len m
  generalize shaOf m = S at *
  clear h hn
  go_enter Tryd.func45, Tryd.ntmps45
  go_wp2_with fail
  refine HF.out.mono ?_
  rintro e w1 ⟨rfl, hb⟩
  have hz : Ar (w1.alloc (.cells z42 42)) w1.heap.size 42 (bys (List.replicate 32 0)) := Ar.new w1 (bys (List.replicate 32 0)) 42
  have hst := st42 (m := S) hz (by simp) hSL
  have hs1 := hb.size
  have R1 := Lib.hid (hz.setRow (bys S))
  have B1 := Lib.hid (below_row (hb.alloc hs1 (.cells z42 42)) w1.heap.size (bys S).toArray hs1)
  clear hz hb
  go_wp2_with fail
  generalize ((w1.alloc (.cells z42 42)).setRow w1.heap.size (bys S).toArray) = w2 at *
  go_loopw [4, 5] (fun sv kv wr => ∃ k : Nat, k ≤ 32 ∧ kv = .int .i64 k ∧ Ar wr w1.heap.size 42 (bys S) ∧ Hid (wr.ownsRow (w1.heap.size + 1) 5 1 sv k (bys (S.take k))) ∧ Hid (Below w.heap.size w wr)) (fun _ kv _ => 32 - (intOf kv).toNat)
  case atStart => exact ⟨0, by omega, rfl, R1.out, World.ownsRow_nil _ _ _ _, B1⟩
  case round =>
    clear R1 B1
    obtain ⟨k, hk, rfl, r4, ho, hb⟩ := hrel
    have hrl := r4.lt
    have hbs := hb.out.size
    by_cases hlt : k < 32
    · have hc := r4.cell (bys_at (l := S) (k := k) (by omega))
      have HT := Lib.hid (show bys (S.take k) ++ bys [S.getD k 0] = bys (S.take (k + 1)) by rw [bys_app, List.take_add_one, List.getElem?_eq_getElem (by omega)]; simp [show k < S.length by omega])
      have R4 := Lib.hid r4
      clear r4
      generalize S.getD k 0 = x at *
      go_wp2_with (at_builtin; refine wpList_app sl22 rfl (.tmp 12) (.tmp 16) rfl (w1.heap.size + 1) u4 k (bys (S.take k)) rfl (ho.out.alloc _) (some ⟨wr.heap.size, 0, none⟩) 1 1 (bys [x]) rfl (fun e => by cases e) rfl (B := wr.heap.size + 1) ?_ (bys_one _) (by unfold maxLen; omega) (by omega) (by simp; omega) ?_; rotate_left; intro v2 w2 ho2 ha; rw [HT.out] at ho2; have HO := Lib.hid ho2; have HA := Lib.hid ha; clear ho2 ha)
      · exact ⟨⟨k + 1, by omega, by go_num, (R4.out.alloc _).later HA.out.grown (own_far ho.out (by omega)), HO, (hb.out.alloc hbs _).trans (below_of_grown HA.out.grown (by simp; omega) (fun q hq => by have := (ho.out.lt q hq).1; omega))⟩, by simp [intOf]; omega⟩
      · exact new_rv wr (bys [x]) _ _ rfl
    · have hke : k = 32 := by omega
      subst hke
      rw [List.take_of_length_le (by omega)] at ho
      obtain ⟨D, d, hv, hDn, hd, hrv, hfar⟩ := own_all ho.out
      subst hv
      have hnr := new_rv wr [.slice A m.length c, .slice D 32 d] 22 _ rfl
      have hws : (wr.alloc (.cells #[.slice A m.length c, .slice D 32 d] 22)).heap.size = wr.heap.size + 1 := World.size_alloc _ _
      have hax : Rv (wr.heap.size + 1) (wr.alloc (.cells #[.slice A m.length c, .slice D 32 d] 22)) A (bys m) := ((HX.out.below hb.out).below ((Below.refl wr.heap.size wr).alloc (Nat.le_refl _) _ |>.mono hbs)).more (by omega)
      have hdx : Rv (wr.heap.size + 1) (wr.alloc (.cells #[.slice A m.length c, .slice D 32 d] 22)) D (bys S) := (hrv.below ((Below.refl wr.heap.size wr).alloc (Nat.le_refl _) _)).more (by omega)
      have hparts : Parts (wr.alloc (.cells #[.slice A m.length c, .slice D 32 d] 22)).heap.size (wr.alloc (.cells #[.slice A m.length c, .slice D 32 d] 22)) (some ⟨wr.heap.size, 0, none⟩) [m, S] := by
        rw [hws]
        refine ⟨_, rfl, hnr, fun k p hp => ?_⟩
        rcases k with _ | _ | k
        · cases hp; exact ⟨A, c, rfl, HN.out, hax⟩
        · cases hp; exact ⟨D, d, by rw [hSL]; rfl, hDn, hdx⟩
        · cases hp
      have hfl : ([m, S] : List (List UInt8)).flatten = m ++ S := by simp
      have hjn := fjoin_any _ _ 2 [m, S] hparts (by simp) (by rw [hfl, List.length_append, hSL]; omega)
      rw [hfl, List.length_append, hSL, hws] at hjn
      have HJ := Lib.hid hjn
      have HB := Lib.hid (hb.out.alloc hbs (.cells #[.slice A m.length c, .slice D 32 d] 22))
      clear hnr hax hdx hparts hjn r4 ho hrv hfar
      go_wp2_with fail
      refine HJ.out.mono ?_
      rintro e w5 ⟨u, rfl, ho, hb5⟩
      have HO := Lib.hid (own_less ho (by omega : w.heap.size ≤ wr.heap.size + 1))
      have HB5 := Lib.hid (HB.out.trans (hb5.mono (by omega)))
      clear ho hb5
      go_wp2_with fail
      go_ret
      exact ⟨u, rfl, HO.out, HB5.out⟩
end Go.Proofs.YthhmamkphcgocaaDoor

/- rename: which places are left (finder.left), by a contract. The program's store: Get, Read of a blob. -/
import Derived.Test.YtbmpidacoohdmaaGreatF18
import Derived.Test.YtbmpidacoohdmaaGreatF10
namespace Go.Proofs.YtbmpidacoohdmaaGreat
open Lib renaming hid → hI
open Go.RowKit Op
open Rn (Chg LReads CellsAt Fnd St isSource isTarget)

def ntI2 (l : List Nat) : List Value := l.map fun (n : Nat) => Value.int .i64 (n : Int)
/-- The places below k for which something holds. -/
def pls (p : Nat → Bool) : Nat → List Nat
  | 0 => []
  | k + 1 => if p k then pls p k ++ [k] else pls p k
theorem pls_len (p : Nat → Bool) : ∀ k, (pls p k).length ≤ k
  | 0 => Nat.le_refl _
  | k + 1 => by
    have := pls_len p k
    unfold pls
    split
    · rw [List.length_append, List.length_singleton]; omega
    · omega
theorem pls_mem (p : Nat → Bool) : ∀ k, ∀ i ∈ pls p k, i < k ∧ p i = true
  | 0, i, h => by cases h
  | k + 1, i, h => by
    unfold pls at h
    split at h
    · rename_i hp
      rcases List.mem_append.1 h with h | h
      · obtain ⟨h1, h2⟩ := pls_mem p k i h
        exact ⟨by omega, h2⟩
      · obtain rfl := List.mem_singleton.1 h
        exact ⟨by omega, hp⟩
    · obtain ⟨h1, h2⟩ := pls_mem p k i h
      exact ⟨by omega, h2⟩
set_option maxRecDepth 100000 in
set_option maxHeartbeats 1000000 in
theorem left_src {w : World} {B b F S K T : Nat} {A : Option Addr} {c : Nat} {l : List Chg} {s : St} (h : Fnd w B b F S K T A c l s) :
    Calls Tryz.prog 45 #[.pointer (some ⟨b, 0, none⟩), .func (.func 42) #[.pointer (some ⟨b, 0, none⟩)] #[]] w fun e w2 => ∃ v, e = .returned v ∧ w2.ownsRow w.heap.size 3 1 v (pls (isSource l s) l.length).length (ntI2 (pls (isSource l s) l.length)) ∧ Below w.heap.size w w2 := by
  have H := hI h
  have hn := h.short
  have HB := hI (show w.heap[b]? = _ from h.self)
  go_enter Tryz.func45, Tryz.ntmps45
  have h0 : w.cell? ⟨b, 0, none⟩ = some (.slice A l.length c) := h.cell 0
  clear h
  go_wp2_with fail
  go_loopw [5, 12] (fun ov kv wr => ∃ k : Nat, k ≤ l.length ∧ kv = .int .i64 k ∧ Hid (wr.ownsRow w.heap.size 3 1 ov (pls (isSource l s) k).length (ntI2 (pls (isSource l s) k))) ∧ Hid (Below w.heap.size w wr)) (fun _ kv _ => l.length - (intOf kv).toNat)
  case atStart => exact ⟨0, Nat.zero_le _, rfl, hI (World.ownsRow_nil _ _ _ _), hI (Below.refl _ _)⟩
  case round =>
    obtain ⟨k, hk, rfl, ho, hb⟩ := hrel
    by_cases hlt : k < l.length
    · have hr : Fnd wr B b F S K T A c l s := H.out.keep fun q hq => hb.out.block q hq
      have HS := hI (Rn.source_any hr k hlt)
      have HP : Hid (pls (isSource l s) (k + 1) = if isSource l s k then pls (isSource l s) k ++ [k] else pls (isSource l s) k) := hI rfl
      have hpl := pls_len (isSource l s) k
      obtain ⟨Dv, dv, hvv, _⟩ := own_all ho.out
      subst hvv
      clear hr
      generalize isSource l s k = p at *
      cases p with
      | false =>
        go_wp2_with (go_at_call 42; refine HS.out.mono ?_; rintro e w2 ⟨rfl, rfl⟩)
        refine ⟨⟨k + 1, by omega, by go_num, hI (by rw [HP.out, if_neg (by simp)]; exact ho.out), hb⟩, by simp [intOf]; omega⟩
      | true =>
        have b3 := (Below.refl wr.heap.size wr).alloc (Nat.le_refl _) (.cells #[.int .i64 (k : Int)] 3)
        have O3 := hI (own_below ho.out b3)
        have B3 := hI (hb.out.trans (b3.mono hb.out.size))
        have N3 := hI (new_rv wr [.int .i64 (k : Int)] 3 ⟨wr.heap.size, 0, none⟩ rfl)
        clear b3
        go_wp2_with (first | (go_at_call 42; refine HS.out.mono ?_; rintro e w2 ⟨rfl, rfl⟩) | (at_builtin; refine wpList_app sl48 rfl (.tmp 18) (.tmp 20) rfl w.heap.size _ (pls (isSource l s) k).length (ntI2 (pls (isSource l s) k)) rfl O3.out (some ⟨wr.heap.size, 0, none⟩) 1 1 [.int .i64 (k : Int)] rfl (fun q => by cases q) rfl N3.out (by intro u hu; rw [List.mem_singleton.1 hu]; rfl) (by unfold maxLen; omega) (by omega) B3.out.size ?_; intro v7 w7 ho7 ha7; have O7 := hI ho7; have A7 := hI ha7.grown; clear ho7 ha7))
        refine ⟨⟨k + 1, by omega, by go_num, hI (by rw [HP.out, if_pos trivial, List.length_append, List.length_singleton]; simpa [ntI2] using O7.out), hI (B3.out.grown A7.out B3.out.size (fun q hq => (O3.out.lt q hq).1))⟩, by simp [intOf]; omega⟩
    · have hke : k = l.length := by omega
      subst hke
      go_wp2_with fail
      go_ret
      exact ⟨_, rfl, ho.out, hb.out⟩
set_option maxRecDepth 100000 in
set_option maxHeartbeats 1000000 in
theorem left_tgt {w : World} {B b F S K T : Nat} {A : Option Addr} {c : Nat} {l : List Chg} {s : St} (h : Fnd w B b F S K T A c l s) :
    Calls Tryz.prog 45 #[.pointer (some ⟨b, 0, none⟩), .func (.func 40) #[.pointer (some ⟨b, 0, none⟩)] #[]] w fun e w2 => ∃ v, e = .returned v ∧ w2.ownsRow w.heap.size 3 1 v (pls (isTarget l s) l.length).length (ntI2 (pls (isTarget l s) l.length)) ∧ Below w.heap.size w w2 := by
  have H := hI h
  have hn := h.short
  have HB := hI (show w.heap[b]? = _ from h.self)
  go_enter Tryz.func45, Tryz.ntmps45
  have h0 : w.cell? ⟨b, 0, none⟩ = some (.slice A l.length c) := h.cell 0
  clear h
  go_wp2_with fail
  go_loopw [5, 12] (fun ov kv wr => ∃ k : Nat, k ≤ l.length ∧ kv = .int .i64 k ∧ Hid (wr.ownsRow w.heap.size 3 1 ov (pls (isTarget l s) k).length (ntI2 (pls (isTarget l s) k))) ∧ Hid (Below w.heap.size w wr)) (fun _ kv _ => l.length - (intOf kv).toNat)
  case atStart => exact ⟨0, Nat.zero_le _, rfl, hI (World.ownsRow_nil _ _ _ _), hI (Below.refl _ _)⟩
  case round =>
    obtain ⟨k, hk, rfl, ho, hb⟩ := hrel
    by_cases hlt : k < l.length
    · have hr : Fnd wr B b F S K T A c l s := H.out.keep fun q hq => hb.out.block q hq
      have HS := hI (Rn.target_any hr k hlt)
      have HP : Hid (pls (isTarget l s) (k + 1) = if isTarget l s k then pls (isTarget l s) k ++ [k] else pls (isTarget l s) k) := hI rfl
      have hpl := pls_len (isTarget l s) k
      obtain ⟨Dv, dv, hvv, _⟩ := own_all ho.out
      subst hvv
      clear hr
      generalize isTarget l s k = p at *
      cases p with
      | false =>
        go_wp2_with (go_at_call 40; refine HS.out.mono ?_; rintro e w2 ⟨rfl, rfl⟩)
        refine ⟨⟨k + 1, by omega, by go_num, hI (by rw [HP.out, if_neg (by simp)]; exact ho.out), hb⟩, by simp [intOf]; omega⟩
      | true =>
        have b3 := (Below.refl wr.heap.size wr).alloc (Nat.le_refl _) (.cells #[.int .i64 (k : Int)] 3)
        have O3 := hI (own_below ho.out b3)
        have B3 := hI (hb.out.trans (b3.mono hb.out.size))
        have N3 := hI (new_rv wr [.int .i64 (k : Int)] 3 ⟨wr.heap.size, 0, none⟩ rfl)
        clear b3
        go_wp2_with (first | (go_at_call 40; refine HS.out.mono ?_; rintro e w2 ⟨rfl, rfl⟩) | (at_builtin; refine wpList_app sl48 rfl (.tmp 18) (.tmp 20) rfl w.heap.size _ (pls (isTarget l s) k).length (ntI2 (pls (isTarget l s) k)) rfl O3.out (some ⟨wr.heap.size, 0, none⟩) 1 1 [.int .i64 (k : Int)] rfl (fun q => by cases q) rfl N3.out (by intro u hu; rw [List.mem_singleton.1 hu]; rfl) (by unfold maxLen; omega) (by omega) B3.out.size ?_; intro v7 w7 ho7 ha7; have O7 := hI ho7; have A7 := hI ha7.grown; clear ho7 ha7))
        refine ⟨⟨k + 1, by omega, by go_num, hI (by rw [HP.out, if_pos trivial, List.length_append, List.length_singleton]; simpa [ntI2] using O7.out), hI (B3.out.grown A7.out B3.out.size (fun q hq => (O3.out.lt q hq).1))⟩, by simp [intOf]; omega⟩
    · have hke : k = l.length := by omega
      subst hke
      go_wp2_with fail
      go_ret
      exact ⟨_, rfl, ho.out, hb.out⟩
end Go.Proofs.YtbmpidacoohdmaaGreat
namespace Go.Proofs.YtbmpidacoohdmaaGreat
open Lib renaming hid → hI
open Go.RowKit Op

attribute [local go_sem ↓] load42_eq store42_eq box42_eq run_box42
set_option maxRecDepth 100000 in
set_option maxHeartbeats 1000000 in
theorem get_any (w : World) (g m : Nat) (l : List Ent) (t kn : Int) (hs : Psp w g m l t kn) (id : List UInt8) (hi : id.length = 32) :
    Calls Tryz.prog 113 #[.pointer (some ⟨g, 0, none⟩), .agg (bys id).toArray] w fun e w2 => ∃ kn2, Psp w2 g m l t kn2 ∧ Chs (fun k => k = g) w w2 ∧
      ((∃ x, x ∈ l ∧ x.id = id ∧ ∃ u, e = .returned (.tuple #[.int .i64 1, u, .int .i64 0]) ∧ Ows w2 w.heap.size 5 u (bys x.body)) ∨
       ((∀ x ∈ l, x.id ≠ id) ∧ e = .returned (.tuple #[.int .i64 0, .slice none 0 0, .int .i64 30]))) := by
  have HS := hI hs
  have R0 := hI (Ar.new w (bys id) 51)
  have B0 := hI ((Below.refl w.heap.size w).alloc (Nat.le_refl _) (.cells (bys id).toArray 51))
  have S0 := hI (hs.below B0.out)
  have hld0 := ld42 R0.out hi
  have hsz : (w.alloc (.cells (bys id).toArray 51)).heap.size = w.heap.size + 1 := by simp
  clear hs
  generalize hw0 : w.alloc (.cells (bys id).toArray 51) = w0 at *
  go_enter Tryz.func113, Tryz.ntmps113
  go_wp2_with fail
  refine (dead_any w0 g m l t kn S0.out).mono ?_
  rintro e w1 ⟨rfl, rfl⟩
  go_wp2_with fail
  refine (find_any w0 g m l t kn S0.out id hi).mono ?_
  rintro e w2 ⟨kn2, hs2, hc2, ⟨x, hm, he, u, rfl, ho⟩ | ⟨hno, rfl⟩⟩
  · have S2 := hI hs2
    have C2 := hI ((Chs.of_below B0.out _).trans hc2)
    have O2 := hI (ho.less (b := w.heap.size) (by omega))
    have HM := hI (And.intro hm he)
    clear hs2 hc2 ho hm he
    go_wp2_with fail
    go_ret3
    exact ⟨kn2, S2.out, C2.out, .inl ⟨x, HM.out.1, HM.out.2, u, rfl, O2.out⟩⟩
  · have S2 := hI hs2
    have C2 := hI ((Chs.of_below B0.out _).trans hc2)
    have NO := hI hno
    clear hs2 hc2 hno
    go_wp2_with fail
    go_ret3
    exact ⟨kn2, S2.out, C2.out, .inr ⟨NO.out, rfl⟩⟩
set_option maxRecDepth 100000 in
set_option maxHeartbeats 1000000 in
theorem read_any (w : World) (g m : Nat) (l : List Ent) (t kn : Int) (hs : Psp w g m l t kn) (id : List UInt8) (hi : id.length = 32) :
    Calls Tryz.prog 98 #[.pointer (some ⟨g, 0, none⟩), .agg (bys id).toArray, .int .i64 1] w fun e w2 => ∃ kn2, Psp w2 g m l t kn2 ∧ Chs (fun k => k = g) w w2 ∧
      ((∃ x, x ∈ l ∧ x.id = id ∧ ∃ u, e = .returned (.tuple #[u, .int .i64 0]) ∧ Ows w2 w.heap.size 5 u (bys x.body)) ∨
       ((∀ x ∈ l, x.id ≠ id) ∧ e = .returned (.tuple #[.slice none 0 0, .int .i64 30]))) := by
  have HS := hI hs
  have R0 := hI (Ar.new w (bys id) 51)
  have B0 := hI ((Below.refl w.heap.size w).alloc (Nat.le_refl _) (.cells (bys id).toArray 51))
  have S0 := hI (hs.below B0.out)
  have hld0 := ld42 R0.out hi
  have hsz : (w.alloc (.cells (bys id).toArray 51)).heap.size = w.heap.size + 1 := by simp
  clear hs
  generalize hw0 : w.alloc (.cells (bys id).toArray 51) = w0 at *
  go_enter Tryz.func98, Tryz.ntmps98
  go_wp2_with fail
  refine (get_any w0 g m l t kn S0.out id hi).mono ?_
  rintro e w2 ⟨kn2, hs2, hc2, ⟨x, hm, he, u, rfl, ho⟩ | ⟨hno, rfl⟩⟩
  · have S2 := hI hs2
    have C2 := hI ((Chs.of_below B0.out _).trans hc2)
    have O2 := hI (ho.less (b := w.heap.size) (by omega))
    have HM := hI (And.intro hm he)
    clear hs2 hc2 ho hm he
    go_wp2_with fail
    go_ret2
    exact ⟨kn2, S2.out, C2.out, .inl ⟨x, HM.out.1, HM.out.2, u, rfl, O2.out⟩⟩
  · have S2 := hI hs2
    have C2 := hI ((Chs.of_below B0.out _).trans hc2)
    have NO := hI hno
    clear hs2 hc2 hno
    go_wp2_with fail
    go_ret2
    exact ⟨kn2, S2.out, C2.out, .inr ⟨NO.out, rfl⟩⟩
end Go.Proofs.YtbmpidacoohdmaaGreat

/- How often a text stands in another one (cnt); sleuthref31.Count and has, by contracts. -/
import Derived.Test.YthhmamkphcgocaaSpl
namespace Go.Proofs.Ythhmamkphcgocaa
open Go.RowKit

/-- At how many places nd stands in a text. -/
def cnt (nd : List UInt8) : List UInt8 → Nat
  | [] => 0
  | x :: t => (if nd ≠ [] ∧ (x :: t).take nd.length = nd then 1 else 0) + cnt nd t
theorem cnt_nil (t : List UInt8) : cnt [] t = 0 := by
  induction t with
  | nil => rfl
  | cons x t ih => simp [cnt, ih]
theorem cnt_short (nd : List UInt8) (t : List UInt8) (h : t.length < nd.length) : cnt nd t = 0 := by
  induction t with
  | nil => rfl
  | cons x t ih =>
    simp only [List.length_cons] at h
    rw [cnt, ih (by omega), if_neg]
    rintro ⟨_, e⟩
    have := congrArg List.length e
    simp at this
    omega
theorem cnt_le (nd : List UInt8) (t : List UInt8) : cnt nd t ≤ t.length := by
  induction t with
  | nil => simp [cnt]
  | cons x t ih => rw [cnt]; simp only [List.length_cons]; split <;> omega
theorem cnt_step {nd t : List UInt8} {k : Nat} (h : k < t.length) : cnt nd (t.drop k) = (if nd ≠ [] ∧ (t.drop k).take nd.length = nd then 1 else 0) + cnt nd (t.drop (k + 1)) := by
  rw [bytes_drop h, cnt]
theorem conv_part (w : World) (ad : Addr) (c : Nat) (t : List UInt8) (k m : Nat) (hk : k + m ≤ t.length) (h : ∀ j x, (bys t)[j]? = some x → w.cell? (ad.add j) = some x) : (convert 27 9 (.slice (some (ad.add k)) m c)).run Try.prog w = .ok (.string (bs ((t.drop k).take m))) w := by
  have hl : ((t.drop k).take m).length = m := by simp; omega
  have := run_convert_bytes_back w 27 9 5 (ad.add k) c ((t.drop k).take m) Try.underlying27 Try.underlying5 Try.underlying9 (fun j hj => by
    have hj' : k + j < t.length := by omega
    rw [add_add]
    have := h (k + j) _ (bys_at hj')
    rw [this]
    simp [hj'])
  rwa [hl] at this

set_option maxRecDepth 100000 in
set_option maxHeartbeats 2000000 in
theorem rcount_any {B : Nat} (w : World) (A : Option Addr) (c : Nat) (t nd : List UInt8) (h : Rv B w A (bys t)) (ht : t.length ≤ 2000) (hn : nd.length ≤ 2000) (hcap : t.length ≤ c) :
    Calls Try.prog 14 #[.slice A t.length c, .string (bs nd)] w fun e w' => e = .returned (.int .i64 (cnt nd t)) ∧ w' = w := by
  have H := Lib.hid h
  have hcs := bs_size nd
  clear h
  go_enter Try.func14, Try.ntmps14
  go_wp2_with fail
  go_loopw [5, 6] (fun nv kv wr => ∃ k m : Nat, k ≤ t.length ∧ m ≤ k ∧ kv = .int .i64 k ∧ nv = .int .i64 m ∧ Hid (m + cnt nd (t.drop k) = cnt nd t) ∧ Hid (wr = w)) (fun _ kv _ => t.length - (intOf kv).toNat)
  case atStart => exact ⟨0, 0, Nat.zero_le _, Nat.zero_le _, rfl, rfl, by unfold Hid; simp, rfl⟩
  case round =>
    obtain ⟨k, m, hk, hm, rfl, rfl, hs, hw⟩ := hrel
    obtain rfl := hw.out
    by_cases hlt : k < t.length
    · by_cases hfit : nd.length ≤ t.length - k
      · have hfi : (nd.length : Int) ≤ (t.length : Int) - k := by omega
        obtain ⟨ad, rfl, _, hc⟩ := H.out.some_ (by rw [bys_len]; omega)
        have HST := Lib.hid (cnt_step (nd := nd) hlt)
        by_cases hnd : nd = []
        · subst hnd
          have hne : (bs []).toList.isEmpty = true := by rw [ByteArray.toList_eq]; rfl
          rw [if_neg (fun h => h.1 rfl), Nat.zero_add] at HST
          clear hc
          go_wp2
          refine ⟨⟨k + 1, m, by omega, by omega, by go_num, rfl, ?_, trivial⟩, by simp [intOf]; omega⟩
          have h := hs.out
          rw [HST.out] at h
          exact h
        · have hne : (bs nd).toList.isEmpty = false := by
            rw [ByteArray.toList_eq]
            show nd.isEmpty = false
            cases nd <;> simp_all
          have hcv := fun c => conv_part wr ad c t k nd.length (by omega) hc
          have HB := Lib.hid (str_beq (bs ((t.drop k).take nd.length)) (bs nd))
          have HI := Lib.hid (fun e => bs_inj (l := (t.drop k).take nd.length) (k := nd) e)
          have hpos : 0 < nd.length := List.length_pos_iff.2 hnd
          clear hc
          generalize (t.drop k).take nd.length = q at *
          by_cases hq : q = nd
          · have hd : ((bs q).toList == (bs nd).toList) = true := by rw [HB.out, hq]; simp
            rw [if_pos ⟨hnd, hq⟩] at HST
            clear hq hnd
            go_wp2
            refine ⟨⟨k + 1, m + 1, by omega, by omega, by go_num, by go_num, ?_, trivial⟩, by simp [intOf]; omega⟩
            have h := hs.out
            rw [HST.out] at h
            exact (by omega : m + 1 + cnt nd (t.drop (k + 1)) = cnt nd t)
          · have hd : ((bs q).toList == (bs nd).toList) = false := by
              rw [HB.out]
              simp only [decide_eq_false_iff_not]
              exact fun e => hq (HI.out e)
            rw [if_neg (fun h => hq h.2), Nat.zero_add] at HST
            clear hq hnd
            go_wp2
            refine ⟨⟨k + 1, m, by omega, by omega, by go_num, rfl, ?_, trivial⟩, by simp [intOf]; omega⟩
            have h := hs.out
            rw [HST.out] at h
            exact h
      · have hfi : (t.length : Int) - k < (nd.length : Int) := by omega
        have hz := cnt_short nd (t.drop k) (by simp; omega)
        have HS := hs.out
        rw [hz, Nat.add_zero] at HS
        clear hz
        go_wp2
        go_ret
        exact ⟨rfl, rfl⟩
    · have HS := hs.out
      rw [List.drop_eq_nil_of_le (by omega)] at HS
      have e : cnt nd [] = 0 := rfl
      rw [e, Nat.add_zero] at HS
      clear e
      go_wp2
      go_ret
      exact ⟨rfl, rfl⟩

/-- Does a line, one of lines, have it? -/
def hasL (nd : List UInt8) (l : List (List UInt8)) : Bool := l.any fun s => decide (nd = []) || decide (0 < cnt nd s)
def sbs (l : List (List UInt8)) : List ByteArray := l.map bs

theorem bytesRow_bs (x : List UInt8) (c : Nat) : bytesRow (bs x) c = (bys x ++ List.replicate (c - x.length) (Value.int .u8 0)).toArray := by
  apply Array.ext'
  simp [bytesRow, bs, bys, ByteArray.size]
theorem conv_bytes (W : World) (x : List UInt8) : ∃ cap W2, (convert 9 27 (.string (bs x))).run Try.prog W = .ok (.slice (some ⟨W.heap.size, 0, none⟩) x.length cap) W2 ∧ x.length ≤ cap ∧ Rv W2.heap.size W2 (some ⟨W.heap.size, 0, none⟩) (bys x) ∧ Below W.heap.size W W2 := by
  have h := run_bytes_of_string (P := Try.prog) W 9 27 5 (bs x) Try.underlying9 Try.underlying27 Try.underlying5
  rw [bs_size] at h
  refine ⟨_, _, h, ?_, ?_, ?_⟩
  · exact grownCap_ge _ _ _ _
  · intro k v hv
    refine ⟨_, rfl, by simp, ?_⟩
    rw [Addr.add_lit, Nat.zero_add]
    have hk : k < x.length := by have := (List.getElem?_eq_some_iff.1 hv).1; rwa [bys_len] at this
    have hcell : (bytesRow (bs x) (grownCap W x.length 0 5))[k]? = some v := by
      rw [bytesRow_bs, ← hv, ← Array.getElem?_toList]
      exact List.getElem?_append_left (by rw [bys_len]; exact hk)
    have e := cell_of_row (W.drew.alloc (.cells (bytesRow (bs x) (grownCap W x.length 0 5)) 5 ((bytesRow (bs x) (grownCap W x.length 0 5)).size, (bytesRow (bs x) (grownCap W x.length 0 5)).size + 1))) W.heap.size k _ _ _ (heap_alloc_new W.drew _)
    rw [e]
    exact hcell
  · exact ((Below.refl _ _).drew).alloc (Nat.le_refl _) _

set_option maxRecDepth 100000 in
set_option maxHeartbeats 2000000 in
theorem rhas_any {B : Nat} (w : World) (A : Option Addr) (c : Nat) (l : List (List UInt8)) (nd : List UInt8) (h : Rv B w A (strs (sbs l))) (hB : B ≤ w.heap.size) (hlen : ∀ s ∈ l, s.length ≤ 2000) (hn : nd.length ≤ 2000) (hl : l.length ≤ 1000)
    (i n : Nat) (hi : i + n ≤ l.length) :
    Calls Try.prog 33 #[.slice A l.length c, .int .i64 i, .int .i64 n, .string (bs nd)] w fun e w' => e = .returned (.bool (hasL nd ((l.drop i).take n))) ∧ Below w.heap.size w w' := by
  have H := Lib.hid h
  have HLEN := Lib.hid hlen
  have hcs := bs_size nd
  clear h hlen
  go_enter Try.func33, Try.ntmps33
  go_wp2_with fail
  go_loopw [9] (fun kv wr => ∃ k : Nat, k ≤ n ∧ kv = .int .i64 ((i : Int) + k) ∧ Hid (hasL nd ((l.drop i).take n) = hasL nd ((l.drop (i + k)).take (n - k))) ∧ Hid (Below w.heap.size w wr)) (fun kv _ => n + i - (intOf kv).toNat)
  case atStart => exact ⟨0, Nat.zero_le _, by go_num, rfl, Below.refl _ _⟩
  case round =>
    obtain ⟨k, hk, rfl, hs, hb⟩ := hrel
    by_cases hlt : k < n
    · have hik : i + k < l.length := by omega
      obtain ⟨ad, rfl, bA, hc0⟩ := H.out.at_ (k := i + k) (strs_at (by simpa [sbs] using hik))
      have hx : (sbs l).getD (i + k) ByteArray.empty = bs (l.getD (i + k) []) := by simp [sbs, hik]
      rw [hx] at hc0
      have hc : wr.cell? (ad.add (i + k)) = some (.string (bs (l.getD (i + k) []))) := (hb.out.cell (by rw [block_add]; omega)).trans hc0
      have hxl : (l.getD (i + k) []).length ≤ 2000 := HLEN.out _ (by rw [List.getD_eq_getElem?_getD, List.getElem?_eq_getElem hik]; exact List.getElem_mem _)
      have hst : hasL nd ((l.drop (i + k)).take (n - k)) = ((decide (nd = []) || decide (0 < cnt nd (l.getD (i + k) []))) || hasL nd ((l.drop (i + (k + 1))).take (n - (k + 1)))) := by
        rw [List.drop_eq_getElem_cons hik, show n - k = (n - (k + 1)) + 1 by omega, List.take_succ_cons]
        simp [hasL, hik, Nat.add_assoc]
      have HST := Lib.hid hst
      have hix : ((i : Int) + k).toNat = i + k := by omega
      clear hx hc0 hst
      generalize l.getD (i + k) [] = x at *
      by_cases hnd : nd = []
      · subst hnd
        have hne : (bs []).toList.isEmpty = true := by rw [ByteArray.toList_eq]; rfl
        go_wp2
        go_ret
        have h := hs.out.trans HST.out
        exact ⟨ret_bool (by rw [h]; simp), hb.out⟩
      · have hne : (bs nd).toList.isEmpty = false := by
          rw [ByteArray.toList_eq]
          show nd.isEmpty = false
          cases nd <;> simp_all
        obtain ⟨cap, W2, hrun, hcap, hrv, hb2⟩ := conv_bytes wr x
        have HC := Lib.hid (rcount_any W2 _ cap x nd hrv hxl hn hcap)
        have hsz := hb.out.size
        have HB2 := Lib.hid (hb.out.trans (hb2.mono hsz))
        have hcl := cnt_le nd x
        have HND := Lib.hid hnd
        clear hrv hb2 hnd
        by_cases hpos : 0 < cnt nd x
        · have hp : decide ((0 : Int) < (cnt nd x : Int)) = true := by simp; omega
          go_wp2_with (go_at_call 14; refine HC.out.mono ?_; rintro e w1 ⟨rfl, hw1⟩; subst w1)
          go_ret
          have h := hs.out.trans HST.out
          exact ⟨ret_bool (by rw [h]; simp [hpos]), HB2.out⟩
        · have hp : decide ((0 : Int) < (cnt nd x : Int)) = false := by simp; omega
          go_wp2_with (go_at_call 14; refine HC.out.mono ?_; rintro e w1 ⟨rfl, hw1⟩; subst w1)
          refine ⟨⟨k + 1, by omega, by go_num, ?_, HB2.out⟩, by simp [intOf]; omega⟩
          have h := hs.out.trans HST.out
          have hnd := HND.out
          unfold Hid
          rw [h]
          simp [hpos, hnd]
    · go_wp2
      go_ret
      have h := hs.out
      rw [show n - k = 0 by omega, List.take_zero] at h
      exact ⟨ret_bool h.symm, hb.out⟩
end Go.Proofs.Ythhmamkphcgocaa

/- octet.Writer by contracts. -/
import Derived.Test.YthhmamkphcgocaaDoorObj
import Derived.Test.YthhmamkphcgocaaDoorChecked
namespace Go.Proofs.YthhmamkphcgocaaDoor
open Go.RowKit

theorem sl22 : Sl Tryd.prog 22 5 1 1 := ⟨Tryd.underlying22, by kernel_rfl, by decide⟩
theorem wr_info : (Tryd.prog.info? 22).map (·.size) = some 1 := by kernel_rfl
/-- A Writer in block g that has written l. -/
def Wr (w : World) (B g : Nat) (v : Value) (l : List UInt8) : Prop := Box1 w B g 117 5 v (bys l)
/-- It writes l more. -/
def Wrote (w : World) (B g : Nat) (v : Value) (l : List UInt8) (e : Ending) (w2 : World) : Prop := e = .returned (.tuple #[]) ∧ ∃ v2, Wr w2 B g v2 l ∧ Stp g v w v2 w2
theorem Wr.app {w w2 : World} {B g : Nat} {v v2 : Value} {l m : List UInt8} (h : Wr w B g v l) (o : w2.ownsRow B 5 1 v2 ((bys l).length + m.length) (bys l ++ bys m)) (a : Apd v v2 w w2) :
    Wr (w2.setCell ⟨g, 0, none⟩ v2) B g v2 (l ++ m) ∧ Stp g v w v2 (w2.setCell ⟨g, 0, none⟩ v2) := by
  rw [Wr, ← bys_app]
  exact Box1.appended h (by simpa [bys_len] using o) a

set_option maxRecDepth 100000 in
set_option maxHeartbeats 400000 in
theorem wbyte_any (w : World) (B g : Nat) (v : Value) (l : List UInt8) (c : UInt8) (h : Wr w B g v l) (hB : B ≤ w.heap.size) (hl : l.length ≤ 1000000000) :
    Calls Tryd.prog 37 #[.pointer (some ⟨g, 0, none⟩), .int .u8 (c.toNat : Int)] w (Wrote w B g v (l ++ [c])) := by
  have hc := h.cell
  have hlt := h.lt
  have H := Lib.hid h
  have HL := Lib.hid (bys_len l)
  clear h
  go_enter Tryd.func37, Tryd.ntmps37
  go_wp2_with (first
    | (at_builtin; refine wpList_app sl22 rfl (.tmp 10) (.tmp 12) rfl B v _ (bys l) rfl (H.out.alloc _).own (some ⟨w.heap.size, 0, none⟩) 1 1 (bys [c]) rfl (fun e => by cases e) rfl (B := w.heap.size + 1) ?_ (bys_one _) (by rw [HL.out]; unfold maxLen; omega) (by rw [HL.out]; omega) (by simp; omega) ?_; rotate_left; intro v2 w2 ho ha; have HO := Lib.hid ho; have HA := Lib.hid ha; clear ho ha)
    | (refine wpList_store1 rfl 22 (.tmp 15) (.tmp 13) rfl ⟨g, 0, none⟩ rfl v2 v rfl (own_one HO.out) wr_info ((H.out.alloc _).mid HA.out).1 ((H.out.alloc _).mid HA.out).2 rfl ?_; intro W hW; have HW := Lib.hid hW; clear hW))
  · go_end0
    rw [HW.out]
    have r := Wr.app (H.out.alloc _) HO.out HA.out
    exact ⟨rfl, v2, r.1, ((Stp.refl g v w).alloc _).trans r.2⟩
  · exact new_rv w _ _ _ rfl

set_option maxRecDepth 100000 in
set_option maxHeartbeats 400000 in
theorem wraw_any (w : World) (B g : Nat) (v : Value) (l m : List UInt8) (A : Option Addr) (c C : Nat) (h : Wr w B g v l) (hB : B ≤ w.heap.size) (hl : l.length ≤ 1000000000) (hm : m.length ≤ 1000000000) (hr : Rv C w A (bys m)) (hn : A = none → c = 0) :
    Calls Tryd.prog 34 #[.pointer (some ⟨g, 0, none⟩), .slice A m.length c] w (Wrote w B g v (l ++ m)) := by
  have hc := h.cell
  have hlt := h.lt
  have H := Lib.hid h
  have HR := Lib.hid hr
  have HN := Lib.hid hn
  have HL := Lib.hid (bys_len l)
  have HM := Lib.hid (bys_len m)
  clear h hr hn
  go_enter Tryd.func34, Tryd.ntmps34
  go_wp2_with (first
    | (at_builtin; refine wpList_app sl22 rfl (.tmp 10) (.tmp 11) rfl B v _ (bys l) rfl H.out.own A m.length c (bys m) rfl HN.out (by rw [HM.out, Nat.mul_one]) HR.out (bys_one _) (by rw [HL.out]; unfold maxLen; omega) (by rw [HL.out]; omega) hB ?_; intro v2 w2 ho ha; have HO := Lib.hid ho; have HA := Lib.hid ha; clear ho ha)
    | (refine wpList_store1 rfl 22 (.tmp 14) (.tmp 12) rfl ⟨g, 0, none⟩ rfl v2 v rfl (own_one HO.out) wr_info (H.out.mid HA.out).1 (H.out.mid HA.out).2 rfl ?_; intro W hW; have HW := Lib.hid hW; clear hW))
  go_end0
  rw [HW.out]
  have r := Wr.app H.out HO.out HA.out
  exact ⟨rfl, v2, r⟩

theorem wbyte_int (w : World) (B g : Nat) (v : Value) (l : List UInt8) (x : Int) (c : UInt8) (hx : x = (c.toNat : Int)) (h : Wr w B g v l) (hB : B ≤ w.heap.size) (hl : l.length ≤ 1000000000) :
    Calls Tryd.prog 37 #[.pointer (some ⟨g, 0, none⟩), .int .u8 x] w (Wrote w B g v (l ++ [c])) := by
  subst hx
  exact wbyte_any w B g v l c h hB hl


/-- Four bytes, the highest first. -/
def be4 (n : Nat) : List UInt8 := [by8 (n / 16777216), by8 (n / 65536), by8 (n / 256), by8 n]
/-- What has been written so far, from the Writer v in w on. -/
structure So (w : World) (B g : Nat) (v : Value) (l : List UInt8) (w2 : World) : Prop where
  ex : ∃ v2, Wr w2 B g v2 l ∧ Stp g v w v2 w2
theorem So.next {w w2 w3 : World} {B g : Nat} {v v2 : Value} {m : List UInt8} {e : Ending} (s : Stp g v w v2 w2) (h : Wrote w2 B g v2 m e w3) : So w B g v m w3 := by
  obtain ⟨_, v3, h1, h2⟩ := h
  exact ⟨v3, h1, s.trans h2⟩

set_option maxRecDepth 100000 in
set_option maxHeartbeats 1000000 in
theorem wu32_any (w : World) (B g : Nat) (v : Value) (l : List UInt8) (n : Nat) (h : Wr w B g v l) (hB : B ≤ w.heap.size) (hl : l.length ≤ 100000000) (hn : n < 4294967296) :
    Calls Tryd.prog 35 #[.pointer (some ⟨g, 0, none⟩), .int .u32 n] w (Wrote w B g v (l ++ be4 n)) := by
  have H := Lib.hid h
  clear h
  go_enter Tryd.func35, Tryd.ntmps35
  go_wp2_with fail
  go_loopw [5] (fun sv wr => ∃ (j : Nat), j ≤ 4 ∧ sv = .int .i64 (24 - 8 * (j : Int)) ∧ So w B g v (l ++ (be4 n).take j) wr) (fun sv _ => (intOf sv + 8).toNat)
  case atStart => exact ⟨0, by omega, by go_num, ⟨v, by simpa using H.out, Stp.refl _ _ _⟩⟩
  case round =>
    obtain ⟨j, hj, rfl, hso⟩ := hrel
    obtain ⟨v1, h1, s1⟩ := hso.ex
    have H1 := Lib.hid h1
    have S1 := Lib.hid s1
    have hs := s1.size
    clear h1 s1 hso
    have hj4 : j = 0 ∨ j = 1 ∨ j = 2 ∨ j = 3 ∨ j = 4 := by omega
    rcases hj4 with rfl | rfl | rfl | rfl | rfl
    · go_wp2_with (refine (wbyte_int _ B g v1 _ _ (by8 (n / 16777216)) ?_ H1.out (by omega) (by simp [be4]; omega)).mono ?_; rotate_left; intro e w2 hq; obtain ⟨rfl, -⟩ := (⟨hq.1, trivial⟩ : _ ∧ True); have HQ := Lib.hid hq; clear hq)
      · go_roundw
        case rel => exact ⟨1, by omega, by go_num, by simpa [be4] using So.next S1.out HQ.out⟩
        case measure => simp [intOf]
      · rw [by8_nat]; omega
    · go_wp2_with (refine (wbyte_int _ B g v1 _ _ (by8 (n / 65536)) ?_ H1.out (by omega) (by simp [be4]; omega)).mono ?_; rotate_left; intro e w2 hq; obtain ⟨rfl, -⟩ := (⟨hq.1, trivial⟩ : _ ∧ True); have HQ := Lib.hid hq; clear hq)
      · go_roundw
        case rel => exact ⟨2, by omega, by go_num, by simpa [be4] using So.next S1.out HQ.out⟩
        case measure => simp [intOf]
      · rw [by8_nat]; omega
    · go_wp2_with (refine (wbyte_int _ B g v1 _ _ (by8 (n / 256)) ?_ H1.out (by omega) (by simp [be4]; omega)).mono ?_; rotate_left; intro e w2 hq; obtain ⟨rfl, -⟩ := (⟨hq.1, trivial⟩ : _ ∧ True); have HQ := Lib.hid hq; clear hq)
      · go_roundw
        case rel => exact ⟨3, by omega, by go_num, by simpa [be4] using So.next S1.out HQ.out⟩
        case measure => simp [intOf]
      · rw [by8_nat]; omega
    · go_wp2_with (refine (wbyte_int _ B g v1 _ _ (by8 n) ?_ H1.out (by omega) (by simp [be4]; omega)).mono ?_; rotate_left; intro e w2 hq; obtain ⟨rfl, -⟩ := (⟨hq.1, trivial⟩ : _ ∧ True); have HQ := Lib.hid hq; clear hq)
      · go_roundw
        case rel => exact ⟨4, by omega, by go_num, by simpa [be4] using So.next S1.out HQ.out⟩
        case measure => simp [intOf]
      · rw [by8_nat]; omega
    · go_wp2
      go_end0
      exact ⟨rfl, v1, by simpa [be4] using H1.out, S1.out⟩

theorem or128_fin : ∀ n : Fin 256, Go.bits BinOp.or IntKind.u8 (n.val : Int) 128 = ((n.val % 128 + 128 : Nat) : Int) := by decide +kernel
theorem or128 (m : Nat) (h : m < 256) : Go.bits BinOp.or IntKind.u8 (m : Int) 128 = ((m % 128 + 128 : Nat) : Int) := or128_fin ⟨m, h⟩
/-- A number of any size. -/
def varB (n : Nat) : List UInt8 := if h : n < 128 then [by8 n] else by8 (n % 128 + 128) :: varB (n / 128)
  termination_by n
theorem varB_small {n : Nat} (h : n < 128) : varB n = [by8 n] := by rw [varB]; simp [h]
theorem varB_more {n : Nat} (h : 128 ≤ n) : varB n = by8 (n % 128 + 128) :: varB (n / 128) := by rw [varB]; simp [show ¬ n < 128 by omega]
theorem varB_len (k : Nat) : ∀ n, n < 128 ^ (k + 1) → (varB n).length ≤ k + 1 := by
  induction k with
  | zero => intro n h; rw [varB_small (by simpa using h)]; simp
  | succ k ih =>
    intro n h
    by_cases h1 : n < 128
    · rw [varB_small h1]; simp
    · rw [varB_more (by omega)]
      have := ih (n / 128) (by rw [Nat.div_lt_iff_lt_mul (by omega)]; rw [Nat.pow_succ] at h; exact h)
      simp; omega
theorem varB_ten {n : Nat} (h : n < 18446744073709551616) : (varB n).length ≤ 10 := varB_len 9 n (Nat.lt_of_lt_of_le h (by decide))
set_option maxRecDepth 100000 in
set_option maxHeartbeats 1000000 in
theorem wvar_any (w : World) (B g : Nat) (v : Value) (l : List UInt8) (n : Nat) (h : Wr w B g v l) (hB : B ≤ w.heap.size) (hl : l.length ≤ 100000000) (hn : n < 18446744073709551616) :
    Calls Tryd.prog 39 #[.pointer (some ⟨g, 0, none⟩), .int .u64 n] w (Wrote w B g v (l ++ varB n)) := by
  have H := Lib.hid h
  have H10 := varB_ten hn
  clear h
  go_enter Tryd.func39, Tryd.ntmps39
  go_wp2_with fail
  go_loopw [1] (fun nv wr => ∃ (m : Nat) (d : List UInt8), m ≤ n ∧ nv = .int .u64 m ∧ Hid (d ++ varB m = varB n) ∧ So w B g v (l ++ d) wr) (fun nv _ => (intOf nv).toNat)
  case atStart => exact ⟨n, [], Nat.le_refl _, rfl, rfl, ⟨v, by simpa using H.out, Stp.refl _ _ _⟩⟩
  case round =>
    obtain ⟨m, d, hm, rfl, hd, hso⟩ := hrel
    obtain ⟨v1, h1, s1⟩ := hso.ex
    have H1 := Lib.hid h1
    have S1 := Lib.hid s1
    have hs := s1.size
    have hdl : d.length ≤ 10 := by have := congrArg List.length hd.out; simp at this; omega
    clear h1 s1 hso
    by_cases hlt : m < 128
    · go_wp2_with (refine (wbyte_int _ B g v1 _ _ (by8 m) (by rw [by8_nat]; omega) H1.out (by omega) (by simp; omega)).mono ?_; intro e w2 hq; obtain ⟨rfl, -⟩ := (⟨hq.1, trivial⟩ : _ ∧ True); have HQ := Lib.hid hq; clear hq)
      go_end0
      obtain ⟨_, v2, h2, s2⟩ := HQ.out
      have := hd.out
      rw [varB_small hlt] at this
      exact ⟨rfl, v2, by rw [← this, ← List.append_assoc]; exact h2, S1.out.trans s2⟩
    · go_wp2_with (refine (wbyte_int _ B g v1 _ _ (by8 (m % 128 + 128)) ?_ H1.out (by omega) (by simp; omega)).mono ?_; rotate_left; intro e w2 hq; obtain ⟨rfl, -⟩ := (⟨hq.1, trivial⟩ : _ ∧ True); have HQ := Lib.hid hq; clear hq)
      · go_roundw
        case rel => exact ⟨m / 128, d ++ [by8 (m % 128 + 128)], by omega, by go_num, by rw [List.append_assoc, List.singleton_append, ← varB_more (by omega)]; exact hd.out, by rw [← List.append_assoc]; exact So.next S1.out HQ.out⟩
        case measure => simp [intOf]; omega
      · have ho : Go.bits BinOp.or IntKind.u8 ((m : Int) % 256) 128 = _ := or128 (m % 256) (by omega)
        rw [by8_nat]
        omega

set_option maxRecDepth 100000 in
set_option maxHeartbeats 1000000 in
theorem wtext_any (w : World) (B g : Nat) (v : Value) (l m : List UInt8) (h : Wr w B g v l) (hB : B ≤ w.heap.size) (hl : l.length ≤ 10000000) (hm : m.length ≤ 10000000) :
    Calls Tryd.prog 36 #[.pointer (some ⟨g, 0, none⟩), .string (bs m)] w (Wrote w B g v (l ++ (varB m.length ++ m))) := by
  have hsz := bs_size m
  have H := Lib.hid h
  have H10 := varB_ten (n := m.length) (by omega)
  clear h
  go_enter Tryd.func36, Tryd.ntmps36
  go_wp2_with fail
  refine (wvar_any _ B g v l m.length H.out hB (by omega) (by omega)).mono ?_
  intro e w2 hq
  obtain ⟨rfl, v2, h2, s2⟩ := hq
  have H2 := Lib.hid h2
  have S2 := Lib.hid s2
  have hs := s2.size
  clear h2 s2
  obtain ⟨c, w3, hr, hrv, hg, hcl, hsz3⟩ := run_bytes (P := Tryd.prog) w2 m Tryd.underlying9 Tryd.underlying22 Tryd.underlying5
  have HR := Lib.hid hr
  have HRV := Lib.hid hrv
  have HG := Lib.hid hg
  have hs3 := hg.size
  clear hr hrv hg hsz3
  go_wp2_with (refine wpList_conv rfl 9 22 (.tmp 10) rfl (.string (bs m)) rfl HR.out ?_)
  have h3 : Wr w3 B g v2 (l ++ varB m.length) := H2.out.keep fun k hk hlt => HG.out.block k hlt (by simp)
  have s3 : Stp g v w v2 w3 := S2.out.trans ⟨HG.out.os, HG.out.tape, HG.out.output, HG.out.size, fun k hk _ _ => HG.out.block k hk (by simp), .inl rfl⟩
  refine (wraw_any _ B g v2 (l ++ varB m.length) m _ c _ h3 (by omega) (by simp; omega) (by omega) HRV.out (fun e => by cases e)).mono ?_
  intro e w4 hq
  obtain ⟨rfl, v4, h4, s4⟩ := hq
  have H4 := Lib.hid h4
  have S4 := Lib.hid (s3.trans s4)
  clear h3 s3 h4 s4
  go_wp2
  go_end0
  exact ⟨rfl, v4, by rw [← List.append_assoc]; exact H4.out, S4.out⟩

theorem make22 (lo n : Nat) (hlo : lo ≤ n) (hb : n ≤ 1000000000) (W : World) : (Instr.makeSlice 22 (.int .i64 lo) (.int .i64 n)).run Tryd.prog W = .ok (.slice (some ⟨W.heap.size, 0, none⟩) lo n) (W.alloc (.cells (List.replicate n (Value.int .u8 0)).toArray 5)) :=
  make_zero sl22 (by kernel_rfl) rfl lo n hlo (by omega) (by omega) W
set_option maxRecDepth 100000 in
set_option maxHeartbeats 1000000 in
theorem wbytes_any (w : World) (B g : Nat) (v : Value) (l : List UInt8) (h : Wr w B g v l) (hl : l.length ≤ 100000000) :
    Calls Tryd.prog 40 #[.pointer (some ⟨g, 0, none⟩)] w fun e w2 => ∃ u, e = .returned u ∧ w2.ownsRow w.heap.size 5 1 u l.length (bys l) ∧ Below w.heap.size w w2 := by
  have hc := h.cell
  obtain ⟨D, d, rfl, hD, hR⟩ := own_rv h.own
  rw [bys_len] at hc h
  rcases l with _ | ⟨x, l⟩
  · go_enter Tryd.func40, Tryd.ntmps40
    go_wp2
    go_ret
    exact ⟨_, rfl, World.ownsRow_nil _ _ _ _, Below.refl _ _⟩
  · have hpos : 0 < (x :: l).length := by simp
    generalize x :: l = l at *
    have hmk : ∀ W : World, (Instr.makeSlice 22 (.int .i64 0) (.int .i64 l.length)).run Tryd.prog W = .ok (.slice (some ⟨W.heap.size, 0, none⟩) 0 l.length) (W.alloc (.cells (List.replicate l.length (Value.int .u8 0)).toArray 5)) := make22 0 l.length (Nat.zero_le _) (by omega)
    have hz : (((l.length : Nat) : Int) == 0) = false := beq_eq_false_iff_ne.2 (by omega)
    have HL := Lib.hid (bys_len l)
    have HR := Lib.hid hR
    have HD := Lib.hid hD
    have hlt := h.lt
    clear h hR hD
    obtain ⟨Z, hZ⟩ : ∃ Z, Z = (List.replicate l.length (Value.int .u8 0)).toArray := ⟨_, rfl⟩
    rw [← hZ] at hmk
    have HZ := Lib.hid hZ
    clear hZ
    go_enter Tryd.func40, Tryd.ntmps40
    go_wp2_with fail
    have hown : (w.alloc (.cells Z 5)).ownsRow w.heap.size 5 1 (.slice (some ⟨w.heap.size, 0, none⟩) 0 l.length) 0 [] := World.ownsRow_made w Z l.length (Nat.le_refl _) (by unfold maxLen; omega) (by rw [HZ.out]; simp)
    have HO := Lib.hid hown
    have HR2 := Lib.hid ((HR.out.below ((Below.refl w.heap.size w).alloc (Nat.le_refl _) (.cells Z 5))))
    clear hown
    go_region_law (refine step_app sl22 rfl (.tmp 18) (.tmp 22) rfl w.heap.size (.slice (some ⟨w.heap.size, 0, none⟩) 0 l.length) 0 [] (by simp [Act.eval]) HO.out D l.length d (bys l) (by simp [Act.eval]) HD.out (by rw [HL.out, Nat.mul_one]) HR2.out (bys_one _) (by unfold maxLen; omega) (by omega) (by simp) ?_; intro v2 w2 ho ha; have HO2 := Lib.hid ho; have HA := Lib.hid ha; clear ho ha)
    all_goals
      go_wp2
      go_ret
      have h2 := HO2.out
      have ha := HA.out.grown
      rw [List.nil_append, Nat.zero_add] at h2
      exact ⟨_, rfl, h2, ((Below.refl w.heap.size w).alloc (Nat.le_refl _) _).drew.trans (below_of_grown ha (by simp) (fun k hk => by have e : some w.heap.size = some k := hk; injection e with e; omega))⟩

theorem wnew_any (w : World) : Calls Tryd.prog 33 #[] w fun e w2 => e = .returned (.pointer (some ⟨w.heap.size, 0, none⟩)) ∧ w2 = w.alloc (.cells #[.slice none 0 0] 117) := by
  go_enter Tryd.func33, Tryd.ntmps33
  go_wp2
  go_ret
  exact ⟨rfl, rfl⟩
theorem wr_new (w : World) : Wr (w.alloc (.cells #[.slice none 0 0] 117)) w.heap.size w.heap.size (.slice none 0 0) [] :=
  ⟨heap_alloc_new w _, World.ownsRow_nil _ _ _ _, by intro h; cases h⟩
end Go.Proofs.YthhmamkphcgocaaDoor

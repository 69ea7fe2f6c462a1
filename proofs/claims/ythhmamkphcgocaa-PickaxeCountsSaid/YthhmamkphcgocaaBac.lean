/- pickaxe.backs, by a contract. -/
import Derived.Test.YthhmamkphcgocaaKmp
import Derived.Test.YthhmamkphcgocaaMem
namespace Go.Proofs.Ythhmamkphcgocaa
open Go.RowKit

theorem info72 : (Try.prog.info? 72).map (·.size) = some 101 := by kernel_rfl
def nats (l : List Nat) : List Value := l.map fun (n : Nat) => Value.int .i64 (n : Int)
theorem nats_len (l : List Nat) : (nats l).length = l.length := by simp [nats]
theorem nats_at {l : List Nat} {k : Nat} (h : k < l.length) : (nats l)[k]? = some (.int .i64 (l.getD k 0 : Nat)) := by simp [nats, h]
theorem nats_one (l : List Nat) : ones (nats l).toArray = true := by simp [ones, nats, Value.oneCell']
def zero72 : Array Value := (nats (List.replicate 101 0)).toArray
theorem zero72_info : (Try.prog.info? 72).map (·.zero) = some (some (.agg zero72)) := by kernel_rfl
def new72 : Sem Value := Instr.alloc 72 true (.tuple #[])
theorem new72_eq : Instr.alloc 72 true (.tuple #[]) = new72 := rfl
theorem run_new72 (W : World) : new72.run Try.prog W = .ok (.pointer (some ⟨W.heap.size, 0, none⟩)) (W.alloc (.cells zero72 72)) := by
  obtain ⟨i, hi, hz⟩ := Option.map_eq_some_iff.1 zero72_info
  simp [new72, Instr.alloc, zeroValue, typeInfo, hi, hz, newVar, newRow, Value.cells]
def load72 (a : Addr) : Sem Value := loadVar 72 a
def store72 (a : Addr) (v : Value) : Sem Unit := storeVar 72 a v
theorem load72_eq (a : Addr) : loadVar 72 a = load72 a := rfl
theorem store72_eq (a : Addr) (v : Value) : storeVar 72 a v = store72 a v := rfl
/-- Block n holds the numbers fs, as one array. -/
def Arr (W : World) (n : Nat) (fs : List Nat) : Prop := fs.length = 101 ∧ W.heap[n]? = some (.cells (nats fs).toArray 72 (0, 0))
section
variable {W : World} {n : Nat} {fs gs : List Nat}
theorem Arr.row (h : Arr W n fs) : row W n = (nats fs).toArray := row_of h.2
theorem Arr.free (h : Arr W n fs) : free W n = true := free_of h.2
theorem Arr.lt (h : Arr W n fs) : n < W.heap.size := (Array.getElem?_eq_some_iff.1 h.2).1
theorem Arr.cell (h : Arr W n fs) {k : Nat} (hk : k < 101) : W.cell? ⟨n, k, none⟩ = some (.int .i64 (fs.getD k 0 : Nat)) := by
  have hkq : k < fs.length := by rw [h.1]; exact hk
  have := nats_at hkq
  simp only [World.cell?, h.2]
  simpa using this
theorem Arr.frozen (h : Arr W n fs) (k : Nat) : W.frozen? ⟨n, k, none⟩ = false := by simp [World.frozen?, h.2]
theorem Arr.load (h : Arr W n fs) : (load72 ⟨n, 0, none⟩).run Try.prog W = .ok (.agg (nats fs).toArray) W :=
  run_loadVar_row W n 72 72 (nats fs).toArray (0, 0) (.array 101 3) h.2 Try.underlying72 rfl (by rw [List.size_toArray, nats_len, h.1]; exact info72)
theorem Arr.store (h : Arr W n fs) (hg : gs.length = 101) : (store72 ⟨n, 0, none⟩ (.agg (nats gs).toArray)).run Try.prog W = .ok () (W.setRow n (nats gs).toArray) :=
  run_storeVar_row W n 72 72 (nats fs).toArray (nats gs).toArray h.2 (by rw [List.size_toArray, nats_len, hg]; exact info72) (by simp [nats, h.1, hg]) (nats_one gs)
theorem Arr.setRow (h : Arr W n fs) (hg : gs.length = 101) : Arr (W.setRow n (nats gs).toArray) n gs := ⟨hg, setRow_heap W n _ _ 72 (0, 0) h.2⟩
theorem Arr.past (h : Arr W n fs) (m : Nat) (cs : Array Value) (hm : n ≠ m) : Arr (W.setRow m cs) n fs := ⟨h.1, (setRow_other W m n cs hm).trans h.2⟩
theorem Arr.new (W : World) : Arr (W.alloc (.cells zero72 72)) W.heap.size (List.replicate 101 0) := ⟨by simp, heap_alloc_new W _⟩
theorem Arr.alloc (h : Arr W n fs) (o : Obj) : Arr (W.alloc o) n fs := ⟨h.1, (Below.heap_alloc W o n h.lt).trans h.2⟩
theorem Arr.other (h : Arr W n fs) (p : Addr) (v : Value) (hp : n ≠ p.block) : Arr (W.setCell p v) n fs := ⟨h.1, (Below.heap_setCell W p v n hp).trans h.2⟩
theorem Arr.set (h : Arr W n fs) (k x : Nat) : Arr (W.setCell ⟨n, k, none⟩ (.int .i64 (x : Int))) n (fs.set k x) := by
  refine ⟨by simp [h.1], ?_⟩
  obtain ⟨hlt, hk⟩ := Array.getElem?_eq_some_iff.1 h.2
  show (W.heap.modify n _)[n]? = _
  rw [Array.getElem?_eq_getElem (by rw [Array.size_modify]; exact hlt), Array.getElem_modify_self, hk]
  simp [nats, List.map_set]
theorem Arr.drewN (h : Arr W n fs) (k : Nat) : Arr (W.drewN k) n fs := h
end

/-- What backs hands over. -/
def BkOk (p : List UInt8) (fs : List Nat) (i : Nat) : Prop := ∀ x, 1 ≤ x → x ≤ i → Bk p x (fs.getD x 0)
theorem BkOk.next {p : List UInt8} {fs : List Nat} {i k : Nat} (h : BkOk p fs i) (hl : i + 1 < fs.length) (hk : Bk p (i + 1) k) : BkOk p (fs.set (i + 1) k) (i + 1) := by
  intro x h1 h2
  by_cases e : x = i + 1
  · subst e
    have : (fs.set (i + 1) k).getD (i + 1) 0 = k := by simp [hl]
    rw [this]; exact hk
  · have : (fs.set (i + 1) k).getD x 0 = fs.getD x 0 := by simp [show ¬ i + 1 = x by omega]
    rw [this]; exact h x h1 (by omega)
theorem bkok_one (p : List UInt8) (n : Nat) : BkOk p (List.replicate n 0) 1 := by
  intro x h1 h2
  obtain rfl : x = 1 := by omega
  have : (List.replicate n 0).getD 1 0 = 0 := by simp [List.getElem?_replicate]; split <;> rfl
  rw [this]
  exact bk_one p
theorem bs_at {p : List UInt8} {k : Nat} (h : k < (bs p).size) : (bs p)[k] = p.getD k 0 := by
  have h' : k < p.length := by rw [bs_size] at h; exact h
  simp [bs, h', ByteArray.getElem_eq_getElem_data]
theorem ne_cast {x y : UInt8} (h : x ≠ y) : (x.toNat : Int) ≠ (y.toNat : Int) := fun e => h (UInt8.toNat_inj.1 (by omega))
attribute [local go_sem ↓] load72_eq store72_eq new72_eq run_new72
attribute [local go_sem] bs_at

set_option maxRecDepth 100000 in
set_option maxHeartbeats 2000000 in
theorem backs_any (w : World) (p : List UInt8) (hp0 : 0 < p.length) (hp : p.length ≤ 100) :
    Calls Try.prog 35 #[.string (bs p)] w fun e w' => ∃ fs, e = .returned (.agg (nats fs).toArray) ∧ fs.length = 101 ∧ BkOk p fs p.length ∧ Below w.heap.size w w' := by
  have hsz := bs_size p
  go_enter Try.func35, Try.ntmps35
  go_wp2_with fail
  have a0 := (Arr.new w).alloc (.cells zero72 72)
  have a1 := Arr.new (w.alloc (.cells zero72 72))
  have b1 : Below w.heap.size w ((w.alloc (.cells zero72 72)).alloc (.cells zero72 72)) := ((Below.refl _ w).alloc (Nat.le_refl _) _).alloc (by simp) _
  rw [World.size_alloc] at a1
  generalize (w.alloc (.cells zero72 72)).alloc (.cells zero72 72) = w1 at *
  go_loopw [4, 5] (fun kv iv wr => ∃ (k i : Nat) (fs : List Nat), k < i ∧ 1 ≤ i ∧ i ≤ p.length ∧ kv = .int .i64 k ∧ iv = .int .i64 i ∧ Hid (Arr wr (w.heap.size + 1) fs) ∧ Hid (Arr wr w.heap.size (List.replicate 101 0)) ∧ Hid (BkOk p fs i) ∧ Hid (Bk p i k) ∧ Hid (Below w.heap.size w wr)) (fun _ iv _ => p.length - (intOf iv).toNat)
  case atStart => exact ⟨0, 1, _, by omega, by omega, hp0, rfl, rfl, a1, a0, bkok_one p _, bk_one p, b1⟩
  case round =>
    obtain ⟨k, i, fs, hki, h1i, hin, rfl, rfl, hA, hA0, hok, hbk, hb⟩ := hrel
    clear a0 a1 b1
    by_cases hlt : i < p.length
    · have hnext := Lib.hid (bk_next (p := p) h1i hlt)
      have HEX := Lib.hid ((hbk.out : Mx p ((p.take i).drop 1) k).ex (c := p.getD i 0))
      generalize wr = wo at *
      go_wp2_with fail
      go_loopw [4] (fun kv wq => ∃ kq : Nat, kq < i ∧ kv = .int .i64 kq ∧ Hid (Ex p ((p.take i).drop 1) (p.getD i 0) kq) ∧ Hid (∃ m, wq = wo.drewN m)) (fun kv _ => (intOf kv).toNat)
      case atStart => exact ⟨k, hki, rfl, HEX, ⟨0, rfl⟩⟩
      case round =>
        obtain ⟨kq, hki', rfl, hex, hm⟩ := hrel
        have hokq : ∃ b, fs.getD kq 0 = b ∧ (0 < kq → Bk p kq b ∧ b < kq) := ⟨_, rfl, fun h => ⟨hok.out kq h (by omega), (hok.out kq h (by omega)).lt h (by omega)⟩⟩
        obtain ⟨b, hfb, hbb⟩ := hokq
        have hc : wr.cell? ⟨w.heap.size + 1, kq, none⟩ = some (.int .i64 (b : Nat)) := by
          obtain ⟨m, rfl⟩ := hm.out
          rw [← hfb]
          exact hA.out.cell (by omega)
        have HBB := Lib.hid hbb
        have HHIT := Lib.hid (fun h : p.getD kq 0 = p.getD i 0 => hex.out.hit (by omega) h)
        have HMISS := Lib.hid (fun (h : p.getD kq 0 ≠ p.getD i 0) (h0 : kq = 0) => (by subst h0; exact hex.out.miss (fun _ => h) : Mx p ((p.take i).drop 1 ++ [p.getD i 0]) 0))
        have HBACK := Lib.hid (fun (h : p.getD kq 0 ≠ p.getD i 0) (h0 : 0 < kq) => hex.out.back h0 (.inr h) (hbb h0).1)
        clear hfb hbb
        have hxi : (bs p)[i]'(by omega) = p.getD i 0 := bs_at _
        have hxk : (bs p)[kq]'(by omega) = p.getD kq 0 := bs_at _
        generalize p.getD i 0 = x at *
        generalize p.getD kq 0 = y at *
        have hz : wr.frozen? ⟨w.heap.size + 1, i + 1, none⟩ = false := by
          obtain ⟨m, rfl⟩ := hm.out
          exact hA.out.frozen _
        have hcs : wr.cell? ⟨w.heap.size + 1, i + 1, none⟩ = some (.int .i64 (fs.getD (i + 1) 0 : Nat)) := by
          obtain ⟨m, rfl⟩ := hm.out
          exact hA.out.cell (by omega)
        generalize fs.getD (i + 1) 0 = old at *
        by_cases hk0 : 0 < kq
        · have d1 : decide (0 < (kq : Int)) = true := by simpa using hk0
          by_cases hxy : y = x
          · subst hxy
            go_wp2_with fail
            refine wp_region_quiet_lit (by kernel_rfl) (by kernel_rfl) ?_
            repeat (go_big_quiet_step (fail))
            refine wpQuiet_nil ?_
            rintro _ ⟨n1, rfl⟩
            go_wp2_with fail
            refine wp_region_quiet_lit (by kernel_rfl) (by kernel_rfl) ?_
            repeat (go_big_quiet_step (fail))
            refine wpQuiet_nil ?_
            rintro _ ⟨n2, rfl⟩
            go_wp2
            refine ⟨⟨kq + 1, i + 1, fs.set (i + 1) (kq + 1), by omega, by omega, by omega, by go_num, by go_num, ?_⟩, by simp [intOf]; omega⟩
            have HMX := HHIT.out (by trivial)
            rw [← hnext.out] at HMX
            obtain ⟨m, rfl⟩ := hm.out
            exact ⟨((hA.out.drewN (m + (n1 + n2))).set (i + 1) (kq + 1) : _), ((hA0.out.drewN (m + (n1 + n2))).other _ _ (by simp) : _), hok.out.next (by rw [hA.out.1]; omega) HMX, HMX, ((below_dr (below_dr hb.out m) (n1 + n2)).setCell (p := ⟨w.heap.size + 1, i + 1, none⟩) (Nat.le_succ _) _ : _)⟩
          · have hne : ¬ ((x.toNat : Int) = (y.toNat : Int)) := fun e => hxy (UInt8.toNat_inj.1 (by omega))
            go_wp2_with fail
            refine wp_region_quiet_lit (by kernel_rfl) (by kernel_rfl) ?_
            repeat (go_big_quiet_step (fail))
            refine wpQuiet_nil ?_
            rintro _ ⟨n1, rfl⟩
            go_wp2
            refine ⟨⟨b, by have := (HBB.out hk0).2; omega, rfl, HBACK.out hxy hk0, ?_⟩, by have := (HBB.out hk0).2; simp [intOf]; omega⟩
            obtain ⟨m, rfl⟩ := hm.out
            exact ⟨m + n1, by simp⟩
        · obtain rfl : kq = 0 := by omega
          by_cases hxy : y = x
          · subst hxy
            go_wp2_with fail
            refine wp_region_quiet_lit (by kernel_rfl) (by kernel_rfl) ?_
            repeat (go_big_quiet_step (fail))
            refine wpQuiet_nil ?_
            rintro _ ⟨n1, rfl⟩
            go_wp2_with fail
            refine wp_region_quiet_lit (by kernel_rfl) (by kernel_rfl) ?_
            repeat (go_big_quiet_step (fail))
            refine wpQuiet_nil ?_
            rintro _ ⟨n2, rfl⟩
            go_wp2
            refine ⟨⟨0 + 1, i + 1, fs.set (i + 1) (0 + 1), by omega, by omega, by omega, by go_num, by go_num, ?_⟩, by simp [intOf]; omega⟩
            have HMX := HHIT.out (by trivial)
            rw [← hnext.out] at HMX
            obtain ⟨m, rfl⟩ := hm.out
            exact ⟨((hA.out.drewN (m + (n1 + n2))).set (i + 1) (0 + 1) : _), ((hA0.out.drewN (m + (n1 + n2))).other _ _ (by simp) : _), hok.out.next (by rw [hA.out.1]; omega) HMX, HMX, ((below_dr (below_dr hb.out m) (n1 + n2)).setCell (p := ⟨w.heap.size + 1, i + 1, none⟩) (Nat.le_succ _) _ : _)⟩
          · have hne : ¬ ((x.toNat : Int) = (y.toNat : Int)) := fun e => hxy (UInt8.toNat_inj.1 (by omega))
            go_wp2_with fail
            refine wp_region_quiet_lit (by kernel_rfl) (by kernel_rfl) ?_
            repeat (go_big_quiet_step (fail))
            refine wpQuiet_nil ?_
            rintro _ ⟨n1, rfl⟩
            go_wp2_with fail
            refine wp_region_quiet_lit (by kernel_rfl) (by kernel_rfl) ?_
            repeat (go_big_quiet_step (fail))
            refine wpQuiet_nil ?_
            rintro _ ⟨n2, rfl⟩
            go_wp2
            refine ⟨⟨0, i + 1, fs.set (i + 1) (0), by omega, by omega, by omega, by go_num, by go_num, ?_⟩, by simp [intOf]; omega⟩
            have HMX := HMISS.out hxy (by trivial)
            rw [← hnext.out] at HMX
            obtain ⟨m, rfl⟩ := hm.out
            exact ⟨((hA.out.drewN (m + (n1 + n2))).set (i + 1) (0) : _), ((hA0.out.drewN (m + (n1 + n2))).other _ _ (by simp) : _), hok.out.next (by rw [hA.out.1]; omega) HMX, HMX, ((below_dr (below_dr hb.out m) (n1 + n2)).setCell (p := ⟨w.heap.size + 1, i + 1, none⟩) (Nat.le_succ _) _ : _)⟩
    · have hl := hA.out.load
      have hst := hA0.out.store hA.out.1
      have hl2 := (hA0.out.setRow hA.out.1).load
      go_wp2
      obtain rfl : i = p.length := by omega
      try simp only [Exit.inBlock, Exit.then]
      have hF := hA0.out.setRow hA.out.1
      refine bodyPost_ret (results_cell_row rfl _ _ w.heap.size 72 (nats fs).toArray (0, 0) (.array 101 3) rfl hF.2 Try.underlying72 rfl (by rw [List.size_toArray, nats_len, hA.out.1]; exact info72)) rfl ?_
      exact ⟨fs, rfl, hA.out.1, hok.out, hb.out.trans ⟨rfl, rfl, rfl, by simp, fun k hk => setRow_other _ _ _ _ (by omega)⟩⟩
end Go.Proofs.Ythhmamkphcgocaa

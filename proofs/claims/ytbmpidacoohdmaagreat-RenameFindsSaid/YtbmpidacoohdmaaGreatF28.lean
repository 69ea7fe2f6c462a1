/- alike.Table: the pairs that are alike enough, by a contract. alike.Table: the walk. -/
import Derived.Test.YtbmpidacoohdmaaGreatF25
import Derived.Test.YtbmpidacoohdmaaGreatF27
import Derived.Test.YtbmpidacoohdmaaGreatF20
import Derived.Test.YtbmpidacoohdmaaGreatF12
import Derived.WalkMore
namespace Go.Proofs.YtbmpidacoohdmaaGreat
open Go.RowKit Op
open Go.Sort (HoldsK PermIn SortedIn SWO)

theorem cmpZ_lt (x y : Int) : cmpZ x y < 0 ↔ x < y := by
  unfold cmpZ
  split
  · simp; assumption
  · split <;> (constructor <;> intro h <;> omega)
theorem cmpZ_eq (x y : Int) : cmpZ x y = 0 ↔ x = y := by
  unfold cmpZ
  split
  · constructor <;> intro h <;> omega
  · split <;> (constructor <;> intro h <;> omega)
theorem cfT_lt (x y : Nat × Nat × Nat) : cfT x y < 0 ↔ y.2.2 < x.2.2 ∨ (x.2.2 = y.2.2 ∧ (x.1 < y.1 ∨ (x.1 = y.1 ∧ x.2.1 < y.2.1))) := by
  unfold cfT orZ
  have a1 := cmpZ_lt y.2.2 x.2.2
  have a2 := cmpZ_eq y.2.2 x.2.2
  have b1 := cmpZ_lt x.1 y.1
  have b2 := cmpZ_eq x.1 y.1
  have c1 := cmpZ_lt x.2.1 y.2.1
  generalize cmpZ (y.2.2 : Int) x.2.2 = p at *
  generalize cmpZ (x.1 : Int) y.1 = q at *
  generalize cmpZ (x.2.1 : Int) y.2.1 = r at *
  by_cases hp : p = 0
  · rw [if_neg (by simpa using hp)]
    have := a2.1 hp
    by_cases hq : q = 0
    · rw [if_neg (by simpa using hq)]
      have := b2.1 hq
      rw [c1]
      omega
    · rw [if_pos hq]
      have h : ¬ (x.1 : Int) = y.1 := fun h => hq (b2.2 h)
      rw [b1]
      omega
  · rw [if_pos hp]
    have h : ¬ (y.2.2 : Int) = x.2.2 := fun h => hp (a2.2 h)
    rw [a1]
    omega
theorem swoT : SWO (ltOf cfT) where
  irrefl x := by
    refine decide_eq_false ?_
    rw [cfT_lt]; omega
  trans x y z h k := by
    have h := of_decide_eq_true h
    have k := of_decide_eq_true k
    refine decide_eq_true ?_
    rw [cfT_lt] at *; omega
  ntrans x y z h k := by
    have h := of_decide_eq_false h
    have k := of_decide_eq_false k
    refine decide_eq_false ?_
    rw [cfT_lt] at *; omega
/-- A map or none. -/
def MapOr (w : World) (v : Value) (ps : List (List UInt8)) : Prop := v = .map none ∨ ∃ m, v = .map (some m) ∧ Cmp w m ps
theorem MapOr.below {w w2 : World} {v : Value} {ps : List (List UInt8)} (h : MapOr w v ps) (hb : Below w.heap.size w w2) : MapOr w2 v ps := by
  rcases h with h | ⟨m, h, hc⟩
  · exact .inl h
  · exact .inr ⟨m, h, hc.below hb⟩
theorem Cmp.ne {w : World} {m g : Nat} {ps : List (List UInt8)} (h : Cmp w m ps) {cs : Array Value} {t : TypeId} {f : Nat × Nat} (hg : w.heap[g]? = some (.cells cs t f)) : m ≠ g := by
  obtain ⟨n, D, ⟨es, clock, hb, _⟩, _⟩ := h
  rintro rfl
  rw [hb] at hg
  cases hg
theorem Cmp.set {w : World} {m g : Nat} {ps : List (List UInt8)} (h : Cmp w m ps) {cs : Array Value} {t : TypeId} {f : Nat × Nat} (hg : w.heap[g]? = some (.cells cs t f)) (k : Nat) (u : Value) : Cmp (w.setCell ⟨g, k, none⟩ u) m ps :=
  h.of (Below.heap_setCell w ⟨g, k, none⟩ u m (h.ne hg))
theorem MapOr.set {w : World} {v : Value} {g : Nat} {ps : List (List UInt8)} (h : MapOr w v ps) {cs : Array Value} {t : TypeId} {f : Nat × Nat} (hg : w.heap[g]? = some (.cells cs t f)) (k : Nat) (u : Value) : MapOr (w.setCell ⟨g, k, none⟩ u) v ps := by
  rcases h with h | ⟨m, h, hc⟩
  · exact .inl h
  · exact .inr ⟨m, h, hc.set hg k u⟩
/-- The known maps. -/
structure Knw (w : World) (K : Nat) (vs : List Value) (ys : List (List UInt8)) : Prop where
  row : Ar w K 192 vs
  len : vs.length = ys.length
  all : ∀ k, k < ys.length → MapOr w (vs.getD k undef) (cutB (ys.getD k []))
theorem Knw.below {w w2 : World} {K : Nat} {vs : List Value} {ys : List (List UInt8)} (h : Knw w K vs ys) (hb : Below w.heap.size w w2) : Knw w2 K vs ys := ⟨h.row.below hb h.row.lt, h.len, fun k hk => (h.all k hk).below hb⟩
theorem Knw.put {w : World} {K : Nat} {vs : List Value} {ys : List (List UInt8)} (h : Knw w K vs ys) {k m : Nat} (hk : k < ys.length) (hm : Cmp w m (cutB (ys.getD k []))) : Knw (w.setCell ⟨K, k, none⟩ (.map (some m))) K (vs.set k (.map (some m))) ys := by
  refine ⟨h.row.set k _, by rw [List.length_set]; exact h.len, fun j hj => ?_⟩
  by_cases e : k = j
  · subst e
    refine .inr ⟨m, ?_, hm.set h.row k _⟩
    rw [List.getD_eq_getElem?_getD, List.getElem?_set_self (by rw [h.len]; exact hk)]
    rfl
  · have := h.all j hj
    rw [List.getD_eq_getElem?_getD, List.getElem?_set_ne e, ← List.getD_eq_getElem?_getD]
    exact this.set h.row k _
/-- Texts in a row of slices. -/
structure Txr (w : World) (A : Option Addr) (us : List Value) (xs : List (List UInt8)) : Prop where
  len : us.length = xs.length
  rv : Rv w.heap.size w A us
  all : ∀ k, k < xs.length → ∃ D d, us[k]? = some (.slice D (xs.getD k []).length d) ∧ (xs.getD k []).length ≤ d ∧ Rv w.heap.size w D (bys (xs.getD k [])) ∧ (xs.getD k []).length ≤ 400
theorem Txr.at_ {w W : World} {A : Option Addr} {us : List Value} {xs : List (List UInt8)} (h : Txr w A us xs) (hb : Below w.heap.size w W) {k : Nat} (hk : k < xs.length) : ∃ ad D d, A = some ad ∧ W.cell? (ad.add k) = some (.slice D (xs.getD k []).length d) ∧ (xs.getD k []).length ≤ d ∧ Rv W.heap.size W D (bys (xs.getD k [])) ∧ (xs.getD k []).length ≤ 400 := by
  obtain ⟨D, d, h1, h2, h3, h4⟩ := h.all k hk
  obtain ⟨ad, e, hl, hc⟩ := h.rv.at_ h1
  exact ⟨ad, D, d, e, (hb.cell (p := ad.add k) (by rw [block_add]; exact hl)).trans hc, h2, h3.low hb hb.size, h4⟩
theorem slR : Sl Tryz.prog 116 120 3 24 := ⟨Tryz.underlying116, by kernel_rfl, by decide⟩
def rowsE (l : List (Nat × Nat × Nat)) : List Value := l.flatMap encR
theorem rowsE_snoc (l : List (Nat × Nat × Nat)) (x : Nat × Nat × Nat) : rowsE l ++ encR x = rowsE (l ++ [x]) := by simp [rowsE]
theorem encR_one (x : Nat × Nat × Nat) : ∀ u ∈ encR x, u.oneCell' = true := by
  intro u hu
  simp only [encR, List.mem_cons, List.not_mem_nil, or_false] at hu
  rcases hu with rfl | rfl | rfl <;> rfl
def lstN (o : Int) : Int := if o < 1 then 1 else o
theorem slM : Sl Tryz.prog 191 192 1 8 := ⟨Tryz.underlying191, by kernel_rfl, by decide⟩
end Go.Proofs.YtbmpidacoohdmaaGreat
namespace Go.Proofs.YtbmpidacoohdmaaGreat
open Lib renaming hid → hI
open Go.RowKit Op
open Go.Sort (HoldsK PermIn SortedIn SWO)

/-- A table's rows in its own block. -/
structure TabO (w w2 : World) (v : Value) (d : Array (Nat × Nat × Nat)) : Prop where
  form : (v = .slice none 0 0 ∧ d.size = 0) ∨ ∃ g cap, v = .slice (some ⟨g, 0, none⟩) d.size cap ∧ w.heap.size ≤ g ∧ d.size ≤ cap ∧ g < w2.heap.size ∧ HoldsK encR 3 w2 g 0 d
theorem own_cells {w : World} {C size : Nat} {e : TypeId} {v : Value} {n : Nat} {xs : List Value} (h : w.ownsRow C e size v n xs) {g : Nat} (hg : v.ownBlock = some g) : ∃ cs f, w.heap[g]? = some (.cells cs e f) := by
  obtain ⟨_, ⟨rfl, _⟩ | ⟨g2, cap, cur, rfl, _, h3, _⟩⟩ := h
  · cases hg
  · obtain rfl : g2 = g := by injection hg
    exact ⟨_, _, h3⟩
theorem Cmp.grown {w w2 : World} {m C size : Nat} {ps : List (List UInt8)} {e : TypeId} {v : Value} {n : Nat} {xs : List Value} (h : Cmp w m ps) (ho : w.ownsRow C e size v n xs) (hg : w.grownBy w2 v.ownBlock) : Cmp w2 m ps :=
  h.of (hg.block m h.lt (fun q => by obtain ⟨cs, f, hc⟩ := own_cells ho q.symm; exact h.ne hc rfl))
theorem MapOr.grown {w w2 : World} {C size : Nat} {u : Value} {ps : List (List UInt8)} {e : TypeId} {v : Value} {n : Nat} {xs : List Value} (h : MapOr w u ps) (ho : w.ownsRow C e size v n xs) (hg : w.grownBy w2 v.ownBlock) : MapOr w2 u ps := by
  rcases h with h | ⟨m, h, hc⟩
  · exact .inl h
  · exact .inr ⟨m, h, hc.grown ho hg⟩
theorem Knw.grown {w w2 : World} {K C size : Nat} {vs : List Value} {ys : List (List UInt8)} {e : TypeId} {v : Value} {n : Nat} {xs : List Value} (h : Knw w K vs ys) (ho : w.ownsRow C e size v n xs) (hg : w.grownBy w2 v.ownBlock) (hK : K < C) : Knw w2 K vs ys :=
  ⟨h.row.later hg (fun q => by have := (ho.lt K q.symm).1; omega), h.len, fun k hk => (h.all k hk).grown ho hg⟩
set_option maxRecDepth 100000 in
set_option maxHeartbeats 4000000 in
theorem table_any (w : World) (A B : Option Addr) (ca cb : Nat) (us vs0 : List Value) (xs ys : List (List UInt8)) (o1 : Int) (hA : Txr w A us xs) (hB : Txr w B vs0 ys) (hxl : xs.length ≤ 40) (hyl : ys.length ≤ 40) :
    Calls Tryz.prog 47 #[.slice A xs.length ca, .slice B ys.length cb, .int .i64 o1] w fun e w2 => ∃ v d, e = .returned v ∧ TabO w w2 v d ∧ PermIn 0 d.size (tabTo xs ys (lstN o1) xs.length).toArray d ∧ SortedIn (ltOf cfT) 0 d.size d ∧ Below w.heap.size w w2 := by
  have HA := hI hA
  have HB := hI hB
  have HL : Hid (max o1 1 = lstN o1) := hI (by unfold lstN; split <;> omega)
  have hls : 1 ≤ lstN o1 := by unfold lstN; split <;> omega
  obtain ⟨ls, hlse⟩ : ∃ ls, lstN o1 = ls := ⟨_, rfl⟩
  rw [hlse] at HL hls ⊢
  have hmx := HL.out
  clear hA hB hlse
  have hmk := make_zero (P := Tryz.prog) (t := 191) (e := 192) slM (z := .map none) (by kernel_rfl) rfl ys.length ys.length (Nat.le_refl _) (by omega) (by omega)
  go_enter Tryz.func47, Tryz.ntmps47
  go_wp2_with fail
  have K0 : Hid (Knw (w.alloc (.cells (Array.replicate ys.length (Value.map none)) 192)) w.heap.size (List.replicate ys.length (Value.map none)) ys) := hI ⟨Ar.new w _ _, by simp, fun k hk => .inl (by simp [List.getD_eq_getElem?_getD, hk])⟩
  have B0 := hI ((Below.refl w.heap.size w).alloc (Nat.le_refl _) (.cells (Array.replicate ys.length (Value.map none)) 192))
  have hs1 : (w.alloc (.cells (Array.replicate ys.length (Value.map none)) 192)).heap.size = w.heap.size + 1 := by simp
  have HS1 := hI hs1
  clear hs1
  generalize hw1 : w.alloc (.cells (Array.replicate ys.length (Value.map none)) 192) = w1 at *
  go_loopw [8, 22] (fun ov iv wr => ∃ i : Nat, i ≤ xs.length ∧ iv = .int .i64 i ∧ Hid (∃ vs, Knw wr w.heap.size vs ys) ∧ Hid (wr.ownsRow w1.heap.size 120 3 ov (tabTo xs ys ls i).length (rowsE (tabTo xs ys ls i))) ∧ Hid (Below w.heap.size w wr) ∧ Hid (w1.heap.size ≤ wr.heap.size)) (fun _ iv _ => xs.length - (intOf iv).toNat)
  case atStart => exact ⟨0, Nat.zero_le _, rfl, hI ⟨_, K0.out⟩, hI (World.ownsRow_nil _ _ _ _), B0, hI (Nat.le_refl _)⟩
  case round =>
    obtain ⟨i, hi, rfl, hk, ho, hb, hsz⟩ := hrel
    by_cases hlt : i < xs.length
    · obtain ⟨ad, Da, da, rfl, hca, hda, hra, h4a⟩ := HA.out.at_ hb.out hlt
      have HRA : Hid (∀ W, Below w.heap.size w W → ∃ Q, Q = (xs.getD i []).length ∧ Rv W.heap.size W Da (bys (xs.getD i []))) := hI fun W hW => by
        obtain ⟨ad2, D2, d2, e2, hc2, _, hr2, _⟩ := HA.out.at_ hW hlt
        obtain rfl := Option.some.inj e2
        obtain ⟨ad3, D3, d3, e3, hc3, _, hr3, _⟩ := HA.out.at_ (Below.refl w.heap.size w) hlt
        obtain rfl := Option.some.inj e3
        obtain ⟨D4, d4, h4, _⟩ := HA.out.all i hlt
        have q1 := hc2.symm.trans ((hW.cell (p := ad.add i) (by rw [block_add]; obtain ⟨ad9, e9, hl9, _⟩ := HA.out.rv.at_ h4; obtain rfl := Option.some.inj e9; exact hl9)).trans hc3)
        have q2 := hca.symm.trans ((hb.out.cell (p := ad.add i) (by rw [block_add]; obtain ⟨ad9, e9, hl9, _⟩ := HA.out.rv.at_ h4; obtain rfl := Option.some.inj e9; exact hl9)).trans hc3)
        have q3 := q2.trans q1.symm
        injection q3 with q3
        injection q3 with q3 _ _
        subst q3
        exact ⟨_, rfl, hr2⟩
      have NX : Hid (tabTo xs ys ls (i + 1) = tabTo xs ys ls i ++ tabIn xs ys ls i ys.length) := hI rfl
      have hTL := tabTo_len xs ys ls i
      have hTL2 : (tabTo xs ys ls i).length ≤ 1600 := Nat.le_trans hTL (Nat.le_trans (Nat.mul_le_mul (by omega : i ≤ 40) hyl) (by omega))
      have IN0 : Hid (tabIn xs ys ls i 0 = []) := hI rfl
      have INL := hI (fun k => tabIn_len xs ys ls i k)
      have INN : Hid (∀ k, tabIn xs ys ls i (k + 1) = if ls ≤ (scoB (xs.getD i []) (ys.getD k []) : Int) then tabIn xs ys ls i k ++ [(i, k, scoB (xs.getD i []) (ys.getD k []))] else tabIn xs ys ls i k) := hI (fun k => rfl)
      clear hTL hra
      generalize tabTo xs ys ls i = P at *
      generalize tabIn xs ys ls i = IN at *
      have XE : Hid (∃ a0, xs.getD i [] = a0) := hI ⟨_, rfl⟩
      obtain ⟨a, hae⟩ := XE.out
      rw [hae] at hca hda h4a HRA INN
      clear XE hae
      obtain ⟨wo, hwo⟩ : ∃ wo, wo = wr := ⟨_, rfl⟩
      have HW : Hid (wr = wo) := hI hwo.symm
      rw [← hwo] at hk ho hb hsz
      clear hwo
      go_wp2_with fail
      go_step3
      go_wp2_with fail
      go_step3
      go_wp2_with fail
      go_loopw [8, 11, 29] (fun ov mv kv wr => ∃ k : Nat, k ≤ ys.length ∧ kv = .int .i64 k ∧ Hid (∃ vs, Knw wr w.heap.size vs ys) ∧ Hid (MapOr wr mv (cutB a)) ∧ Hid (wr.ownsRow w1.heap.size 120 3 ov (P ++ IN k).length (rowsE (P ++ IN k))) ∧ Hid (Below w.heap.size w wr) ∧ Hid (w1.heap.size ≤ wr.heap.size)) (fun _ _ kv _ => ys.length - (intOf kv).toNat)
      case atStart => exact ⟨0, Nat.zero_le _, rfl, hI (by rw [HW.out]; exact hk.out), hI (.inl rfl), hI (by rw [HW.out, IN0.out, List.append_nil]; exact ho.out), hI (by rw [HW.out]; exact hb.out), hI (by rw [HW.out]; exact hsz.out)⟩
      case round =>
        obtain ⟨k, hkk, rfl, hk2, hm, ho2, hb2, hz2⟩ := hrel
        clear hk ho hb hsz HW hca
        by_cases hkl : k < ys.length
        · obtain ⟨bd, Db, db, rfl, hcb, hdb, hrb, h4b⟩ := HB.out.at_ hb2.out hkl
          have HRB := hI (fun W (hW : Below wr.heap.size wr W) => hrb.low hW hW.size)
          obtain ⟨vs, hkn⟩ := hk2.out
          have KN := hI hkn
          have KA := hI (hkn.all k hkl)
          obtain ⟨_, _, hraa⟩ := HRA.out wr hb2.out
          have HRW := hI (fun W (hW : Below wr.heap.size wr W) => hraa.low hW hW.size)
          have INK := hI (INN.out k)
          have INKL := INL.out k
          obtain ⟨vk, hvk⟩ : ∃ v, vs.getD k undef = v := ⟨_, rfl⟩
          have hck : wr.cell? ⟨w.heap.size, k, none⟩ = some vk := hkn.row.cell (by rw [← hvk, List.getD_eq_getElem?_getD, List.getElem?_eq_getElem (by rw [hkn.len]; exact hkl)]; rfl)
          rw [hvk] at KA
          have hvl := hkn.len
          have CK : Hid (∀ W, Below wr.heap.size wr W → W.cell? ⟨w.heap.size, k, none⟩ = some vk ∧ W.frozen? ⟨w.heap.size, k, none⟩ = false) := hI fun W hW => ⟨(hkn.row.below hW hkn.row.lt).cell (by rw [← hvk, List.getD_eq_getElem?_getD, List.getElem?_eq_getElem (by rw [hkn.len]; exact hkl)]; rfl), (hkn.row.below hW hkn.row.lt).frozen k⟩
          have hfk := hkn.row.frozen k
          clear hk2 hkn hraa hrb hvk
          have SB := hI (scoB_most a (ys.getD k []))
          obtain ⟨b, hbe⟩ : ∃ b, ys.getD k [] = b := ⟨_, rfl⟩
          have PUT := hI (fun W vs (h : Knw W w.heap.size vs ys) m (hm : Cmp W m (cutB (ys.getD k []))) => h.put hkl hm)
          rw [hbe] at hcb hdb HRB h4b INK KA SB PUT
          clear hbe
          have INK2 : Hid (P ++ IN (k + 1) = if ls ≤ (scoB a b : Int) then (P ++ IN k) ++ [(i, k, scoB a b)] else P ++ IN k) := hI (by rw [INK.out]; split; exact (List.append_assoc _ _ _).symm; rfl)
          have hprl : (P ++ IN k).length ≤ 2000 := by rw [List.length_append]; omega
          clear INK
          have INK := INK2
          clear INK2
          generalize P ++ IN k = PR at *
          have HMO := hI (fun W => most_any W a.length b.length (by omega) (by omega))
          have hq0 := fun W => run_eql_map_nil (P := Tryz.prog) W 192 _ _ none Tryz.underlying192
          by_cases hms : (mosB a.length b.length : Int) < ls
          · have hsc : ¬ ls ≤ (scoB a b : Int) := by have := SB.out; omega
            rw [if_neg hsc] at INK
            clear hsc
            generalize mosB a.length b.length = ms at *
            go_wp2_with (go_at_call 99; refine (HMO.out _).mono ?_; rintro e w2 ⟨rfl, rfl⟩)
            exact ⟨⟨k + 1, by omega, by go_num, hI ⟨vs, KN.out⟩, hm, hI (by rw [INK.out]; exact ho2.out), hb2, hz2⟩, by simp [intOf]; omega⟩
          · have hcl := comB_left a b
            have SE : Hid ((if max a.length b.length = 0 then 1000 else 1000 * comB a b / max a.length b.length : Nat) = scoB a b) := hI rfl
            have HSC := hI (fun W => score_any W (comB a b) a.length b.length (by omega) (by omega) (by omega))
            rw [SE.out] at HSC
            clear SB SE hcl
            have HCN := hI (fun W m1 m2 h1 h2 => common_any W m1 m2 a b h1 h2 h4a)
            generalize mosB a.length b.length = ms at *
            generalize scoB a b = sc at *
            generalize comB a b = cm at *
            have CTA := hI (fun W (hW : Below wr.heap.size wr W) => counts_any W Da da a (HRW.out W hW) hda (by omega))
            have CTB := hI (fun W (hW : Below wr.heap.size wr W) => counts_any W Db db b (HRB.out W hW) hdb (by omega))
            have OWN := hI (fun W (hW : Below wr.heap.size wr W) => own_below ho2.out hW)
            have KNW := hI (fun W (hW : Below wr.heap.size wr W) => KN.out.below hW)
            have WZ : Hid (w.heap.size < w1.heap.size) := hI (by rw [HS1.out]; omega)
            rcases hm.out with hmo | hmo <;> rcases KA.out with hkm | hkm
            · skip
              subst hmo
              subst hkm
              by_cases hsc : ls ≤ (sc : Int)
              · rw [if_pos hsc] at INK
                obtain ⟨Do, do_, hvv, _⟩ := own_all ho2.out
                subst hvv
                go_wp2_with (first
                  | (go_at_call 99; refine (HMO.out _).mono ?_; rintro e w2 ⟨rfl, rfl⟩)
                  | (go_at_call_of 100 (Value.slice Da a.length da); refine (CTA.out wr (Below.refl _ _)).mono ?_; rintro e w2 ⟨m1, rfl, _, hm1, hb3⟩; have G2 := hI hb3; have M1 := hI hm1; have hck2 := (CK.out w2 hb3).1; clear hm1 hb3)
                  | (go_at_call_of 100 (Value.slice Db b.length db); refine (CTB.out w2 G2.out).mono ?_; rintro e w3 ⟨m2, rfl, _, hm2, hb4⟩; have H3 : Hid (Below w2.heap.size w2 w3) := hI hb4; have M2 := hI hm2; have hck3 := (CK.out w3 (G2.out.trans (hb4.mono G2.out.size))).1; have hfk3 := (CK.out w3 (G2.out.trans (hb4.mono G2.out.size))).2; clear hm2 hb4; have C1 := hI ((M1.out.below H3.out).set (KNW.out w3 (G2.out.trans (H3.out.mono G2.out.size))).row k (Value.map (some m2))); have C2 := hI (M2.out.set (KNW.out w3 (G2.out.trans (H3.out.mono G2.out.size))).row k (Value.map (some m2))); have KK := hI (PUT.out w3 vs (KNW.out w3 (G2.out.trans (H3.out.mono G2.out.size))) m2 M2.out); have OO := hI (ownsRow_setCell_below (OWN.out w3 (G2.out.trans (H3.out.mono G2.out.size))) (a := ⟨w.heap.size, k, none⟩) WZ.out (Value.map (some m2))); have BB := hI ((hb2.out.trans ((G2.out.trans (H3.out.mono G2.out.size)).mono hb2.out.size)).setCell (p := ⟨w.heap.size, k, none⟩) (Nat.le_refl _) (Value.map (some m2))); have ZZ : Hid (w1.heap.size ≤ (w3.setCell ⟨w.heap.size, k, none⟩ (.map (some m2))).heap.size) := hI (by rw [World.size_setCell]; exact Nat.le_trans hz2.out (G2.out.trans (H3.out.mono G2.out.size)).size))
                  | (go_at_call 102; refine (HCN.out _ m1 m2 C1.out C2.out).mono ?_; rintro e w5 ⟨rfl, hb5⟩; have C15 := hI (C1.out.below hb5); have K5 := hI (KK.out.below hb5); have O5 := hI (own_below OO.out hb5); have B5 := hI (BB.out.trans (hb5.mono BB.out.size)); have Z5 := hI (Nat.le_trans ZZ.out hb5.size); have N5 := hI (new_rv w5 (encR (i, k, sc)) 120 ⟨w5.heap.size, 0, none⟩ rfl); have O6 := hI (O5.out.alloc (.cells (encR (i, k, sc)).toArray 120)); have B6 := hI (B5.out.alloc B5.out.size (.cells (encR (i, k, sc)).toArray 120)); have hz6 : w1.heap.size ≤ w5.heap.size := Z5.out; clear hb5)
                  | (go_at_call 101; refine (HSC.out _).mono ?_; rintro e w6 ⟨rfl, rfl⟩)
                  | (at_builtin; refine wpList_app slR rfl (.tmp 69) (.tmp 74) rfl w1.heap.size _ PR.length (rowsE PR) rfl O6.out (some ⟨w5.heap.size, 0, none⟩) 1 1 (encR (i, k, sc)) rfl (fun q => by cases q) rfl N5.out (encR_one _) (by unfold maxLen; omega) (by omega) (by rw [World.size_alloc]; omega) ?_; intro v7 w7 ho7 ha7; have O7 := hI ho7; have A7 := hI ha7.grown; clear ho7 ha7))
                refine ⟨⟨k + 1, by omega, by go_num, hI ⟨_, (K5.out.below ((Below.refl _ _).alloc (Nat.le_refl _) _)).grown O6.out A7.out WZ.out⟩, hI (.inr ⟨m1, rfl, (C15.out.below ((Below.refl _ _).alloc (Nat.le_refl _) _)).grown O6.out A7.out⟩), hI ?_, hI (B6.out.grown A7.out B6.out.size (fun q hq => Nat.le_trans (Nat.le_of_lt WZ.out) (O6.out.lt q hq).1)), hI (Nat.le_trans (Nat.le_trans Z5.out (by rw [World.size_alloc]; omega)) A7.out.size)⟩, by simp [intOf]; omega⟩
                have := O7.out
                rw [rowsE_snoc] at this
                rw [INK.out, List.length_append]
                exact this
              · rw [if_neg hsc] at INK
                obtain ⟨Do, do_, hvv, _⟩ := own_all ho2.out
                subst hvv
                go_wp2_with (first
                  | (go_at_call 99; refine (HMO.out _).mono ?_; rintro e w2 ⟨rfl, rfl⟩)
                  | (go_at_call_of 100 (Value.slice Da a.length da); refine (CTA.out wr (Below.refl _ _)).mono ?_; rintro e w2 ⟨m1, rfl, _, hm1, hb3⟩; have G2 := hI hb3; have M1 := hI hm1; have hck2 := (CK.out w2 hb3).1; clear hm1 hb3)
                  | (go_at_call_of 100 (Value.slice Db b.length db); refine (CTB.out w2 G2.out).mono ?_; rintro e w3 ⟨m2, rfl, _, hm2, hb4⟩; have H3 : Hid (Below w2.heap.size w2 w3) := hI hb4; have M2 := hI hm2; have hck3 := (CK.out w3 (G2.out.trans (hb4.mono G2.out.size))).1; have hfk3 := (CK.out w3 (G2.out.trans (hb4.mono G2.out.size))).2; clear hm2 hb4; have C1 := hI ((M1.out.below H3.out).set (KNW.out w3 (G2.out.trans (H3.out.mono G2.out.size))).row k (Value.map (some m2))); have C2 := hI (M2.out.set (KNW.out w3 (G2.out.trans (H3.out.mono G2.out.size))).row k (Value.map (some m2))); have KK := hI (PUT.out w3 vs (KNW.out w3 (G2.out.trans (H3.out.mono G2.out.size))) m2 M2.out); have OO := hI (ownsRow_setCell_below (OWN.out w3 (G2.out.trans (H3.out.mono G2.out.size))) (a := ⟨w.heap.size, k, none⟩) WZ.out (Value.map (some m2))); have BB := hI ((hb2.out.trans ((G2.out.trans (H3.out.mono G2.out.size)).mono hb2.out.size)).setCell (p := ⟨w.heap.size, k, none⟩) (Nat.le_refl _) (Value.map (some m2))); have ZZ : Hid (w1.heap.size ≤ (w3.setCell ⟨w.heap.size, k, none⟩ (.map (some m2))).heap.size) := hI (by rw [World.size_setCell]; exact Nat.le_trans hz2.out (G2.out.trans (H3.out.mono G2.out.size)).size))
                  | (go_at_call 102; refine (HCN.out _ m1 m2 C1.out C2.out).mono ?_; rintro e w5 ⟨rfl, hb5⟩; have C15 := hI (C1.out.below hb5); have K5 := hI (KK.out.below hb5); have O5 := hI (own_below OO.out hb5); have B5 := hI (BB.out.trans (hb5.mono BB.out.size)); have Z5 := hI (Nat.le_trans ZZ.out hb5.size); have N5 := hI (new_rv w5 (encR (i, k, sc)) 120 ⟨w5.heap.size, 0, none⟩ rfl); have O6 := hI (O5.out.alloc (.cells (encR (i, k, sc)).toArray 120)); have B6 := hI (B5.out.alloc B5.out.size (.cells (encR (i, k, sc)).toArray 120)); have hz6 : w1.heap.size ≤ w5.heap.size := Z5.out; clear hb5)
                  | (go_at_call 101; refine (HSC.out _).mono ?_; rintro e w6 ⟨rfl, rfl⟩))
                exact ⟨⟨k + 1, by omega, by go_num, hI ⟨_, K5.out⟩, hI (.inr ⟨m1, rfl, C15.out⟩), hI (by rw [INK.out]; exact O5.out), B5, Z5⟩, by simp [intOf]; omega⟩
            · skip
              subst hmo
              obtain ⟨m2, rfl, hm2⟩ := hkm
              have hq2 := fun W => run_eql_map_nil (P := Tryz.prog) W 192 _ _ (some m2) Tryz.underlying192
              have M2 := hI hm2
              clear hm2
              by_cases hsc : ls ≤ (sc : Int)
              · rw [if_pos hsc] at INK
                obtain ⟨Do, do_, hvv, _⟩ := own_all ho2.out
                subst hvv
                go_wp2_with (first
                  | (go_at_call 99; refine (HMO.out _).mono ?_; rintro e w2 ⟨rfl, rfl⟩)
                  | (go_at_call_of 100 (Value.slice Da a.length da); refine (CTA.out wr (Below.refl _ _)).mono ?_; rintro e w2 ⟨m1, rfl, _, hm1, hb3⟩; have G2 := hI hb3; have M1 := hI hm1; have hck2 := (CK.out w2 hb3).1; clear hm1 hb3; have C1 := hI (M1.out); have C2 := hI (M2.out.below G2.out); have KK := hI (KNW.out w2 G2.out); have OO := hI (OWN.out w2 G2.out); have BB := hI (hb2.out.trans (G2.out.mono hb2.out.size)); have ZZ : Hid (w1.heap.size ≤ (w2).heap.size) := hI (Nat.le_trans hz2.out G2.out.size))
                  | (go_at_call 102; refine (HCN.out _ m1 m2 C1.out C2.out).mono ?_; rintro e w5 ⟨rfl, hb5⟩; have C15 := hI (C1.out.below hb5); have K5 := hI (KK.out.below hb5); have O5 := hI (own_below OO.out hb5); have B5 := hI (BB.out.trans (hb5.mono BB.out.size)); have Z5 := hI (Nat.le_trans ZZ.out hb5.size); have N5 := hI (new_rv w5 (encR (i, k, sc)) 120 ⟨w5.heap.size, 0, none⟩ rfl); have O6 := hI (O5.out.alloc (.cells (encR (i, k, sc)).toArray 120)); have B6 := hI (B5.out.alloc B5.out.size (.cells (encR (i, k, sc)).toArray 120)); have hz6 : w1.heap.size ≤ w5.heap.size := Z5.out; clear hb5)
                  | (go_at_call 101; refine (HSC.out _).mono ?_; rintro e w6 ⟨rfl, rfl⟩)
                  | (at_builtin; refine wpList_app slR rfl (.tmp 69) (.tmp 74) rfl w1.heap.size _ PR.length (rowsE PR) rfl O6.out (some ⟨w5.heap.size, 0, none⟩) 1 1 (encR (i, k, sc)) rfl (fun q => by cases q) rfl N5.out (encR_one _) (by unfold maxLen; omega) (by omega) (by rw [World.size_alloc]; omega) ?_; intro v7 w7 ho7 ha7; have O7 := hI ho7; have A7 := hI ha7.grown; clear ho7 ha7))
                refine ⟨⟨k + 1, by omega, by go_num, hI ⟨_, (K5.out.below ((Below.refl _ _).alloc (Nat.le_refl _) _)).grown O6.out A7.out WZ.out⟩, hI (.inr ⟨m1, rfl, (C15.out.below ((Below.refl _ _).alloc (Nat.le_refl _) _)).grown O6.out A7.out⟩), hI ?_, hI (B6.out.grown A7.out B6.out.size (fun q hq => Nat.le_trans (Nat.le_of_lt WZ.out) (O6.out.lt q hq).1)), hI (Nat.le_trans (Nat.le_trans Z5.out (by rw [World.size_alloc]; omega)) A7.out.size)⟩, by simp [intOf]; omega⟩
                have := O7.out
                rw [rowsE_snoc] at this
                rw [INK.out, List.length_append]
                exact this
              · rw [if_neg hsc] at INK
                obtain ⟨Do, do_, hvv, _⟩ := own_all ho2.out
                subst hvv
                go_wp2_with (first
                  | (go_at_call 99; refine (HMO.out _).mono ?_; rintro e w2 ⟨rfl, rfl⟩)
                  | (go_at_call_of 100 (Value.slice Da a.length da); refine (CTA.out wr (Below.refl _ _)).mono ?_; rintro e w2 ⟨m1, rfl, _, hm1, hb3⟩; have G2 := hI hb3; have M1 := hI hm1; have hck2 := (CK.out w2 hb3).1; clear hm1 hb3; have C1 := hI (M1.out); have C2 := hI (M2.out.below G2.out); have KK := hI (KNW.out w2 G2.out); have OO := hI (OWN.out w2 G2.out); have BB := hI (hb2.out.trans (G2.out.mono hb2.out.size)); have ZZ : Hid (w1.heap.size ≤ (w2).heap.size) := hI (Nat.le_trans hz2.out G2.out.size))
                  | (go_at_call 102; refine (HCN.out _ m1 m2 C1.out C2.out).mono ?_; rintro e w5 ⟨rfl, hb5⟩; have C15 := hI (C1.out.below hb5); have K5 := hI (KK.out.below hb5); have O5 := hI (own_below OO.out hb5); have B5 := hI (BB.out.trans (hb5.mono BB.out.size)); have Z5 := hI (Nat.le_trans ZZ.out hb5.size); have N5 := hI (new_rv w5 (encR (i, k, sc)) 120 ⟨w5.heap.size, 0, none⟩ rfl); have O6 := hI (O5.out.alloc (.cells (encR (i, k, sc)).toArray 120)); have B6 := hI (B5.out.alloc B5.out.size (.cells (encR (i, k, sc)).toArray 120)); have hz6 : w1.heap.size ≤ w5.heap.size := Z5.out; clear hb5)
                  | (go_at_call 101; refine (HSC.out _).mono ?_; rintro e w6 ⟨rfl, rfl⟩))
                exact ⟨⟨k + 1, by omega, by go_num, hI ⟨_, K5.out⟩, hI (.inr ⟨m1, rfl, C15.out⟩), hI (by rw [INK.out]; exact O5.out), B5, Z5⟩, by simp [intOf]; omega⟩
            · skip
              obtain ⟨m1, rfl, hm1⟩ := hmo
              have hq1 := fun W => run_eql_map_nil (P := Tryz.prog) W 192 _ _ (some m1) Tryz.underlying192
              have M1 := hI hm1
              clear hm1
              subst hkm
              by_cases hsc : ls ≤ (sc : Int)
              · rw [if_pos hsc] at INK
                obtain ⟨Do, do_, hvv, _⟩ := own_all ho2.out
                subst hvv
                go_wp2_with (first
                  | (go_at_call 99; refine (HMO.out _).mono ?_; rintro e w2 ⟨rfl, rfl⟩)
                  | (go_at_call_of 100 (Value.slice Db b.length db); refine (CTB.out wr (Below.refl wr.heap.size wr)).mono ?_; rintro e w3 ⟨m2, rfl, _, hm2, hb4⟩; have H3 : Hid (Below wr.heap.size wr w3) := hI hb4; have M2 := hI hm2; have hck3 := (CK.out w3 hb4).1; have hfk3 := (CK.out w3 hb4).2; clear hm2 hb4; have C1 := hI ((M1.out.below H3.out).set (KNW.out w3 H3.out).row k (Value.map (some m2))); have C2 := hI (M2.out.set (KNW.out w3 H3.out).row k (Value.map (some m2))); have KK := hI (PUT.out w3 vs (KNW.out w3 H3.out) m2 M2.out); have OO := hI (ownsRow_setCell_below (OWN.out w3 H3.out) (a := ⟨w.heap.size, k, none⟩) WZ.out (Value.map (some m2))); have BB := hI ((hb2.out.trans (H3.out.mono hb2.out.size)).setCell (p := ⟨w.heap.size, k, none⟩) (Nat.le_refl _) (Value.map (some m2))); have ZZ : Hid (w1.heap.size ≤ (w3.setCell ⟨w.heap.size, k, none⟩ (.map (some m2))).heap.size) := hI (by rw [World.size_setCell]; exact Nat.le_trans hz2.out H3.out.size))
                  | (go_at_call 102; refine (HCN.out _ m1 m2 C1.out C2.out).mono ?_; rintro e w5 ⟨rfl, hb5⟩; have C15 := hI (C1.out.below hb5); have K5 := hI (KK.out.below hb5); have O5 := hI (own_below OO.out hb5); have B5 := hI (BB.out.trans (hb5.mono BB.out.size)); have Z5 := hI (Nat.le_trans ZZ.out hb5.size); have N5 := hI (new_rv w5 (encR (i, k, sc)) 120 ⟨w5.heap.size, 0, none⟩ rfl); have O6 := hI (O5.out.alloc (.cells (encR (i, k, sc)).toArray 120)); have B6 := hI (B5.out.alloc B5.out.size (.cells (encR (i, k, sc)).toArray 120)); have hz6 : w1.heap.size ≤ w5.heap.size := Z5.out; clear hb5)
                  | (go_at_call 101; refine (HSC.out _).mono ?_; rintro e w6 ⟨rfl, rfl⟩)
                  | (at_builtin; refine wpList_app slR rfl (.tmp 69) (.tmp 74) rfl w1.heap.size _ PR.length (rowsE PR) rfl O6.out (some ⟨w5.heap.size, 0, none⟩) 1 1 (encR (i, k, sc)) rfl (fun q => by cases q) rfl N5.out (encR_one _) (by unfold maxLen; omega) (by omega) (by rw [World.size_alloc]; omega) ?_; intro v7 w7 ho7 ha7; have O7 := hI ho7; have A7 := hI ha7.grown; clear ho7 ha7))
                refine ⟨⟨k + 1, by omega, by go_num, hI ⟨_, (K5.out.below ((Below.refl _ _).alloc (Nat.le_refl _) _)).grown O6.out A7.out WZ.out⟩, hI (.inr ⟨m1, rfl, (C15.out.below ((Below.refl _ _).alloc (Nat.le_refl _) _)).grown O6.out A7.out⟩), hI ?_, hI (B6.out.grown A7.out B6.out.size (fun q hq => Nat.le_trans (Nat.le_of_lt WZ.out) (O6.out.lt q hq).1)), hI (Nat.le_trans (Nat.le_trans Z5.out (by rw [World.size_alloc]; omega)) A7.out.size)⟩, by simp [intOf]; omega⟩
                have := O7.out
                rw [rowsE_snoc] at this
                rw [INK.out, List.length_append]
                exact this
              · rw [if_neg hsc] at INK
                obtain ⟨Do, do_, hvv, _⟩ := own_all ho2.out
                subst hvv
                go_wp2_with (first
                  | (go_at_call 99; refine (HMO.out _).mono ?_; rintro e w2 ⟨rfl, rfl⟩)
                  | (go_at_call_of 100 (Value.slice Db b.length db); refine (CTB.out wr (Below.refl wr.heap.size wr)).mono ?_; rintro e w3 ⟨m2, rfl, _, hm2, hb4⟩; have H3 : Hid (Below wr.heap.size wr w3) := hI hb4; have M2 := hI hm2; have hck3 := (CK.out w3 hb4).1; have hfk3 := (CK.out w3 hb4).2; clear hm2 hb4; have C1 := hI ((M1.out.below H3.out).set (KNW.out w3 H3.out).row k (Value.map (some m2))); have C2 := hI (M2.out.set (KNW.out w3 H3.out).row k (Value.map (some m2))); have KK := hI (PUT.out w3 vs (KNW.out w3 H3.out) m2 M2.out); have OO := hI (ownsRow_setCell_below (OWN.out w3 H3.out) (a := ⟨w.heap.size, k, none⟩) WZ.out (Value.map (some m2))); have BB := hI ((hb2.out.trans (H3.out.mono hb2.out.size)).setCell (p := ⟨w.heap.size, k, none⟩) (Nat.le_refl _) (Value.map (some m2))); have ZZ : Hid (w1.heap.size ≤ (w3.setCell ⟨w.heap.size, k, none⟩ (.map (some m2))).heap.size) := hI (by rw [World.size_setCell]; exact Nat.le_trans hz2.out H3.out.size))
                  | (go_at_call 102; refine (HCN.out _ m1 m2 C1.out C2.out).mono ?_; rintro e w5 ⟨rfl, hb5⟩; have C15 := hI (C1.out.below hb5); have K5 := hI (KK.out.below hb5); have O5 := hI (own_below OO.out hb5); have B5 := hI (BB.out.trans (hb5.mono BB.out.size)); have Z5 := hI (Nat.le_trans ZZ.out hb5.size); have N5 := hI (new_rv w5 (encR (i, k, sc)) 120 ⟨w5.heap.size, 0, none⟩ rfl); have O6 := hI (O5.out.alloc (.cells (encR (i, k, sc)).toArray 120)); have B6 := hI (B5.out.alloc B5.out.size (.cells (encR (i, k, sc)).toArray 120)); have hz6 : w1.heap.size ≤ w5.heap.size := Z5.out; clear hb5)
                  | (go_at_call 101; refine (HSC.out _).mono ?_; rintro e w6 ⟨rfl, rfl⟩))
                exact ⟨⟨k + 1, by omega, by go_num, hI ⟨_, K5.out⟩, hI (.inr ⟨m1, rfl, C15.out⟩), hI (by rw [INK.out]; exact O5.out), B5, Z5⟩, by simp [intOf]; omega⟩
            · skip
              obtain ⟨m1, rfl, hm1⟩ := hmo
              have hq1 := fun W => run_eql_map_nil (P := Tryz.prog) W 192 _ _ (some m1) Tryz.underlying192
              have M1 := hI hm1
              clear hm1
              obtain ⟨m2, rfl, hm2⟩ := hkm
              have hq2 := fun W => run_eql_map_nil (P := Tryz.prog) W 192 _ _ (some m2) Tryz.underlying192
              have M2 := hI hm2
              clear hm2
              have C1 := hI (M1.out)
              have C2 := hI (M2.out)
              have KK := hI (KNW.out wr (Below.refl wr.heap.size wr))
              have OO := hI (OWN.out wr (Below.refl wr.heap.size wr))
              have BB := hI (hb2.out.trans ((Below.refl wr.heap.size wr).mono hb2.out.size))
              have ZZ : Hid (w1.heap.size ≤ (wr).heap.size) := hI (Nat.le_trans hz2.out (Below.refl wr.heap.size wr).size)
              by_cases hsc : ls ≤ (sc : Int)
              · rw [if_pos hsc] at INK
                obtain ⟨Do, do_, hvv, _⟩ := own_all ho2.out
                subst hvv
                go_wp2_with (first
                  | (go_at_call 99; refine (HMO.out _).mono ?_; rintro e w2 ⟨rfl, rfl⟩)
                  | (go_at_call 102; refine (HCN.out _ m1 m2 C1.out C2.out).mono ?_; rintro e w5 ⟨rfl, hb5⟩; have C15 := hI (C1.out.below hb5); have K5 := hI (KK.out.below hb5); have O5 := hI (own_below OO.out hb5); have B5 := hI (BB.out.trans (hb5.mono BB.out.size)); have Z5 := hI (Nat.le_trans ZZ.out hb5.size); have N5 := hI (new_rv w5 (encR (i, k, sc)) 120 ⟨w5.heap.size, 0, none⟩ rfl); have O6 := hI (O5.out.alloc (.cells (encR (i, k, sc)).toArray 120)); have B6 := hI (B5.out.alloc B5.out.size (.cells (encR (i, k, sc)).toArray 120)); have hz6 : w1.heap.size ≤ w5.heap.size := Z5.out; clear hb5)
                  | (go_at_call 101; refine (HSC.out _).mono ?_; rintro e w6 ⟨rfl, rfl⟩)
                  | (at_builtin; refine wpList_app slR rfl (.tmp 69) (.tmp 74) rfl w1.heap.size _ PR.length (rowsE PR) rfl O6.out (some ⟨w5.heap.size, 0, none⟩) 1 1 (encR (i, k, sc)) rfl (fun q => by cases q) rfl N5.out (encR_one _) (by unfold maxLen; omega) (by omega) (by rw [World.size_alloc]; omega) ?_; intro v7 w7 ho7 ha7; have O7 := hI ho7; have A7 := hI ha7.grown; clear ho7 ha7))
                refine ⟨⟨k + 1, by omega, by go_num, hI ⟨_, (K5.out.below ((Below.refl _ _).alloc (Nat.le_refl _) _)).grown O6.out A7.out WZ.out⟩, hI (.inr ⟨m1, rfl, (C15.out.below ((Below.refl _ _).alloc (Nat.le_refl _) _)).grown O6.out A7.out⟩), hI ?_, hI (B6.out.grown A7.out B6.out.size (fun q hq => Nat.le_trans (Nat.le_of_lt WZ.out) (O6.out.lt q hq).1)), hI (Nat.le_trans (Nat.le_trans Z5.out (by rw [World.size_alloc]; omega)) A7.out.size)⟩, by simp [intOf]; omega⟩
                have := O7.out
                rw [rowsE_snoc] at this
                rw [INK.out, List.length_append]
                exact this
              · rw [if_neg hsc] at INK
                obtain ⟨Do, do_, hvv, _⟩ := own_all ho2.out
                subst hvv
                go_wp2_with (first
                  | (go_at_call 99; refine (HMO.out _).mono ?_; rintro e w2 ⟨rfl, rfl⟩)
                  | (go_at_call 102; refine (HCN.out _ m1 m2 C1.out C2.out).mono ?_; rintro e w5 ⟨rfl, hb5⟩; have C15 := hI (C1.out.below hb5); have K5 := hI (KK.out.below hb5); have O5 := hI (own_below OO.out hb5); have B5 := hI (BB.out.trans (hb5.mono BB.out.size)); have Z5 := hI (Nat.le_trans ZZ.out hb5.size); have N5 := hI (new_rv w5 (encR (i, k, sc)) 120 ⟨w5.heap.size, 0, none⟩ rfl); have O6 := hI (O5.out.alloc (.cells (encR (i, k, sc)).toArray 120)); have B6 := hI (B5.out.alloc B5.out.size (.cells (encR (i, k, sc)).toArray 120)); have hz6 : w1.heap.size ≤ w5.heap.size := Z5.out; clear hb5)
                  | (go_at_call 101; refine (HSC.out _).mono ?_; rintro e w6 ⟨rfl, rfl⟩))
                exact ⟨⟨k + 1, by omega, by go_num, hI ⟨_, K5.out⟩, hI (.inr ⟨m1, rfl, C15.out⟩), hI (by rw [INK.out]; exact O5.out), B5, Z5⟩, by simp [intOf]; omega⟩
        · have hke : k = ys.length := by omega
          subst hke
          go_wp2_with fail
          refine (by assumption : ∀ (a : Act) (w : World), Code.wp _ _ _ a w → _) _ _ ?_
          go_wp2_with fail
          exact ⟨⟨i + 1, by omega, by go_num, hk2, hI (by rw [NX.out]; exact ho2.out), hb2, hz2⟩, by simp [intOf]; omega⟩
    · have hie : i = xs.length := by omega
      subst hie
      have HK3 : Hid (∀ x, (encR x).length = 3) := hI (fun _ => rfl)
      have hTL := tabTo_len xs ys ls xs.length
      have hTL2 : (tabTo xs ys ls xs.length).length ≤ 1600 := Nat.le_trans hTL (Nat.le_trans (Nat.mul_le_mul hxl hyl) (by omega))
      obtain ⟨P, hPe⟩ : ∃ P, tabTo xs ys ls xs.length = P := ⟨_, rfl⟩
      have HPE := hI hPe
      rw [hPe] at ho hTL2
      clear hPe hTL
      by_cases h0 : P.length = 0
      · have hP0 : P = [] := List.eq_nil_of_length_eq_zero h0
        have OF := hI ho.out
        obtain ⟨Do, do_, hvv, _⟩ := own_all ho.out
        subst hvv
        have c2 := AnyF.slices_SortFunc_none Tryz.sortRow Do do_ (.func (.func 104) #[] #[]) wr
        change Calls Tryz.prog 103 _ _ _ at c2
        have C2 := hI c2
        clear c2
        rw [h0] at *
        go_wp2_with fail
        refine C2.out.mono ?_
        rintro e w2 ⟨rfl, rfl⟩
        go_wp2_with fail
        go_ret
        refine ⟨_, #[], rfl, ⟨?_⟩, ?_, fun i j _ _ h => by simp at h, hb.out⟩
        · have := OF.out
          obtain ⟨_, ⟨q, _⟩ | ⟨g, cap, cur, q, k1, k2, k3, _⟩⟩ := this
          · exact .inl ⟨q, rfl⟩
          · exact .inr ⟨g, cap, q, Nat.le_trans B0.out.size k1, Nat.zero_le _, (Array.getElem?_eq_some_iff.1 k2).1, fun t ht => by simp [Go.Sort.flatK] at ht⟩
        · rw [HPE.out, hP0]
          exact Go.Sort.permIn_refl _ _ _
      · obtain ⟨g, cap, cs, hv, hgl, hcap, hblk, hrv⟩ := own_formk ho.out (by omega)
        subst hv
        have hlt : g < wr.heap.size := (Array.getElem?_eq_some_iff.1 hblk).1
        have hH : HoldsK encR 3 wr g 0 P.toArray := holds_of_rv HK3.out (by simpa [rowsE] using hrv) (fun j => frozen_of_row wr g j _ _ hblk)
        have hcon := AnyQ.slices_SortFunc Tryz.sortRow 3 Tryz.isAgg120 Tryz.sizeOf120 encR HK3.out encR_one cfT swoT 104 #[] g 0 cap P.toArray wr (enters_of Tryz.func104 (by kernel_rfl) rfl) (fun _ _ _ _ x y => tabc_any _ x y) hH hlt (by simp; omega)
        change Calls Tryz.prog 103 _ _ _ at hcon
        rw [show P.toArray.size = P.length by simp] at hcon
        have C2 := hI hcon
        have HH := hI hH
        have GL := hI (Nat.le_trans B0.out.size hgl)
        have GLT := hI hlt
        clear hcon hH hrv hblk
        go_wp2_with fail
        refine C2.out.mono ?_
        rintro e w2 ⟨rfl, d2, n, ob, hp, hs, rfl⟩
        have hs2 : d2.size = P.toArray.size := hp.1
        have hsz2 : d2.size = P.length := by rw [hs2]; simp
        have H2 := hI (holds_sort (enc := encR) (k := 3) HH.out hs2 GLT.out n ob)
        have c := chs_sort (enc := encR) (k := 3) (blk := g) (w := wr) (d := d2) n ob
        have B2 := hI (hb.out.grown (row := some g) ⟨c.os, c.tape, c.output, c.size, fun k hk hn => c.block k hk (fun q => hn (by rw [q]))⟩ hb.out.size (fun k hk => by cases hk; exact GL.out))
        have LT2 := hI (Nat.lt_of_lt_of_le GLT.out c.size)
        have PP := hI hp
        have SS := hI hs
        clear c hp hs
        generalize sortWorldK encR 3 wr g 0 n d2 ob = w3 at *
        go_wp2_with fail
        go_ret
        refine ⟨.slice (some ⟨g, 0, none⟩) P.length cap, d2, rfl, ⟨.inr ⟨g, cap, by rw [hsz2], GL.out, by omega, LT2.out, H2.out⟩⟩, ?_, ?_, B2.out⟩
        · rw [HPE.out, hsz2]; exact PP.out
        · rw [hsz2]; exact SS.out
end Go.Proofs.YtbmpidacoohdmaaGreat

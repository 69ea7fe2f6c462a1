/- sleuthref21.Hunks, by a contract. -/
import Derived.Test.YthhmamkphcgocaaBlk
import Derived.Deep.RegionLaw
import Derived.Deep.AppendLies
import Derived.BigRegion
import Derived.Laws.AppendOwnNone
namespace Go.Proofs.Ythhmamkphcgocaa
open Go.RowKit

attribute [local go_sem ↓] bld91_eq lit68_eq bld65_eq lit59_eq
attribute [local go_sem] run_bld91 run_lit68 run_bld65 run_lit59

theorem prCells_one (L : List (Nat × Nat)) : ∀ u ∈ prCells L, u.oneCell' = true := by
  intro u hu
  obtain ⟨p, _, hp⟩ := List.mem_flatMap.1 hu
  simp at hp
  rcases hp with rfl | rfl <;> rfl

theorem wrapI (n : Int) (h1 : -1000000 ≤ n) (h2 : n ≤ 1000000) : IntKind.i64.wrap n = n := by
  simp only [IntKind.wrap, IntKind.bits, IntKind.signed]
  simp
  omega
/-- append(own, xs...), xs nil or at the head of a block. -/
theorem wpList_append_any {P : Program} {w : World} {ops : Array Oper} {rest : List Oper} {o : Oper} {a : Act} {Q : Exit → Act → World → Prop} (hgd : o.guard = none) (s x : Operand) (t : TypeId)
    (ho : o.op = .call { callee := .builtin .append, args := #[s, x], argTypes := #[t, t] })
    (base : Nat) (e : TypeId) (i : TypeInfo) (z : Value) (size bytes : Nat) (ht : P.underlying t = some (.slice e)) (hi : P.info? e = some i) (hz : i.zero = some z)
    (hsize : i.size = size) (hby : i.bytes = bytes) (hzs : z.cells.size = size) (hsz : 0 < size)
    (v : Value) (n : Nat) (xs : List Value) (hs : a.eval s = v) (hown : w.ownsRow base e size v n xs)
    (xv : Value) (m : Nat) (news : List Value) (hx : a.eval x = xv) (hl : news.length = m * size)
    (hsrc : (xv = .slice none 0 0 ∧ m = 0) ∨ ∃ g c, xv = .slice (some ⟨g, 0, none⟩) m c ∧ ∀ j u, news[j]? = some u → w.cell? ((⟨g, 0, none⟩ : Addr).add j) = some u) (h1 : ∀ u ∈ news, u.oneCell' = true)
    (h63 : n + m ≤ maxLen) (hbytes : (n + m) * bytes ≤ 140737488355328) (hbase : base ≤ w.heap.size)
    (h : ∀ v' w', w'.ownsRow base e size v' (n + m) (xs ++ news) → w.grownBy w' v.ownBlock → wpList P ops Q rest (a.put o.dst v') w') : wpList P ops Q (o :: rest) a w := by
  rcases hsrc with ⟨rfl, rfl⟩ | ⟨g, c, rfl, hc⟩
  · have hnil : news = [] := List.eq_nil_of_length_eq_zero (by omega)
    subst hnil
    exact wpList_append_own_none hgd s x t ho base e i size ht hi v n xs hs hown hx (h v w (by simpa using hown) ⟨rfl, rfl, rfl, Nat.le_refl _, fun _ _ _ => rfl⟩)
  · exact wpList_append_own _ hgd s x t ho base e i z size bytes ht hi hz hsize hby hzs hsz v n xs hs hown ⟨g, 0, none⟩ m c news hx hl hc h1 h63 hbytes hbase fun v' w' h2 h3 _ => h v' w' h2 h3

set_option maxRecDepth 100000 in
set_option maxHeartbeats 4000000 in
theorem hunks_any (w : World) (v0 : Value) (n m : Nat) (L : List (Nat × Nat)) (ho0 : w.ownsRow 0 91 2 v0 L.length (prCells L)) (hL : L.length ≤ 400) (hn : n ≤ 400) (hm : m ≤ 400) (hall : ∀ p ∈ L, p.1 ≤ 400 ∧ p.2 ≤ 400) :
    Calls Try.prog 31 #[.int .i64 n, .int .i64 m, v0] w fun e w' => ∃ v, e = .returned v ∧ w'.ownsRow w.heap.size 65 4 v (hunks 0 0 (L ++ [(n, m)])).length (hkCells (hunks 0 0 (L ++ [(n, m)]))) ∧ Below w.heap.size w w' := by
  obtain ⟨i0, hi0', hz0', hz1', hz2'⟩ := info_parts info91
  have hi0 := Lib.hid hi0'
  have hz0 := Lib.hid hz0'
  have hz1 := Lib.hid hz1'
  have hz2 := Lib.hid hz2'
  obtain ⟨i5, hi5', hz5', hs5', hb5'⟩ := info_parts info65
  have hi5 := Lib.hid hi5'
  have hz5 := Lib.hid hz5'
  have hs5 := Lib.hid hs5'
  have hb5 := Lib.hid hb5'
  clear hi0' hz0' hz1' hz2' hi5' hz5' hs5' hb5'
  have hall : ∀ p ∈ L ++ [(n, m)], p.1 ≤ 400 ∧ p.2 ≤ 400 := by
    intro p hp
    rcases List.mem_append.1 hp with hp | hp
    · exact hall p hp
    · simp at hp; subst hp; exact ⟨hn, hm⟩
  have HALL := Lib.hid hall
  have h0 : (v0 = .slice none 0 0 ∧ L = []) ∨ ∃ g c, v0 = .slice (some ⟨g, 0, none⟩) L.length c ∧ ∀ j u, (prCells L)[j]? = some u → w.cell? ((⟨g, 0, none⟩ : Addr).add j) = some u := by
    by_cases hl : L.length = 0
    · rcases ho0.2 with ⟨h1, _⟩ | ⟨g, cap, cur, h1, _⟩
      · exact .inl ⟨h1, List.eq_nil_of_length_eq_zero hl⟩
      · refine .inr ⟨g, cap, h1, fun j u hu => ?_⟩
        rw [List.eq_nil_of_length_eq_zero hl] at hu
        simp [prCells] at hu
    · obtain ⟨g, cap, h1, _, _, h2⟩ := own_at ho0 (by omega)
      exact .inr ⟨g, cap, h1, fun j u hu => by rw [Addr.add_lit, Nat.zero_add]; exact h2 j u hu⟩
  clear ho0 hall
  have H0 := Lib.hid h0
  clear h0
  obtain ⟨LL, hLL⟩ : ∃ LL, LL = L ++ [(n, m)] := ⟨_, rfl⟩
  rw [← hLL] at HALL ⊢
  have HLL := Lib.hid hLL
  have hlen : LL.length = L.length + 1 := by rw [hLL]; simp
  clear hLL
  go_enter Try.func31, Try.ntmps31
  go_wp2_with (first
    | (at_builtin; refine wpList_append_any rfl (.tmp 12) (.tmp 13) 68 rfl w.heap.size 91 i0 (.agg #[.int .i64 0, .int .i64 0]) 2 16 Try.underlying68 hi0.out hz0.out hz1.out hz2.out rfl (by decide) (.slice none 0 0) 0 [] rfl (World.ownsRow_nil _ _ _ _) v0 L.length (prCells L) rfl (prCells_len L) (H0.out.imp (fun h => ⟨h.1, by rw [h.2]; rfl⟩) id) (prCells_one L) (by unfold maxLen; omega) (by omega) (Nat.le_refl _) ?_; intro v1 w1 ho hg; simp only [Nat.zero_add, List.nil_append] at ho; have HO := Lib.hid ho; have hsz1 := hg.size; have HB := Lib.hid ((Below.refl w.heap.size w).grown hg (Nat.le_refl _) (fun j e => (by cases e))); clear ho hg)
    | (at_builtin; refine wpList_append_own _ rfl (.tmp 15) (.tmp 19) 68 rfl w.heap.size 91 i0 (.agg #[.int .i64 0, .int .i64 0]) 2 16 Try.underlying68 hi0.out hz0.out hz1.out hz2.out rfl (by decide) v1 L.length (prCells L) rfl (HO.out.alloc (.cells #[.int .i64 n, .int .i64 m] 91)) ⟨w1.heap.size, 0, none⟩ 1 1 [.int .i64 n, .int .i64 m] rfl rfl (new_cells _ _ _ _ rfl) (by simp [Value.oneCell']) (by unfold maxLen; omega) (by omega) (by simp; omega) ?_; intro v2 w2 ho hg hz; clear hz; obtain ⟨g, cap, hv2, hgb, hglt, hcells⟩ := own_at ho (by omega); subst hv2; have HC := Lib.hid hcells; have HB2 := Lib.hid ((HB.out.alloc hsz1 (.cells #[.int .i64 n, .int .i64 m] 91)).grown hg (by simp; omega) (fun j e => (HO.out.lt j e).1)); clear ho hg hcells))
  have cells : ∀ j, j < LL.length → w2.cell? ⟨g, j * 2, none⟩ = some (.int .i64 (LL.getD j (0, 0)).1) ∧ w2.cell? ⟨g, j * 2 + 1, none⟩ = some (.int .i64 (LL.getD j (0, 0)).2) := by
    intro j hj
    have e : prCells LL = prCells L ++ [.int .i64 n, .int .i64 m] := by rw [HLL.out, prCells_snoc]
    have := prCells_at LL j hj
    rw [e] at this
    exact ⟨HC.out _ _ this.1, HC.out _ _ this.2⟩
  have CE := Lib.hid cells
  clear cells
  go_loopw [8, 9, 10, 11] (fun ov iv kv jv wr => ∃ (j : Nat) (acc : List (Int × Int × Int × Int)) (x y : Int), j ≤ L.length + 1 ∧ acc.length ≤ j ∧ jv = .int .i64 j ∧ iv = .int .i64 x ∧ kv = .int .i64 y ∧ 0 ≤ x ∧ x ≤ 401 ∧ 0 ≤ y ∧ y ≤ 401 ∧ Hid (acc ++ hunks x y (LL.drop j) = hunks 0 0 LL) ∧ Hid (wr.ownsRow w2.heap.size 65 4 ov acc.length (hkCells acc)) ∧ Hid (Below w2.heap.size w2 wr)) (fun _ _ _ jv _ => L.length + 1 - (intOf jv).toNat)
  case atStart => exact ⟨0, [], 0, 0, Nat.zero_le _, Nat.zero_le _, rfl, rfl, rfl, by omega, by omega, by omega, by omega, rfl, World.ownsRow_nil _ _ _ _, Below.refl _ _⟩
  case round =>
    obtain ⟨j, acc, x, y, hj, hacc, rfl, rfl, rfl, hx0, hx1, hy0, hy1, hk, hown, hb⟩ := hrel
    by_cases hlt : j < L.length + 1
    · obtain ⟨c1, c2⟩ := CE.out j (by omega)
      have c1' : wr.cell? ⟨g, j * 2, none⟩ = some (.int .i64 (LL.getD j (0, 0)).1) := (hb.out.cell (by exact hglt)).trans c1
      have c2' : wr.cell? ⟨g, j * 2 + 1, none⟩ = some (.int .i64 (LL.getD j (0, 0)).2) := (hb.out.cell (by exact hglt)).trans c2
      have hdrop := prs_drop (L := LL) (k := j) (by omega)
      have hp := HALL.out (LL.getD j (0, 0)) (by rw [List.getD_eq_getElem?_getD, List.getElem?_eq_getElem (by omega)]; exact List.getElem_mem _)
      have hstep : hunks x y (LL.drop j) = (if x < ((LL.getD j (0, 0)).1 : Int) ∨ y < ((LL.getD j (0, 0)).2 : Int) then [(x, ((LL.getD j (0, 0)).1 : Int) - x, y, ((LL.getD j (0, 0)).2 : Int) - y)] else []) ++ hunks (((LL.getD j (0, 0)).1 : Int) + 1) (((LL.getD j (0, 0)).2 : Int) + 1) (LL.drop (j + 1)) := by rw [hdrop]; rfl
      have HST := Lib.hid hstep
      have hsz := hb.out.size
      clear hdrop hstep c1 c2
      generalize LL.getD j (0, 0) = pq at *
      obtain ⟨p, q⟩ := pq
      simp only at c1' c2' hp HST
      obtain ⟨hp1, hp2⟩ := hp
      by_cases h1 : x < (p : Int)
      · rw [if_pos (by omega)] at HST
        have wx := wrapI ((p : Int) - x) (by omega) (by omega)
        have wy := wrapI ((q : Int) - y) (by omega) (by omega)
        have HOW := Lib.hid ((hown.out.alloc (.cells #[.int .i64 x, .int .i64 ((p : Int) - x), .int .i64 y, .int .i64 ((q : Int) - y)] 65)).drew)
        have hnc : ∀ j' u, [Value.int .i64 x, .int .i64 ((p : Int) - x), .int .i64 y, .int .i64 ((q : Int) - y)][j']? = some u → (wr.alloc (.cells #[.int .i64 x, .int .i64 ((p : Int) - x), .int .i64 y, .int .i64 ((q : Int) - y)] 65)).drew.cell? ((⟨wr.heap.size, 0, none⟩ : Addr).add j') = some u := new_cells wr _ _ _ rfl
        have NC := Lib.hid hnc
        have hck : ∀ w3 : World, (wr.alloc (.cells #[.int .i64 x, .int .i64 ((p : Int) - x), .int .i64 y, .int .i64 ((q : Int) - y)] 65)).drew.grownBy w3 u8.ownBlock → w3.cell? ⟨g, j * 2, none⟩ = some (.int .i64 p) ∧ w3.cell? ⟨g, j * 2 + 1, none⟩ = some (.int .i64 q) ∧ Below w2.heap.size w2 w3 := by
          intro w3 hg3
          have hbw : Below w2.heap.size w2 w3 := ((hb.out.alloc hsz _).drew).grown hg3 (by simp; omega) (fun k e => (hown.out.lt k e).1)
          have hbr : Below w2.heap.size wr w3 := (((Below.refl _ _).alloc hsz _).drew).grown hg3 (by simp; omega) (fun k e => (hown.out.lt k e).1)
          exact ⟨(hbr.cell (by exact hglt)).trans c1', (hbr.cell (by exact hglt)).trans c2', hbw⟩
        have CK := Lib.hid hck
        clear hnc hck
        go_wp2_with fail
        go_region_law (refine step_append_lies _ rfl (.tmp 43) (.tmp 61) 59 rfl w2.heap.size 65 i5 (.agg #[.int .i64 0, .int .i64 0, .int .i64 0, .int .i64 0]) 4 32 Try.underlying59 hi5.out hz5.out hs5.out hb5.out rfl (by decide) u8 acc.length (hkCells acc) rfl HOW.out ⟨wr.heap.size, 0, none⟩ 1 1 [.int .i64 x, .int .i64 ((p : Int) - x), .int .i64 y, .int .i64 ((q : Int) - y)] rfl rfl NC.out (by simp [Value.oneCell']) (by omega) (by unfold maxLen; omega) (by omega) (by simp; omega) (wr.heap.size + 1) (by simp) ?_; intro g3 cap3 w3 ho3 hg3 hl3 hlt3; obtain ⟨k1, k2, k3⟩ := CK.out w3 hg3; have HO3 := Lib.hid ho3; have HB3 := Lib.hid k3; clear ho3 hg3 hl3 hlt3 k3)
        all_goals go_frame
        all_goals go_wp2
        all_goals refine ⟨⟨j + 1, acc ++ [(x, (p : Int) - x, y, (q : Int) - y)], (p : Int) + 1, (q : Int) + 1, by omega, by simp; omega, by go_num, by go_num, by go_num, by omega, by omega, by omega, by omega, ?_, ?_, HB3.out⟩, by simp [intOf]; omega⟩
        all_goals first | (have h := hk.out; rw [HST.out] at h; unfold Hid; simpa using h) | (unfold Hid; rw [hkCells_snoc, List.length_append]; exact HO3.out)
      · by_cases h2 : y < (q : Int)
        · rw [if_pos (by omega)] at HST
          have wx := wrapI ((p : Int) - x) (by omega) (by omega)
          have wy := wrapI ((q : Int) - y) (by omega) (by omega)
          have HOW := Lib.hid ((hown.out.alloc (.cells #[.int .i64 x, .int .i64 ((p : Int) - x), .int .i64 y, .int .i64 ((q : Int) - y)] 65)).drew)
          have hnc : ∀ j' u, [Value.int .i64 x, .int .i64 ((p : Int) - x), .int .i64 y, .int .i64 ((q : Int) - y)][j']? = some u → (wr.alloc (.cells #[.int .i64 x, .int .i64 ((p : Int) - x), .int .i64 y, .int .i64 ((q : Int) - y)] 65)).drew.cell? ((⟨wr.heap.size, 0, none⟩ : Addr).add j') = some u := new_cells wr _ _ _ rfl
          have NC := Lib.hid hnc
          have hck : ∀ w3 : World, (wr.alloc (.cells #[.int .i64 x, .int .i64 ((p : Int) - x), .int .i64 y, .int .i64 ((q : Int) - y)] 65)).drew.grownBy w3 u8.ownBlock → w3.cell? ⟨g, j * 2, none⟩ = some (.int .i64 p) ∧ w3.cell? ⟨g, j * 2 + 1, none⟩ = some (.int .i64 q) ∧ Below w2.heap.size w2 w3 := by
            intro w3 hg3
            have hbw : Below w2.heap.size w2 w3 := ((hb.out.alloc hsz _).drew).grown hg3 (by simp; omega) (fun k e => (hown.out.lt k e).1)
            have hbr : Below w2.heap.size wr w3 := (((Below.refl _ _).alloc hsz _).drew).grown hg3 (by simp; omega) (fun k e => (hown.out.lt k e).1)
            exact ⟨(hbr.cell (by exact hglt)).trans c1', (hbr.cell (by exact hglt)).trans c2', hbw⟩
          have CK := Lib.hid hck
          clear hnc hck
          go_wp2_with fail
          go_region_law (refine step_append_lies _ rfl (.tmp 43) (.tmp 61) 59 rfl w2.heap.size 65 i5 (.agg #[.int .i64 0, .int .i64 0, .int .i64 0, .int .i64 0]) 4 32 Try.underlying59 hi5.out hz5.out hs5.out hb5.out rfl (by decide) u8 acc.length (hkCells acc) rfl HOW.out ⟨wr.heap.size, 0, none⟩ 1 1 [.int .i64 x, .int .i64 ((p : Int) - x), .int .i64 y, .int .i64 ((q : Int) - y)] rfl rfl NC.out (by simp [Value.oneCell']) (by omega) (by unfold maxLen; omega) (by omega) (by simp; omega) (wr.heap.size + 1) (by simp) ?_; intro g3 cap3 w3 ho3 hg3 hl3 hlt3; obtain ⟨k1, k2, k3⟩ := CK.out w3 hg3; have HO3 := Lib.hid ho3; have HB3 := Lib.hid k3; clear ho3 hg3 hl3 hlt3 k3)
          all_goals go_frame
          all_goals go_wp2
          all_goals refine ⟨⟨j + 1, acc ++ [(x, (p : Int) - x, y, (q : Int) - y)], (p : Int) + 1, (q : Int) + 1, by omega, by simp; omega, by go_num, by go_num, by go_num, by omega, by omega, by omega, by omega, ?_, ?_, HB3.out⟩, by simp [intOf]; omega⟩
          all_goals first | (have h := hk.out; rw [HST.out] at h; unfold Hid; simpa using h) | (unfold Hid; rw [hkCells_snoc, List.length_append]; exact HO3.out)
        · rw [if_neg (by omega), List.nil_append] at HST
          go_wp2
          refine ⟨⟨j + 1, acc, (p : Int) + 1, (q : Int) + 1, by omega, by omega, by go_num, by go_num, by go_num, by omega, by omega, by omega, by omega, ?_, hown.out, hb.out⟩, by simp [intOf]; omega⟩
          have h := hk.out
          rw [HST.out] at h
          exact h
    · go_wp2
      go_ret
      obtain rfl : j = LL.length := by omega
      have h := hk.out
      rw [List.drop_length] at h
      have e : hunks x y [] = [] := rfl
      rw [e, List.append_nil] at h
      rw [← h]
      have hsz := HB2.out.size
      exact ⟨_, rfl, own_more hown.out hsz, HB2.out.trans (hb.out.mono hsz)⟩
end Go.Proofs.Ythhmamkphcgocaa

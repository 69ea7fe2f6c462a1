/- The document's store: what it holds as data; begins, Number, Find, File. -/
import Derived.Test.YtbmpidacoohdmaaGreatNum
namespace Go.Proofs.YtbmpidacoohdmaaGreat
open Go.RowKit Op

def looB : List UInt8 := [108, 111, 111, 115, 101, 47]
def nmB (id : List UInt8) : List UInt8 := looB ++ hexB id
theorem hexD_inj : ∀ a, a < 16 → ∀ b, b < 16 → hexD a = hexD b → a = b := by decide
theorem hexB_inj : ∀ a b : List UInt8, hexB a = hexB b → a = b
  | [], [], _ => rfl
  | [], y :: b, h => by simp [hexB] at h
  | x :: a, [], h => by simp [hexB] at h
  | x :: a, y :: b, h => by
    simp only [hexB, List.flatMap_cons, List.cons_append, List.nil_append, List.cons.injEq] at h
    obtain ⟨h1, h2, h3⟩ := h
    have hx := x.toNat_lt
    have hy := y.toNat_lt
    have e1 := hexD_inj _ (by omega) _ (by omega) h1
    have e2 := hexD_inj _ (by omega) _ (by omega) h2
    rw [hexB_inj a b h3, UInt8.toNat_inj.1 (show x.toNat = y.toNat by omega)]
theorem nmB_inj {a b : List UInt8} (h : nmB a = nmB b) : a = b := hexB_inj a b (List.append_cancel_left h)
/-- Bytes that a store holds. -/
def By (w : World) (u : Value) (xs : List UInt8) : Prop :=
  ∃ b c, u = .slice (some ⟨b, 0, none⟩) xs.length c ∧ xs.length ≤ c ∧ Rv w.heap.size w (some ⟨b, 0, none⟩) (bys xs) ∧ ∃ cs fr, w.heap[b]? = some (.cells cs 5 fr)
structure Ent where
  id : List UInt8
  body : List UInt8
  v : Value
def cellsF (l : List Ent) : List Value := l.flatMap fun x => [.string (bs (nmB x.id)), x.v]
theorem cellsF_name : ∀ (l : List Ent) (k : Nat) (x : Ent), l[k]? = some x → (cellsF l)[k * 2]? = some (.string (bs (nmB x.id))) ∧ (cellsF l)[k * 2 + 1]? = some x.v
  | [], k, x, h => by simp at h
  | y :: l, 0, x, h => by
    obtain rfl : y = x := by simpa using h
    exact ⟨rfl, rfl⟩
  | y :: l, k + 1, x, h => by
    have := cellsF_name l k x (by simpa using h)
    rw [show (k + 1) * 2 = k * 2 + 1 + 1 by omega]
    simpa [cellsF] using this
/-- The document's store holds these. -/
structure Rsp (w : World) (g : Nat) (l : List Ent) (A : Option Addr) (c : Nat) (fr : Bool) (t : Int) : Prop where
  blk : w.heap[g]? = some (.cells #[.slice A l.length c, .int .i64 t, .slice none 0 0, .bool fr] 63 (0, 0))
  nil : A = none → c = 0
  cap : l.length ≤ c
  rv : Rv w.heap.size w A (cellsF l)
  typ : ∀ ad, A = some ad → ∃ b cs f, ad = ⟨b, 0, none⟩ ∧ w.heap[b]? = some (.cells cs 99 f)
  all : ∀ x ∈ l, x.id.length = 32 ∧ x.body.length ≤ 400 ∧ By w x.v (objB x.body) ∧ x.id = shaOf (objB x.body)
  few : l.length ≤ 40
theorem Rsp.at_ {w : World} {g : Nat} {l : List Ent} {A : Option Addr} {c : Nat} {fr : Bool} {t : Int} (h : Rsp w g l A c fr t) {k : Nat} {x : Ent} (hx : l[k]? = some x) :
    ∃ b, A = some ⟨b, 0, none⟩ ∧ w.cell? ⟨b, k * 2, none⟩ = some (.string (bs (nmB x.id))) ∧ w.cell? ⟨b, k * 2 + 1, none⟩ = some x.v := by
  obtain ⟨h1, h2⟩ := cellsF_name l k x hx
  obtain ⟨ad, e, _, hc⟩ := h.rv.at_ h1
  obtain ⟨ad2, e2, _, hc2⟩ := h.rv.at_ h2
  obtain ⟨b, _, _, rfl, _⟩ := h.typ ad e
  obtain rfl := Option.some.inj (e.symm.trans e2)
  rw [Addr.add_lit, Nat.zero_add] at hc hc2
  exact ⟨b, e, hc, hc2⟩
/-- All blocks but those in S are as they were. -/
structure Chs (S : Nat → Prop) (w w2 : World) : Prop where
  os : w2.os = w.os
  tape : w2.tape = w.tape
  output : w2.output = w.output
  size : w.heap.size ≤ w2.heap.size
  block : ∀ k, k < w.heap.size → ¬ S k → w2.heap[k]? = w.heap[k]?
theorem Chs.of_grown {w w2 : World} {g : Nat} (h : w.grownBy w2 (some g)) : Chs (fun k => k = g) w w2 :=
  ⟨h.os, h.tape, h.output, h.size, fun k hk hn => h.block k hk (fun q => hn (Option.some.inj q))⟩
theorem Chs.of_below {w w2 : World} (h : Below w.heap.size w w2) (S : Nat → Prop) : Chs S w w2 := ⟨h.os, h.tape, h.output, h.size, fun k hk _ => h.block k hk⟩
theorem Chs.trans {S : Nat → Prop} {w w2 w3 : World} (h : Chs S w w2) (k : Chs S w2 w3) : Chs S w w3 :=
  ⟨k.os.trans h.os, k.tape.trans h.tape, k.output.trans h.output, Nat.le_trans h.size k.size, fun n hn hs => (k.block n (Nat.lt_of_lt_of_le hn h.size) hs).trans (h.block n hn hs)⟩
theorem Chs.more {S T : Nat → Prop} {w w2 : World} (h : Chs S w w2) (hst : ∀ k, S k → T k) : Chs T w w2 := ⟨h.os, h.tape, h.output, h.size, fun k hk hn => h.block k hk (fun q => hn (hst k q))⟩
/-- No block in S holds elements t. -/
def Non (S : Nat → Prop) (w : World) (t : TypeId) : Prop := ∀ k, S k → ∀ cs f, w.heap[k]? ≠ some (.cells cs t f)
theorem rv_chs {S : Nat → Prop} {w w2 : World} {b : Nat} {xs : List Value} (h : Rv w.heap.size w (some ⟨b, 0, none⟩) xs) (hc : Chs S w w2) (hb : w2.heap[b]? = w.heap[b]?) : Rv w2.heap.size w2 (some ⟨b, 0, none⟩) xs := fun k x hx => by
  obtain ⟨ad, e, hlt, hcell⟩ := h.at_ hx
  obtain rfl := Option.some.inj e
  rw [Addr.add_lit] at hcell
  refine ⟨_, rfl, Nat.lt_of_lt_of_le hlt hc.size, ?_⟩
  rw [Addr.add_lit]
  exact (cell_heap (p := ⟨b, 0 + k, none⟩) hb).trans hcell
theorem By.chs {S : Nat → Prop} {w w2 : World} {u : Value} {xs : List UInt8} (h : By w u xs) (hc : Chs S w w2) (hn : Non S w 5) : By w2 u xs := by
  obtain ⟨b, c, rfl, hl, hr, cs, f, hb⟩ := h
  have he := hc.block b (Array.getElem?_eq_some_iff.1 hb).1 (fun q => hn b q cs f hb)
  exact ⟨b, c, rfl, hl, rv_chs hr hc he, cs, f, he.trans hb⟩
theorem By.of_ows {w : World} {base : Nat} {u : Value} {xs : List UInt8} (h : Ows w base 5 u (bys xs)) (h0 : 0 < xs.length) : By w u xs := by
  obtain ⟨D, d, e, _, hd, hr, _⟩ := h.form
  rcases h with ⟨_, h2⟩ | ⟨g, cap, cur, fr, rfl, h2, h3, h4, h5, _⟩
  · have := congrArg List.length h2
    rw [bys_len] at this
    simp only [List.length_nil] at this
    omega
  · rw [bys_len] at *
    injection e with e1 e2 e3
    subst e1
    exact ⟨g, cap, rfl, h5, hr, cur, fr, h3⟩
theorem Rsp.chs {S : Nat → Prop} {w w2 : World} {g : Nat} {l : List Ent} {A : Option Addr} {c : Nat} {fr fr2 : Bool} {t t2 : Int} (h : Rsp w g l A c fr t) (hc : Chs S w w2) (hn : Non S w 5) (hn2 : Non S w 99)
    (hg : w2.heap[g]? = some (.cells #[.slice A l.length c, .int .i64 t2, .slice none 0 0, .bool fr2] 63 (0, 0))) : Rsp w2 g l A c fr2 t2 where
  blk := hg
  nil := h.nil
  cap := h.cap
  rv := by
    rcases A with _ | ad
    · intro k x hx
      obtain ⟨ad, e, _⟩ := h.rv.at_ hx
      cases e
    · obtain ⟨b, cs, f, rfl, hb⟩ := h.typ ad rfl
      exact rv_chs h.rv hc (hc.block b (Array.getElem?_eq_some_iff.1 hb).1 (fun q => hn2 b q cs f hb))
  typ := fun ad e => by
    obtain ⟨b, cs, f, e2, hb⟩ := h.typ ad e
    exact ⟨b, cs, f, e2, (hc.block b (Array.getElem?_eq_some_iff.1 hb).1 (fun q => hn2 b q cs f hb)).trans hb⟩
  all := fun x hx => by
    obtain ⟨h1, h2, h3, h4⟩ := h.all x hx
    exact ⟨h1, h2, h3.chs hc hn, h4⟩
  few := h.few
theorem Rsp.non {w : World} {g : Nat} {l : List Ent} {A : Option Addr} {c : Nat} {fr : Bool} {t : Int} (h : Rsp w g l A c fr t) {ty : TypeId} (ht : ty ≠ 63) : Non (fun k => k = g) w ty := by
  rintro k rfl cs f hk
  have := h.blk.symm.trans hk
  injection this with this
  injection this with _ h2
  exact ht h2.symm
attribute [local go_sem] bs_append bs_size
set_option maxHeartbeats 1000000 in
theorem begins_no (w : World) (x : List UInt8) (hx : x.length ≤ 1000) :
    Calls Tryz.prog 128 #[.string (bs (looB ++ x)), .string ⟨#[105, 110, 100, 101, 120, 47]⟩] w fun e w2 => e = .returned (.bool false) ∧ w = w2 := by
  have hsz : (bs (looB ++ x)).size = 6 + x.length := by rw [bs_size]; simp [looB]; omega
  have hex : (bs (looB ++ x)).extract 0 6 = bs looB := by rw [bs_ext]; simp [looB]
  have hcm : ((bs looB).toList == [105, 110, 100, 101, 120, 47]) = false := by rw [bs_toList]; decide
  generalize bs (looB ++ x) = s at *
  generalize x.length = n at *
  have h6 : (6 : Int) ≤ 6 + (n : Int) := by omega
  go_enter Tryz.func128, Tryz.ntmps128
  go_wp2_with fail
  go_ret
  exact ⟨rfl, rfl⟩
set_option maxHeartbeats 1000000 in
theorem fnum_no (w : World) (id : List UInt8) (hi : id.length = 32) :
    Calls Tryz.prog 136 #[.string (bs (nmB id)), .string ⟨#[105, 110, 100, 101, 120, 47]⟩] w fun e w2 => e = .returned (.int .i64 0) ∧ w = w2 := by
  have HB := Lib.hid (begins_no w (hexB id) (by rw [hexB_len]; omega))
  go_enter Tryz.func136, Tryz.ntmps136
  go_wp2_with (go_at_call 128; refine HB.out.mono ?_; rintro e w2 ⟨rfl, rfl⟩)
  go_ret
  exact ⟨rfl, rfl⟩
set_option maxRecDepth 100000 in
set_option maxHeartbeats 1000000 in
theorem ffind_any (w : World) (g : Nat) (l : List Ent) (A : Option Addr) (c : Nat) (fr : Bool) (t : Int) (hs : Rsp w g l A c fr t) (id : List UInt8) :
    Calls Tryz.prog 88 #[.pointer (some ⟨g, 0, none⟩), .string (bs (nmB id))] w fun e w2 => w = w2 ∧ ((e = .returned (.int .i64 (-1)) ∧ ∀ x ∈ l, x.id ≠ id) ∨ ∃ k : Nat, e = .returned (.int .i64 k) ∧ ∃ x, l[k]? = some x ∧ x.id = id) := by
  have hcl : w.cell? ⟨g, 0, none⟩ = some (.slice A l.length c) := by rw [cell_of_row w g 0 _ _ _ hs.blk]; rfl
  have HC := Lib.hid (fun k x hx => hs.at_ (k := k) (x := x) hx)
  have HS := Lib.hid hs
  have hcap := hs.cap
  have hfew := hs.few
  clear hs
  go_enter Tryz.func88, Tryz.ntmps88
  go_wp2_with fail
  go_loop [5] (fun kv => ∃ k : Nat, k ≤ l.length ∧ kv = .int .i64 k ∧ ∀ j x, j < k → l[j]? = some x → x.id ≠ id) (fun kv => l.length - (intOf kv).toNat)
  case atStart => exact ⟨0, Nat.zero_le _, rfl, fun j x h => by omega⟩
  case round =>
    obtain ⟨k, hk, rfl, hno⟩ := hrel
    have HNO := Lib.hid hno
    clear hno
    by_cases hlt : k < l.length
    · obtain ⟨x, hx⟩ : ∃ x, l[k]? = some x := ⟨l[k], List.getElem?_eq_getElem hlt⟩
      obtain ⟨b, hA, hc, _⟩ := HC.out k x hx
      have HX := Lib.hid hx
      clear hx
      subst hA
      by_cases he : x.id = id
      · have hcm : ((bs (nmB x.id)).toList == (bs (nmB id)).toList) = true := by rw [he]; simp
        go_wp2_with fail
        go_ret
        exact ⟨rfl, .inr ⟨k, rfl, x, HX.out, he⟩⟩
      · have hcm : ((bs (nmB x.id)).toList == (bs (nmB id)).toList) = false := by rw [bs_toList, bs_toList]; exact beq_eq_false_iff_ne.2 fun q => he (nmB_inj q)
        go_wp2_with fail
        refine ⟨⟨k + 1, by omega, by go_num, fun j y hj hy => ?_⟩, by simp [intOf]; omega⟩
        rcases Nat.lt_succ_iff_lt_or_eq.1 hj with h | rfl
        · exact HNO.out j y h hy
        · obtain rfl := Option.some.inj (HX.out.symm.trans hy)
          exact he
    · have hke : k = l.length := by omega
      subst hke
      go_wp2_with fail
      go_ret
      refine ⟨rfl, .inl ⟨rfl, fun x hx => ?_⟩⟩
      obtain ⟨j, hj, e⟩ := List.getElem_of_mem hx
      exact HNO.out j x hj (by rw [List.getElem?_eq_getElem hj, e])
set_option maxRecDepth 100000 in
set_option maxHeartbeats 1000000 in
theorem ffile_any (w : World) (g : Nat) (l : List Ent) (A : Option Addr) (c : Nat) (fr : Bool) (t : Int) (hs : Rsp w g l A c fr t) (id : List UInt8) (hx : ∃ x ∈ l, x.id = id) :
    Calls Tryz.prog 131 #[.pointer (some ⟨g, 0, none⟩), .string (bs (nmB id))] w fun e w2 => w = w2 ∧ ∃ x, x ∈ l ∧ x.id = id ∧ e = .returned x.v := by
  have HF := Lib.hid (ffind_any w g l A c fr t hs id)
  have hcl : w.cell? ⟨g, 0, none⟩ = some (.slice A l.length c) := by rw [cell_of_row w g 0 _ _ _ hs.blk]; rfl
  have HC := Lib.hid (fun k x hx => hs.at_ (k := k) (x := x) hx)
  have hcap := hs.cap
  have hfew := hs.few
  clear hs
  go_enter Tryz.func131, Tryz.ntmps131
  go_wp2_with fail
  refine HF.out.mono ?_
  rintro e w2 ⟨rfl, ⟨rfl, hno⟩ | ⟨k, rfl, x, hk, he⟩⟩
  · obtain ⟨x, hm, he⟩ := hx
    exact absurd he (hno x hm)
  · have hkl := (List.getElem?_eq_some_iff.1 hk).1
    obtain ⟨b, e, _, hc2⟩ := HC.out k x hk
    subst e
    clear HC HF hx
    have HK := Lib.hid hk
    clear hk
    go_wp2_with fail
    go_ret
    exact ⟨rfl, x, List.mem_of_getElem? HK.out, he, rfl⟩
end Go.Proofs.YtbmpidacoohdmaaGreat

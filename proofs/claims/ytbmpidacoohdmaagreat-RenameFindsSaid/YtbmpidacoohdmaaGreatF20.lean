/- rename: texts out of the program's store, by a contract. -/
import Derived.Test.YtbmpidacoohdmaaGreatF19
namespace Go.Proofs.YtbmpidacoohdmaaGreat
open Lib renaming hid → hI
open Go.RowKit Op

/-- All texts of ids, or none. -/
def txs (f : List UInt8 → Option (List UInt8)) : List (List UInt8) → Option (List (List UInt8))
  | [] => some []
  | i :: r => match f i, txs f r with
    | some b, some bs => some (b :: bs)
    | _, _ => none
theorem txs_snoc (f : List UInt8 → Option (List UInt8)) (i : List UInt8) : ∀ l bs, txs f l = some bs → txs f (l ++ [i]) = (f i).map (fun b => bs ++ [b])
  | [], bs, h => by
    obtain rfl := Option.some.inj h
    cases e : f i <;> simp [txs, e]
  | j :: l, bs, h => by
    unfold txs at h
    split at h
    · rename_i b bs2 h1 h2
      obtain rfl := Option.some.inj h
      have := txs_snoc f i l bs2 h2
      rw [List.cons_append, txs, h1, this]
      cases f i <;> rfl
    · cases h
theorem txs_none (f : List UInt8 → Option (List UInt8)) : ∀ l (i : List UInt8), i ∈ l → f i = none → txs f l = none
  | j :: l, i, h, hf => by
    rw [txs]
    rcases List.mem_cons.1 h with rfl | h
    · rw [hf]
    · rw [txs_none f l i h hf]
      split <;> simp_all
/-- Slices that hold texts. -/
def Txt (w : World) (B : Nat) (us : List Value) (bs : List (List UInt8)) : Prop := us.length = bs.length ∧ ∀ (k : Nat) (u : Value) (x : List UInt8), us[k]? = some u → bs[k]? = some x → Ows w B 5 u (bys x)
theorem Ows.chs {S : Nat → Prop} {w w2 : World} {B : Nat} {e : TypeId} {v : Value} {xs : List Value} (h : Ows w B e v xs) (hc : Chs S w w2) (hS : ∀ q, S q → q < B) : Ows w2 B e v xs := by
  rcases h with h | ⟨g, cap, cur, fr, h1, h2, h3, h4, h5, h6⟩
  · exact .inl h
  · exact .inr ⟨g, cap, cur, fr, h1, h2, (hc.block g (Array.getElem?_eq_some_iff.1 h3).1 (fun q => by have := hS g q; omega)).trans h3, h4, h5, h6⟩
theorem Ows.one {w : World} {B : Nat} {e : TypeId} {v : Value} {xs : List Value} (h : Ows w B e v xs) : v.oneCell' = true := by
  rcases h with ⟨rfl, _⟩ | ⟨g, cap, cur, fr, rfl, _⟩ <;> rfl
theorem Txt.chs {S : Nat → Prop} {w w2 : World} {B : Nat} {us : List Value} {bs : List (List UInt8)} (h : Txt w B us bs) (hc : Chs S w w2) (hS : ∀ q, S q → q < B) : Txt w2 B us bs := ⟨h.1, fun k u x hu hx => (h.2 k u x hu hx).chs hc hS⟩
theorem Ows.non {S : Nat → Prop} {w w2 : World} {B : Nat} {e : TypeId} {v : Value} {xs : List Value} (h : Ows w B e v xs) (hc : Chs S w w2) (hS : Non S w e) : Ows w2 B e v xs := by
  rcases h with h | ⟨g, cap, cur, fr, h1, h2, h3, h4, h5, h6⟩
  · exact .inl h
  · exact .inr ⟨g, cap, cur, fr, h1, h2, (hc.block g (Array.getElem?_eq_some_iff.1 h3).1 (fun q => hS g q _ _ h3)).trans h3, h4, h5, h6⟩
theorem Txt.non {S : Nat → Prop} {w w2 : World} {B : Nat} {us : List Value} {bs : List (List UInt8)} (h : Txt w B us bs) (hc : Chs S w w2) (hS : Non S w 5) : Txt w2 B us bs := ⟨h.1, fun k u x hu hx => (h.2 k u x hu hx).non hc hS⟩
theorem Chs.old {S T : Nat → Prop} {w w2 w3 : World} (h : Chs S w w2) (k : Chs T w2 w3) (hT : ∀ q, T q → w.heap.size ≤ q) : Chs S w w3 :=
  ⟨k.os.trans h.os, k.tape.trans h.tape, k.output.trans h.output, Nat.le_trans h.size k.size, fun m hm hs => (k.block m (Nat.lt_of_lt_of_le hm h.size) (fun e => by have := hT m e; omega)).trans (h.block m hm hs)⟩
theorem Txt.snoc {w : World} {B : Nat} {us : List Value} {bs : List (List UInt8)} (h : Txt w B us bs) {u : Value} {x : List UInt8} (hu : Ows w B 5 u (bys x)) : Txt w B (us ++ [u]) (bs ++ [x]) := by
  refine ⟨by simp [h.1], fun k v y hv hy => ?_⟩
  rcases Nat.lt_trichotomy k us.length with hk | hk | hk
  · rw [List.getElem?_append_left hk] at hv
    rw [List.getElem?_append_left (by rw [← h.1]; exact hk)] at hy
    exact h.2 k v y hv hy
  · subst hk
    rw [List.getElem?_append_right (Nat.le_refl _), Nat.sub_self] at hv
    rw [List.getElem?_append_right (by rw [h.1]; exact Nat.le_refl _), h.1, Nat.sub_self] at hy
    obtain rfl := Option.some.inj hv
    obtain rfl := Option.some.inj hy
    exact hu
  · rw [List.getElem?_eq_none (by simp; omega)] at hv
    cases hv
theorem slT : Sl Tryz.prog 113 57 1 24 := ⟨Tryz.underlying113, by kernel_rfl, by decide⟩
attribute [local go_sem ↓] load42_eq store42_eq new42_eq run_new42
set_option maxRecDepth 100000 in
set_option maxHeartbeats 1000000 in
theorem texts_any (w : World) (g m : Nat) (l : List Ent) (t kn : Int) (f : List UInt8 → Option (List UInt8)) (hs : Psp w g m l t kn) (hc : Cnt l f) (Bi : Nat) (ids : List (List UInt8)) (v : Value) (h32 : ∀ x ∈ ids, x.length = 32) (hn : ids.length ≤ 40) (hi : w.ownsRow Bi 51 32 v ids.length (ids.flatMap bys)) (hg : g < Bi) :
    Calls Tryz.prog 46 #[.pointer (some ⟨g, 0, none⟩), v] w fun e w2 => ∃ kn2, Psp w2 g m l t kn2 ∧ Chs (fun k => k = g) w w2 ∧
      ((∃ bs v2 us, txs f ids = some bs ∧ e = .returned (.tuple #[v2, .int .i64 0]) ∧ w2.ownsRow w.heap.size 57 1 v2 us.length us ∧ Txt w2 w.heap.size us bs) ∨ (txs f ids = none ∧ e = .returned (.tuple #[.slice none 0 0, .int .i64 30]))) := by
  have HS := hI hs
  have HI := hI hi
  have HC := hI hc
  have H32 := hI h32
  obtain ⟨Dv, dv, hvv, _⟩ := own_all hi
  subst hvv
  clear hs hi hc h32
  go_enter Tryz.func46, Tryz.ntmps46
  go_wp2_with fail
  go_loopw [6, 13] (fun ov kv wr => ∃ (k : Nat) (bs : List (List UInt8)) (us : List Value) (kn2 : Int), k ≤ ids.length ∧ Hid (us.length = k) ∧ kv = .int .i64 k ∧ Hid (txs f (ids.take k) = some bs) ∧ Hid (Psp wr g m l t kn2) ∧ Hid (Chs (fun q => q = g) w wr) ∧ Hid (wr.ownsRow w.heap.size 57 1 ov k us) ∧ Hid (Txt wr w.heap.size us bs)) (fun _ kv _ => ids.length - (intOf kv).toNat)
  case atStart => exact ⟨0, [], [], kn, Nat.zero_le _, hI rfl, rfl, hI rfl, HS, hI (Chs.of_below (Below.refl _ _) _), hI (World.ownsRow_nil _ _ _ _), hI ⟨rfl, fun k u x hu => by simp at hu⟩⟩
  case round =>
    obtain ⟨k, bs, us, kn2, hk, hus, rfl, hb, hp, hch, ho, ht⟩ := hrel
    by_cases hlt : k < ids.length
    · have hix := getD_mem hlt
      have h32k := H32.out _ hix
      have OI := hI (own_chs HI.out hch.out (fun q e hq => by have := (HI.out.lt q e).1; omega))
      obtain ⟨gi, ci, csi, hvi, _, hcap, _, hrv⟩ := own_formk OI.out (by omega)
      obtain ⟨rfl, rfl⟩ : Dv = some ⟨gi, 0, none⟩ ∧ dv = ci := by
        injection hvi with e1 _ e3
        exact ⟨e1, e3⟩
      have hldk := ld_row H32.out hrv hlt
      have HTK : Hid (∀ b, f (ids.getD k []) = some b → txs f (ids.take (k + 1)) = some (bs ++ [b])) := hI (fun b e => by
        rw [List.take_add_one, List.getElem?_eq_getElem hlt, Option.toList_some, txs_snoc f _ _ bs hb.out, show ids[k] = ids.getD k [] by simp [hlt], e]
        rfl)
      have HTN : Hid (f (ids.getD k []) = none → txs f ids = none) := hI (fun e => txs_none f ids _ hix e)
      clear hrv hvi hix OI
      generalize ids.getD k [] = id at *
      have R0 : Hid (Ar (wr.alloc (.cells z42 51)) wr.heap.size 51 (bys (List.replicate 32 0))) := hI (Ar.new wr (bys (List.replicate 32 0)) 51)
      have hst := st42 R0.out (by simp) h32k
      have b2 := below_row ((Below.refl wr.heap.size wr).alloc (Nat.le_refl _) (.cells z42 51)) wr.heap.size (bys id).toArray (Nat.le_refl _)
      have R2 := hI (R0.out.setRow (bys id))
      generalize hw2 : (wr.alloc (.cells z42 51)).setRow wr.heap.size (bys id).toArray = w2 at *
      have P2 := hI (hp.out.below b2)
      have C2 := hI (hch.out.trans (Chs.of_below b2 _))
      have O2 := hI (own_below ho.out b2)
      have T2 := hI (ht.out.chs (Chs.of_below b2 (fun _ => False)) (fun q h => h.elim))
      have hld2 := ld42 R2.out h32k
      obtain ⟨Do, do_, hvv, _⟩ := own_all ho.out
      subst hvv
      have hgl : g < w.heap.size := HS.out.glt
      clear b2
      go_wp2_with fail
      refine (read_any w2 g m l t kn2 P2.out id h32k).mono ?_
      rintro e w3 ⟨kn3, hp3, hc3, ⟨x, hm, he, u, rfl, hu⟩ | ⟨hno, rfl⟩⟩
      · have P3 := hI hp3
        have C3 := hI (C2.out.trans hc3)
        have O3 := hI (own_chs O2.out hc3 (fun q e hq => by have := (O2.out.lt q e).1; omega))
        have T3 := hI (T2.out.chs hc3 (fun q h => by omega))
        have U3 := hI (hu.less (b := w.heap.size) C2.out.size)
        have HB := hI (HTK.out x.body (by rw [← he]; exact HC.out.yes x hm))
        have hs3 := C3.out.size
        have hone := hu.one
        obtain ⟨Du, du, hueq, _⟩ := hu.form
        subst hueq
        have b4 := (Below.refl w3.heap.size w3).alloc (Nat.le_refl _) (.cells #[.slice Du (bys x.body).length du] 57)
        have P4 := hI (P3.out.below b4)
        have C4 := hI (C3.out.trans (Chs.of_below b4 _))
        have O4 := hI (own_below O3.out b4)
        have T4 := hI (T3.out.chs (Chs.of_below b4 (fun _ => False)) (fun q h => h.elim))
        have U4 := hI (U3.out.chs (Chs.of_below b4 (fun _ => False)) (fun q h => h.elim))
        have N4 := hI (new_rv w3 [.slice Du (bys x.body).length du] 57 ⟨w3.heap.size, 0, none⟩ rfl)
        clear hp3 hc3 hu hm he b4
        go_wp2_with (at_builtin; refine wpList_app slT rfl (.tmp 26) (.tmp 28) rfl w.heap.size _ k us rfl O4.out (some ⟨w3.heap.size, 0, none⟩) 1 1 [.slice Du (bys x.body).length du] rfl (fun q => by cases q) rfl N4.out (by intro v hv; rw [List.mem_singleton.1 hv]; rfl) (by unfold maxLen; omega) (by omega) C4.out.size ?_; intro v7 w7 ho7 ha7; have O7 := hI ho7; have A7 := hI ha7.grown; clear ho7 ha7)
        have GR : Hid (Chs (fun q => some q = (Value.slice Do k do_).ownBlock) (w3.alloc (.cells #[.slice Du (bys x.body).length du] 57)) w7) := hI (Chs.of_row A7.out)
        have NR : Hid (∀ ty, ty ≠ 57 → Non (fun q => some q = (Value.slice Do k do_).ownBlock) (w3.alloc (.cells #[.slice Du (bys x.body).length du] 57)) ty) := hI (fun ty hty q hq cs fr hh => by
          obtain ⟨cs2, f2, h2⟩ := own_typ O4.out q hq
          have := h2.symm.trans hh
          injection this with this
          injection this with _ e
          exact hty e.symm)
        exact ⟨⟨k + 1, bs ++ [x.body], us ++ [.slice Du (bys x.body).length du], kn3, by omega, hI (by rw [List.length_append, List.length_singleton, hus.out]), by go_num, HB, hI (P4.out.far GR.out (NR.out _ (by decide)) (fun q => by have := (O4.out.lt g q.symm).1; omega) (fun q => by have := (O4.out.lt m q.symm).1; have := HS.out.mlt; omega)), hI (C4.out.old GR.out (fun q hq => (O4.out.lt q hq.symm).1)), O7, hI ((T4.out.non GR.out (NR.out _ (by decide))).snoc (U4.out.non GR.out (NR.out _ (by decide))))⟩, by simp [intOf]; omega⟩
      · have P3 := hI hp3
        have C3 := hI (C2.out.trans hc3)
        have HN := hI (HTN.out (HC.out.no id hno))
        clear hp3 hc3 hno
        go_wp2_with fail
        go_ret2
        exact ⟨kn3, P3.out, C3.out, .inr ⟨HN.out, rfl⟩⟩
    · have hke : k = ids.length := by omega
      subst hke
      rw [List.take_length] at hb
      obtain ⟨Do, do_, hvv, _⟩ := own_all ho.out
      subst hvv
      go_wp2_with fail
      go_ret2
      exact ⟨kn2, hp.out, hch.out, .inl ⟨bs, _, us, hb.out, rfl, by rw [hus.out]; exact ho.out, ht.out⟩⟩
end Go.Proofs.YtbmpidacoohdmaaGreat

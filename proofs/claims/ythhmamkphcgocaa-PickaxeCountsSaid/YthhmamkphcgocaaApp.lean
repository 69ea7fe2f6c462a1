/- Appending bytes that are read, onto bytes of one's own, as a law for the walk. -/
import Derived.Test.YthhmamkphcgocaaSpl
import Derived.Laws.AppendOwnNone
namespace Go.Proofs.Ythhmamkphcgocaa
open Go.RowKit

theorem info5b : (Try.prog.info? 5).map (fun i => (i.zero, i.size, i.bytes)) = some (some (.int .u8 0), 1, 1) := by kernel_rfl
theorem bys_one (l : List UInt8) : ∀ u ∈ bys l, u.oneCell' = true := by simp [bys, Value.oneCell']
theorem wpList_append_rv {w : World} {ops : Array Oper} {rest : List Oper} {o : Oper} {a : Act} {Q : Exit → Act → World → Prop} (hgd : o.guard = none) (s x : Operand)
    (ho : o.op = .call { callee := .builtin .append, args := #[s, x], argTypes := #[27, 27] })
    (base : Nat) (v : Value) (n : Nat) (xs : List Value) (hs : a.eval s = v) (hown : w.ownsRow base 5 1 v n xs) {B : Nat} (A : Option Addr) (c : Nat) (l : List UInt8)
    (hx : a.eval x = .slice A l.length c) (hnone : A = none → c = 0) (hr : Rv B w A (bys l)) (hn : n + l.length ≤ 10000) (hbase : base ≤ w.heap.size)
    (h : ∀ v' w', w'.ownsRow base 5 1 v' (n + l.length) (xs ++ bys l) → w.grownBy w' v.ownBlock → wpList Try.prog ops Q rest (a.put o.dst v') w') : wpList Try.prog ops Q (o :: rest) a w := by
  obtain ⟨i, hi, hz, hs1, hb⟩ := info_parts info5b
  rcases A with _ | ad
  · have hl : l = [] := by
      rcases l with _ | ⟨y, l⟩
      · rfl
      · obtain ⟨_, e, _⟩ := hr 0 _ rfl
        cases e
    subst hl
    obtain rfl := hnone rfl
    refine wpList_append_own_none hgd s x 27 ho base 5 i 1 Try.underlying27 hi v n xs hs hown hx (h v w (by simpa [bys] using hown) ?_)
    exact ⟨rfl, rfl, rfl, Nat.le_refl _, fun _ _ _ => rfl⟩
  · refine wpList_append_own w hgd s x 27 ho base 5 i (.int .u8 0) 1 1 Try.underlying27 hi hz hs1 hb rfl (by decide) v n xs hs hown ad l.length c (bys l) hx (by rw [bys_len, Nat.mul_one]) ?_ (bys_one l) (by unfold maxLen; omega) (by omega) hbase fun v' w' h1 h2 _ => h v' w' h1 h2
    intro j u hu
    obtain ⟨ad', e, _, hc⟩ := hr j u hu
    cases e
    exact hc
def lit27z (ps : Array (Nat × Value)) : Sem Value := Instr.buildSlice 27 0 ps
theorem lit27z_eq (ps : Array (Nat × Value)) : Instr.buildSlice 27 0 ps = lit27z ps := rfl
theorem run_lit27z (w : World) : (lit27z #[]).run Try.prog w = .ok (.slice (some ⟨w.heap.size, 0, none⟩) 0 0) (w.alloc (.cells #[] 5)) := by kernel_rfl
theorem empty5_own (w : World) : (w.alloc (.cells #[] 5)).ownsRow w.heap.size 5 1 (.slice (some ⟨w.heap.size, 0, none⟩) 0 0) 0 [] :=
  World.ownsRow_made w #[] 0 (Nat.le_refl _) (by simp [maxLen]) rfl
theorem bys_app (a b : List UInt8) : bys a ++ bys b = bys (a ++ b) := by simp [bys]
end Go.Proofs.Ythhmamkphcgocaa

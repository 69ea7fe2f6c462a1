/-
  No cell of these rows narrows 'for every input' (looked for: loops, veiled, ifaces, maps, wideKeys, modest, calm, conditions, laid).
  DERIVED. THE GIVEN ROWS OF THIS SEAT. 3 by the template 'for every input the law returns true; each argument reads behind the call as it read before'; 0 by the template 'total and deterministic' (their statements: YthhmamkphcgocaaTotals.lean).
  GIVEN WITH THE SEED: the statements are not yours to turn. If you find one false, say at which input.
  Laid BY PROGRAM, IN A SANDBOX (cutbox-rows.mjs): the forced cells as the released guide's own fill.sh prints them over the translation d94c12f06d5f36e1… (all of the seat's roots in one cut). By AI agents, Wed Nov 11 2026. No macro, syntax, notation, axiom, sorry.
-/
import Derived.Test.YthhmamkphcgocaaChecked
import GoSem.Claim
import GoSem.ClaimJoined
import GoSem.ClaimMapViews
import Derived.JoinedTies
import Derived.KernelRfl
namespace Go.Proofs.Ythhmamkphcgocaa
/- THE CELL 'sum', in the pinned program and in every row, IS THE sha256 OF THE DUMP (.gsa) THAT YthhmamkphcgocaaProg.lean LOADS. Nothing in Lean hashes anything: it is a label: what it is worth is what the hold of that sum in a sandbox is worth. -/
noncomputable def Try.pinned : Pinned := { name := "ythhmamkphcgocaa", sum := "d94c12f06d5f36e12762e1127e679b803993eeeaf6b2b6790993849db86d558a", checked := Try.checked }
namespace Rows
def none {H : Type} : Left H := { results := [], args := [] }

/-- 'sleuthlaw26.RenameExact': WHATEVER THE INPUT: true; the input reads as it did. -/
def renameExactSpec : ChangeSpec := { name := "renameExact", fn := fun _ => fun
  | [d] => { results := [.lit (.bool true)], args := [d] }
  | _ => none }
def renameExactRow : OpenClaim := { program := "ythhmamkphcgocaa", sum := "d94c12f06d5f36e12762e1127e679b803993eeeaf6b2b6790993849db86d558a", func := "sleuth/sleuthlaw26.RenameExact", spec := "renameExact", unfollowed := true, recurses := true, apart := false }
def RenameExactSaid : Prop := renameExactRow.holds Try.pinned (OpenSpec.ofChange renameExactSpec)

/-- ITS FALSE NEIGHBOUR: 'it returns false'. Refute it at one input. -/
def renameExactWrong : ChangeSpec := { name := "renameExact", fn := fun _ => fun
  | [d] => { results := [.lit (.bool false)], args := [d] }
  | _ => none }
def RenameExactWrongFalsely : Prop := renameExactRow.holds Try.pinned (OpenSpec.ofChange renameExactWrong)

/-- 'sleuthlaw31.PickaxeLines': WHATEVER THE INPUT: true; the input reads as it did. -/
def pickaxeLinesSpec : ChangeSpec := { name := "pickaxeLines", fn := fun _ => fun
  | [d1, d2, d3] => { results := [.lit (.bool true)], args := [d1, d2, d3] }
  | _ => none }
def pickaxeLinesRow : OpenClaim := { program := "ythhmamkphcgocaa", sum := "d94c12f06d5f36e12762e1127e679b803993eeeaf6b2b6790993849db86d558a", func := "sleuth/sleuthlaw31.PickaxeLines", spec := "pickaxeLines", inPlace := ["internal/bytealg.IndexByte", "internal/bytealg.IndexByteString", "internal/bytealg.IndexString"], unfollowed := true, recurses := true, named := ["internal/bytealg.MaxLen"], apart := false }
def PickaxeLinesSaid : Prop := pickaxeLinesRow.holds Try.pinned (OpenSpec.ofChange pickaxeLinesSpec)

/-- ITS FALSE NEIGHBOUR: 'it returns false'. Refute it at one input. -/
def pickaxeLinesWrong : ChangeSpec := { name := "pickaxeLines", fn := fun _ => fun
  | [d1, d2, d3] => { results := [.lit (.bool false)], args := [d1, d2, d3] }
  | _ => none }
def PickaxeLinesWrongFalsely : Prop := pickaxeLinesRow.holds Try.pinned (OpenSpec.ofChange pickaxeLinesWrong)

/-- 'sleuthlaw31.PickaxeCounts': WHATEVER THE INPUT: true; the input reads as it did. -/
def pickaxeCountsSpec : ChangeSpec := { name := "pickaxeCounts", fn := fun _ => fun
  | [d1, d2, d3] => { results := [.lit (.bool true)], args := [d1, d2, d3] }
  | _ => none }
def pickaxeCountsRow : OpenClaim := { program := "ythhmamkphcgocaa", sum := "d94c12f06d5f36e12762e1127e679b803993eeeaf6b2b6790993849db86d558a", func := "sleuth/sleuthlaw31.PickaxeCounts", spec := "pickaxeCounts", inPlace := ["internal/bytealg.IndexByte", "internal/bytealg.IndexByteString", "internal/bytealg.IndexString"], unfollowed := true, recurses := true, named := ["internal/bytealg.MaxLen"], apart := false }
def PickaxeCountsSaid : Prop := pickaxeCountsRow.holds Try.pinned (OpenSpec.ofChange pickaxeCountsSpec)

/-- ITS FALSE NEIGHBOUR: 'it returns false'. Refute it at one input. -/
def pickaxeCountsWrong : ChangeSpec := { name := "pickaxeCounts", fn := fun _ => fun
  | [d1, d2, d3] => { results := [.lit (.bool false)], args := [d1, d2, d3] }
  | _ => none }
def PickaxeCountsWrongFalsely : Prop := pickaxeCountsRow.holds Try.pinned (OpenSpec.ofChange pickaxeCountsWrong)

/- THE SECOND FORM. 'bulk': how many values and letters a reading holds, each counted each time it is reached (what is shared counts as often as it is met; a slice's spare places count too). A statement '..UptoSaid' is the law's where the arguments, and the package variables that the reading takes, are together of bulk at most 1048576: NARROWER than '..Said'. Prove '..Said' where nothing that the law and all that it calls make is longer than what came in: it says more and counts as full. Else prove '..UptoSaid'. A law counts once. -/
mutual
def uptoBulk {H : Type} : DataW H → Nat
  | .lit (.string bytes) => bytes.length + 1
  | .lit _ => 1
  | .nil => 1
  | .ptr d => uptoBulk d + 1
  | .slice elems spare => uptoBulkAll elems + uptoBulkAll spare + 1
  | .agg parts => uptoBulkAll parts + 1
  | .iface _ d => uptoBulk d + 1
  | .map entries => uptoBulkEntries entries + 1
  | .held _ => 1
def uptoBulkAll {H : Type} : List (DataW H) → Nat
  | [] => 0
  | d :: r => uptoBulk d + uptoBulkAll r
def uptoBulkEntries {H : Type} : List (Lit × DataW H) → Nat
  | [] => 0
  | x :: r => uptoBulkEntry x + uptoBulkEntries r
def uptoBulkEntry {H : Type} : Lit × DataW H → Nat
  | (.string bytes, d) => bytes.length + uptoBulk d + 1
  | (_, d) => uptoBulk d + 1
 end
def uptoSmall : (H : Type) → List (DataW H) → Bool := fun _ ds => decide (uptoBulkAll ds ≤ 1048576)
def OpenSpec.upto (s : _root_.Go.ChangeSpec) : _root_.Go.OpenSpec := { _root_.Go.OpenSpec.ofChange s with cond := some uptoSmall }

/-- 'sleuthlaw26.RenameExact', WHERE WHAT IT READS IS OF BULK AT MOST 1048576: true; the input reads as it did. -/
def renameExactUptoRow : OpenClaim := { program := "ythhmamkphcgocaa", sum := "d94c12f06d5f36e12762e1127e679b803993eeeaf6b2b6790993849db86d558a", func := "sleuth/sleuthlaw26.RenameExact", spec := "renameExact", unfollowed := true, recurses := true, apart := false, narrowed := true }
def RenameExactUptoSaid : Prop := renameExactUptoRow.holds Try.pinned (OpenSpec.upto renameExactSpec)

/-- 'sleuthlaw31.PickaxeLines', WHERE WHAT IT READS IS OF BULK AT MOST 1048576: true; the input reads as it did. -/
def pickaxeLinesUptoRow : OpenClaim := { program := "ythhmamkphcgocaa", sum := "d94c12f06d5f36e12762e1127e679b803993eeeaf6b2b6790993849db86d558a", func := "sleuth/sleuthlaw31.PickaxeLines", spec := "pickaxeLines", inPlace := ["internal/bytealg.IndexByte", "internal/bytealg.IndexByteString", "internal/bytealg.IndexString"], unfollowed := true, recurses := true, named := ["internal/bytealg.MaxLen"], apart := false, narrowed := true }
def PickaxeLinesUptoSaid : Prop := pickaxeLinesUptoRow.holds Try.pinned (OpenSpec.upto pickaxeLinesSpec)

/-- 'sleuthlaw31.PickaxeCounts', WHERE WHAT IT READS IS OF BULK AT MOST 1048576: true; the input reads as it did. -/
def pickaxeCountsUptoRow : OpenClaim := { program := "ythhmamkphcgocaa", sum := "d94c12f06d5f36e12762e1127e679b803993eeeaf6b2b6790993849db86d558a", func := "sleuth/sleuthlaw31.PickaxeCounts", spec := "pickaxeCounts", inPlace := ["internal/bytealg.IndexByte", "internal/bytealg.IndexByteString", "internal/bytealg.IndexString"], unfollowed := true, recurses := true, named := ["internal/bytealg.MaxLen"], apart := false, narrowed := true }
def PickaxeCountsUptoSaid : Prop := pickaxeCountsUptoRow.holds Try.pinned (OpenSpec.upto pickaxeCountsSpec)

end Rows
end Go.Proofs.Ythhmamkphcgocaa

/-
  No cell of these rows narrows 'for every input' (looked for: loops, veiled, ifaces, maps, wideKeys, modest, calm, conditions, laid).
  DERIVED. THE GIVEN ROWS OF THIS SEAT. 3 by the template 'for every input the law returns true; each argument reads behind the call as it read before'; 0 by the template 'total and deterministic' (their statements: YtbmpidacoohdmaaGreatTotals.lean).
  GIVEN WITH THE SEED: the statements are not yours to turn. If you find one false, say at which input.
  Laid BY PROGRAM, IN A SANDBOX (cutbox-rows.mjs): the forced cells as the released guide's own fill.sh prints them over the translation 96f0811c27bfcd23… (all of the seat's roots in one cut). By AI agents, Wed Nov 11 2026. No macro, syntax, notation, axiom, sorry.
-/
import Derived.Test.YtbmpidacoohdmaaGreatChecked
import GoSem.Claim
import GoSem.ClaimJoined
import GoSem.ClaimMapViews
import Derived.JoinedTies
import Derived.KernelRfl
namespace Go.Proofs.YtbmpidacoohdmaaGreat
/- THE CELL 'sum', in the pinned program and in every row, IS THE sha256 OF THE DUMP (.gsa) THAT YtbmpidacoohdmaaGreatProg.lean LOADS. Nothing in Lean hashes anything: it is a label: what it is worth is what the hold of that sum in a sandbox is worth. -/
noncomputable def Tryz.pinned : Pinned := { name := "ytbmpidacoohdmaagreat", sum := "96f0811c27bfcd232ef334922db105e206adf9549a47abe844755790f1a6ea3b", checked := Tryz.checked }
namespace Rows
def none {H : Type} : Left H := { results := [], args := [] }

/-- 'sleuthlaw26.RenameFinds': WHATEVER THE INPUT: true; the input reads as it did. -/
def renameFindsSpec : ChangeSpec := { name := "renameFinds", fn := fun _ => fun
  | [d] => { results := [.lit (.bool true)], args := [d] }
  | _ => none }
def renameFindsRow : OpenClaim := { program := "ytbmpidacoohdmaagreat", sum := "96f0811c27bfcd232ef334922db105e206adf9549a47abe844755790f1a6ea3b", func := "sleuth/sleuthlaw26.RenameFinds", spec := "renameFinds", inPlace := ["internal/bytealg.IndexByte", "internal/bytealg.Index", "internal/bytealg.IndexByteString", "internal/bytealg.IndexString", "internal/bytealg.abigen_runtime_cmpstring"], unfollowed := true, recurses := true, named := ["internal/bytealg.MaxLen"], plainKeys := false, apart := false }
def RenameFindsSaid : Prop := renameFindsRow.holds Tryz.pinned (OpenSpec.ofChange renameFindsSpec)

/-- ITS FALSE NEIGHBOUR: 'it returns false'. Refute it at one input. -/
def renameFindsWrong : ChangeSpec := { name := "renameFinds", fn := fun _ => fun
  | [d] => { results := [.lit (.bool false)], args := [d] }
  | _ => none }
def RenameFindsWrongFalsely : Prop := renameFindsRow.holds Tryz.pinned (OpenSpec.ofChange renameFindsWrong)

/-- 'sleuthlaw26.RenameKeeps': WHATEVER THE INPUT: true; the input reads as it did. -/
def renameKeepsSpec : ChangeSpec := { name := "renameKeeps", fn := fun _ => fun
  | [d] => { results := [.lit (.bool true)], args := [d] }
  | _ => none }
def renameKeepsRow : OpenClaim := { program := "ytbmpidacoohdmaagreat", sum := "96f0811c27bfcd232ef334922db105e206adf9549a47abe844755790f1a6ea3b", func := "sleuth/sleuthlaw26.RenameKeeps", spec := "renameKeeps", inPlace := ["internal/bytealg.IndexByte", "internal/bytealg.Index", "internal/bytealg.IndexByteString", "internal/bytealg.IndexString", "internal/bytealg.abigen_runtime_cmpstring"], unfollowed := true, recurses := true, named := ["internal/bytealg.MaxLen"], plainKeys := false, apart := false }
def RenameKeepsSaid : Prop := renameKeepsRow.holds Tryz.pinned (OpenSpec.ofChange renameKeepsSpec)

/-- ITS FALSE NEIGHBOUR: 'it returns false'. Refute it at one input. -/
def renameKeepsWrong : ChangeSpec := { name := "renameKeeps", fn := fun _ => fun
  | [d] => { results := [.lit (.bool false)], args := [d] }
  | _ => none }
def RenameKeepsWrongFalsely : Prop := renameKeepsRow.holds Tryz.pinned (OpenSpec.ofChange renameKeepsWrong)

/-- 'sleuthlaw26.RenameStores': WHATEVER THE INPUT: true; the input reads as it did. -/
def renameStoresSpec : ChangeSpec := { name := "renameStores", fn := fun _ => fun
  | [d] => { results := [.lit (.bool true)], args := [d] }
  | _ => none }
def renameStoresRow : OpenClaim := { program := "ytbmpidacoohdmaagreat", sum := "96f0811c27bfcd232ef334922db105e206adf9549a47abe844755790f1a6ea3b", func := "sleuth/sleuthlaw26.RenameStores", spec := "renameStores", inPlace := ["internal/bytealg.IndexByte", "internal/bytealg.Index", "internal/bytealg.IndexByteString", "internal/bytealg.IndexString", "internal/bytealg.abigen_runtime_cmpstring"], unfollowed := true, recurses := true, named := ["internal/bytealg.MaxLen"], plainKeys := false, apart := false }
def RenameStoresSaid : Prop := renameStoresRow.holds Tryz.pinned (OpenSpec.ofChange renameStoresSpec)

/-- ITS FALSE NEIGHBOUR: 'it returns false'. Refute it at one input. -/
def renameStoresWrong : ChangeSpec := { name := "renameStores", fn := fun _ => fun
  | [d] => { results := [.lit (.bool false)], args := [d] }
  | _ => none }
def RenameStoresWrongFalsely : Prop := renameStoresRow.holds Tryz.pinned (OpenSpec.ofChange renameStoresWrong)

/- THE SECOND FORM. 'bulk': how many values and letters a reading holds, each counted each time it is reached (what is shared counts as often as it is met; a slice's spare places count too). A statement '..UptoSaid' is the law's where the arguments, and the package variables that the reading takes, are together of bulk at most 1048576: NARROWER than '..Said'. Prove '..Said' where nothing that the law and all that it calls make is longer than what came in: it says more and counts as full. Else prove '..UptoSaid'. A law counts once. -/
mutual
def uptoBulk {H : Type} : DataW H → Nat
  | .lit (.string bytes) => bytes.length + 1
  | .lit _ => 1
  | .nil => 1
  | .ptr d => uptoBulk d + 1
  | .slice elems spare => uptoBulkAll elems + uptoBulkAll spare + 1
  | .agg parts => uptoBulkAll parts + 1
  | .iface _ d => uptoBulk d + 1
  | .map entries => uptoBulkEntries entries + 1
  | .held _ => 1
def uptoBulkAll {H : Type} : List (DataW H) → Nat
  | [] => 0
  | d :: r => uptoBulk d + uptoBulkAll r
def uptoBulkEntries {H : Type} : List (Lit × DataW H) → Nat
  | [] => 0
  | x :: r => uptoBulkEntry x + uptoBulkEntries r
def uptoBulkEntry {H : Type} : Lit × DataW H → Nat
  | (.string bytes, d) => bytes.length + uptoBulk d + 1
  | (_, d) => uptoBulk d + 1
 end
def uptoSmall : (H : Type) → List (DataW H) → Bool := fun _ ds => decide (uptoBulkAll ds ≤ 1048576)
def OpenSpec.upto (s : _root_.Go.ChangeSpec) : _root_.Go.OpenSpec := { _root_.Go.OpenSpec.ofChange s with cond := some uptoSmall }

/-- 'sleuthlaw26.RenameFinds', WHERE WHAT IT READS IS OF BULK AT MOST 1048576: true; the input reads as it did. -/
def renameFindsUptoRow : OpenClaim := { program := "ytbmpidacoohdmaagreat", sum := "96f0811c27bfcd232ef334922db105e206adf9549a47abe844755790f1a6ea3b", func := "sleuth/sleuthlaw26.RenameFinds", spec := "renameFinds", inPlace := ["internal/bytealg.IndexByte", "internal/bytealg.Index", "internal/bytealg.IndexByteString", "internal/bytealg.IndexString", "internal/bytealg.abigen_runtime_cmpstring"], unfollowed := true, recurses := true, named := ["internal/bytealg.MaxLen"], plainKeys := false, apart := false, narrowed := true }
def RenameFindsUptoSaid : Prop := renameFindsUptoRow.holds Tryz.pinned (OpenSpec.upto renameFindsSpec)

/-- 'sleuthlaw26.RenameKeeps', WHERE WHAT IT READS IS OF BULK AT MOST 1048576: true; the input reads as it did. -/
def renameKeepsUptoRow : OpenClaim := { program := "ytbmpidacoohdmaagreat", sum := "96f0811c27bfcd232ef334922db105e206adf9549a47abe844755790f1a6ea3b", func := "sleuth/sleuthlaw26.RenameKeeps", spec := "renameKeeps", inPlace := ["internal/bytealg.IndexByte", "internal/bytealg.Index", "internal/bytealg.IndexByteString", "internal/bytealg.IndexString", "internal/bytealg.abigen_runtime_cmpstring"], unfollowed := true, recurses := true, named := ["internal/bytealg.MaxLen"], plainKeys := false, apart := false, narrowed := true }
def RenameKeepsUptoSaid : Prop := renameKeepsUptoRow.holds Tryz.pinned (OpenSpec.upto renameKeepsSpec)

/-- 'sleuthlaw26.RenameStores', WHERE WHAT IT READS IS OF BULK AT MOST 1048576: true; the input reads as it did. -/
def renameStoresUptoRow : OpenClaim := { program := "ytbmpidacoohdmaagreat", sum := "96f0811c27bfcd232ef334922db105e206adf9549a47abe844755790f1a6ea3b", func := "sleuth/sleuthlaw26.RenameStores", spec := "renameStores", inPlace := ["internal/bytealg.IndexByte", "internal/bytealg.Index", "internal/bytealg.IndexByteString", "internal/bytealg.IndexString", "internal/bytealg.abigen_runtime_cmpstring"], unfollowed := true, recurses := true, named := ["internal/bytealg.MaxLen"], plainKeys := false, apart := false, narrowed := true }
def RenameStoresUptoSaid : Prop := renameStoresUptoRow.holds Tryz.pinned (OpenSpec.upto renameStoresSpec)

end Rows
end Go.Proofs.YtbmpidacoohdmaaGreat

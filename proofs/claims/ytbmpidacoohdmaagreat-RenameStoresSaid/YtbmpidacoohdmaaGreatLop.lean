/- The first loop in a code. -/
import Derived.WalkKit
namespace Go.Proofs.YtbmpidacoohdmaaGreat
open Go

/-- The first loop in a code. -/
def firstLoop : Code → Option Code
  | .loop c => some c
  | .seq a b => match firstLoop a with
    | some c => some c
    | none => firstLoop b
  | .block _ c => firstLoop c
  | .scope c => firstLoop c
  | .cond _ a b => match firstLoop a with
    | some c => some c
    | none => firstLoop b
  | _ => none
end Go.Proofs.YtbmpidacoohdmaaGreat

/-
  DERIVED. GIVEN WITH THE SEED: THE CARDS: each row of YthhmamkphcgocaaDoorRows.lean that lists a variable, with what it lists TIED to the program's text (the seventh form; the later family's looks); each row that meets fmt, with fmt's text TOLD by the authors' own Lean function (tested against real Go, not proved from fmt's source: count such statements apart). THE CARD IS WHAT COUNTS. Prove the row's statement (the work); the ties are given (YthhmamkphcgocaaDoorTie.lean); close each card by the builder's one call (the guide's Derived/Test/ToyasCard.lean, 'card_holds'). Laid BY PROGRAM, IN A SANDBOX (cutbox-door.mjs). By AI agents, Wed Nov 11 2026. No macro, syntax, notation, axiom, sorry.
-/
import Derived.Test.YthhmamkphcgocaaDoorRows
import GoSem.ClaimSeven
namespace Go.Proofs.YthhmamkphcgocaaDoor
namespace Rows

/-- THE TIED CARD OF 'sleuthlaw33.CacheReads'. -/
def cacheReadsCard : Claim7 := { stood := { row := cacheReadsRow, standIns := [], harness := (true, "239b8a37fcf0f2abb64f63839d4a2e208c748772816e26e054db9b51d8a4b38c"), looks := false }, kinds := [], alts := [], laidByText := true, laidKinds := [.data, .pinned], laidTests := true, laidLooks := .later }
def CacheReadsCardSaid : Prop := Claim7.holds Tryd.pinned (.plain (OpenSpec.ofChange cacheReadsSpec)) cacheReadsCard

/-- THE TIED CARD OF 'sleuthlaw33.CacheBack'. -/
def cacheBackCard : Claim7 := { stood := { row := cacheBackRow, standIns := [], harness := (true, "239b8a37fcf0f2abb64f63839d4a2e208c748772816e26e054db9b51d8a4b38c"), looks := false }, kinds := [], alts := [], laidByText := true, laidKinds := [.data, .pinned], laidTests := true, laidLooks := .later }
def CacheBackCardSaid : Prop := Claim7.holds Tryd.pinned (.plain (OpenSpec.ofChange cacheBackSpec)) cacheBackCard

/-- THE TIED CARD OF 'sleuthlaw33.CacheBytes'. -/
def cacheBytesCard : Claim7 := { stood := { row := cacheBytesRow, standIns := [], harness := (true, "239b8a37fcf0f2abb64f63839d4a2e208c748772816e26e054db9b51d8a4b38c"), looks := false }, kinds := [], alts := [], laidByText := true, laidKinds := [.data, .pinned], laidTests := true, laidLooks := .later }
def CacheBytesCardSaid : Prop := Claim7.holds Tryd.pinned (.plain (OpenSpec.ofChange cacheBytesSpec)) cacheBytesCard

/-- THE SECOND FORM's CARD OF 'sleuthlaw33.CacheReads'. -/
def cacheReadsUptoCard : Claim7 := { stood := { row := cacheReadsUptoRow, standIns := [], harness := (true, "239b8a37fcf0f2abb64f63839d4a2e208c748772816e26e054db9b51d8a4b38c"), looks := false }, kinds := [], alts := [], laidByText := true, laidKinds := [.data, .pinned], laidTests := true, laidLooks := .later }
def CacheReadsUptoCardSaid : Prop := Claim7.holds Tryd.pinned (.plain (OpenSpec.upto cacheReadsSpec)) cacheReadsUptoCard

/-- THE SECOND FORM's CARD OF 'sleuthlaw33.CacheBack'. -/
def cacheBackUptoCard : Claim7 := { stood := { row := cacheBackUptoRow, standIns := [], harness := (true, "239b8a37fcf0f2abb64f63839d4a2e208c748772816e26e054db9b51d8a4b38c"), looks := false }, kinds := [], alts := [], laidByText := true, laidKinds := [.data, .pinned], laidTests := true, laidLooks := .later }
def CacheBackUptoCardSaid : Prop := Claim7.holds Tryd.pinned (.plain (OpenSpec.upto cacheBackSpec)) cacheBackUptoCard

/-- THE SECOND FORM's CARD OF 'sleuthlaw33.CacheBytes'. -/
def cacheBytesUptoCard : Claim7 := { stood := { row := cacheBytesUptoRow, standIns := [], harness := (true, "239b8a37fcf0f2abb64f63839d4a2e208c748772816e26e054db9b51d8a4b38c"), looks := false }, kinds := [], alts := [], laidByText := true, laidKinds := [.data, .pinned], laidTests := true, laidLooks := .later }
def CacheBytesUptoCardSaid : Prop := Claim7.holds Tryd.pinned (.plain (OpenSpec.upto cacheBytesSpec)) cacheBytesUptoCard
end Rows
end Go.Proofs.YthhmamkphcgocaaDoor

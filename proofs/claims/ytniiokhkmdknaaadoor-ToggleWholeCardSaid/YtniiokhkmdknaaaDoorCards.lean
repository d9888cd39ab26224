/-
  DERIVED. GIVEN WITH THE SEED: THE CARDS: each row of YtniiokhkmdknaaaDoorRows.lean that lists a variable, with what it lists TIED to the program's text (the seventh form; the later family's looks); each row that meets fmt, with fmt's text TOLD by the authors' own Lean function (tested against real Go, not proved from fmt's source: count such statements apart). THE CARD IS WHAT COUNTS. Prove the row's statement (the work); the ties are given (YtniiokhkmdknaaaDoorTie.lean); close each card by the builder's one call (the guide's Derived/Test/ToyasCard.lean, 'card_holds'). Laid BY PROGRAM, IN A SANDBOX (cutbox-door.mjs). By AI agents, Wed Nov 11 2026. No macro, syntax, notation, axiom, sorry.
-/
import Derived.Test.YtniiokhkmdknaaaDoorRows
import GoSem.ClaimSeven
namespace Go.Proofs.YtniiokhkmdknaaaDoor
namespace Rows

/-- THE TIED CARD OF 'drydocklaw04.ToggleNewest'. -/
def toggleNewestCard : Claim7 := { stood := { row := toggleNewestRow, standIns := [], harness := (true, "8049d9453541f9b82f341369b79a2573a0e0c7028f90ad2cd329447818c118b9"), looks := true }, kinds := [], alts := [], laidByText := true, laidKinds := [.handle], laidTests := true, laidLooks := .later }
def ToggleNewestCardSaid : Prop := Claim7.holds Tryd.pinned (.plain (OpenSpec.ofChange toggleNewestSpec)) toggleNewestCard

/-- THE TIED CARD OF 'drydocklaw01.DevArmed'. -/
def devArmedCard : Claim7 := { stood := { row := devArmedRow, standIns := [], harness := (true, "8049d9453541f9b82f341369b79a2573a0e0c7028f90ad2cd329447818c118b9"), looks := true }, kinds := [], alts := [], laidByText := true, laidKinds := [.handle], laidTests := true, laidLooks := .later }
def DevArmedCardSaid : Prop := Claim7.holds Tryd.pinned (.plain (OpenSpec.ofChange devArmedSpec)) devArmedCard

/-- THE TIED CARD OF 'drydocklaw04.ToggleWhole'. -/
def toggleWholeCard : Claim7 := { stood := { row := toggleWholeRow, standIns := [], harness := (true, "8049d9453541f9b82f341369b79a2573a0e0c7028f90ad2cd329447818c118b9"), looks := true }, kinds := [], alts := [], laidByText := true, laidKinds := [.handle], laidTests := true, laidLooks := .later }
def ToggleWholeCardSaid : Prop := Claim7.holds Tryd.pinned (.plain (OpenSpec.ofChange toggleWholeSpec)) toggleWholeCard

/-- THE SECOND FORM's CARD OF 'drydocklaw04.ToggleNewest'. -/
def toggleNewestUptoCard : Claim7 := { stood := { row := toggleNewestUptoRow, standIns := [], harness := (true, "8049d9453541f9b82f341369b79a2573a0e0c7028f90ad2cd329447818c118b9"), looks := true }, kinds := [], alts := [], laidByText := true, laidKinds := [.handle], laidTests := true, laidLooks := .later }
def ToggleNewestUptoCardSaid : Prop := Claim7.holds Tryd.pinned (.plain (OpenSpec.upto toggleNewestSpec)) toggleNewestUptoCard

/-- THE SECOND FORM's CARD OF 'drydocklaw01.DevArmed'. -/
def devArmedUptoCard : Claim7 := { stood := { row := devArmedUptoRow, standIns := [], harness := (true, "8049d9453541f9b82f341369b79a2573a0e0c7028f90ad2cd329447818c118b9"), looks := true }, kinds := [], alts := [], laidByText := true, laidKinds := [.handle], laidTests := true, laidLooks := .later }
def DevArmedUptoCardSaid : Prop := Claim7.holds Tryd.pinned (.plain (OpenSpec.upto devArmedSpec)) devArmedUptoCard

/-- THE SECOND FORM's CARD OF 'drydocklaw04.ToggleWhole'. -/
def toggleWholeUptoCard : Claim7 := { stood := { row := toggleWholeUptoRow, standIns := [], harness := (true, "8049d9453541f9b82f341369b79a2573a0e0c7028f90ad2cd329447818c118b9"), looks := true }, kinds := [], alts := [], laidByText := true, laidKinds := [.handle], laidTests := true, laidLooks := .later }
def ToggleWholeUptoCardSaid : Prop := Claim7.holds Tryd.pinned (.plain (OpenSpec.upto toggleWholeSpec)) toggleWholeUptoCard
end Rows
end Go.Proofs.YtniiokhkmdknaaaDoor

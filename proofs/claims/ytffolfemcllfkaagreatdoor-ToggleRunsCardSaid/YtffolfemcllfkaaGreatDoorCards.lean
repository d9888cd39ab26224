/-
  DERIVED. GIVEN WITH THE SEED: THE CARDS: each row of YtffolfemcllfkaaGreatDoorRows.lean that lists a variable, with what it lists TIED to the program's text (the seventh form; the later family's looks); each row that meets fmt, with fmt's text TOLD by the authors' own Lean function (tested against real Go, not proved from fmt's source: count such statements apart). THE CARD IS WHAT COUNTS. Prove the row's statement (the work); the ties are given (YtffolfemcllfkaaGreatDoorTie.lean); close each card by the builder's one call (the guide's Derived/Test/ToyasCard.lean, 'card_holds'). Laid BY PROGRAM, IN A SANDBOX (cutbox-door.mjs). By AI agents, Wed Nov 11 2026. No macro, syntax, notation, axiom, sorry.
-/
import Derived.Test.YtffolfemcllfkaaGreatDoorRows
import GoSem.ClaimSeven
namespace Go.Proofs.YtffolfemcllfkaaGreatDoor
namespace Rows

/-- THE TIED CARD OF 'drydocklaw04.ToggleRuns'. -/
def toggleRunsCard : Claim7 := { stood := { row := toggleRunsRow, standIns := [], harness := (true, "9af37141c3d99cbdfca9b3c2ecfaee719c91f8adcfcedfcdbf1095ead299d9f7"), looks := true }, kinds := [], alts := [], laidByText := true, laidKinds := [.handle], laidTests := true, laidLooks := .later }
def ToggleRunsCardSaid : Prop := Claim7.holds Tryz.pinned (.plain (OpenSpec.ofChange toggleRunsSpec)) toggleRunsCard

/-- THE TIED CARD OF 'drydocklaw18.ColdReads'. -/
def coldReadsCard : Claim7 := { stood := { row := coldReadsRow, standIns := [], harness := (true, "9af37141c3d99cbdfca9b3c2ecfaee719c91f8adcfcedfcdbf1095ead299d9f7"), looks := true }, kinds := [], alts := [], laidByText := true, laidKinds := [.handle], laidTests := true, laidLooks := .later }
def ColdReadsCardSaid : Prop := Claim7.holds Tryz.pinned (.plain (OpenSpec.ofChange coldReadsSpec)) coldReadsCard

/-- THE TIED CARD OF 'drydocklaw16.LogRuns'. -/
def logRunsCard : Claim7 := { stood := { row := logRunsRow, standIns := [], harness := (true, "9af37141c3d99cbdfca9b3c2ecfaee719c91f8adcfcedfcdbf1095ead299d9f7"), looks := true }, kinds := [], alts := [], laidByText := true, laidKinds := [.handle], laidTests := true, laidLooks := .later }
def LogRunsCardSaid : Prop := Claim7.holds Tryz.pinned (.plain (OpenSpec.ofChange logRunsSpec)) logRunsCard

/-- THE SECOND FORM's CARD OF 'drydocklaw04.ToggleRuns'. -/
def toggleRunsUptoCard : Claim7 := { stood := { row := toggleRunsUptoRow, standIns := [], harness := (true, "9af37141c3d99cbdfca9b3c2ecfaee719c91f8adcfcedfcdbf1095ead299d9f7"), looks := true }, kinds := [], alts := [], laidByText := true, laidKinds := [.handle], laidTests := true, laidLooks := .later }
def ToggleRunsUptoCardSaid : Prop := Claim7.holds Tryz.pinned (.plain (OpenSpec.upto toggleRunsSpec)) toggleRunsUptoCard

/-- THE SECOND FORM's CARD OF 'drydocklaw18.ColdReads'. -/
def coldReadsUptoCard : Claim7 := { stood := { row := coldReadsUptoRow, standIns := [], harness := (true, "9af37141c3d99cbdfca9b3c2ecfaee719c91f8adcfcedfcdbf1095ead299d9f7"), looks := true }, kinds := [], alts := [], laidByText := true, laidKinds := [.handle], laidTests := true, laidLooks := .later }
def ColdReadsUptoCardSaid : Prop := Claim7.holds Tryz.pinned (.plain (OpenSpec.upto coldReadsSpec)) coldReadsUptoCard

/-- THE SECOND FORM's CARD OF 'drydocklaw16.LogRuns'. -/
def logRunsUptoCard : Claim7 := { stood := { row := logRunsUptoRow, standIns := [], harness := (true, "9af37141c3d99cbdfca9b3c2ecfaee719c91f8adcfcedfcdbf1095ead299d9f7"), looks := true }, kinds := [], alts := [], laidByText := true, laidKinds := [.handle], laidTests := true, laidLooks := .later }
def LogRunsUptoCardSaid : Prop := Claim7.holds Tryz.pinned (.plain (OpenSpec.upto logRunsSpec)) logRunsUptoCard
end Rows
end Go.Proofs.YtffolfemcllfkaaGreatDoor

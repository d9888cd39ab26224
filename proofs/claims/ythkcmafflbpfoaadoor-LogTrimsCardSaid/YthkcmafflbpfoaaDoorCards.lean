/-
  DERIVED. GIVEN WITH THE SEED: THE CARDS: each row of YthkcmafflbpfoaaDoorRows.lean that lists a variable, with what it lists TIED to the program's text (the seventh form; the later family's looks); each row that meets fmt, with fmt's text TOLD by the authors' own Lean function (tested against real Go, not proved from fmt's source: count such statements apart). THE CARD IS WHAT COUNTS. Prove the row's statement (the work); the ties are given (YthkcmafflbpfoaaDoorTie.lean); close each card by the builder's one call (the guide's Derived/Test/ToyasCard.lean, 'card_holds'). Laid BY PROGRAM, IN A SANDBOX (cutbox-door.mjs). By AI agents, Wed Nov 11 2026. No macro, syntax, notation, axiom, sorry.
-/
import Derived.Test.YthkcmafflbpfoaaDoorRows
import GoSem.ClaimSeven
namespace Go.Proofs.YthkcmafflbpfoaaDoor
namespace Rows

/-- THE TIED CARD OF 'drydocklaw16.LogTrims'. -/
def logTrimsCard : Claim7 := { stood := { row := logTrimsRow, standIns := [], harness := (true, "e9a48d1d6fb46542221212671f4ad6604b5cfa2848d7359ab5f0a37bd26b2e57"), looks := true }, kinds := [], alts := [], laidByText := true, laidKinds := [.handle], laidTests := true, laidLooks := .later }
def LogTrimsCardSaid : Prop := Claim7.holds Tryd.pinned (.plain (OpenSpec.ofChange logTrimsSpec)) logTrimsCard

/-- THE TIED CARD OF 'drydocklaw16.LogRound'. -/
def logRoundCard : Claim7 := { stood := { row := logRoundRow, standIns := [], harness := (true, "e9a48d1d6fb46542221212671f4ad6604b5cfa2848d7359ab5f0a37bd26b2e57"), looks := true }, kinds := [], alts := [], laidByText := true, laidKinds := [.handle], laidTests := true, laidLooks := .later }
def LogRoundCardSaid : Prop := Claim7.holds Tryd.pinned (.plain (OpenSpec.ofChange logRoundSpec)) logRoundCard

/-- THE SECOND FORM's CARD OF 'drydocklaw16.LogTrims'. -/
def logTrimsUptoCard : Claim7 := { stood := { row := logTrimsUptoRow, standIns := [], harness := (true, "e9a48d1d6fb46542221212671f4ad6604b5cfa2848d7359ab5f0a37bd26b2e57"), looks := true }, kinds := [], alts := [], laidByText := true, laidKinds := [.handle], laidTests := true, laidLooks := .later }
def LogTrimsUptoCardSaid : Prop := Claim7.holds Tryd.pinned (.plain (OpenSpec.upto logTrimsSpec)) logTrimsUptoCard

/-- THE SECOND FORM's CARD OF 'drydocklaw16.LogRound'. -/
def logRoundUptoCard : Claim7 := { stood := { row := logRoundUptoRow, standIns := [], harness := (true, "e9a48d1d6fb46542221212671f4ad6604b5cfa2848d7359ab5f0a37bd26b2e57"), looks := true }, kinds := [], alts := [], laidByText := true, laidKinds := [.handle], laidTests := true, laidLooks := .later }
def LogRoundUptoCardSaid : Prop := Claim7.holds Tryd.pinned (.plain (OpenSpec.upto logRoundSpec)) logRoundUptoCard
end Rows
end Go.Proofs.YthkcmafflbpfoaaDoor

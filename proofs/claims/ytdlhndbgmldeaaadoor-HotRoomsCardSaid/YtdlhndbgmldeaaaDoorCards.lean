/-
  DERIVED. GIVEN WITH THE SEED: THE CARDS: each row of YtdlhndbgmldeaaaDoorRows.lean that lists a variable, with what it lists TIED to the program's text (the seventh form; the later family's looks); each row that meets fmt, with fmt's text TOLD by the authors' own Lean function (tested against real Go, not proved from fmt's source: count such statements apart). THE CARD IS WHAT COUNTS. Prove the row's statement (the work); the ties are given (YtdlhndbgmldeaaaDoorTie.lean); close each card by the builder's one call (the guide's Derived/Test/ToyasCard.lean, 'card_holds'). Laid BY PROGRAM, IN A SANDBOX (cutbox-door.mjs). By AI agents, Wed Nov 11 2026. No macro, syntax, notation, axiom, sorry.
-/
import Derived.Test.YtdlhndbgmldeaaaDoorRows
import GoSem.ClaimSeven
namespace Go.Proofs.YtdlhndbgmldeaaaDoor
namespace Rows

/-- THE TIED CARD OF 'drydocklaw17.HotRooms'. -/
def hotRoomsCard : Claim7 := { stood := { row := hotRoomsRow, standIns := [], harness := (true, "a3dae833bf8f960a116c85803bb22f5e20053916eac3f6d29e88bac36e1ad3c2"), looks := true }, kinds := [], alts := [], laidByText := true, laidKinds := [.handle], laidTests := true, laidLooks := .later }
def HotRoomsCardSaid : Prop := Claim7.holds Tryd.pinned (.plain (OpenSpec.ofChange hotRoomsSpec)) hotRoomsCard

/-- THE TIED CARD OF 'drydocklaw17.HotSpoilt'. -/
def hotSpoiltCard : Claim7 := { stood := { row := hotSpoiltRow, standIns := [], harness := (true, "a3dae833bf8f960a116c85803bb22f5e20053916eac3f6d29e88bac36e1ad3c2"), looks := true }, kinds := [], alts := [], laidByText := true, laidKinds := [.handle], laidTests := true, laidLooks := .later }
def HotSpoiltCardSaid : Prop := Claim7.holds Tryd.pinned (.plain (OpenSpec.ofChange hotSpoiltSpec)) hotSpoiltCard

/-- THE TIED CARD OF 'drydocklaw17.HotReads'. -/
def hotReadsCard : Claim7 := { stood := { row := hotReadsRow, standIns := [], harness := (true, "a3dae833bf8f960a116c85803bb22f5e20053916eac3f6d29e88bac36e1ad3c2"), looks := true }, kinds := [], alts := [], laidByText := true, laidKinds := [.handle], laidTests := true, laidLooks := .later }
def HotReadsCardSaid : Prop := Claim7.holds Tryd.pinned (.plain (OpenSpec.ofChange hotReadsSpec)) hotReadsCard

/-- THE SECOND FORM's CARD OF 'drydocklaw17.HotRooms'. -/
def hotRoomsUptoCard : Claim7 := { stood := { row := hotRoomsUptoRow, standIns := [], harness := (true, "a3dae833bf8f960a116c85803bb22f5e20053916eac3f6d29e88bac36e1ad3c2"), looks := true }, kinds := [], alts := [], laidByText := true, laidKinds := [.handle], laidTests := true, laidLooks := .later }
def HotRoomsUptoCardSaid : Prop := Claim7.holds Tryd.pinned (.plain (OpenSpec.upto hotRoomsSpec)) hotRoomsUptoCard

/-- THE SECOND FORM's CARD OF 'drydocklaw17.HotSpoilt'. -/
def hotSpoiltUptoCard : Claim7 := { stood := { row := hotSpoiltUptoRow, standIns := [], harness := (true, "a3dae833bf8f960a116c85803bb22f5e20053916eac3f6d29e88bac36e1ad3c2"), looks := true }, kinds := [], alts := [], laidByText := true, laidKinds := [.handle], laidTests := true, laidLooks := .later }
def HotSpoiltUptoCardSaid : Prop := Claim7.holds Tryd.pinned (.plain (OpenSpec.upto hotSpoiltSpec)) hotSpoiltUptoCard

/-- THE SECOND FORM's CARD OF 'drydocklaw17.HotReads'. -/
def hotReadsUptoCard : Claim7 := { stood := { row := hotReadsUptoRow, standIns := [], harness := (true, "a3dae833bf8f960a116c85803bb22f5e20053916eac3f6d29e88bac36e1ad3c2"), looks := true }, kinds := [], alts := [], laidByText := true, laidKinds := [.handle], laidTests := true, laidLooks := .later }
def HotReadsUptoCardSaid : Prop := Claim7.holds Tryd.pinned (.plain (OpenSpec.upto hotReadsSpec)) hotReadsUptoCard
end Rows
end Go.Proofs.YtdlhndbgmldeaaaDoor

/-
  DERIVED. GIVEN WITH THE SEED: THE CARDS: each row of YtagioimkpdcokaaDoorRows.lean that lists a variable, with what it lists TIED to the program's text (the seventh form; the later family's looks); each row that meets fmt, with fmt's text TOLD by the authors' own Lean function (tested against real Go, not proved from fmt's source: count such statements apart). THE CARD IS WHAT COUNTS. Prove the row's statement (the work); the ties are given (YtagioimkpdcokaaDoorTie.lean); close each card by the builder's one call (the guide's Derived/Test/ToyasCard.lean, 'card_holds'). Laid BY PROGRAM, IN A SANDBOX (cutbox-door.mjs). By AI agents, Wed Nov 11 2026. No macro, syntax, notation, axiom, sorry.
-/
import Derived.Test.YtagioimkpdcokaaDoorRows
import GoSem.ClaimSeven
namespace Go.Proofs.YtagioimkpdcokaaDoor
namespace Rows

/-- THE TIED CARD OF 'drydocklaw17.HotRooms'. -/
def hotRoomsCard : Claim7 := { stood := { row := hotRoomsRow, standIns := [], harness := (true, "b594ce343a5f6488e08205b15ded5ce657f65a140a06ccd5560650e6f8373f7f"), looks := true }, kinds := [], alts := [], laidByText := true, laidKinds := [.handle], laidTests := true, laidLooks := .later }
def HotRoomsCardSaid : Prop := Claim7.holds Tryd.pinned (.plain (OpenSpec.ofChange hotRoomsSpec)) hotRoomsCard

/-- THE TIED CARD OF 'drydocklaw17.HotSpoilt'. -/
def hotSpoiltCard : Claim7 := { stood := { row := hotSpoiltRow, standIns := [], harness := (true, "b594ce343a5f6488e08205b15ded5ce657f65a140a06ccd5560650e6f8373f7f"), looks := true }, kinds := [], alts := [], laidByText := true, laidKinds := [.handle], laidTests := true, laidLooks := .later }
def HotSpoiltCardSaid : Prop := Claim7.holds Tryd.pinned (.plain (OpenSpec.ofChange hotSpoiltSpec)) hotSpoiltCard

/-- THE TIED CARD OF 'drydocklaw04.ToggleNewest'. -/
def toggleNewestCard : Claim7 := { stood := { row := toggleNewestRow, standIns := [], harness := (true, "b594ce343a5f6488e08205b15ded5ce657f65a140a06ccd5560650e6f8373f7f"), looks := true }, kinds := [], alts := [], laidByText := true, laidKinds := [.handle], laidTests := true, laidLooks := .later }
def ToggleNewestCardSaid : Prop := Claim7.holds Tryd.pinned (.plain (OpenSpec.ofChange toggleNewestSpec)) toggleNewestCard

/-- THE TIED CARD OF 'drydocklaw16.LogTrims'. -/
def logTrimsCard : Claim7 := { stood := { row := logTrimsRow, standIns := [], harness := (true, "b594ce343a5f6488e08205b15ded5ce657f65a140a06ccd5560650e6f8373f7f"), looks := true }, kinds := [], alts := [], laidByText := true, laidKinds := [.handle], laidTests := true, laidLooks := .later }
def LogTrimsCardSaid : Prop := Claim7.holds Tryd.pinned (.plain (OpenSpec.ofChange logTrimsSpec)) logTrimsCard

/-- THE TIED CARD OF 'drydocklaw17.HotReads'. -/
def hotReadsCard : Claim7 := { stood := { row := hotReadsRow, standIns := [], harness := (true, "b594ce343a5f6488e08205b15ded5ce657f65a140a06ccd5560650e6f8373f7f"), looks := true }, kinds := [], alts := [], laidByText := true, laidKinds := [.handle], laidTests := true, laidLooks := .later }
def HotReadsCardSaid : Prop := Claim7.holds Tryd.pinned (.plain (OpenSpec.ofChange hotReadsSpec)) hotReadsCard

/-- THE TIED CARD OF 'drydocklaw16.LogRound'. -/
def logRoundCard : Claim7 := { stood := { row := logRoundRow, standIns := [], harness := (true, "b594ce343a5f6488e08205b15ded5ce657f65a140a06ccd5560650e6f8373f7f"), looks := true }, kinds := [], alts := [], laidByText := true, laidKinds := [.handle], laidTests := true, laidLooks := .later }
def LogRoundCardSaid : Prop := Claim7.holds Tryd.pinned (.plain (OpenSpec.ofChange logRoundSpec)) logRoundCard

/-- THE TIED CARD OF 'drydocklaw01.DevWrites'. -/
def devWritesCard : Claim7 := { stood := { row := devWritesRow, standIns := [], harness := (true, "b594ce343a5f6488e08205b15ded5ce657f65a140a06ccd5560650e6f8373f7f"), looks := true }, kinds := [], alts := [], laidByText := true, laidKinds := [.handle], laidTests := true, laidLooks := .later }
def DevWritesCardSaid : Prop := Claim7.holds Tryd.pinned (.plain (OpenSpec.ofChange devWritesSpec)) devWritesCard

/-- THE TIED CARD OF 'drydocklaw01.DevArmed'. -/
def devArmedCard : Claim7 := { stood := { row := devArmedRow, standIns := [], harness := (true, "b594ce343a5f6488e08205b15ded5ce657f65a140a06ccd5560650e6f8373f7f"), looks := true }, kinds := [], alts := [], laidByText := true, laidKinds := [.handle], laidTests := true, laidLooks := .later }
def DevArmedCardSaid : Prop := Claim7.holds Tryd.pinned (.plain (OpenSpec.ofChange devArmedSpec)) devArmedCard

/-- THE TIED CARD OF 'drydocklaw04.ToggleWhole'. -/
def toggleWholeCard : Claim7 := { stood := { row := toggleWholeRow, standIns := [], harness := (true, "b594ce343a5f6488e08205b15ded5ce657f65a140a06ccd5560650e6f8373f7f"), looks := true }, kinds := [], alts := [], laidByText := true, laidKinds := [.handle], laidTests := true, laidLooks := .later }
def ToggleWholeCardSaid : Prop := Claim7.holds Tryd.pinned (.plain (OpenSpec.ofChange toggleWholeSpec)) toggleWholeCard

/-- THE SECOND FORM's CARD OF 'drydocklaw17.HotRooms'. -/
def hotRoomsUptoCard : Claim7 := { stood := { row := hotRoomsUptoRow, standIns := [], harness := (true, "b594ce343a5f6488e08205b15ded5ce657f65a140a06ccd5560650e6f8373f7f"), looks := true }, kinds := [], alts := [], laidByText := true, laidKinds := [.handle], laidTests := true, laidLooks := .later }
def HotRoomsUptoCardSaid : Prop := Claim7.holds Tryd.pinned (.plain (OpenSpec.upto hotRoomsSpec)) hotRoomsUptoCard

/-- THE SECOND FORM's CARD OF 'drydocklaw17.HotSpoilt'. -/
def hotSpoiltUptoCard : Claim7 := { stood := { row := hotSpoiltUptoRow, standIns := [], harness := (true, "b594ce343a5f6488e08205b15ded5ce657f65a140a06ccd5560650e6f8373f7f"), looks := true }, kinds := [], alts := [], laidByText := true, laidKinds := [.handle], laidTests := true, laidLooks := .later }
def HotSpoiltUptoCardSaid : Prop := Claim7.holds Tryd.pinned (.plain (OpenSpec.upto hotSpoiltSpec)) hotSpoiltUptoCard

/-- THE SECOND FORM's CARD OF 'drydocklaw04.ToggleNewest'. -/
def toggleNewestUptoCard : Claim7 := { stood := { row := toggleNewestUptoRow, standIns := [], harness := (true, "b594ce343a5f6488e08205b15ded5ce657f65a140a06ccd5560650e6f8373f7f"), looks := true }, kinds := [], alts := [], laidByText := true, laidKinds := [.handle], laidTests := true, laidLooks := .later }
def ToggleNewestUptoCardSaid : Prop := Claim7.holds Tryd.pinned (.plain (OpenSpec.upto toggleNewestSpec)) toggleNewestUptoCard

/-- THE SECOND FORM's CARD OF 'drydocklaw16.LogTrims'. -/
def logTrimsUptoCard : Claim7 := { stood := { row := logTrimsUptoRow, standIns := [], harness := (true, "b594ce343a5f6488e08205b15ded5ce657f65a140a06ccd5560650e6f8373f7f"), looks := true }, kinds := [], alts := [], laidByText := true, laidKinds := [.handle], laidTests := true, laidLooks := .later }
def LogTrimsUptoCardSaid : Prop := Claim7.holds Tryd.pinned (.plain (OpenSpec.upto logTrimsSpec)) logTrimsUptoCard

/-- THE SECOND FORM's CARD OF 'drydocklaw17.HotReads'. -/
def hotReadsUptoCard : Claim7 := { stood := { row := hotReadsUptoRow, standIns := [], harness := (true, "b594ce343a5f6488e08205b15ded5ce657f65a140a06ccd5560650e6f8373f7f"), looks := true }, kinds := [], alts := [], laidByText := true, laidKinds := [.handle], laidTests := true, laidLooks := .later }
def HotReadsUptoCardSaid : Prop := Claim7.holds Tryd.pinned (.plain (OpenSpec.upto hotReadsSpec)) hotReadsUptoCard

/-- THE SECOND FORM's CARD OF 'drydocklaw16.LogRound'. -/
def logRoundUptoCard : Claim7 := { stood := { row := logRoundUptoRow, standIns := [], harness := (true, "b594ce343a5f6488e08205b15ded5ce657f65a140a06ccd5560650e6f8373f7f"), looks := true }, kinds := [], alts := [], laidByText := true, laidKinds := [.handle], laidTests := true, laidLooks := .later }
def LogRoundUptoCardSaid : Prop := Claim7.holds Tryd.pinned (.plain (OpenSpec.upto logRoundSpec)) logRoundUptoCard

/-- THE SECOND FORM's CARD OF 'drydocklaw01.DevWrites'. -/
def devWritesUptoCard : Claim7 := { stood := { row := devWritesUptoRow, standIns := [], harness := (true, "b594ce343a5f6488e08205b15ded5ce657f65a140a06ccd5560650e6f8373f7f"), looks := true }, kinds := [], alts := [], laidByText := true, laidKinds := [.handle], laidTests := true, laidLooks := .later }
def DevWritesUptoCardSaid : Prop := Claim7.holds Tryd.pinned (.plain (OpenSpec.upto devWritesSpec)) devWritesUptoCard

/-- THE SECOND FORM's CARD OF 'drydocklaw01.DevArmed'. -/
def devArmedUptoCard : Claim7 := { stood := { row := devArmedUptoRow, standIns := [], harness := (true, "b594ce343a5f6488e08205b15ded5ce657f65a140a06ccd5560650e6f8373f7f"), looks := true }, kinds := [], alts := [], laidByText := true, laidKinds := [.handle], laidTests := true, laidLooks := .later }
def DevArmedUptoCardSaid : Prop := Claim7.holds Tryd.pinned (.plain (OpenSpec.upto devArmedSpec)) devArmedUptoCard

/-- THE SECOND FORM's CARD OF 'drydocklaw04.ToggleWhole'. -/
def toggleWholeUptoCard : Claim7 := { stood := { row := toggleWholeUptoRow, standIns := [], harness := (true, "b594ce343a5f6488e08205b15ded5ce657f65a140a06ccd5560650e6f8373f7f"), looks := true }, kinds := [], alts := [], laidByText := true, laidKinds := [.handle], laidTests := true, laidLooks := .later }
def ToggleWholeUptoCardSaid : Prop := Claim7.holds Tryd.pinned (.plain (OpenSpec.upto toggleWholeSpec)) toggleWholeUptoCard
end Rows
end Go.Proofs.YtagioimkpdcokaaDoor

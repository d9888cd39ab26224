/-
  DERIVED. GIVEN WITH THE SEED: THE CARDS: each row of YtjfeibbghhjjeaaDoorRows.lean that lists a variable, with what it lists TIED to the program's text (the seventh form; the later family's looks); each row that meets fmt, with fmt's text TOLD by the authors' own Lean function (tested against real Go, not proved from fmt's source: count such statements apart). THE CARD IS WHAT COUNTS. Prove the row's statement (the work); the ties are given (YtjfeibbghhjjeaaDoorTie.lean); close each card by the builder's one call (the guide's Derived/Test/ToyasCard.lean, 'card_holds'). Laid BY PROGRAM, IN A SANDBOX (cutbox-door.mjs). By AI agents, Wed Nov 11 2026. No macro, syntax, notation, axiom, sorry.
-/
import Derived.Test.YtjfeibbghhjjeaaDoorRows
import GoSem.ClaimSeven
namespace Go.Proofs.YtjfeibbghhjjeaaDoor
namespace Rows

/-- THE TIED CARD OF 'drydocklaw17.HotReads'. -/
def hotReadsCard : Claim7 := { stood := { row := hotReadsRow, standIns := [], harness := (true, "d9e700ffcff853db7a180f6c89df34ddf576abdc4809b2eca3d689e195d33ccd"), looks := true }, kinds := [], alts := [], laidByText := true, laidKinds := [.handle], laidTests := true, laidLooks := .later }
def HotReadsCardSaid : Prop := Claim7.holds Tryd.pinned (.plain (OpenSpec.ofChange hotReadsSpec)) hotReadsCard

/-- THE SECOND FORM's CARD OF 'drydocklaw17.HotReads'. -/
def hotReadsUptoCard : Claim7 := { stood := { row := hotReadsUptoRow, standIns := [], harness := (true, "d9e700ffcff853db7a180f6c89df34ddf576abdc4809b2eca3d689e195d33ccd"), looks := true }, kinds := [], alts := [], laidByText := true, laidKinds := [.handle], laidTests := true, laidLooks := .later }
def HotReadsUptoCardSaid : Prop := Claim7.holds Tryd.pinned (.plain (OpenSpec.upto hotReadsSpec)) hotReadsUptoCard
end Rows
end Go.Proofs.YtjfeibbghhjjeaaDoor

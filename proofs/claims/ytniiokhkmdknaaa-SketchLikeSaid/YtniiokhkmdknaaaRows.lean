/-
  No cell of these rows narrows 'for every input' (looked for: loops, veiled, ifaces, maps, wideKeys, modest, calm, conditions, laid).
  DERIVED. THE GIVEN ROWS OF THIS SEAT. 3 by the template 'for every input the law returns true; each argument reads behind the call as it read before'; 0 by the template 'total and deterministic' (their statements: YtniiokhkmdknaaaTotals.lean).
  GIVEN WITH THE SEED: the statements are not yours to turn. If you find one false, say at which input.
  Laid BY PROGRAM, IN A SANDBOX (cutbox-rows.mjs): the forced cells as the released guide's own fill.sh prints them over the translation d86903df92627cd0… (all of the seat's roots in one cut). By AI agents, Wed Nov 11 2026. No macro, syntax, notation, axiom, sorry.
-/
import Derived.Test.YtniiokhkmdknaaaChecked
import GoSem.Claim
import GoSem.ClaimJoined
import GoSem.ClaimMapViews
import Derived.JoinedTies
import Derived.KernelRfl
namespace Go.Proofs.Ytniiokhkmdknaaa
/- THE CELL 'sum', in the pinned program and in every row, IS THE sha256 OF THE DUMP (.gsa) THAT YtniiokhkmdknaaaProg.lean LOADS. Nothing in Lean hashes anything: it is a label: what it is worth is what the hold of that sum in a sandbox is worth. -/
noncomputable def Try.pinned : Pinned := { name := "ytniiokhkmdknaaa", sum := "d86903df92627cd0d01486180193ff8629423fc15e2feb9b1b1590fb7df10b38", checked := Try.checked }
namespace Rows
def none {H : Type} : Left H := { results := [], args := [] }

/-- 'drydocklaw09.SketchBlocks': WHATEVER THE INPUT: true; the input reads as it did. -/
def sketchBlocksSpec : ChangeSpec := { name := "sketchBlocks", fn := fun _ => fun
  | [d1, d2, d3] => { results := [.lit (.bool true)], args := [d1, d2, d3] }
  | _ => none }
def sketchBlocksRow : OpenClaim := { program := "ytniiokhkmdknaaa", sum := "d86903df92627cd0d01486180193ff8629423fc15e2feb9b1b1590fb7df10b38", func := "drydock/drydocklaw09.SketchBlocks", spec := "sketchBlocks", apart := false }
def SketchBlocksSaid : Prop := sketchBlocksRow.holds Try.pinned (OpenSpec.ofChange sketchBlocksSpec)

/-- ITS FALSE NEIGHBOUR: 'it returns false'. Refute it at one input. -/
def sketchBlocksWrong : ChangeSpec := { name := "sketchBlocks", fn := fun _ => fun
  | [d1, d2, d3] => { results := [.lit (.bool false)], args := [d1, d2, d3] }
  | _ => none }
def SketchBlocksWrongFalsely : Prop := sketchBlocksRow.holds Try.pinned (OpenSpec.ofChange sketchBlocksWrong)

/-- 'drydocklaw09.SketchLike': WHATEVER THE INPUT: true; the input reads as it did. -/
def sketchLikeSpec : ChangeSpec := { name := "sketchLike", fn := fun _ => fun
  | [d1, d2] => { results := [.lit (.bool true)], args := [d1, d2] }
  | _ => none }
def sketchLikeRow : OpenClaim := { program := "ytniiokhkmdknaaa", sum := "d86903df92627cd0d01486180193ff8629423fc15e2feb9b1b1590fb7df10b38", func := "drydock/drydocklaw09.SketchLike", spec := "sketchLike", apart := false }
def SketchLikeSaid : Prop := sketchLikeRow.holds Try.pinned (OpenSpec.ofChange sketchLikeSpec)

/-- ITS FALSE NEIGHBOUR: 'it returns false'. Refute it at one input. -/
def sketchLikeWrong : ChangeSpec := { name := "sketchLike", fn := fun _ => fun
  | [d1, d2] => { results := [.lit (.bool false)], args := [d1, d2] }
  | _ => none }
def SketchLikeWrongFalsely : Prop := sketchLikeRow.holds Try.pinned (OpenSpec.ofChange sketchLikeWrong)

/-- 'drydocklaw04.ToggleRooms': WHATEVER THE INPUT: true; the input reads as it did. -/
def toggleRoomsSpec : ChangeSpec := { name := "toggleRooms", fn := fun _ => fun
  | [d] => { results := [.lit (.bool true)], args := [d] }
  | _ => none }
def toggleRoomsRow : OpenClaim := { program := "ytniiokhkmdknaaa", sum := "d86903df92627cd0d01486180193ff8629423fc15e2feb9b1b1590fb7df10b38", func := "drydock/drydocklaw04.ToggleRooms", spec := "toggleRooms", inPlace := ["internal/reflectlite.TypeOf"], unfollowed := true, recurses := true, apart := false }
def ToggleRoomsSaid : Prop := toggleRoomsRow.holds Try.pinned (OpenSpec.ofChange toggleRoomsSpec)

/-- ITS FALSE NEIGHBOUR: 'it returns false'. Refute it at one input. -/
def toggleRoomsWrong : ChangeSpec := { name := "toggleRooms", fn := fun _ => fun
  | [d] => { results := [.lit (.bool false)], args := [d] }
  | _ => none }
def ToggleRoomsWrongFalsely : Prop := toggleRoomsRow.holds Try.pinned (OpenSpec.ofChange toggleRoomsWrong)

/- THE SECOND FORM. 'bulk': how many values and letters a reading holds, each counted each time it is reached (what is shared counts as often as it is met; a slice's spare places count too). A statement '..UptoSaid' is the law's where the arguments, and the package variables that the reading takes, are together of bulk at most 1048576: NARROWER than '..Said'. Prove '..Said' where nothing that the law and all that it calls make is longer than what came in: it says more and counts as full. Else prove '..UptoSaid'. A law counts once. -/
mutual
def uptoBulk {H : Type} : DataW H → Nat
  | .lit (.string bytes) => bytes.length + 1
  | .lit _ => 1
  | .nil => 1
  | .ptr d => uptoBulk d + 1
  | .slice elems spare => uptoBulkAll elems + uptoBulkAll spare + 1
  | .agg parts => uptoBulkAll parts + 1
  | .iface _ d => uptoBulk d + 1
  | .map entries => uptoBulkEntries entries + 1
  | .held _ => 1
def uptoBulkAll {H : Type} : List (DataW H) → Nat
  | [] => 0
  | d :: r => uptoBulk d + uptoBulkAll r
def uptoBulkEntries {H : Type} : List (Lit × DataW H) → Nat
  | [] => 0
  | x :: r => uptoBulkEntry x + uptoBulkEntries r
def uptoBulkEntry {H : Type} : Lit × DataW H → Nat
  | (.string bytes, d) => bytes.length + uptoBulk d + 1
  | (_, d) => uptoBulk d + 1
 end
def uptoSmall : (H : Type) → List (DataW H) → Bool := fun _ ds => decide (uptoBulkAll ds ≤ 1048576)
def OpenSpec.upto (s : _root_.Go.ChangeSpec) : _root_.Go.OpenSpec := { _root_.Go.OpenSpec.ofChange s with cond := some uptoSmall }

/-- 'drydocklaw09.SketchBlocks', WHERE WHAT IT READS IS OF BULK AT MOST 1048576: true; the input reads as it did. -/
def sketchBlocksUptoRow : OpenClaim := { program := "ytniiokhkmdknaaa", sum := "d86903df92627cd0d01486180193ff8629423fc15e2feb9b1b1590fb7df10b38", func := "drydock/drydocklaw09.SketchBlocks", spec := "sketchBlocks", apart := false, narrowed := true }
def SketchBlocksUptoSaid : Prop := sketchBlocksUptoRow.holds Try.pinned (OpenSpec.upto sketchBlocksSpec)

/-- 'drydocklaw09.SketchLike', WHERE WHAT IT READS IS OF BULK AT MOST 1048576: true; the input reads as it did. -/
def sketchLikeUptoRow : OpenClaim := { program := "ytniiokhkmdknaaa", sum := "d86903df92627cd0d01486180193ff8629423fc15e2feb9b1b1590fb7df10b38", func := "drydock/drydocklaw09.SketchLike", spec := "sketchLike", apart := false, narrowed := true }
def SketchLikeUptoSaid : Prop := sketchLikeUptoRow.holds Try.pinned (OpenSpec.upto sketchLikeSpec)

/-- 'drydocklaw04.ToggleRooms', WHERE WHAT IT READS IS OF BULK AT MOST 1048576: true; the input reads as it did. -/
def toggleRoomsUptoRow : OpenClaim := { program := "ytniiokhkmdknaaa", sum := "d86903df92627cd0d01486180193ff8629423fc15e2feb9b1b1590fb7df10b38", func := "drydock/drydocklaw04.ToggleRooms", spec := "toggleRooms", inPlace := ["internal/reflectlite.TypeOf"], unfollowed := true, recurses := true, apart := false, narrowed := true }
def ToggleRoomsUptoSaid : Prop := toggleRoomsUptoRow.holds Try.pinned (OpenSpec.upto toggleRoomsSpec)

end Rows
end Go.Proofs.Ytniiokhkmdknaaa

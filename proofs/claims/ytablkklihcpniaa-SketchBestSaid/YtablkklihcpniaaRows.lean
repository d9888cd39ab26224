/-
  No cell of these rows narrows 'for every input' (looked for: loops, veiled, ifaces, maps, wideKeys, modest, calm, conditions, laid).
  DERIVED. THE GIVEN ROWS OF THIS SEAT. 5 by the template 'for every input the law returns true; each argument reads behind the call as it read before'; 0 by the template 'total and deterministic' (their statements: YtablkklihcpniaaTotals.lean).
  GIVEN WITH THE SEED: the statements are not yours to turn. If you find one false, say at which input.
  Laid BY PROGRAM, IN A SANDBOX (cutbox-rows.mjs): the forced cells as the released guide's own fill.sh prints them over the translation fb3c80b2bdc3e1be… (all of the seat's roots in one cut). By AI agents, Wed Nov 11 2026. No macro, syntax, notation, axiom, sorry.
-/
import Derived.Test.YtablkklihcpniaaChecked
import GoSem.Claim
import GoSem.ClaimJoined
import GoSem.ClaimMapViews
import Derived.JoinedTies
import Derived.KernelRfl
namespace Go.Proofs.Ytablkklihcpniaa
/- THE CELL 'sum', in the pinned program and in every row, IS THE sha256 OF THE DUMP (.gsa) THAT YtablkklihcpniaaProg.lean LOADS. Nothing in Lean hashes anything: it is a label: what it is worth is what the hold of that sum in a sandbox is worth. -/
noncomputable def Try.pinned : Pinned := { name := "ytablkklihcpniaa", sum := "fb3c80b2bdc3e1beaccea8ed02d1c3b9693fa988b7b85f2d09679eb02fab4bb3", checked := Try.checked }
namespace Rows
def none {H : Type} : Left H := { results := [], args := [] }

/-- 'drydocklaw09.SketchBlocks': WHATEVER THE INPUT: true; the input reads as it did. -/
def sketchBlocksSpec : ChangeSpec := { name := "sketchBlocks", fn := fun _ => fun
  | [d1, d2, d3] => { results := [.lit (.bool true)], args := [d1, d2, d3] }
  | _ => none }
def sketchBlocksRow : OpenClaim := { program := "ytablkklihcpniaa", sum := "fb3c80b2bdc3e1beaccea8ed02d1c3b9693fa988b7b85f2d09679eb02fab4bb3", func := "drydock/drydocklaw09.SketchBlocks", spec := "sketchBlocks", apart := false }
def SketchBlocksSaid : Prop := sketchBlocksRow.holds Try.pinned (OpenSpec.ofChange sketchBlocksSpec)

/-- ITS FALSE NEIGHBOUR: 'it returns false'. Refute it at one input. -/
def sketchBlocksWrong : ChangeSpec := { name := "sketchBlocks", fn := fun _ => fun
  | [d1, d2, d3] => { results := [.lit (.bool false)], args := [d1, d2, d3] }
  | _ => none }
def SketchBlocksWrongFalsely : Prop := sketchBlocksRow.holds Try.pinned (OpenSpec.ofChange sketchBlocksWrong)

/-- 'drydocklaw09.SketchBest': WHATEVER THE INPUT: true; the input reads as it did. -/
def sketchBestSpec : ChangeSpec := { name := "sketchBest", fn := fun _ => fun
  | [d1, d2] => { results := [.lit (.bool true)], args := [d1, d2] }
  | _ => none }
def sketchBestRow : OpenClaim := { program := "ytablkklihcpniaa", sum := "fb3c80b2bdc3e1beaccea8ed02d1c3b9693fa988b7b85f2d09679eb02fab4bb3", func := "drydock/drydocklaw09.SketchBest", spec := "sketchBest", apart := false }
def SketchBestSaid : Prop := sketchBestRow.holds Try.pinned (OpenSpec.ofChange sketchBestSpec)

/-- ITS FALSE NEIGHBOUR: 'it returns false'. Refute it at one input. -/
def sketchBestWrong : ChangeSpec := { name := "sketchBest", fn := fun _ => fun
  | [d1, d2] => { results := [.lit (.bool false)], args := [d1, d2] }
  | _ => none }
def SketchBestWrongFalsely : Prop := sketchBestRow.holds Try.pinned (OpenSpec.ofChange sketchBestWrong)

/-- 'drydocklaw09.SketchLike': WHATEVER THE INPUT: true; the input reads as it did. -/
def sketchLikeSpec : ChangeSpec := { name := "sketchLike", fn := fun _ => fun
  | [d1, d2] => { results := [.lit (.bool true)], args := [d1, d2] }
  | _ => none }
def sketchLikeRow : OpenClaim := { program := "ytablkklihcpniaa", sum := "fb3c80b2bdc3e1beaccea8ed02d1c3b9693fa988b7b85f2d09679eb02fab4bb3", func := "drydock/drydocklaw09.SketchLike", spec := "sketchLike", apart := false }
def SketchLikeSaid : Prop := sketchLikeRow.holds Try.pinned (OpenSpec.ofChange sketchLikeSpec)

/-- ITS FALSE NEIGHBOUR: 'it returns false'. Refute it at one input. -/
def sketchLikeWrong : ChangeSpec := { name := "sketchLike", fn := fun _ => fun
  | [d1, d2] => { results := [.lit (.bool false)], args := [d1, d2] }
  | _ => none }
def SketchLikeWrongFalsely : Prop := sketchLikeRow.holds Try.pinned (OpenSpec.ofChange sketchLikeWrong)

/-- 'drydocklaw09.SketchWindows': WHATEVER THE INPUT: true; the input reads as it did. -/
def sketchWindowsSpec : ChangeSpec := { name := "sketchWindows", fn := fun _ => fun
  | [d1, d2] => { results := [.lit (.bool true)], args := [d1, d2] }
  | _ => none }
def sketchWindowsRow : OpenClaim := { program := "ytablkklihcpniaa", sum := "fb3c80b2bdc3e1beaccea8ed02d1c3b9693fa988b7b85f2d09679eb02fab4bb3", func := "drydock/drydocklaw09.SketchWindows", spec := "sketchWindows", apart := false }
def SketchWindowsSaid : Prop := sketchWindowsRow.holds Try.pinned (OpenSpec.ofChange sketchWindowsSpec)

/-- ITS FALSE NEIGHBOUR: 'it returns false'. Refute it at one input. -/
def sketchWindowsWrong : ChangeSpec := { name := "sketchWindows", fn := fun _ => fun
  | [d1, d2] => { results := [.lit (.bool false)], args := [d1, d2] }
  | _ => none }
def SketchWindowsWrongFalsely : Prop := sketchWindowsRow.holds Try.pinned (OpenSpec.ofChange sketchWindowsWrong)

/-- 'drydocklaw09.SketchAlike': WHATEVER THE INPUT: true; the input reads as it did. -/
def sketchAlikeSpec : ChangeSpec := { name := "sketchAlike", fn := fun _ => fun
  | [d1, d2] => { results := [.lit (.bool true)], args := [d1, d2] }
  | _ => none }
def sketchAlikeRow : OpenClaim := { program := "ytablkklihcpniaa", sum := "fb3c80b2bdc3e1beaccea8ed02d1c3b9693fa988b7b85f2d09679eb02fab4bb3", func := "drydock/drydocklaw09.SketchAlike", spec := "sketchAlike", apart := false }
def SketchAlikeSaid : Prop := sketchAlikeRow.holds Try.pinned (OpenSpec.ofChange sketchAlikeSpec)

/-- ITS FALSE NEIGHBOUR: 'it returns false'. Refute it at one input. -/
def sketchAlikeWrong : ChangeSpec := { name := "sketchAlike", fn := fun _ => fun
  | [d1, d2] => { results := [.lit (.bool false)], args := [d1, d2] }
  | _ => none }
def SketchAlikeWrongFalsely : Prop := sketchAlikeRow.holds Try.pinned (OpenSpec.ofChange sketchAlikeWrong)

/- THE SECOND FORM. 'bulk': how many values and letters a reading holds, each counted each time it is reached (what is shared counts as often as it is met; a slice's spare places count too). A statement '..UptoSaid' is the law's where the arguments, and the package variables that the reading takes, are together of bulk at most 1048576: NARROWER than '..Said'. Prove '..Said' where nothing that the law and all that it calls make is longer than what came in: it says more and counts as full. Else prove '..UptoSaid'. A law counts once. -/
mutual
def uptoBulk {H : Type} : DataW H → Nat
  | .lit (.string bytes) => bytes.length + 1
  | .lit _ => 1
  | .nil => 1
  | .ptr d => uptoBulk d + 1
  | .slice elems spare => uptoBulkAll elems + uptoBulkAll spare + 1
  | .agg parts => uptoBulkAll parts + 1
  | .iface _ d => uptoBulk d + 1
  | .map entries => uptoBulkEntries entries + 1
  | .held _ => 1
def uptoBulkAll {H : Type} : List (DataW H) → Nat
  | [] => 0
  | d :: r => uptoBulk d + uptoBulkAll r
def uptoBulkEntries {H : Type} : List (Lit × DataW H) → Nat
  | [] => 0
  | x :: r => uptoBulkEntry x + uptoBulkEntries r
def uptoBulkEntry {H : Type} : Lit × DataW H → Nat
  | (.string bytes, d) => bytes.length + uptoBulk d + 1
  | (_, d) => uptoBulk d + 1
 end
def uptoSmall : (H : Type) → List (DataW H) → Bool := fun _ ds => decide (uptoBulkAll ds ≤ 1048576)
def OpenSpec.upto (s : _root_.Go.ChangeSpec) : _root_.Go.OpenSpec := { _root_.Go.OpenSpec.ofChange s with cond := some uptoSmall }

/-- 'drydocklaw09.SketchBlocks', WHERE WHAT IT READS IS OF BULK AT MOST 1048576: true; the input reads as it did. -/
def sketchBlocksUptoRow : OpenClaim := { program := "ytablkklihcpniaa", sum := "fb3c80b2bdc3e1beaccea8ed02d1c3b9693fa988b7b85f2d09679eb02fab4bb3", func := "drydock/drydocklaw09.SketchBlocks", spec := "sketchBlocks", apart := false, narrowed := true }
def SketchBlocksUptoSaid : Prop := sketchBlocksUptoRow.holds Try.pinned (OpenSpec.upto sketchBlocksSpec)

/-- 'drydocklaw09.SketchBest', WHERE WHAT IT READS IS OF BULK AT MOST 1048576: true; the input reads as it did. -/
def sketchBestUptoRow : OpenClaim := { program := "ytablkklihcpniaa", sum := "fb3c80b2bdc3e1beaccea8ed02d1c3b9693fa988b7b85f2d09679eb02fab4bb3", func := "drydock/drydocklaw09.SketchBest", spec := "sketchBest", apart := false, narrowed := true }
def SketchBestUptoSaid : Prop := sketchBestUptoRow.holds Try.pinned (OpenSpec.upto sketchBestSpec)

/-- 'drydocklaw09.SketchLike', WHERE WHAT IT READS IS OF BULK AT MOST 1048576: true; the input reads as it did. -/
def sketchLikeUptoRow : OpenClaim := { program := "ytablkklihcpniaa", sum := "fb3c80b2bdc3e1beaccea8ed02d1c3b9693fa988b7b85f2d09679eb02fab4bb3", func := "drydock/drydocklaw09.SketchLike", spec := "sketchLike", apart := false, narrowed := true }
def SketchLikeUptoSaid : Prop := sketchLikeUptoRow.holds Try.pinned (OpenSpec.upto sketchLikeSpec)

/-- 'drydocklaw09.SketchWindows', WHERE WHAT IT READS IS OF BULK AT MOST 1048576: true; the input reads as it did. -/
def sketchWindowsUptoRow : OpenClaim := { program := "ytablkklihcpniaa", sum := "fb3c80b2bdc3e1beaccea8ed02d1c3b9693fa988b7b85f2d09679eb02fab4bb3", func := "drydock/drydocklaw09.SketchWindows", spec := "sketchWindows", apart := false, narrowed := true }
def SketchWindowsUptoSaid : Prop := sketchWindowsUptoRow.holds Try.pinned (OpenSpec.upto sketchWindowsSpec)

/-- 'drydocklaw09.SketchAlike', WHERE WHAT IT READS IS OF BULK AT MOST 1048576: true; the input reads as it did. -/
def sketchAlikeUptoRow : OpenClaim := { program := "ytablkklihcpniaa", sum := "fb3c80b2bdc3e1beaccea8ed02d1c3b9693fa988b7b85f2d09679eb02fab4bb3", func := "drydock/drydocklaw09.SketchAlike", spec := "sketchAlike", apart := false, narrowed := true }
def SketchAlikeUptoSaid : Prop := sketchAlikeUptoRow.holds Try.pinned (OpenSpec.upto sketchAlikeSpec)

end Rows
end Go.Proofs.Ytablkklihcpniaa

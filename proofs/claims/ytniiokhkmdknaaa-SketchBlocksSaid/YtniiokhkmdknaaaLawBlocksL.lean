import Derived.Test.YtniiokhkmdknaaaLawBlocks
namespace Go.Proofs.Ytniiokhkmdknaaa
open Go.RowKit
set_option linter.unusedVariables false
set_option linter.unusedSimpArgs false
theorem sb_u8 : Try.prog.cellsOf 5 = 1 := by kernel_rfl
theorem sb_bl : Try.prog.cellsOf 23 = 64 := by kernel_rfl
theorem sketchBlocks_law (W : World) (vs : List Value) (hl : vs.length = [23, 23, 3].length) (hv : ∀ (i : Nat) (t : TypeId) (v : Value), [23, 23, 3][i]? = some t → vs[i]? = some v → RdV Try.prog W t v) :
    Calls Try.prog 3 vs.toArray W fun e w' => e = .returned (.bool true) ∧ Fr none_ W w' := by
  match vs, hl with
  | [v0, v1, v2], _ =>
    obtain ⟨la, rfl, hla⟩ := (hv 0 _ v0 rfl rfl).block Try.underlying23 Try.underlying5 sb_u8 sb_bl
    obtain ⟨lb, rfl, hlb⟩ := (hv 1 _ v1 rfl rfl).block Try.underlying23 Try.underlying5 sb_u8 sb_bl
    obtain ⟨p, rfl, _⟩ := (hv 2 _ v2 rfl rfl).int Try.underlying3
    exact blocks_walk la lb p W hla hlb
end Go.Proofs.Ytniiokhkmdknaaa

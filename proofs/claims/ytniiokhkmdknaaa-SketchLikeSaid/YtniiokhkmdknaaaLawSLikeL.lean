import Derived.Test.YtniiokhkmdknaaaLawSLike
namespace Go.Proofs.Ytniiokhkmdknaaa
open Go.RowKit
set_option linter.unusedVariables false
set_option linter.unusedSimpArgs false
theorem sl_u8 : Try.prog.cellsOf 5 = 1 := by kernel_rfl
theorem sl_bl : Try.prog.cellsOf 23 = 64 := by kernel_rfl
theorem sketchLike_law (W : World) (vs : List Value) (hl : vs.length = [23, 23].length) (hv : ∀ (i : Nat) (t : TypeId) (v : Value), [23, 23][i]? = some t → vs[i]? = some v → RdV Try.prog W t v) :
    Calls Try.prog 4 vs.toArray W fun e w' => e = .returned (.bool true) ∧ Fr none_ W w' := by
  match vs, hl with
  | [v0, v1], _ =>
    obtain ⟨la, rfl, hla⟩ := (hv 0 _ v0 rfl rfl).block Try.underlying23 Try.underlying5 sl_u8 sl_bl
    obtain ⟨lb, rfl, hlb⟩ := (hv 1 _ v1 rfl rfl).block Try.underlying23 Try.underlying5 sl_u8 sl_bl
    exact slike_walk la lb W hla hlb
end Go.Proofs.Ytniiokhkmdknaaa

import Derived.Test.YtniiokhkmdknaaaDoorLawArmed
import Derived.Test.YtniiokhkmdknaaaDoorLaw
namespace Go.Proofs.YtniiokhkmdknaaaDoor
open Go.RowKit
set_option linter.unusedVariables false
set_option linter.unusedSimpArgs false
theorem cellsOf_u8 : Tryd.prog.cellsOf 5 = 1 := by kernel_rfl
theorem bytesOf_u8 : Tryd.prog.bytesOf 5 = 1 := by kernel_rfl
theorem devArmed_law (W : World) (vs : List Value) (hg : ErrT W) (hl : vs.length = [3, 32].length) (hv : ∀ (i : Nat) (t : TypeId) (v : Value), [3, 32][i]? = some t → vs[i]? = some v → RdV Tryd.prog W t v) :
    Calls Tryd.prog 4 vs.toArray W fun e w' => e = .returned (.bool true) ∧ Fr none_ W w' := by
  match vs, hl with
  | [v0, v1], _ =>
    obtain ⟨s, rfl, _⟩ := (hv 0 _ v0 rfl rfl).int Tryd.underlying3
    obtain ⟨A, n, c, b, hB⟩ := (hv 1 _ v1 rfl rfl).bytes Tryd.underlying32 Tryd.underlying5 cellsOf_u8 bytesOf_u8
    obtain ⟨rfl, hn, _, _, hA, _⟩ := hB
    exact armed_walk s A n c b W hg hn hA
end Go.Proofs.YtniiokhkmdknaaaDoor

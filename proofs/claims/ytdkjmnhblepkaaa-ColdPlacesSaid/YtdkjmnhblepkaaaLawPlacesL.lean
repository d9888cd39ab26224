import Derived.Test.YtdkjmnhblepkaaaLawPlaces
namespace Go.Proofs.Ytdkjmnhblepkaaa
open Go.RowKit
set_option linter.unusedVariables false
set_option linter.unusedSimpArgs false
theorem coldPlaces_law (W : World) (vs : List Value) (hl : vs.length = [22].length) (hv : ∀ (i : Nat) (t : TypeId) (v : Value), [22][i]? = some t → vs[i]? = some v → RdV Try.prog W t v) :
    Calls Try.prog 3 vs.toArray W fun e w' => e = .returned (.bool true) ∧ Fr none_ W w' := by
  match vs, hl with
  | [v0], _ =>
    obtain ⟨L, m, cL, rows, hR⟩ := ((hv 0 _ v0 rfl rfl).sl Try.underlying22).rows ca_act (by omega)
    have hT := cacts_of_rows hR
    obtain rfl := hR.val
    exact places_walk L m cL W hT
end Go.Proofs.Ytdkjmnhblepkaaa

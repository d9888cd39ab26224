import Derived.Test.YthkcmafflbpfoaaDoorLawTrims
import Derived.Test.YthkcmafflbpfoaaDoorLawX
namespace Go.Proofs.YthkcmafflbpfoaaDoor
open Go.RowKit
set_option linter.unusedVariables false
set_option linter.unusedSimpArgs false
theorem logTrims_law (W : World) (vs : List Value) (hg : ErrT W) (hl : vs.length = [22, 3].length) (hv : ∀ (i : Nat) (t : TypeId) (v : Value), [22, 3][i]? = some t → vs[i]? = some v → RdV Tryd.prog W t v) :
    Calls Tryd.prog 3 vs.toArray W fun e w' => e = .returned (.bool true) ∧ Fr none_ W w' := by
  match vs, hl with
  | [v0, v1], _ =>
    obtain ⟨L, m, cL, rows, hR⟩ := ((hv 0 _ v0 rfl rfl).sl Tryd.underlying22).rows la_sl (by omega)
    obtain ⟨x, rfl, _⟩ := (hv 1 _ v1 rfl rfl).int Tryd.underlying3
    have hT := ltxts_of_rows hR
    obtain rfl := hR.val
    exact ltrims_walk x L m cL W hg hT
end Go.Proofs.YthkcmafflbpfoaaDoor

import Derived.Test.YtdlhndbgmldeaaaDoorLawHRooms
import Derived.Test.YtdlhndbgmldeaaaDoorLawX
namespace Go.Proofs.YtdlhndbgmldeaaaDoor
open Go.RowKit
set_option linter.unusedVariables false
set_option linter.unusedSimpArgs false
theorem hotRooms_law (W : World) (vs : List Value) (hg : ErrT W) (hl : vs.length = [22].length) (hv : ∀ (i : Nat) (t : TypeId) (v : Value), [22][i]? = some t → vs[i]? = some v → RdV Tryd.prog W t v) :
    Calls Tryd.prog 3 vs.toArray W fun e w' => e = .returned (.bool true) ∧ Fr none_ W w' := by
  match vs, hl with
  | [v0], _ =>
    obtain ⟨L, m, cL, rows, hR⟩ := ((hv 0 _ v0 rfl rfl).sl Tryd.underlying22).rows ha_act (by omega)
    have hT := hacts_of_rows hR
    obtain rfl := hR.val
    exact hrooms_walk L m cL W hg hT
end Go.Proofs.YtdlhndbgmldeaaaDoor

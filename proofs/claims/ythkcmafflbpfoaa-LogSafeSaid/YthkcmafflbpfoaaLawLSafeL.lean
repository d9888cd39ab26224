import Derived.Test.YthkcmafflbpfoaaLawLSafe
import Derived.Test.YthkcmafflbpfoaaLaw
namespace Go.Proofs.Ythkcmafflbpfoaa
open Go.RowKit
set_option linter.unusedVariables false
set_option linter.unusedSimpArgs false
theorem logSafe_law (W : World) (vs : List Value) (hl : vs.length = [3, 22].length) (hv : ∀ (i : Nat) (t : TypeId) (v : Value), [3, 22][i]? = some t → vs[i]? = some v → RdV Try.prog W t v) :
    Calls Try.prog 3 vs.toArray W fun e w' => e = .returned (.bool true) ∧ Fr none_ W w' := by
  match vs, hl with
  | [v0, v1], _ =>
    obtain ⟨x, rfl, _⟩ := (hv 0 _ v0 rfl rfl).int Try.underlying3
    obtain ⟨L, m, cL, rows, hR⟩ := ((hv 1 _ v1 rfl rfl).sl Try.underlying22).rows sa_act (by omega)
    have hT := sacts_of_rows hR
    obtain rfl := hR.val
    exact lsafe_walk x L m cL W hT
end Go.Proofs.Ythkcmafflbpfoaa

import Derived.Test.YtdlhndbgmldeaaaLawThere2
namespace Go.Proofs.Ytdlhndbgmldeaaa
open Go.RowKit
set_option linter.unusedVariables false
set_option linter.unusedSimpArgs false
theorem hotThere_law (W : World) (vs : List Value) (hl : vs.length = [22].length) (hv : ∀ (i : Nat) (t : TypeId) (v : Value), [22][i]? = some t → vs[i]? = some v → RdV Try.prog W t v) :
    Calls Try.prog 3 vs.toArray W fun e w' => e = .returned (.bool true) ∧ Fr none_ W w' := by
  match vs, hl with
  | [v0], _ =>
    obtain ⟨L, m, cL, rows, hR⟩ := ((hv 0 _ v0 rfl rfl).sl Try.underlying22).rows ha_act (by omega)
    have hT := acts_all hR
    obtain rfl := hR.val
    exact there_walk L m cL W hT
end Go.Proofs.Ytdlhndbgmldeaaa

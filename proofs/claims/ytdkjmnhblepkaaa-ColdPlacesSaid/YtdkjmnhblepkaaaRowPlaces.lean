/- The law ColdPlaces: for every input the Go function answers true, and its arguments read afterwards as before. No conditions. -/
import Derived.Test.YtdkjmnhblepkaaaRows
import Derived.Test.YtdkjmnhblepkaaaLawPlacesL
import Derived.ChangeOld
namespace Go.Proofs.Ytdkjmnhblepkaaa.coldPlaces
open Go.ChangeShapes Go.WideShapes Go.ChangeAt Go.RowKit
set_option linter.unusedVariables false
set_option linter.unusedSimpArgs false
theorem own : ownKnob Try.prog.godebug = none := by kernel_rfl
theorem laidOut : laidOutB Try.prog = true := by kernel_rfl
set_option maxRecDepth 100000 in
theorem lifted (os : Os) (started : os.Started) (H : Type) (enc : TypeId × Value → H) :
    ReturnsInHanded {} Try.checked os 3 .any (Rows.coldPlacesSpec.pre6 enc Try.prog Try.f3 Rows.coldPlacesRow.domain false) (Rows.coldPlacesSpec.post enc Try.prog Try.f3 false true false false) := by
  refine returnsInHanded_of_change_sized (C := Try.checked) own started (by kernel_rfl) Try.func3
    (ChangeSpec.witness6 (enc := enc) (C := Try.checked) false ⟨#[], #[.slice none 0 0], []⟩ 8 (by kernel_rfl) (by kernel_rfl) (by kernel_rfl) (by kernel_rfl)) ?_
  intro W base args ds gs before hval hW hcnd hsz _
  refine law_contract laidOut (k := 3) (f := Try.f3) (s := Rows.coldPlacesSpec) (tb := 4) (by rw [Try.params3]; kernel_rfl) (by kernel_rfl) Try.underlying4 rfl ?_ ?_ W base args ds gs before hval hW hsz
  · intro H ds hl
    rw [Try.params3] at hl
    match ds, hl with
    | [d0], _ => rfl
  · intro W vs hl hv
    rw [Try.params3] at hl hv
    exact coldPlaces_law W vs hl hv
theorem over : Rows.coldPlacesRow.holds Try.pinned (OpenSpec.ofChange Rows.coldPlacesSpec) :=
  OpenClaim.holds_of_wide 3 Try.f3 rfl rfl rfl rfl rfl rfl rfl ⟨rfl, rfl, rfl, rfl, rfl⟩ rfl rfl rfl rfl rfl (by kernel_rfl) Try.func3 (by kernel_rfl)
    (of_decide_eq_true (by kernel_rfl)) (by unfold Func.isWrapper; first | (rw [if_pos (by decide +kernel)]; kernel_rfl) | (rw [if_neg (by decide +kernel)]; exact ⟨rfl, rfl⟩))
    (fun os started H enc _ => lifted os started H enc)
theorem proved : Rows.ColdPlacesSaid := over
end Go.Proofs.Ytdkjmnhblepkaaa.coldPlaces
namespace Go.Proofs.Ytdkjmnhblepkaaa
/-- The row, under a short name, for the claim. -/
theorem coldPlaces_holds : Rows.ColdPlacesSaid := coldPlaces.proved
#print axioms coldPlaces_holds
end Go.Proofs.Ytdkjmnhblepkaaa

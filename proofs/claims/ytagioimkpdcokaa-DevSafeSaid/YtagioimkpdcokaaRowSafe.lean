/- The law DevSafe: for every input the Go function answers true, and its arguments read afterwards as before. No conditions. -/
import Derived.Test.YtagioimkpdcokaaRows
import Derived.Test.YtagioimkpdcokaaLawSafeL
import Derived.ChangeOld
namespace Go.Proofs.Ytagioimkpdcokaa.devSafe
open Go.ChangeShapes Go.WideShapes Go.ChangeAt Go.RowKit
set_option linter.unusedVariables false
set_option linter.unusedSimpArgs false
theorem own : ownKnob Try.prog.godebug = none := by kernel_rfl
theorem laidOut : laidOutB Try.prog = true := by kernel_rfl
set_option maxRecDepth 100000 in
theorem lifted (os : Os) (started : os.Started) (H : Type) (enc : TypeId × Value → H) :
    ReturnsInHanded {} Try.checked os 6 .any (Rows.devSafeSpec.pre6 enc Try.prog Try.f6 Rows.devSafeRow.domain false) (Rows.devSafeSpec.post enc Try.prog Try.f6 false true false false) := by
  refine returnsInHanded_of_change_sized (C := Try.checked) own started (by kernel_rfl) Try.func6
    (ChangeSpec.witness6 (enc := enc) (C := Try.checked) false ⟨#[], #[.slice none 0 0, .slice none 0 0, .slice none 0 0], []⟩ 8 (by kernel_rfl) (by kernel_rfl) (by kernel_rfl) (by kernel_rfl)) ?_
  intro W base args ds gs before hval hW hcnd hsz _
  refine law_contract laidOut (k := 6) (f := Try.f6) (s := Rows.devSafeSpec) (tb := 4) (by rw [Try.params6]; kernel_rfl) (by kernel_rfl) Try.underlying4 rfl ?_ ?_ W base args ds gs before hval hW hsz
  · intro H ds hl
    rw [Try.params6] at hl
    match ds, hl with
    | [d0, d1, d2], _ => rfl
  · intro W vs hl hv
    rw [Try.params6] at hl hv
    exact devSafe_law W vs hl hv
theorem over : Rows.devSafeRow.holds Try.pinned (OpenSpec.ofChange Rows.devSafeSpec) :=
  OpenClaim.holds_of_wide 6 Try.f6 rfl rfl rfl rfl rfl rfl rfl ⟨rfl, rfl, rfl, rfl, rfl⟩ rfl rfl rfl rfl rfl (by kernel_rfl) Try.func6 (by kernel_rfl)
    (of_decide_eq_true (by kernel_rfl)) (by unfold Func.isWrapper; first | (rw [if_pos (by decide +kernel)]; kernel_rfl) | (rw [if_neg (by decide +kernel)]; exact ⟨rfl, rfl⟩))
    (fun os started H enc _ => lifted os started H enc)
theorem proved : Rows.DevSafeSaid := over
end Go.Proofs.Ytagioimkpdcokaa.devSafe
namespace Go.Proofs.Ytagioimkpdcokaa
/-- The row, under a short name, for the claim. -/
theorem devSafe_holds : Rows.DevSafeSaid := devSafe.proved
#print axioms devSafe_holds
end Go.Proofs.Ytagioimkpdcokaa

import Derived.Test.YtffolfemcllfkaaGreatDoorDev4
import Derived.Test.YtffolfemcllfkaaGreatDoorDevW
namespace Go.Proofs.YtffolfemcllfkaaGreatDoor
open Go.RowKit
set_option linter.unusedVariables false
set_option linter.unusedSimpArgs false

/-! Flush in one contract. -/
def DevS.flushE (D : DevS) : Int := if D.down then 13 else 0
theorem flush_any {w : World} {p m1 m2 : Nat} {D : DevS} (h : DevAt w p m1 m2 D) : Calls Tryz.prog 57 #[ptr p] w fun e w' => e = .returned (errV D.flushE) ∧ Fr (devBlks p m1 m2) w w' ∧ DevAt w' p m1 m2 D.flush := by
  cases hd : D.down
  · refine (flush_ok h hd).mono ?_
    rintro e w' ⟨rfl, hF, hD⟩
    exact ⟨by simp [DevS.flushE, hd], hF, by simpa [DevS.flush, hd] using hD⟩
  · refine (flush_err h hd).mono ?_
    rintro e w' ⟨rfl, rfl⟩
    exact ⟨by simp [DevS.flushE, hd], Fr.refl _ _, by simpa [DevS.flush, hd] using h⟩
end Go.Proofs.YtffolfemcllfkaaGreatDoor

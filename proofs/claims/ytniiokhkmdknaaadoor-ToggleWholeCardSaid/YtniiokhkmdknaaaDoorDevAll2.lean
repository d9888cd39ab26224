import Derived.Test.YtniiokhkmdknaaaDoorDevAll
import Derived.Test.YtniiokhkmdknaaaDoorDev4b
import Derived.Test.YtniiokhkmdknaaaDoorStart
namespace Go.Proofs.YtniiokhkmdknaaaDoor
open Go.RowKit
set_option linter.unusedVariables false
set_option linter.unusedSimpArgs false

/-! Arm, Start. -/
def DevS.armE (D : DevS) (n : Int) : Int := if n < 0 then 1 else if D.down then 13 else 0
def DevS.arm (D : DevS) (n : Int) : DevS := if n < 0 ∨ D.down = true then D else { D with armed := true, left := n }
theorem arm_any {w : World} {p m1 m2 : Nat} {D : DevS} (h : DevAt w p m1 m2 D) (n : Int) : Calls Tryd.prog 13 #[ptr p, .int .i64 n] w fun e w' => e = .returned (errV (D.armE n)) ∧ Fr (devBlks p m1 m2) w w' ∧ DevAt w' p m1 m2 (D.arm n) := by
  by_cases hn : n < 0
  · refine (arm_bad h n hn).mono ?_
    rintro e w' ⟨rfl, rfl⟩
    exact ⟨by simp [DevS.armE, hn], Fr.refl _ _, by simpa [DevS.arm, hn] using h⟩
  · cases hd : D.down
    · refine (arm_ok h n (by omega) hd).mono ?_
      rintro e w' ⟨rfl, hF, hD⟩
      exact ⟨by simp [DevS.armE, hd, hn], hF, by simpa [DevS.arm, hd, hn] using hD⟩
    · refine (arm_down h n (by omega) hd).mono ?_
      rintro e w' ⟨rfl, rfl⟩
      exact ⟨by simp [DevS.armE, hd, hn], Fr.refl _ _, by simpa [DevS.arm, hd] using h⟩
theorem start_any {w : World} {p m1 m2 : Nat} {D : DevS} (h : DevAt w p m1 m2 D) (A : Option Addr) (n c : Nat) (kept : List Bool) (hn : n = kept.length) (hA : CellsAt w A (kept.map Value.bool)) (hap : ∀ b, blkOf A b → 0 < kept.length → ¬ devBlks p m1 m2 b) (hm : kept.length ≤ 140737488351232) :
    Calls Tryd.prog 17 #[ptr p, .slice A n c] w fun e w' => e = .returned (.tuple #[]) ∧ Fr (devBlks p m1 m2) w w' ∧ DevAt w' p m1 m2 (D.start kept) := by
  cases hl : D.lost
  · exact start_ok h A n c kept hn hA hap hm hl
  · refine (start_lost h A n c hl).mono ?_
    rintro e w' ⟨rfl, rfl⟩
    exact ⟨rfl, Fr.refl _ _, by simpa [DevS.start, hl] using h⟩
end Go.Proofs.YtniiokhkmdknaaaDoor

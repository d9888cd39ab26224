import Derived.Test.YtffolfemcllfkaaGreatDoorToggle
namespace Go.Proofs.YtffolfemcllfkaaGreatDoor
open Go.RowKit
set_option linter.unusedVariables false
set_option linter.unusedSimpArgs false

/-! The reference's Room. -/
theorem half_any (f s : Int) (w : World) : Calls Tryz.prog 114 #[area f s] w fun e w' => e = .returned (.int .i64 (placeF s)) ∧ Fr none_ w w' := by
  go_enter Tryz.func114, Tryz.ntmps114
  go_wp2_with fail
  go_ret
  exact ⟨rfl, (Fr.refl _ _).alloc _⟩
theorem rroom_any (f s : Int) (w : World) : Calls Tryz.prog 63 #[area f s, .int .i64 16384] w fun e w' => e = .returned (.int .i64 (roomF s)) ∧ Fr none_ w w' := by
  by_cases h1 : s < 3
  · have hr : roomF s = 0 := by unfold roomF; rw [if_pos (.inl h1)]
    rw [hr]
    clear hr
    go_enter Tryz.func63, Tryz.ntmps63
    go_wp2_with fail
    go_ret
    exact ⟨rfl, (Fr.refl _ _).alloc _⟩
  · by_cases h2 : 16384 < s
    · have hr : roomF s = 0 := by unfold roomF; rw [if_pos (.inr h2)]
      rw [hr]
      clear hr
      go_enter Tryz.func63, Tryz.ntmps63
      go_wp2_with fail
      go_ret
      exact ⟨rfl, (Fr.refl _ _).alloc _⟩
    · have hp := placeF_in s (by omega)
      have hr : roomF s = (s - 1) / 2 * 64 := by unfold roomF; rw [if_neg (by omega)]
      have hw : wrap64 (64 * placeF s) = roomF s := by rw [hr, hp, IntWalk.wrap64_in _ (by omega)]; omega
      clear hr hp
      go_enter Tryz.func63, Tryz.ntmps63
      go_wp2_with fail
      (with_reducible refine (half_any f s _).mono ?_)
      rintro e w1 ⟨rfl, hF1⟩
      go_wp2_with fail
      go_ret
      exact ⟨by rw [← hw]; rfl, ((Fr.refl _ _).alloc _).trans hF1⟩
end Go.Proofs.YtffolfemcllfkaaGreatDoor

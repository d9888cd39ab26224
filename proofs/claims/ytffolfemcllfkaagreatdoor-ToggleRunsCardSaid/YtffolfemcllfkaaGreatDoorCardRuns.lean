/- The law ToggleRuns: the row (for every input the Go function answers true, and its arguments read afterwards as before) and its tied card. -/
import Derived.Test.YtffolfemcllfkaaGreatDoorRows
import Derived.Test.YtffolfemcllfkaaGreatDoorCards
import Derived.Test.YtffolfemcllfkaaGreatDoorTie
import Derived.Test.YtffolfemcllfkaaGreatDoorLawRunsL
import Derived.Test.YtffolfemcllfkaaGreatDoorCardKit
namespace Go.Proofs.YtffolfemcllfkaaGreatDoor.toggleRuns
open Go.ChangeShapes Go.WideShapes Go.ChangeAt Go.RowKit
set_option linter.unusedVariables false
set_option linter.unusedSimpArgs false
theorem own : ownKnob Tryz.prog.godebug = none := by kernel_rfl
theorem laidOut : laidOutB Tryz.prog = true := by kernel_rfl
set_option maxRecDepth 100000 in
theorem lifted (os : Os) (started : os.Started) (H : Type) (enc : TypeId × Value → H) :
    ReturnsInHanded {} Tryz.checked os 3 .any (fun w args => (Rows.toggleRunsSpec.pre enc Tryz.prog Tryz.f3 Rows.toggleRunsRow.domain false w args ∧ laidMetH Tryz.prog theLaid w) ∧ sizedMet enc Tryz.prog Tryz.f3 (OpenSpec.ofChange Rows.toggleRunsSpec) false w args)
      (Rows.toggleRunsSpec.post enc Tryz.prog Tryz.f3 false true false false) := by
  refine returnsInHanded_of_change_and (C := Tryz.checked) (X := fun w _ => laidMetH Tryz.prog theLaid w) (fun _ _ _ hh h => h.of_heap hh) own started (by kernel_rfl) Tryz.func3
    (ChangeSpec.witness_at (enc := enc) (C := Tryz.checked) (os := os) (X := fun w _ => laidMetH Tryz.prog theLaid w) false (laidWorld os) #[.agg #[.int .i64 0, .int .i64 0], .slice none 0 0] 8 rfl (by kernel_rfl) (by kernel_rfl) (by kernel_rfl) (by kernel_rfl) (by kernel_rfl) (laidWorld_met os _)) ?_
  intro W base args ds gs before hval hW hcnd hsz hL _
  refine law_contract_x (X := ErrT) laidOut (k := 3) (f := Tryz.f3) (s := Rows.toggleRunsSpec) (tb := 4) (by rw [Tryz.params3]; kernel_rfl) (by kernel_rfl) Tryz.underlying4 rfl ?_ ?_ W base args ds gs before hval hW hsz (errT_of_laid hL)
  · intro H ds hl
    rw [Tryz.params3] at hl
    match ds, hl with
    | [d0, d1], _ => rfl
  · intro W vs hg hl hv
    rw [Tryz.params3] at hl hv
    exact toggleRuns_law W vs hg hl hv
theorem over : Rows.toggleRunsRow.holds Tryz.pinned (OpenSpec.ofChange Rows.toggleRunsSpec) :=
  OpenClaim.holds_of_wide 3 Tryz.f3 rfl rfl rfl rfl rfl rfl rfl ⟨rfl, rfl, rfl, rfl, rfl⟩ rfl rfl rfl rfl rfl (by kernel_rfl) Tryz.func3 (by kernel_rfl)
    (of_decide_eq_true (by kernel_rfl)) (by unfold Func.isWrapper; first | (rw [if_pos (by decide +kernel)]; kernel_rfl) | (rw [if_neg (by decide +kernel)]; exact ⟨rfl, rfl⟩))
    (fun os started H enc _ => lifted os started H enc)
theorem card : Rows.ToggleRunsCardSaid :=
  Claim7.holds_tied_plain_at .later [] [.handle] true _ true
    over (fun _ h => by cases h) (by kernel_rfl) (fun _ h => by cases h) toggleRuns_row_tie rfl ⟨rfl, rfl⟩ (by kernel_rfl) rfl
    (fun f fn hf hfn => by
      obtain rfl : f = 3 := Option.some.inj ((show Tryz.prog.funcNamed "drydock/drydocklaw04.ToggleRuns" = some 3 by kernel_rfl).symm.trans hf) |>.symm
      obtain rfl : fn = Tryz.f3 := (Option.some.inj (Tryz.func3.symm.trans hfn)).symm
      exact ⟨by kernel_rfl, fun j t ht => by
        rw [Tryz.params3] at ht
        exact no_standin (by kernel_rfl) j t ht⟩)
    (by kernel_rfl)
end Go.Proofs.YtffolfemcllfkaaGreatDoor.toggleRuns
namespace Go.Proofs.YtffolfemcllfkaaGreatDoor
/-- The card, under a short name, for the claim. -/
theorem toggleRuns_card : Rows.ToggleRunsCardSaid := toggleRuns.card
#print axioms toggleRuns_card
end Go.Proofs.YtffolfemcllfkaaGreatDoor

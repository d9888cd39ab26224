/- The law ToggleWhole: the row (for every input the Go function answers true, and its arguments read afterwards as before) and its tied card. -/
import Derived.Test.YtniiokhkmdknaaaDoorRows
import Derived.Test.YtniiokhkmdknaaaDoorCards
import Derived.Test.YtniiokhkmdknaaaDoorTie
import Derived.Test.YtniiokhkmdknaaaDoorLawWholeL
import Derived.Test.YtniiokhkmdknaaaDoorCardKit
namespace Go.Proofs.YtniiokhkmdknaaaDoor.toggleWhole
open Go.ChangeShapes Go.WideShapes Go.ChangeAt Go.RowKit
set_option linter.unusedVariables false
set_option linter.unusedSimpArgs false
theorem own : ownKnob Tryd.prog.godebug = none := by kernel_rfl
theorem laidOut : laidOutB Tryd.prog = true := by kernel_rfl
set_option maxRecDepth 100000 in
theorem lifted (os : Os) (started : os.Started) (H : Type) (enc : TypeId × Value → H) :
    ReturnsInHanded {} Tryd.checked os 5 .any (fun w args => (Rows.toggleWholeSpec.pre enc Tryd.prog Tryd.f5 Rows.toggleWholeRow.domain false w args ∧ laidMetH Tryd.prog theLaid w) ∧ sizedMet enc Tryd.prog Tryd.f5 (OpenSpec.ofChange Rows.toggleWholeSpec) false w args)
      (Rows.toggleWholeSpec.post enc Tryd.prog Tryd.f5 false true false false) := by
  refine returnsInHanded_of_change_and (C := Tryd.checked) (X := fun w _ => laidMetH Tryd.prog theLaid w) (fun _ _ _ hh h => h.of_heap hh) own started (by kernel_rfl) Tryd.func5
    (ChangeSpec.witness_at (enc := enc) (C := Tryd.checked) (os := os) (X := fun w _ => laidMetH Tryd.prog theLaid w) false (laidWorld os) #[.slice none 0 0, .slice none 0 0, .slice none 0 0] 8 rfl (by kernel_rfl) (by kernel_rfl) (by kernel_rfl) (by kernel_rfl) (by kernel_rfl) (laidWorld_met os _)) ?_
  intro W base args ds gs before hval hW hcnd hsz hL _
  refine law_contract_x (X := ErrT) laidOut (k := 5) (f := Tryd.f5) (s := Rows.toggleWholeSpec) (tb := 4) (by rw [Tryd.params5]; kernel_rfl) (by kernel_rfl) Tryd.underlying4 rfl ?_ ?_ W base args ds gs before hval hW hsz (errT_of_laid hL)
  · intro H ds hl
    rw [Tryd.params5] at hl
    match ds, hl with
    | [d0, d1, d2], _ => rfl
  · intro W vs hg hl hv
    rw [Tryd.params5] at hl hv
    exact toggleWhole_law W vs hg hl hv
theorem over : Rows.toggleWholeRow.holds Tryd.pinned (OpenSpec.ofChange Rows.toggleWholeSpec) :=
  OpenClaim.holds_of_wide 5 Tryd.f5 rfl rfl rfl rfl rfl rfl rfl ⟨rfl, rfl, rfl, rfl, rfl⟩ rfl rfl rfl rfl rfl (by kernel_rfl) Tryd.func5 (by kernel_rfl)
    (of_decide_eq_true (by kernel_rfl)) (by unfold Func.isWrapper; first | (rw [if_pos (by decide +kernel)]; kernel_rfl) | (rw [if_neg (by decide +kernel)]; exact ⟨rfl, rfl⟩))
    (fun os started H enc _ => lifted os started H enc)
theorem card : Rows.ToggleWholeCardSaid :=
  Claim7.holds_tied_plain_at .later [] [.handle] true _ true
    over (fun _ h => by cases h) (by kernel_rfl) (fun _ h => by cases h) toggleWhole_row_tie rfl ⟨rfl, rfl⟩ (by kernel_rfl) rfl
    (fun f fn hf hfn => by
      obtain rfl : f = 5 := Option.some.inj ((show Tryd.prog.funcNamed "drydock/drydocklaw04.ToggleWhole" = some 5 by kernel_rfl).symm.trans hf) |>.symm
      obtain rfl : fn = Tryd.f5 := (Option.some.inj (Tryd.func5.symm.trans hfn)).symm
      exact ⟨by kernel_rfl, fun j t ht => by
        rw [Tryd.params5] at ht
        exact no_standin (by kernel_rfl) j t ht⟩)
    (by kernel_rfl)
end Go.Proofs.YtniiokhkmdknaaaDoor.toggleWhole
namespace Go.Proofs.YtniiokhkmdknaaaDoor
/-- The card, under a short name, for the claim. -/
theorem toggleWhole_card : Rows.ToggleWholeCardSaid := toggleWhole.card
#print axioms toggleWhole_card
end Go.Proofs.YtniiokhkmdknaaaDoor

/- The law LogTrims: the row (for every input the Go function answers true, and its arguments read afterwards as before) and its tied card. -/
import Derived.Test.YthkcmafflbpfoaaDoorRows
import Derived.Test.YthkcmafflbpfoaaDoorCards
import Derived.Test.YthkcmafflbpfoaaDoorTie
import Derived.Test.YthkcmafflbpfoaaDoorLawTrimsL
import Derived.Test.YthkcmafflbpfoaaDoorCardKit
namespace Go.Proofs.YthkcmafflbpfoaaDoor.logTrims
open Go.ChangeShapes Go.WideShapes Go.ChangeAt Go.RowKit
set_option linter.unusedVariables false
set_option linter.unusedSimpArgs false
theorem own : ownKnob Tryd.prog.godebug = none := by kernel_rfl
theorem laidOut : laidOutB Tryd.prog = true := by kernel_rfl
set_option maxRecDepth 100000 in
theorem lifted (os : Os) (started : os.Started) (H : Type) (enc : TypeId × Value → H) :
    ReturnsInHanded {} Tryd.checked os 3 .any (fun w args => (Rows.logTrimsSpec.pre enc Tryd.prog Tryd.f3 Rows.logTrimsRow.domain false w args ∧ laidMetH Tryd.prog theLaid w) ∧ sizedMet enc Tryd.prog Tryd.f3 (OpenSpec.ofChange Rows.logTrimsSpec) false w args)
      (Rows.logTrimsSpec.post enc Tryd.prog Tryd.f3 false true false false) := by
  refine returnsInHanded_of_change_and (C := Tryd.checked) (X := fun w _ => laidMetH Tryd.prog theLaid w) (fun _ _ _ hh h => h.of_heap hh) own started (by kernel_rfl) Tryd.func3
    (ChangeSpec.witness_at (enc := enc) (C := Tryd.checked) (os := os) (X := fun w _ => laidMetH Tryd.prog theLaid w) false (laidWorld os) #[.slice none 0 0, .int .i64 0] 8 rfl (by kernel_rfl) (by kernel_rfl) (by kernel_rfl) (by kernel_rfl) (by kernel_rfl) (laidWorld_met os _)) ?_
  intro W base args ds gs before hval hW hcnd hsz hL _
  refine law_contract_x (X := ErrT) laidOut (k := 3) (f := Tryd.f3) (s := Rows.logTrimsSpec) (tb := 4) (by rw [Tryd.params3]; kernel_rfl) (by kernel_rfl) Tryd.underlying4 rfl ?_ ?_ W base args ds gs before hval hW hsz (errT_of_laid hL)
  · intro H ds hl
    rw [Tryd.params3] at hl
    match ds, hl with
    | [d0, d1], _ => rfl
  · intro W vs hg hl hv
    rw [Tryd.params3] at hl hv
    exact logTrims_law W vs hg hl hv
theorem over : Rows.logTrimsRow.holds Tryd.pinned (OpenSpec.ofChange Rows.logTrimsSpec) :=
  OpenClaim.holds_of_wide 3 Tryd.f3 rfl rfl rfl rfl rfl rfl rfl ⟨rfl, rfl, rfl, rfl, rfl⟩ rfl rfl rfl rfl rfl (by kernel_rfl) Tryd.func3 (by kernel_rfl)
    (of_decide_eq_true (by kernel_rfl)) (by unfold Func.isWrapper; first | (rw [if_pos (by decide +kernel)]; kernel_rfl) | (rw [if_neg (by decide +kernel)]; exact ⟨rfl, rfl⟩))
    (fun os started H enc _ => lifted os started H enc)
theorem card : Rows.LogTrimsCardSaid :=
  Claim7.holds_tied_plain_at .later [] [.handle] true _ true
    over (fun _ h => by cases h) (by kernel_rfl) (fun _ h => by cases h) logTrims_row_tie rfl ⟨rfl, rfl⟩ (by kernel_rfl) rfl
    (fun f fn hf hfn => by
      obtain rfl : f = 3 := Option.some.inj ((show Tryd.prog.funcNamed "drydock/drydocklaw16.LogTrims" = some 3 by kernel_rfl).symm.trans hf) |>.symm
      obtain rfl : fn = Tryd.f3 := (Option.some.inj (Tryd.func3.symm.trans hfn)).symm
      exact ⟨by kernel_rfl, fun j t ht => by
        rw [Tryd.params3] at ht
        exact no_standin (by kernel_rfl) j t ht⟩)
    (by kernel_rfl)
end Go.Proofs.YthkcmafflbpfoaaDoor.logTrims
namespace Go.Proofs.YthkcmafflbpfoaaDoor
/-- The card, under a short name, for the claim. -/
theorem logTrims_card : Rows.LogTrimsCardSaid := logTrims.card
#print axioms logTrims_card
end Go.Proofs.YthkcmafflbpfoaaDoor

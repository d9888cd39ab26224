/- The law HotReads: the row (for every input the Go function answers true, and its arguments read afterwards as before) and its tied card. -/
import Derived.Test.YtjfeibbghhjjeaaDoorRows
import Derived.Test.YtjfeibbghhjjeaaDoorCards
import Derived.Test.YtjfeibbghhjjeaaDoorTie
import Derived.Test.YtjfeibbghhjjeaaDoorLawHReadsL
import Derived.Test.YtjfeibbghhjjeaaDoorCardKit
namespace Go.Proofs.YtjfeibbghhjjeaaDoor.hotReads
open Go.ChangeShapes Go.WideShapes Go.ChangeAt Go.RowKit
set_option linter.unusedVariables false
set_option linter.unusedSimpArgs false
theorem own : ownKnob Tryd.prog.godebug = none := by kernel_rfl
theorem laidOut : laidOutB Tryd.prog = true := by kernel_rfl
set_option maxRecDepth 100000 in
theorem lifted (os : Os) (started : os.Started) (H : Type) (enc : TypeId × Value → H) :
    ReturnsInHanded {} Tryd.checked os 3 .any (fun w args => (Rows.hotReadsSpec.pre enc Tryd.prog Tryd.f3 Rows.hotReadsRow.domain false w args ∧ laidMetH Tryd.prog theLaid w) ∧ sizedMet enc Tryd.prog Tryd.f3 (OpenSpec.ofChange Rows.hotReadsSpec) false w args)
      (Rows.hotReadsSpec.post enc Tryd.prog Tryd.f3 false true false false) := by
  refine returnsInHanded_of_change_and (C := Tryd.checked) (X := fun w _ => laidMetH Tryd.prog theLaid w) (fun _ _ _ hh h => h.of_heap hh) own started (by kernel_rfl) Tryd.func3
    (ChangeSpec.witness_at (enc := enc) (C := Tryd.checked) (os := os) (X := fun w _ => laidMetH Tryd.prog theLaid w) false (laidWorld os) #[.agg #[.int .i64 0, .int .i64 0, .int .i64 0], .slice none 0 0] 8 rfl (by kernel_rfl) (by kernel_rfl) (by kernel_rfl) (by kernel_rfl) (by kernel_rfl) (laidWorld_met os _)) ?_
  intro W base args ds gs before hval hW hcnd hsz hL _
  refine law_contract_x (X := ErrT) laidOut (k := 3) (f := Tryd.f3) (s := Rows.hotReadsSpec) (tb := 4) (by rw [Tryd.params3]; kernel_rfl) (by kernel_rfl) Tryd.underlying4 rfl ?_ ?_ W base args ds gs before hval hW hsz (errT_of_laid hL)
  · intro H ds hl
    rw [Tryd.params3] at hl
    match ds, hl with
    | [d0, d1], _ => rfl
  · intro W vs hg hl hv
    rw [Tryd.params3] at hl hv
    exact hotReads_law W vs hg hl hv
theorem over : Rows.hotReadsRow.holds Tryd.pinned (OpenSpec.ofChange Rows.hotReadsSpec) :=
  OpenClaim.holds_of_wide 3 Tryd.f3 rfl rfl rfl rfl rfl rfl rfl ⟨rfl, rfl, rfl, rfl, rfl⟩ rfl rfl rfl rfl rfl (by kernel_rfl) Tryd.func3 (by kernel_rfl)
    (of_decide_eq_true (by kernel_rfl)) (by unfold Func.isWrapper; first | (rw [if_pos (by decide +kernel)]; kernel_rfl) | (rw [if_neg (by decide +kernel)]; exact ⟨rfl, rfl⟩))
    (fun os started H enc _ => lifted os started H enc)
theorem card : Rows.HotReadsCardSaid :=
  Claim7.holds_tied_plain_at .later [] [.handle] true _ true
    over (fun _ h => by cases h) (by kernel_rfl) (fun _ h => by cases h) hotReads_row_tie rfl ⟨rfl, rfl⟩ (by kernel_rfl) rfl
    (fun f fn hf hfn => by
      obtain rfl : f = 3 := Option.some.inj ((show Tryd.prog.funcNamed "drydock/drydocklaw17.HotReads" = some 3 by kernel_rfl).symm.trans hf) |>.symm
      obtain rfl : fn = Tryd.f3 := (Option.some.inj (Tryd.func3.symm.trans hfn)).symm
      exact ⟨by kernel_rfl, fun j t ht => by
        rw [Tryd.params3] at ht
        exact no_standin (by kernel_rfl) j t ht⟩)
    (by kernel_rfl)
end Go.Proofs.YtjfeibbghhjjeaaDoor.hotReads
namespace Go.Proofs.YtjfeibbghhjjeaaDoor
/-- The card, under a short name, for the claim. -/
theorem hotReads_card : Rows.HotReadsCardSaid := hotReads.card
#print axioms hotReads_card
end Go.Proofs.YtjfeibbghhjjeaaDoor

import Derived.Test.YtffolfemcllfkaaGreatDoorRefDevM2
namespace Go.Proofs.YtffolfemcllfkaaGreatDoor
open Go.RowKit
set_option linter.unusedVariables false
set_option linter.unusedSimpArgs false
set_option maxRecDepth 100000

/-! The document's device: Write in one contract. -/
theorem ref_write {w : World} {cs : Array Value} {R : RefD} (h : RDV w cs R) (s : Int) (b : List UInt8) : Calls Tryz.prog 9 #[.agg cs, .int .i64 s, strOf b] w fun e w' => RDo w (R.write s b) (R.writeE s b.length) e w' := by
  by_cases hE : R.readE s = 0
  · by_cases hl : 64 < b.length
    · have e1 : R.write s b = R := by unfold RefD.write; rw [if_pos (.inr hl)]
      have e2 : R.writeE s b.length = 2 := by unfold RefD.writeE; rw [if_neg (by rw [hE]; simp), if_pos hl]
      rw [e1, e2]
      exact (ref_write_long h s b hE hl).mono (fun e w' ⟨h1, h2⟩ => ⟨cs, h1, h.fr0 h2, h2⟩)
    · by_cases ha : R.armed = true ∧ R.left = 0
      · have e1 : R.write s b = { R with crashed := true } := by unfold RefD.write; rw [if_neg (by rintro (h | h); exact h hE; exact hl h), if_pos ha]
        have e2 : R.writeE s b.length = 13 := by unfold RefD.writeE; rw [if_neg (by rw [hE]; simp), if_neg hl, if_pos ha]
        rw [e1, e2]
        exact ref_write_down h s b hE (by omega) ha.1 ha.2
      · have e2 : R.writeE s b.length = 0 := by unfold RefD.writeE; rw [if_neg (by rw [hE]; simp), if_neg hl, if_neg ha]
        rw [e2]
        have hs : 0 ≤ s ∧ s < (R.now.length : Int) := by
          unfold RefD.readE at hE
          split at hE
          · cases hE
          · split at hE
            · cases hE
            · omega
        obtain ⟨k, rfl⟩ : ∃ k : Nat, s = (k : Int) := ⟨s.toNat, by omega⟩
        exact ref_write_ok h k b (by omega) hE (by omega) ha
  · have e1 : R.write s b = R := by unfold RefD.write; rw [if_pos (.inl hE)]
    have e2 : R.writeE s b.length = R.readE s := by unfold RefD.writeE; rw [if_pos hE]
    rw [e1, e2]
    exact (ref_write_err h s b hE).mono (fun e w' ⟨h1, h2⟩ => ⟨cs, h1, h.fr0 h2, h2⟩)
end Go.Proofs.YtffolfemcllfkaaGreatDoor

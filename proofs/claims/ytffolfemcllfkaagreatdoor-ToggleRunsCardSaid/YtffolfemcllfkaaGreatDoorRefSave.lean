import Derived.Test.YtffolfemcllfkaaGreatDoorRefSvD
namespace Go.Proofs.YtffolfemcllfkaaGreatDoor
open Go.RowKit
set_option linter.unusedVariables false
set_option linter.unusedSimpArgs false
set_option maxRecDepth 100000

/-! The document's toggle: Save in any case. -/
theorem RefD.look_none {R : RefD} {f s : Int} (hm : R.now.length ≤ 16384) (h : (R.look f s).err = 8) : (R.crashed = false ∧ R.gone = false) ∧ 0 ≤ f ∧ (3 ≤ s ∧ s ≤ 16384) ∧ f + s ≤ R.now.length := by
  unfold RefD.look at h
  split at h
  · cases h
  · rename_i h1
    split at h
    · rename_i h2
      exfalso
      unfold RefD.readE at h
      split at h
      · cases h
      · split at h <;> cases h
    · rename_i h2
      have hd : R.crashed = false ∧ R.gone = false := by
        unfold RefD.readE at h2
        cases hx : R.crashed
        · cases hy : R.gone
          · exact ⟨rfl, rfl⟩
          · rw [hx, hy, if_pos (.inr rfl)] at h2; exact absurd (by decide) h2
        · rw [hx, if_pos (.inl rfl)] at h2; exact absurd (by decide) h2
      exact ⟨hd, by omega, ⟨by omega, by omega⟩, by omega⟩
theorem rsave_any {w : World} {cs : Array Value} {R : RefD} (h : RDV w cs R) (h3 : 3 ≤ R.now.length) (hb64 : ∀ x ∈ R.now, x.length = 64) (f s : Int) (l : List UInt8) :
    Calls Tryz.prog 19 #[.agg cs, area f s, strOf l] w fun e w' => RDo w (R.saveA f s l) (R.saveAE f s l) e w' := by
  have hm := h.most
  by_cases hb : (R.look f s).err ≠ 0 ∧ (R.look f s).err ≠ 8
  · have h1 : R.saveA f s l = R := by unfold RefD.saveA; rw [if_pos (.inl hb)]
    have h2 : R.saveAE f s l = (R.look f s).err := by unfold RefD.saveAE; rw [if_pos hb]
    rw [h1, h2]
    exact rsave_bad h h3 hb64 f s (strOf l) hb
  · have hE : (R.look f s).err = 0 ∨ (R.look f s).err = 8 := by
      cases Classical.em ((R.look f s).err = 0) with
      | inl h => exact .inl h
      | inr h => exact .inr (Classical.byContradiction fun h8 => hb ⟨h, h8⟩)
    by_cases hl : roomF s < (l.length : Int)
    · have h1 : R.saveA f s l = R := by unfold RefD.saveA; rw [if_pos (.inr hl)]
      have h2 : R.saveAE f s l = 2 := by unfold RefD.saveAE; rw [if_neg hb, if_pos hl]
      rw [h1, h2]
      exact rsave_long h h3 hb64 f s l hE hl
    · rcases hE with h0 | h8
      · obtain ⟨hd, hf, hs, hfs, hn, _⟩ := RefD.look_ok hm h0
        exact rsave_ok h h3 hb64 f s l (.inl h0) hl hf hs hfs (by unfold RefD.downB; rw [hd.1, hd.2]; rfl) hn
      · obtain ⟨hd, hf, hs, hfs⟩ := RefD.look_none hm h8
        have hb8 := RefD.look_bad (R := R) (f := f) (s := s) (by rw [h8]; decide)
        exact rsave_ok h h3 hb64 f s l (.inr h8) hl hf hs hfs (by unfold RefD.downB; rw [hd.1, hd.2]; rfl) (by rw [hb8]; exact Nat.zero_le _)
end Go.Proofs.YtffolfemcllfkaaGreatDoor

import Derived.Test.YtdkjmnhblepkaaaDev3
namespace Go.Proofs.Ytdkjmnhblepkaaa
open Go.RowKit
set_option linter.unusedVariables false
set_option linter.unusedSimpArgs false

/-! Write in one contract. -/
theorem write_any {w : World} {p m1 m2 : Nat} {D : DevS} (h : DevAt w p m1 m2 D) (s : Int) (A : Option Addr) (n c : Nat) (l : List UInt8) (hnl : n = l.length) (hA : CellsAt w A (l.map byteV)) (hap : ∀ b, blkOf A b → 0 < l.length → ¬ devBlks p m1 m2 b) :
    Calls Try.prog 33 #[ptr p, .int .i64 s, .slice A n c] w fun e w' => e = .returned (errV (D.writeE s l.length)) ∧ Fr (devBlks p m1 m2) w w' ∧ DevAt w' p m1 m2 (D.write s l) := by
  subst hnl
  by_cases hE : D.atE s = 0
  · by_cases hl : 64 < l.length
    · refine (write_long h s A _ c hE hl).mono ?_
      rintro e w' ⟨rfl, rfl⟩
      exact ⟨by simp [DevS.writeE, hE, hl], Fr.refl _ _, by simpa [DevS.write, hl] using h⟩
    · by_cases ha : D.armed = true ∧ D.left = 0
      · refine (write_crash h s A _ c hE (by omega) ha.1 ha.2).mono ?_
        rintro e w' ⟨rfl, hF, hD⟩
        exact ⟨by simp [DevS.writeE, hE, hl, ha], hF, by simpa [DevS.write, hl, hE, ha] using hD⟩
      · refine (write_ok h s A _ c l hE (by omega) ha rfl hA hap).mono ?_
        rintro e w' ⟨rfl, hF, hD⟩
        have e1 : D.write s l = D.put s l := by
          unfold DevS.write; rw [if_neg (by omega), if_neg ha]
        exact ⟨by unfold DevS.writeE; rw [if_neg (by omega), if_neg hl, if_neg ha], hF, e1 ▸ hD⟩
  · refine (write_err h s A _ c hE).mono ?_
    rintro e w' ⟨rfl, rfl⟩
    exact ⟨by simp [DevS.writeE, hE], Fr.refl _ _, by simpa [DevS.write, hE] using h⟩
/-- Nil is no slice of a device's. -/
theorem blkOf_none (b : Nat) : ¬ blkOf none b := fun ⟨o, h⟩ => by cases h
theorem blkOf_some {g o b : Nat} (h : blkOf (some ⟨g, o, none⟩) b) : b = g := by obtain ⟨_, h⟩ := h; cases h; rfl
/-- A block that is new lies in no device. -/
theorem DevAt.new {w : World} {p m1 m2 : Nat} {D : DevS} (h : DevAt w p m1 m2 D) {g : Nat} (hg : w.heap.size ≤ g) : ¬ devBlks p m1 m2 g := fun hd => by have := h.lt g hd; omega
end Go.Proofs.Ytdkjmnhblepkaaa

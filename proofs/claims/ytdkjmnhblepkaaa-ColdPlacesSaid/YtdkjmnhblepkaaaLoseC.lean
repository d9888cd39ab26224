import Derived.Test.YtdkjmnhblepkaaaDev3
namespace Go.Proofs.Ytdkjmnhblepkaaa
open Go.RowKit
set_option linter.unusedVariables false
set_option linter.unusedSimpArgs false
/-! Lose (a seat without Flush or Arm). -/
theorem DevAt.clearedC {w w' : World} {p m1 m2 : Nat} {D D' : DevS} (h : DevAt w p m1 m2 D) (hF : Fr (fun i => i = m2) w w') (hM : IMap w' m2 []) (hc : D'.cells m1 m2 = D.cells m1 m2) (h1 : D'.now = D.now) (h2 : D'.loose = []) (h3 : D'.sectors = D.sectors) :
    Fr (devBlks p m1 m2) w w' ∧ DevAt w' p m1 m2 D' := by
  refine ⟨hF.mono (fun i _ e => .inr (.inr e)), by rw [hc]; exact hF.heap h.blk h.pne.2, by rw [h1]; exact h.now.fr hF h.ne, by rw [h2]; exact hM, h.ne, by rw [h1]; exact h.len, by rw [h2]; simp, by rw [h2]; simp, by rw [h3]; exact h.most⟩
def DevS.lose (D : DevS) : DevS := { D with lost := true, loose := [] }
theorem lose_any {w : World} {p m1 m2 : Nat} {D : DevS} (h : DevAt w p m1 m2 D) : Calls Try.prog 26 #[ptr p] w fun e w' => e = .returned (.tuple #[]) ∧ Fr (devBlks p m1 m2) w w' ∧ DevAt w' p m1 m2 D.lose := by
  obtain ⟨c0, c1, c2, c3, c4, c5, c6, c7⟩ := h.cellsAll
  have f7 := h.frozen 7
  have h7 := h.setCell (D' := { D with lost := true }) 7 (.bool true) rfl rfl rfl rfl
  go_enter Try.func26, Try.ntmps26
  go_wp2_with ((with_reducible refine at_clear (.tmp 10) (b := m2) (m := mapV blkV D.loose) Try.underlying74 ?_ ?_ ?_); (focus rfl); (focus exact h7.loose); intro w1 hF1 hM1)
  go_end0
  have h8 := h7.clearedC (D' := D.lose) hF1 hM1 rfl rfl rfl rfl
  exact ⟨rfl, (((Fr.set w p 7 _).mono (fun i _ e => .inl e)).trans h8.1), h8.2⟩
end Go.Proofs.Ytdkjmnhblepkaaa

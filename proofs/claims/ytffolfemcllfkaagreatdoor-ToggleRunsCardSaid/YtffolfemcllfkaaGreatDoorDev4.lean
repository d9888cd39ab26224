import Derived.Test.YtffolfemcllfkaaGreatDoorDev3
namespace Go.Proofs.YtffolfemcllfkaaGreatDoor
open Go.RowKit
set_option linter.unusedVariables false
set_option linter.unusedSimpArgs false
/-! Flush. -/
def DevS.flush (D : DevS) : DevS := if D.down then D else { D with loose := [] }
theorem DevAt.cleared {w w' : World} {p m1 m2 : Nat} {D D' : DevS} (h : DevAt w p m1 m2 D) (hF : Fr (fun i => i = m2) w w') (hM : IMap w' m2 []) (hc : D'.cells m1 m2 = D.cells m1 m2) (h1 : D'.now = D.now) (h2 : D'.loose = []) (h3 : D'.sectors = D.sectors) :
    Fr (devBlks p m1 m2) w w' ∧ DevAt w' p m1 m2 D' := by
  refine ⟨hF.mono (fun i _ e => .inr (.inr e)), by rw [hc]; exact hF.heap h.blk h.pne.2, by rw [h1]; exact h.now.fr hF h.ne, by rw [h2]; exact hM, h.ne, by rw [h1]; exact h.len, by rw [h2]; simp, by rw [h2]; simp, by rw [h3]; exact h.most⟩
theorem flush_err {w : World} {p m1 m2 : Nat} {D : DevS} (h : DevAt w p m1 m2 D) (hd : D.down = true) : Calls Tryz.prog 57 #[ptr p] w fun e w' => e = .returned (errV 13) ∧ w = w' := by
  have hE : D.readyE = 13 := by simp [DevS.readyE, hd]
  go_enter Tryz.func57, Tryz.ntmps57
  go_wp2_with fail
  (with_reducible refine (ready_any h).mono ?_)
  rintro e w' ⟨rfl, rfl⟩
  rw [hE, errV_n (by decide)]
  go_wp2_with fail
  go_ret
  exact ⟨rfl, rfl⟩
theorem flush_ok {w : World} {p m1 m2 : Nat} {D : DevS} (h : DevAt w p m1 m2 D) (hd : D.down = false) : Calls Tryz.prog 57 #[ptr p] w fun e w' => e = .returned (errV 0) ∧ Fr (devBlks p m1 m2) w w' ∧ DevAt w' p m1 m2 { D with loose := [] } := by
  have hE : D.readyE = 0 := by simp [DevS.readyE, hd]
  obtain ⟨c0, c1, c2, c3, c4, c5, c6, c7⟩ := h.cellsAll
  go_enter Tryz.func57, Tryz.ntmps57
  go_wp2_with fail
  (with_reducible refine (ready_any h).mono ?_)
  rintro e w' ⟨rfl, rfl⟩
  rw [hE, errV_0]
  go_wp2_with ((with_reducible refine at_clear (.tmp 12) (b := m2) (m := mapV blkV D.loose) Tryz.underlying107 ?_ ?_ ?_); (focus rfl); (focus exact h.loose); intro w1 hF1 hM1)
  go_ret
  exact ⟨rfl, h.cleared hF1 hM1 rfl rfl rfl rfl⟩
end Go.Proofs.YtffolfemcllfkaaGreatDoor

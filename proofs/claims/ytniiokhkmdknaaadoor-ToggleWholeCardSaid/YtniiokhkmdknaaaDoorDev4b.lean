import Derived.Test.YtniiokhkmdknaaaDoorDev4
namespace Go.Proofs.YtniiokhkmdknaaaDoor
open Go.RowKit
set_option linter.unusedVariables false
set_option linter.unusedSimpArgs false
/-! Arm, Lose. -/
theorem arm_bad {w : World} {p m1 m2 : Nat} {D : DevS} (h : DevAt w p m1 m2 D) (n : Int) (hn : n < 0) : Calls Tryd.prog 13 #[ptr p, .int .i64 n] w fun e w' => e = .returned (errV 1) ∧ w = w' := by
  go_enter Tryd.func13, Tryd.ntmps13
  go_wp2_with fail
  go_ret
  exact ⟨rfl, rfl⟩
theorem arm_down {w : World} {p m1 m2 : Nat} {D : DevS} (h : DevAt w p m1 m2 D) (n : Int) (hn : 0 ≤ n) (hd : D.down = true) : Calls Tryd.prog 13 #[ptr p, .int .i64 n] w fun e w' => e = .returned (errV 13) ∧ w = w' := by
  have hE : D.readyE = 13 := by simp [DevS.readyE, hd]
  have hn2 : ¬ n < 0 := by omega
  go_enter Tryd.func13, Tryd.ntmps13
  go_wp2_with fail
  (with_reducible refine (ready_any h).mono ?_)
  rintro e w' ⟨rfl, rfl⟩
  rw [hE, errV_n (by decide)]
  go_wp2_with fail
  go_ret
  exact ⟨rfl, rfl⟩
theorem arm_ok {w : World} {p m1 m2 : Nat} {D : DevS} (h : DevAt w p m1 m2 D) (n : Int) (hn : 0 ≤ n) (hd : D.down = false) : Calls Tryd.prog 13 #[ptr p, .int .i64 n] w fun e w' => e = .returned (errV 0) ∧ Fr (devBlks p m1 m2) w w' ∧ DevAt w' p m1 m2 { D with armed := true, left := n } := by
  have hE : D.readyE = 0 := by simp [DevS.readyE, hd]
  have hn2 : ¬ n < 0 := by omega
  obtain ⟨c0, c1, c2, c3, c4, c5, c6, c7⟩ := h.cellsAll
  have f4 := h.frozen 4
  have f5 := h.frozen 5
  go_enter Tryd.func13, Tryd.ntmps13
  go_wp2_with fail
  (with_reducible refine (ready_any h).mono ?_)
  rintro e w' ⟨rfl, rfl⟩
  rw [hE, errV_0]
  go_wp2_with fail
  go_ret
  exact ⟨rfl, ((Fr.set w p 4 _).trans (Fr.set _ p 5 _)).mono (fun i _ e => .inl e), (h.setCell (D' := { D with armed := true }) 4 (.bool true) rfl rfl rfl rfl).setCell 5 (.int .i64 n) rfl rfl rfl rfl⟩
def DevS.lose (D : DevS) : DevS := { D with lost := true, loose := [] }
theorem lose_any {w : World} {p m1 m2 : Nat} {D : DevS} (h : DevAt w p m1 m2 D) : Calls Tryd.prog 18 #[ptr p] w fun e w' => e = .returned (.tuple #[]) ∧ Fr (devBlks p m1 m2) w w' ∧ DevAt w' p m1 m2 D.lose := by
  obtain ⟨c0, c1, c2, c3, c4, c5, c6, c7⟩ := h.cellsAll
  have f7 := h.frozen 7
  have h7 := h.setCell (D' := { D with lost := true }) 7 (.bool true) rfl rfl rfl rfl
  go_enter Tryd.func18, Tryd.ntmps18
  go_wp2_with ((with_reducible refine at_clear (.tmp 10) (b := m2) (m := mapV blkV D.loose) Tryd.underlying52 ?_ ?_ ?_); (focus rfl); (focus exact h7.loose); intro w1 hF1 hM1)
  go_end0
  have h8 := h7.cleared (D' := D.lose) hF1 hM1 rfl rfl rfl rfl
  exact ⟨rfl, (((Fr.set w p 7 _).mono (fun i _ e => .inl e)).trans h8.1), h8.2⟩
theorem lost_any {w : World} {p m1 m2 : Nat} {D : DevS} (h : DevAt w p m1 m2 D) : True := trivial
end Go.Proofs.YtniiokhkmdknaaaDoor

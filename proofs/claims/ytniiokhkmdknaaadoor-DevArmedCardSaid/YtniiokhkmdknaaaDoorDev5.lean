import Derived.Test.YtniiokhkmdknaaaDoorDevAll2
namespace Go.Proofs.YtniiokhkmdknaaaDoor
open Go.RowKit
set_option linter.unusedVariables false
set_option linter.unusedSimpArgs false

/-! The device: Lost, Writes, Replace. -/
theorem islost_any {w : World} {p m1 m2 : Nat} {D : DevS} (h : DevAt w p m1 m2 D) : Calls Tryd.prog 21 #[ptr p] w fun e w' => e = .returned (.bool D.lost) ∧ w = w' := by
  obtain ⟨c0, c1, c2, c3, c4, c5, c6, c7⟩ := h.cellsAll
  go_enter Tryd.func21, Tryd.ntmps21
  go_wp2
  go_ret
  exact ⟨rfl, rfl⟩
theorem writes_any {w : World} {p m1 m2 : Nat} {D : DevS} (h : DevAt w p m1 m2 D) : Calls Tryd.prog 16 #[ptr p] w fun e w' => e = .returned (.int .i64 D.writes) ∧ w = w' := by
  obtain ⟨c0, c1, c2, c3, c4, c5, c6, c7⟩ := h.cellsAll
  go_enter Tryd.func16, Tryd.ntmps16
  go_wp2
  go_ret
  exact ⟨rfl, rfl⟩
theorem DevAt.wiped {w w' : World} {p m1 m2 : Nat} {D D' : DevS} (h : DevAt w p m1 m2 D) (hF : Fr (fun i => i = m1) w w') (hM : IMap w' m1 []) (hc : D'.cells m1 m2 = D.cells m1 m2) (h1 : D'.now = []) (h2 : D'.loose = D.loose) (h3 : D'.sectors = D.sectors) :
    Fr (devBlks p m1 m2) w w' ∧ DevAt w' p m1 m2 D' := by
  refine ⟨hF.mono (fun i _ e => .inr (.inl e)), hc ▸ hF.heap h.blk h.pne.1, ?_, ?_, h.ne, ?_, ?_, ?_, ?_⟩
  · rw [h1]; exact hM
  · rw [h2]; exact h.loose.fr hF (fun e => h.ne e.symm)
  · rw [h1]; intro x hx; cases hx
  · rw [h2]; exact h.len2
  · rw [h2, h3]; exact h.keys
  · rw [h3]; exact h.most
def DevS.replace (D : DevS) : DevS := if D.lost then { D with now := [], lost := false, crashed := false, armed := false } else D
theorem replace_any {w : World} {p m1 m2 : Nat} {D : DevS} (h : DevAt w p m1 m2 D) : Calls Tryd.prog 19 #[ptr p] w fun e w' => e = .returned (.tuple #[]) ∧ Fr (devBlks p m1 m2) w w' ∧ DevAt w' p m1 m2 D.replace := by
  obtain ⟨c0, c1, c2, c3, c4, c5, c6, c7⟩ := h.cellsAll
  cases hl : D.lost <;> rw [hl] at c7
  · go_enter Tryd.func19, Tryd.ntmps19
    go_wp2
    first
      | (go_end0; exact ⟨rfl, Fr.refl _ _, by unfold DevS.replace; rw [hl]; exact h⟩)
      | exact bodyPost_ret (results_none rfl _ _ _) rfl ⟨rfl, Fr.refl _ _, by unfold DevS.replace; rw [hl]; exact h⟩
  · have he : D.replace = { D with now := [], lost := false, crashed := false, armed := false } := by unfold DevS.replace; rw [hl]; rfl
    go_enter Tryd.func19, Tryd.ntmps19
    go_wp2_with ((with_reducible refine at_clear (.tmp 13) (b := m1) (m := mapV blkV D.now) Tryd.underlying52 ?_ ?_ ?_); (focus rfl); (focus exact h.now); intro w1 hF1 hM1; have h1 := h.wiped (D' := { D with now := [] }) hF1 hM1 rfl rfl rfl rfl; have h2 := h1.2.setCell (D' := { D with now := [], lost := false }) 7 (.bool false) rfl rfl rfl rfl; have h3 := h2.setCell (D' := { D with now := [], lost := false, crashed := false }) 6 (.bool false) rfl rfl rfl rfl; have h4 := h3.setCell (D' := { D with now := [], lost := false, crashed := false, armed := false }) 4 (.bool false) rfl rfl rfl rfl; have g0 := h1.2.cellsAll; obtain ⟨d0, d1, d2, d3, d4, d5, d6, d7⟩ := g0; have f7 := h1.2.frozen 7; have f6 := h1.2.frozen 6; have f4 := h1.2.frozen 4)
    go_end0
    exact ⟨rfl, ((h1.1.trans ((Fr.set _ p 7 _).mono (fun i _ e => .inl e))).trans ((Fr.set _ p 6 _).mono (fun i _ e => .inl e))).trans ((Fr.set _ p 4 _).mono (fun i _ e => .inl e)), he ▸ h4⟩
end Go.Proofs.YtniiokhkmdknaaaDoor

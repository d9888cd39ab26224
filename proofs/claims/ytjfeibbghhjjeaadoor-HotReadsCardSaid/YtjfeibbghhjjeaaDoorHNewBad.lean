import Derived.Test.YtjfeibbghhjjeaaDoorHDecP
import Derived.Deep.QuietTactic
import Derived.Deep.RegionWith
namespace Go.Proofs.YtjfeibbghhjjeaaDoor
open Go.RowKit
set_option linter.unusedVariables false
set_option linter.unusedSimpArgs false
set_option maxRecDepth 100000

/-! hot.New refuses. -/
theorem newin_gen (n : Int) (w : World) : Calls Tryd.prog 35 #[.int .i64 n] w fun e w' => e = .returned (.bool (decide (1 ≤ n ∧ n ≤ 1024))) ∧ w' = w := by
  by_cases h1 : 1 ≤ n
  · by_cases h2 : n ≤ 1024
    · rw [decide_eq_true ⟨h1, h2⟩]
      go_enter Tryd.func35, Tryd.ntmps35
      go_wp2_with fail
      go_ret
      exact ⟨rfl, rfl⟩
    · rw [decide_eq_false (fun h => h2 h.2)]
      go_enter Tryd.func35, Tryd.ntmps35
      go_wp2_with fail
      go_ret
      exact ⟨rfl, rfl⟩
  · rw [decide_eq_false (fun h => h1 h.1)]
    go_enter Tryd.func35, Tryd.ntmps35
    go_wp2_with fail
    go_ret
    exact ⟨rfl, rfl⟩
set_option maxHeartbeats 8000000 in
theorem hnew_bad {w : World} {p m1 m2 : Nat} {D : DevS} (hd : DevAt w p m1 m2 D) (f n s : Int) (hb : confBad D.sectors f n s) :
    Calls Tryd.prog 13 #[ptr p, .agg #[.int .i64 f, .int .i64 n, .int .i64 s]] w fun e w' => e = .returned (.tuple #[.pointer none, errV 1]) ∧ Fr none_ w w' := by
  have hD := hd.most
  have hF0 : Fr none_ w (w.alloc (.cells #[.int .i64 f, .int .i64 n, .int .i64 s] 39)) := (Fr.refl _ _).alloc _
  have hb0 := heap_alloc_new w (.cells #[.int .i64 f, .int .i64 n, .int .i64 s] 39)
  have hd1 := hd.fr0 hF0
  obtain ⟨W, hW⟩ : ∃ W, W = w.alloc (.cells #[.int .i64 f, .int .i64 n, .int .i64 s] 39) := ⟨_, rfl⟩
  rw [← hW] at hF0 hb0 hd1
  have c0 : W.cell? ⟨w.heap.size, 0, none⟩ = some (.int .i64 f) := by rw [cell_of_blk hb0]; rfl
  have c1 : W.cell? ⟨w.heap.size, 1, none⟩ = some (.int .i64 n) := by rw [cell_of_blk hb0]; rfl
  have c2 : W.cell? ⟨w.heap.size, 2, none⟩ = some (.int .i64 s) := by rw [cell_of_blk hb0]; rfl
  have hsc : ∀ nq, Calls Tryd.prog 36 #[ptr p] (W.drewN nq) fun e w' => e = .returned (.int .i64 D.sectors) ∧ w' = W.drewN nq := fun nq => (sectors_any (hd1.fr0 (show Fr none_ W (W.drewN nq) from ⟨rfl, rfl, rfl, Nat.le_refl _, fun _ _ _ => rfl⟩))).mono (fun e w' ⟨h1, h2⟩ => ⟨h1, h2.symm⟩)
  have HSC := Lib.hid hsc
  have HW := Lib.hid hW
  have hfin : ∀ nq, Fr none_ w (W.drewN nq) := fun nq => hF0.trans ⟨rfl, rfl, rfl, Nat.le_refl _, fun _ _ _ => rfl⟩
  have HFIN := Lib.hid hfin
  clear hsc hW hd1 hb0 hF0 hfin
  have he1 : errV 1 = .iface 53 (.int .i64 1) := errV_n (by decide)
  rw [he1]
  by_cases h1 : f < 0
  · go_enter Tryd.func13, Tryd.ntmps13
    go_upto_region 2 with fail
    rw [← HW.out]
    go_quiet (fail)
    go_wp2_with fail
    go_ret2
    exact ⟨rfl, HFIN.out _⟩
  · by_cases h2 : 1 ≤ n ∧ n ≤ 1024
    · have k2 : ∀ nq, Calls Tryd.prog 35 #[.int .i64 n] (W.drewN nq) fun e w' => e = .returned (.bool true) ∧ w' = W.drewN nq := fun nq => by have := newin_gen n (W.drewN nq); rw [decide_eq_true h2] at this; exact this
      have K2 := Lib.hid k2
      by_cases h3 : 1 ≤ s ∧ s ≤ 1024
      · have k3 : ∀ nq, Calls Tryd.prog 35 #[.int .i64 s] (W.drewN nq) fun e w' => e = .returned (.bool true) ∧ w' = W.drewN nq := fun nq => by have := newin_gen s (W.drewN nq); rw [decide_eq_true h3] at this; exact this
        have K3 := Lib.hid k3
        have hns0 : 0 ≤ n * s := Int.mul_nonneg (by omega) (by omega)
        have hns1 : n * s ≤ 1024 * 1024 := Int.mul_le_mul h2.2 h3.2 (by omega) (by omega)
        have h4 : IntKind.i64.wrap (D.sectors - IntKind.i64.wrap (n * s)) < f := by
          rw [IntWalk.i64_in (n * s) (by omega), IntWalk.i64_in _ (by omega)]
          rcases hb with h | h | h | h | h | h <;> omega
        have h5 : wrap64 (D.sectors - wrap64 (n * s)) < f := by
          rw [IntWalk.wrap64_in (n * s) (by omega), IntWalk.wrap64_in _ (by omega)]
          rcases hb with h | h | h | h | h | h <;> omega
        clear k2 k3 h2 h3 hb hns0 hns1 h4
        go_enter Tryd.func13, Tryd.ntmps13
        go_upto_region 2 with fail
        rw [← HW.out]
        go_quiet (first | (go_at_call_of 35 (Value.int .i64 n); exact Calls.quiet_of_same (K2.out _)) | (go_at_call 35; exact Calls.quiet_of_same (K3.out _)) | (go_at_call 36; exact Calls.quiet_of_same (HSC.out _)))
        go_wp2_with fail
        go_ret2
        exact ⟨rfl, HFIN.out _⟩
      · have k3 : ∀ nq, Calls Tryd.prog 35 #[.int .i64 s] (W.drewN nq) fun e w' => e = .returned (.bool false) ∧ w' = W.drewN nq := fun nq => by have := newin_gen s (W.drewN nq); rw [decide_eq_false h3] at this; exact this
        have K3 := Lib.hid k3
        clear k2 k3 h2 h3 hb
        go_enter Tryd.func13, Tryd.ntmps13
        go_upto_region 2 with fail
        rw [← HW.out]
        go_quiet (first | (go_at_call_of 35 (Value.int .i64 n); exact Calls.quiet_of_same (K2.out _)) | (go_at_call 35; exact Calls.quiet_of_same (K3.out _)))
        go_wp2_with fail
        go_ret2
        exact ⟨rfl, HFIN.out _⟩
    · have k2 : ∀ nq, Calls Tryd.prog 35 #[.int .i64 n] (W.drewN nq) fun e w' => e = .returned (.bool false) ∧ w' = W.drewN nq := fun nq => by have := newin_gen n (W.drewN nq); rw [decide_eq_false h2] at this; exact this
      have K2 := Lib.hid k2
      clear k2 h2 hb
      go_enter Tryd.func13, Tryd.ntmps13
      go_upto_region 2 with fail
      rw [← HW.out]
      go_quiet ((go_at_call 35; exact Calls.quiet_of_same (K2.out _)))
      go_wp2_with fail
      go_ret2
      exact ⟨rfl, HFIN.out _⟩
end Go.Proofs.YtjfeibbghhjjeaaDoor

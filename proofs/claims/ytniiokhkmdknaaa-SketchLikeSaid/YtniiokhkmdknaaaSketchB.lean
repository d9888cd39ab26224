import Derived.Test.YtniiokhkmdknaaaHorner
import Derived.Deep.RegionHeld3
import Derived.Deep.QuietTactic
import Derived.BigQuiet
import Derived.Deep.RegionWith
namespace Go.Proofs.Ytniiokhkmdknaaa
open Go.RowKit
set_option linter.unusedVariables false
set_option linter.unusedSimpArgs false

def eqn (a b : Nat) : Nat := if a = b then 1 else 0
theorem eqn_bd (a b : Nat) : eqn a b ≤ 1 := by unfold eqn; split <;> omega
theorem eqn_t {a b : Nat} (h : ((a : Int) == (b : Int)) = true) : eqn a b = 1 := by
  have h2 : (a : Int) = b := by simpa using h
  have h3 : a = b := by omega
  simp [eqn, h3]
theorem eqn_f {a b : Nat} (h : ((a : Int) == (b : Int)) = false) : eqn a b = 0 := by
  have h2 : ¬ (a : Int) = b := by simpa using h
  have h3 : a ≠ b := by omega
  simp [eqn, h3]
def likeF (a0 a1 a2 a3 b0 b1 b2 b3 : Nat) : Nat → Nat
  | 0 => 0
  | 1 => eqn a0 b0
  | 2 => eqn a0 b0 + eqn a1 b1
  | 3 => eqn a0 b0 + eqn a1 b1 + eqn a2 b2
  | _ => eqn a0 b0 + eqn a1 b1 + eqn a2 b2 + eqn a3 b3
theorem likeF_le (a0 a1 a2 a3 b0 b1 b2 b3 k : Nat) : likeF a0 a1 a2 a3 b0 b1 b2 b3 k ≤ 4 := by
  have e0 := eqn_bd a0 b0
  have e1 := eqn_bd a1 b1
  have e2 := eqn_bd a2 b2
  have e3 := eqn_bd a3 b3
  unfold likeF; split <;> omega
abbrev sk (a b c d : Nat) : Value := .agg #[.int .u32 (a : Int), .int .u32 (b : Int), .int .u32 (c : Int), .int .u32 (d : Int)]
set_option maxHeartbeats 400000 in
theorem like_any (a0 a1 a2 a3 b0 b1 b2 b3 : Nat) (w : World) :
    Calls Try.prog 8 #[sk a0 a1 a2 a3, sk b0 b1 b2 b3] w fun e w' => e = .returned (.int .i64 (likeF a0 a1 a2 a3 b0 b1 b2 b3 4 : Nat)) ∧ Fr none_ w w' := by
  have i0 : ∀ w, (Instr.index 27 (.agg #[.int .u32 a0, .int .u32 a1, .int .u32 a2, .int .u32 a3]) (.int .i64 0)).run Try.prog w = .ok (.int .u32 a0) w := fun _ => by kernel_rfl
  have i1 : ∀ w, (Instr.index 27 (.agg #[.int .u32 a0, .int .u32 a1, .int .u32 a2, .int .u32 a3]) (.int .i64 1)).run Try.prog w = .ok (.int .u32 a1) w := fun _ => by kernel_rfl
  have i2 : ∀ w, (Instr.index 27 (.agg #[.int .u32 a0, .int .u32 a1, .int .u32 a2, .int .u32 a3]) (.int .i64 2)).run Try.prog w = .ok (.int .u32 a2) w := fun _ => by kernel_rfl
  have i3 : ∀ w, (Instr.index 27 (.agg #[.int .u32 a0, .int .u32 a1, .int .u32 a2, .int .u32 a3]) (.int .i64 3)).run Try.prog w = .ok (.int .u32 a3) w := fun _ => by kernel_rfl
  have e0 := eqn_bd a0 b0
  have e1 := eqn_bd a1 b1
  have e2 := eqn_bd a2 b2
  have e3 := eqn_bd a3 b3
  go_enter Try.func8, Try.ntmps8
  go_wp2
  go_loop [5, 9] (fun n i => ∃ k : Nat, k ≤ 4 ∧ n = .int .i64 (likeF a0 a1 a2 a3 b0 b1 b2 b3 k : Nat) ∧ i = .int .i64 k) (fun _ i => 4 - (intOf i).toNat)
  case atStart => exact ⟨0, by omega, rfl, rfl⟩
  case round =>
    obtain ⟨k, hk, rfl, rfl⟩ := hrel
    rcases (by omega : k = 0 ∨ k = 1 ∨ k = 2 ∨ k = 3 ∨ k = 4) with rfl | rfl | rfl | rfl | rfl
    all_goals (simp only [likeF]; go_wp2)
    all_goals first
      | (go_ret; exact ⟨rfl, ((Fr.refl _ _).alloc _).alloc _⟩)
      | (go_round
         case rel => exact ⟨_ + 1, by omega, by first | (have hh := eqn_t (by assumption); simp [likeF, hh]) | (have hh := eqn_f (by assumption); simp [likeF, hh]), rfl⟩
         case measure => simp [intOf])
set_option maxHeartbeats 1000000 in
theorem rlike_any (a0 a1 a2 a3 b0 b1 b2 b3 : Nat) (w : World) :
    Calls Try.prog 9 #[sk a0 a1 a2 a3, sk b0 b1 b2 b3] w fun e w' => e = .returned (.int .i64 (likeF a0 a1 a2 a3 b0 b1 b2 b3 4 : Nat)) ∧ Fr none_ w w' := by
  have e0 := eqn_bd a0 b0
  have e1 := eqn_bd a1 b1
  have e2 := eqn_bd a2 b2
  have e3 := eqn_bd a3 b3
  go_enter Try.func9, Try.ntmps9
  go_wp2
  go_loopw [5, 6] (fun n i wr => ∃ k : Nat, k ≤ 4 ∧ n = .int .i64 (likeF a0 a1 a2 a3 b0 b1 b2 b3 k : Nat) ∧ i = .int .i64 k ∧ ∃ m, wr = ((w.alloc (Obj.cells #[.int .u32 a0, .int .u32 a1, .int .u32 a2, .int .u32 a3] 25)).alloc (Obj.cells #[.int .u32 b0, .int .u32 b1, .int .u32 b2, .int .u32 b3] 25)).drewN m) (fun _ i _ => 4 - (intOf i).toNat)
  case atStart => exact ⟨0, by omega, rfl, rfl, 0, rfl⟩
  case round =>
    obtain ⟨k, hk, rfl, rfl, m, rfl⟩ := hrel
    rcases (by omega : k = 0 ∨ k = 1 ∨ k = 2 ∨ k = 3 ∨ k = 4) with rfl | rfl | rfl | rfl | rfl
    all_goals (simp only [likeF]; go_wp2_with fail)
    all_goals first | (go_quiet (fail); go_wp2) | (go_wp2; go_ret; exact ⟨rfl, by have := (((Fr.refl none_ w).alloc (Obj.cells #[.int .u32 a0, .int .u32 a1, .int .u32 a2, .int .u32 a3] 25)).alloc (Obj.cells #[.int .u32 b0, .int .u32 b1, .int .u32 b2, .int .u32 b3] 25)); exact ⟨this.os, this.tape, this.output, this.size, this.block⟩⟩)
    all_goals
      (go_roundw
       case rel => exact ⟨_ + 1, by omega, by first | (have hh := eqn_t (by assumption); simp [likeF, hh]) | (have hh := eqn_f (by assumption); simp [likeF, hh]), rfl, _, rfl⟩
       case measure => simp [intOf])
end Go.Proofs.Ytniiokhkmdknaaa

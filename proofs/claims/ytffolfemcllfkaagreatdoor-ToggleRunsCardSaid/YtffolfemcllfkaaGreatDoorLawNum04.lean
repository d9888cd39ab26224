import Derived.Test.YtffolfemcllfkaaGreatDoorErrAs
import Derived.Test.YtffolfemcllfkaaGreatDoorDevAll
namespace Go.Proofs.YtffolfemcllfkaaGreatDoor
open Go.RowKit
set_option linter.unusedVariables false
set_option linter.unusedSimpArgs false
theorem asW_fr04 (t : Addr) (n : Int) (w : World) : Fr (fun i => i = t.block) w (asW t n w) := by
  unfold asW
  exact Fr.setCell (S := fun i => i = t.block) (p := t) (((((Fr.refl _ _).alloc _).alloc _).alloc _).alloc _) (fun _ => rfl) _
theorem asW_cell04 {w : World} {b : Nat} {o : Value} (n : Int) (h : w.cell? ⟨b, 0, none⟩ = some o) : (asW ⟨b, 0, none⟩ n w).cell? ⟨b, 0, none⟩ = some (.int .i64 n) := by
  have hb := cell_lt h
  unfold asW
  refine World.cell?_setCell_same _ _ _ (show _ = some o from ?_)
  exact ((((((Fr.refl none_ w).alloc _).alloc _).alloc _).alloc _).cell0 h)
theorem num04_any (n : Int) (w : World) (hg : ErrT w) : Calls Tryz.prog 22 #[errV n] w fun e w' => e = .returned (.int .i64 n) ∧ Fr none_ w w' := by
  by_cases hn : n = 0
  · subst hn
    rw [errV_0]
    go_enter Tryz.func22, Tryz.ntmps22
    go_wp2_with fail
    go_ret
    exact ⟨rfl, (Fr.refl _ _).alloc _⟩
  · rw [errV_n hn]
    have hg1 : ErrT (w.alloc (.cells #[.int .i64 0] 106)) := hg.fr0 ((Fr.refl _ _).alloc _)
    have ht : (w.alloc (.cells #[.int .i64 0] 106)).cell? ⟨w.heap.size, 0, none⟩ = some (.int .i64 0) := by rw [cell_of_blk (heap_alloc_new _ _)]; rfl
    have hf : (w.alloc (.cells #[.int .i64 0] 106)).frozen? ⟨w.heap.size, 0, none⟩ = false := frozen_of_blk (heap_alloc_new _ _) 0
    have hc := asW_cell04 n ht
    have hF := asW_fr04 ⟨w.heap.size, 0, none⟩ n (w.alloc (.cells #[.int .i64 0] 106))
    go_enter Tryz.func22, Tryz.ntmps22
    go_wp2_with fail
    (with_reducible refine (as_hit n ⟨w.heap.size, 0, none⟩ (.int .i64 0) _ hg1 ht hf).mono ?_)
    rintro e w1 ⟨rfl, rfl⟩
    go_wp2_with fail
    go_ret
    exact ⟨rfl, ((Fr.refl none_ w).alloc _).own hF (Nat.le_refl _)⟩
end Go.Proofs.YtffolfemcllfkaaGreatDoor

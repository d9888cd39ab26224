import Derived.Test.YtniiokhkmdknaaaSketchD
import Derived.Test.YtniiokhkmdknaaaLaw
import Derived.Test.YtniiokhkmdknaaaArrEq
import Derived.Deep.RegionHeld3
import Derived.Deep.DeepCutAuto
namespace Go.Proofs.Ytniiokhkmdknaaa
open Go.RowKit
set_option linter.unusedVariables false
set_option linter.unusedSimpArgs false

/-! Two variables of four numbers, made and stored at any time. -/
theorem size_block : (Try.prog.info? 23).map (·.size) = some 64 := by kernel_rfl
theorem info_u32 : (Try.prog.info? 24).isSome = true := by kernel_rfl
theorem one_u32 : Try.prog.cellsOf 24 = 1 := by kernel_rfl
theorem eq_sk (a b c d a' b' c' d' : Nat) (w : World) : (Op.equalIn 10000 27 (sk a b c d) (sk a' b' c' d')).run Try.prog w = .ok (decide ([(a : Int), b, c, d] = [(a' : Int), b', c', d'])) w := by
  obtain ⟨i, hi⟩ := Option.isSome_iff_exists.1 info_u32
  exact eq_ints Try.underlying27 hi one_u32 Try.underlying24 [(a : Int), b, c, d] [(a' : Int), b', c', d'] rfl rfl
theorem z4_cells {U : World} {g : Nat} {T : TypeId} {a b c d : Value} (h : U.heap[g]? = some (.cells #[a, b, c, d] T (0, 0))) :
    U.cell? ⟨g, 0, none⟩ = some a ∧ U.cell? ⟨g, 1, none⟩ = some b ∧ U.cell? ⟨g, 2, none⟩ = some c ∧ U.cell? ⟨g, 3, none⟩ = some d ∧ ∀ o, U.frozen? ⟨g, o, none⟩ = false :=
  ⟨by rw [cell_of_blk h]; rfl, by rw [cell_of_blk h]; rfl, by rw [cell_of_blk h]; rfl, by rw [cell_of_blk h]; rfl, fun o => frozen_of_blk h o⟩
theorem st4 {U : World} {g h : Nat} {T : TypeId} {o : Obj} {z0 z1 z2 z3 : Value} (a b c d : Value) (hg : U.heap[g]? = some (.cells #[z0, z1, z2, z3] T (0, 0))) (hh : U.heap[h]? = some o) (hne : g ≠ h) :
    ∃ u, u = (((U.setCell ⟨g, 0, none⟩ a).setCell ⟨g, 1, none⟩ b).setCell ⟨g, 2, none⟩ c).setCell ⟨g, 3, none⟩ d ∧ Fr (fun i => i = g) U u ∧ u.heap[g]? = some (.cells #[a, b, c, d] T (0, 0)) ∧ u.heap[h]? = some o := by
  have hF : Fr (fun i => i = g) U ((((U.setCell ⟨g, 0, none⟩ a).setCell ⟨g, 1, none⟩ b).setCell ⟨g, 2, none⟩ c).setCell ⟨g, 3, none⟩ d) := (((Fr.set U g 0 a).trans (Fr.set _ g 1 b)).trans (Fr.set _ g 2 c)).trans (Fr.set _ g 3 d)
  exact ⟨_, rfl, hF, heap_setCell_same (heap_setCell_same (heap_setCell_same (heap_setCell_same hg (o := 0) a) (o := 1) b) (o := 2) c) (o := 3) d, hF.heap hh (fun e => hne e.symm)⟩
end Go.Proofs.Ytniiokhkmdknaaa

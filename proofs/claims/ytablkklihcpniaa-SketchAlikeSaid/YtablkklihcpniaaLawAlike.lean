import Derived.Test.YtablkklihcpniaaSketchD
import Derived.Test.YtablkklihcpniaaLaw
namespace Go.Proofs.Ytablkklihcpniaa
open Go.RowKit
set_option linter.unusedVariables false
set_option linter.unusedSimpArgs false
theorem cellsOf_u8 : Try.prog.cellsOf 5 = 1 := by kernel_rfl
theorem cellsOf_u32 : Try.prog.cellsOf 24 = 1 := by kernel_rfl
theorem cellsOf_w4 : Try.prog.cellsOf 25 = 4 := by kernel_rfl
set_option maxHeartbeats 1000000 in
theorem alike_walk (a b c d a' b' c' d' : Nat) (w : World) : Calls Try.prog 7 #[sk a b c d, sk a' b' c' d'] w fun e w' => e = .returned (.bool true) ∧ Fr none_ w w' := by
  have hk := likeF_le a b c d a' b' c' d' 4
  go_enter Try.func7, Try.ntmps7
  go_wp2_with fail
  (with_reducible refine (like_any _ _ _ _ _ _ _ _ _).mono ?_)
  rintro e w1 ⟨rfl, hF1⟩
  generalize hg : likeF a b c d a' b' c' d' 4 = k at *
  have HG := Lib.hid hg
  clear hg
  have hb0 := hF1.heap (heap_alloc_old (heap_alloc_new w (Obj.cells #[.int .u32 a, .int .u32 b, .int .u32 c, .int .u32 d] 25)) _) (fun h => h)
  have hb1 := hF1.heap (heap_alloc_at (w := w.alloc (Obj.cells #[.int .u32 a, .int .u32 b, .int .u32 c, .int .u32 d] 25)) (b := w.heap.size + 1) (by simp) (Obj.cells #[.int .u32 a', .int .u32 b', .int .u32 c', .int .u32 d'] 25)) (fun h => h)
  have a0 : w1.cell? ⟨w.heap.size, 0, none⟩ = some (.int .u32 a) := by rw [cell_of_blk hb0]; rfl
  have a1 : w1.cell? ⟨w.heap.size, 1, none⟩ = some (.int .u32 b) := by rw [cell_of_blk hb0]; rfl
  have a2 : w1.cell? ⟨w.heap.size, 2, none⟩ = some (.int .u32 c) := by rw [cell_of_blk hb0]; rfl
  have a3 : w1.cell? ⟨w.heap.size, 3, none⟩ = some (.int .u32 d) := by rw [cell_of_blk hb0]; rfl
  have b0 : w1.cell? ⟨w.heap.size + 1, 0, none⟩ = some (.int .u32 a') := by rw [cell_of_blk hb1]; rfl
  have b1 : w1.cell? ⟨w.heap.size + 1, 1, none⟩ = some (.int .u32 b') := by rw [cell_of_blk hb1]; rfl
  have b2 : w1.cell? ⟨w.heap.size + 1, 2, none⟩ = some (.int .u32 c') := by rw [cell_of_blk hb1]; rfl
  have b3 : w1.cell? ⟨w.heap.size + 1, 3, none⟩ = some (.int .u32 d') := by rw [cell_of_blk hb1]; rfl
  have HB := Lib.hid hb0
  have HB1 := Lib.hid hb1
  clear hb0 hb1
  go_wp2_with fail
  (with_reducible refine (rlike_any _ _ _ _ _ _ _ _ _).mono ?_)
  rintro e w2 ⟨rfl, hF2⟩
  rw [HG.out]
  have hk1 : decide ((k : Int) ≤ 4) = true := by simp; omega
  have hk0 : decide (0 ≤ (k : Int)) = true := by simp
  go_wp2_with fail
  (with_reducible refine (ssure_any _).mono ?_)
  rintro e w3 ⟨rfl, hF3⟩
  go_wp2_with fail
  go_ret
  exact ⟨rfl, (((((Fr.refl _ _).alloc _).alloc _).trans hF1).trans hF2).trans hF3⟩
theorem sketchAlike_law (W : World) (vs : List Value) (hl : vs.length = [25, 25].length) (hv : ∀ (i : Nat) (t : TypeId) (v : Value), [25, 25][i]? = some t → vs[i]? = some v → RdV Try.prog W t v) :
    Calls Try.prog 7 vs.toArray W fun e w' => e = .returned (.bool true) ∧ Fr none_ W w' := by
  match vs, hl with
  | [v0, v1], _ =>
    obtain ⟨a, b, c, d, rfl, _⟩ := (hv 0 _ v0 rfl rfl).words4 Try.underlying25 Try.underlying24 cellsOf_u32 cellsOf_w4
    obtain ⟨a', b', c', d', rfl, _⟩ := (hv 1 _ v1 rfl rfl).words4 Try.underlying25 Try.underlying24 cellsOf_u32 cellsOf_w4
    exact alike_walk a b c d a' b' c' d' W
end Go.Proofs.Ytablkklihcpniaa

import Derived.Test.YtagioimkpdcokaaLawKept
import Derived.Test.YtagioimkpdcokaaLaw
namespace Go.Proofs.Ytagioimkpdcokaa
open Go.RowKit
set_option linter.unusedVariables false
set_option linter.unusedSimpArgs false
theorem cellsOf_u8 : Try.prog.cellsOf 5 = 1 := by kernel_rfl
theorem cellsOf_bool : Try.prog.cellsOf 4 = 1 := by kernel_rfl
theorem bytesOf_bool : Try.prog.bytesOf 4 = 1 := by kernel_rfl
theorem cellsOf_b4 : Try.prog.cellsOf 75 = 4 := by kernel_rfl
theorem four_list (l : List UInt8) (h : l.length = 4) : (l.map byteV).toArray = four (fun k => l.getD k 0) := by
  match l, h with
  | [a, b, c, d], _ => rfl
theorem devKept_law (W : World) (vs : List Value) (hl : vs.length = [75, 75, 68].length) (hv : ∀ (i : Nat) (t : TypeId) (v : Value), [75, 75, 68][i]? = some t → vs[i]? = some v → RdV Try.prog W t v) :
    Calls Try.prog 7 vs.toArray W fun e w' => e = .returned (.bool true) ∧ Fr none_ W w' := by
  match vs, hl with
  | [v0, v1, v2], _ =>
    obtain ⟨l, rfl, hl0⟩ := (hv 0 _ v0 rfl rfl).block Try.underlying75 Try.underlying5 cellsOf_u8 cellsOf_b4
    obtain ⟨m, rfl, hl1⟩ := (hv 1 _ v1 rfl rfl).block Try.underlying75 Try.underlying5 cellsOf_u8 cellsOf_b4
    obtain ⟨A, n, c, kept, hB⟩ := (hv 2 _ v2 rfl rfl).ones Value.bool Try.underlying68 cellsOf_bool (by rw [bytesOf_bool]; omega) (rd_bool Try.underlying4)
    obtain ⟨rfl, hn, hc, hm, hA, _⟩ := hB
    rw [four_list l hl0, four_list m hl1]
    exact kept_walk _ _ A n c kept W hn (by omega) hA
end Go.Proofs.Ytagioimkpdcokaa

import Derived.Test.YtniiokhkmdknaaaDoorLawNewest
import Derived.Test.YtniiokhkmdknaaaDoorLawX
namespace Go.Proofs.YtniiokhkmdknaaaDoor
open Go.RowKit
set_option linter.unusedVariables false
set_option linter.unusedSimpArgs false
theorem tn_u8 : Tryd.prog.cellsOf 5 = 1 := by kernel_rfl
theorem tn_b8 : 1 ≤ Tryd.prog.bytesOf 5 := by rw [show Tryd.prog.bytesOf 5 = 1 by kernel_rfl]; exact Nat.le_refl _
theorem tn_sl : Tryd.prog.cellsOf 32 = 1 := by kernel_rfl
theorem tn_two : Tryd.prog.cellsOf 23 = 2 := by kernel_rfl
theorem two_bytes (l : List UInt8) (h : l.length = 2) : ∃ x y, Value.agg (l.map byteV).toArray = .agg #[byteV x, byteV y] := by
  match l, h with
  | [a, b], _ => exact ⟨a, b, rfl⟩
theorem toggleNewest_law (W : World) (vs : List Value) (hg : ErrT W) (hl : vs.length = [22, 23].length) (hv : ∀ (i : Nat) (t : TypeId) (v : Value), [22, 23][i]? = some t → vs[i]? = some v → RdV Tryd.prog W t v) :
    Calls Tryd.prog 3 vs.toArray W fun e w' => e = .returned (.bool true) ∧ Fr none_ W w' := by
  match vs, hl with
  | [v0, v1], _ =>
    obtain ⟨L, m, cL, rows, hR⟩ := ((hv 0 _ v0 rfl rfl).sl Tryd.underlying22).rows tn_sl (by decide)
    obtain ⟨l, rfl, hl1⟩ := (hv 1 _ v1 rfl rfl).block Tryd.underlying23 Tryd.underlying5 tn_u8 tn_two
    have hT := texts_of_rows tn_u8 tn_b8 hR
    obtain ⟨x, y, hxy⟩ := two_bytes l hl1
    obtain rfl := hR.val
    rw [hxy]
    exact newest_walk L m cL x y W hg hT
end Go.Proofs.YtniiokhkmdknaaaDoor

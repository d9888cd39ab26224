import Derived.Test.YtniiokhkmdknaaaDoorLawWhole
import Derived.Test.YtniiokhkmdknaaaDoorLawX
namespace Go.Proofs.YtniiokhkmdknaaaDoor
open Go.RowKit
set_option linter.unusedVariables false
set_option linter.unusedSimpArgs false
theorem tw_u8 : Tryd.prog.cellsOf 5 = 1 := by kernel_rfl
theorem tw_b8 : 1 ≤ Tryd.prog.bytesOf 5 := by rw [show Tryd.prog.bytesOf 5 = 1 by kernel_rfl]; exact Nat.le_refl _
theorem tw_sl : Tryd.prog.cellsOf 32 = 1 := by kernel_rfl
theorem tw_int : Tryd.prog.cellsOf 3 = 1 := by kernel_rfl
theorem tw_bi : 1 ≤ Tryd.prog.bytesOf 3 := by rw [show Tryd.prog.bytesOf 3 = 8 by kernel_rfl]; decide
theorem tw_bool : Tryd.prog.cellsOf 4 = 1 := by kernel_rfl
theorem tw_bb : 1 ≤ Tryd.prog.bytesOf 4 := by rw [show Tryd.prog.bytesOf 4 = 1 by kernel_rfl]; exact Nat.le_refl _
theorem tw_rd {W : World} (u : Value) (h : Rd Tryd.prog W 3 [u]) : ∃ x, u = intV x := by
  obtain ⟨n, hn, _⟩ := h.int Tryd.underlying3
  simp at hn
  exact ⟨n, hn⟩
theorem toggleWhole_law (W : World) (vs : List Value) (hg : ErrT W) (hl : vs.length = [22, 47, 48].length) (hv : ∀ (i : Nat) (t : TypeId) (v : Value), [22, 47, 48][i]? = some t → vs[i]? = some v → RdV Tryd.prog W t v) :
    Calls Tryd.prog 5 vs.toArray W fun e w' => e = .returned (.bool true) ∧ Fr none_ W w' := by
  match vs, hl with
  | [v0, v1, v2], _ =>
    obtain ⟨L, m, cL, rows, hR⟩ := ((hv 0 _ v0 rfl rfl).sl Tryd.underlying22).rows tw_sl (by decide)
    obtain ⟨B, nb, cb, arms, hB⟩ := (hv 1 _ v1 rfl rfl).ones intV Tryd.underlying47 tw_int tw_bi tw_rd
    obtain ⟨K, nk, ck, kept, hK⟩ := (hv 2 _ v2 rfl rfl).ones Value.bool Tryd.underlying48 tw_bool tw_bb (rd_bool Tryd.underlying4)
    have hT := texts_of_rows tw_u8 tw_b8 hR
    obtain rfl := hR.val
    obtain ⟨rfl, hB1, _, _, hB4, _⟩ := hB
    obtain ⟨rfl, hK1, hK2, hK3, hK4, hK5⟩ := hK
    exact whole_walk L m cL B nb cb arms K nk ck kept W hg hT hB1 hB4 hK1 hK4 hK5 (by omega)
end Go.Proofs.YtniiokhkmdknaaaDoor

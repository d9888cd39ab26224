import Derived.Test.YtdlhndbgmldeaaaDoorLawSpoilt
import Derived.Test.YtdlhndbgmldeaaaDoorLaw
namespace Go.Proofs.YtdlhndbgmldeaaaDoor
open Go.RowKit
set_option linter.unusedVariables false
set_option linter.unusedSimpArgs false
theorem sp_cellsOf_u8 : Tryd.prog.cellsOf 5 = 1 := by kernel_rfl
theorem sp_bytesOf_u8 : Tryd.prog.bytesOf 5 = 1 := by kernel_rfl
theorem hotSpoilt_law (W : World) (vs : List Value) (hg : ErrT W) (hl : vs.length = [40, 3, 5].length) (hv : ∀ (i : Nat) (t : TypeId) (v : Value), [40, 3, 5][i]? = some t → vs[i]? = some v → RdV Tryd.prog W t v) :
    Calls Tryd.prog 4 vs.toArray W fun e w' => e = .returned (.bool true) ∧ Fr none_ W w' := by
  match vs, hl with
  | [v0, v1, v2], _ =>
    obtain ⟨A, n, c, b, hB⟩ := (hv 0 _ v0 rfl rfl).bytes Tryd.underlying40 Tryd.underlying5 sp_cellsOf_u8 sp_bytesOf_u8
    obtain ⟨s, rfl, hwf⟩ := (hv 1 _ v1 rfl rfl).int Tryd.underlying3
    obtain ⟨m, rfl, hw2⟩ := (hv 2 _ v2 rfl rfl).int Tryd.underlying5
    obtain ⟨x, hx⟩ := u8_of_wf hw2
    obtain ⟨rfl, hn, _, _, hA, _⟩ := hB
    rw [hx]
    have hb := bounds_i64 hwf
    exact spoilt_walk A n c b s x W hg hn hA ⟨by omega, by omega⟩
end Go.Proofs.YtdlhndbgmldeaaaDoor

import Derived.Test.YtffolfemcllfkaaGreatDoorLawRuns
import Derived.Test.YtffolfemcllfkaaGreatDoorLawX
namespace Go.Proofs.YtffolfemcllfkaaGreatDoor
open Go.RowKit
set_option linter.unusedVariables false
set_option linter.unusedSimpArgs false
theorem two_cellsR {cs : Array Value} (hs : cs.size = 2) {x y : Value} (ha : (cs.toList.drop 0).take 1 = [x]) (hb : (cs.toList.drop 1).take 1 = [y]) : Value.agg cs = .agg #[x, y] := by
  obtain ⟨l⟩ := cs
  match l, hs with
  | [u, v], _ =>
    simp at ha hb
    rw [ha, hb]
theorem rd_areaR {W : World} {v : Value} (h : RdV Tryz.prog W 23 v) : ∃ a b : Int, v = area a b := by
  obtain ⟨cs, rfl, hs, hf⟩ := h.struct Tryz.underlying23
  obtain ⟨a, ha, _⟩ := (hf 0 (by decide)).int Tryz.underlying3
  obtain ⟨b, hb, _⟩ := (hf 1 (by decide)).int Tryz.underlying3
  have h2 : Tryz.prog.cellsOf 23 = 2 := by kernel_rfl
  have h1 : Tryz.prog.cellsOf 3 = 1 := by kernel_rfl
  rw [h2] at hs
  have ha : (cs.toList.drop 0).take (Tryz.prog.cellsOf 3) = [.int .i64 a] := ha
  have hb : (cs.toList.drop 1).take (Tryz.prog.cellsOf 3) = [.int .i64 b] := hb
  rw [h1] at ha hb
  exact ⟨a, b, two_cellsR hs ha hb⟩
theorem toggleRuns_law (W : World) (vs : List Value) (hg : ErrT W) (hl : vs.length = [23, 24].length) (hv : ∀ (i : Nat) (t : TypeId) (v : Value), [23, 24][i]? = some t → vs[i]? = some v → RdV Tryz.prog W t v) :
    Calls Tryz.prog 3 vs.toArray W fun e w' => e = .returned (.bool true) ∧ Fr none_ W w' := by
  match vs, hl with
  | [v0, v1], _ =>
    obtain ⟨f, s, rfl⟩ := rd_areaR (hv 0 _ v0 rfl rfl)
    obtain ⟨L, m, cL, rows, hR⟩ := ((hv 1 _ v1 rfl rfl).sl Tryz.underlying24).rows ra_act (by omega)
    have hT := tacts_of_rows hR
    obtain rfl := hR.val
    exact runs_walk f s L m cL W hg hT
end Go.Proofs.YtffolfemcllfkaaGreatDoor

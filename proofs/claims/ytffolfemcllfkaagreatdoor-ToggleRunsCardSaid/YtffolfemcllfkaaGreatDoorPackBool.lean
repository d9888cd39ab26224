import Derived.Test.YtffolfemcllfkaaGreatDoorPack
namespace Go.Proofs.YtffolfemcllfkaaGreatDoor
open Go.RowKit
set_option linter.unusedVariables false
set_option linter.unusedSimpArgs false

/-! pack: Writer.Bool -/
theorem wbool_any {w : World} {base p : Nat} {l : List UInt8} (h : WriterAt w base p l) (b : Bool) (hm : l.length ≤ 140737488351232) (hb : base ≤ w.heap.size) :
    Calls Tryz.prog 60 #[ptr p, .bool b] w fun e w' => e = .returned (ptr p) ∧ Fr (fun k => base ≤ k) w w' ∧ WriterAt w' base p (l ++ [if b then 1 else 0]) := by
  cases b
  all_goals
    go_enter Tryz.func60, Tryz.ntmps60
    go_wp2_with fail
    first
      | (with_reducible refine (raw_any (h.fr0 ((Fr.refl _ _).alloc _)) _ 1 1 [0] (CellsAt.one w (byteV 0) 5) rfl (fun h => by cases h) (by simp only [List.length_cons, List.length_nil]; omega) (by simp only [World.size_alloc]; omega)).mono ?_)
      | (with_reducible refine (raw_any (h.fr0 ((Fr.refl _ _).alloc _)) _ 1 1 [1] (CellsAt.one w (byteV 1) 5) rfl (fun h => by cases h) (by simp only [List.length_cons, List.length_nil]; omega) (by simp only [World.size_alloc]; omega)).mono ?_)
    rintro e w1 ⟨rfl, hF1, hW1⟩
    go_wp2_with fail
    go_ret
    exact ⟨rfl, ((Fr.refl _ _).alloc _).trans hF1, hW1⟩
end Go.Proofs.YtffolfemcllfkaaGreatDoor

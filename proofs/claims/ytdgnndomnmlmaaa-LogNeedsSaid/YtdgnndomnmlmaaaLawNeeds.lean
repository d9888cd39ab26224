import Derived.Test.YtdgnndomnmlmaaaLogSure
import Derived.Test.YtdgnndomnmlmaaaRefNeed
import Derived.Test.YtdgnndomnmlmaaaLaw
namespace Go.Proofs.Ytdgnndomnmlmaaa
open Go.RowKit
set_option linter.unusedVariables false
set_option linter.unusedSimpArgs false
set_option maxRecDepth 100000
theorem needs_walk (n seq : Int) (w : World) : Calls Try.prog 3 #[.int .i64 n, .int .i64 seq] w fun e w' => e = .returned (.bool true) ∧ Fr none_ w w' := by
  have h1 := need_any n seq
  have h2 := rneed_any n seq
  obtain ⟨N, hN⟩ : ∃ N, N = needF n seq := ⟨_, rfl⟩
  rw [← hN] at h1 h2
  have H1 := Lib.hid h1
  have H2 := Lib.hid h2
  clear h1 h2 hN
  go_enter Try.func3, Try.ntmps3
  go_wp2_with fail
  (with_reducible refine (H1.out w).mono ?_)
  rintro e w1 ⟨rfl, hF1⟩
  go_wp2_with fail
  (with_reducible refine (H2.out w1).mono ?_)
  rintro e w2 ⟨rfl, hF2⟩
  go_wp2_with fail
  (with_reducible refine (lsure_any w2).mono ?_)
  rintro e w3 ⟨rfl, hF3⟩
  go_wp2_with fail
  go_ret
  exact ⟨rfl, (hF1.trans hF2).trans hF3⟩
theorem logNeeds_law (W : World) (vs : List Value) (hl : vs.length = [3, 3].length) (hv : ∀ (i : Nat) (t : TypeId) (v : Value), [3, 3][i]? = some t → vs[i]? = some v → RdV Try.prog W t v) :
    Calls Try.prog 3 vs.toArray W fun e w' => e = .returned (.bool true) ∧ Fr none_ W w' := by
  match vs, hl with
  | [v0, v1], _ =>
    obtain ⟨n, rfl, _⟩ := (hv 0 _ v0 rfl rfl).int Try.underlying3
    obtain ⟨s, rfl, _⟩ := (hv 1 _ v1 rfl rfl).int Try.underlying3
    exact needs_walk n s W
end Go.Proofs.Ytdgnndomnmlmaaa

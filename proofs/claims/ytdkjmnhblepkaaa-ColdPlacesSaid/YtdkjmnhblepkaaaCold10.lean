import Derived.Test.YtdkjmnhblepkaaaCold9
import Derived.Test.YtdkjmnhblepkaaaHorner
import Derived.Deep.RegionHeld3
namespace Go.Proofs.Ytdkjmnhblepkaaa
open Go.RowKit
set_option linter.unusedVariables false
set_option linter.unusedSimpArgs false
set_option maxRecDepth 100000

/-! cold.Put that does nothing. -/
set_option maxHeartbeats 4000000 in
theorem put_long {w : World} {x lb pb c g : Nat} {ds : List Nat} {C : ColdS} {l : List (PlaceS × Value)} (h : ColdAt w x lb pb c g ds C l) (A : Option Addr) (n ca : Nat) (hb : n = 0 ∨ C.size < n) :
    Calls Try.prog 8 #[ptr x, .slice A n ca] w fun e w' => e = .returned (.tuple #[.int .i64 0, errV 2]) ∧ Fr none_ w w' := by
  obtain ⟨_, c1, c2, c3, c4, c5, c6, c7⟩ := h.cells
  rw [errV_n (by decide)]
  by_cases h0 : n = 0
  · subst h0
    clear hb h
    go_enter Try.func8, Try.ntmps8
    go_wp2_with fail
    go_ret2
    exact ⟨rfl, Fr.refl _ _⟩
  · have z1 : ((n : Int) == 0) = false := by simpa using (show ¬ (n : Int) = 0 by omega)
    have z2 : (C.size : Int) < (n : Int) := by omega
    have z3 : C.size < n := by omega
    clear hb h
    go_enter Try.func8, Try.ntmps8
    go_wp2_with fail
    go_ret2
    exact ⟨rfl, Fr.refl _ _⟩
set_option maxHeartbeats 4000000 in
theorem put_full {w : World} {x lb pb c g : Nat} {ds : List Nat} {C : ColdS} {l : List (PlaceS × Value)} (h : ColdAt w x lb pb c g ds C l) (A : Option Addr) (n ca : Nat) (h0 : n ≠ 0) (h1 : n ≤ C.size) (hf : firstFree C.places = -1) :
    Calls Try.prog 8 #[ptr x, .slice A n ca] w fun e w' => e = .returned (.tuple #[.int .i64 0, errV 10]) ∧ Fr none_ w w' := by
  obtain ⟨_, c1, c2, c3, c4, c5, c6, c7⟩ := h.cells
  have hix := index_any h
  rw [hf] at hix
  rw [errV_n (by decide)]
  have z1 : ((n : Int) == 0) = false := by simpa using (show ¬ (n : Int) = 0 by omega)
  have z2 : ¬ (C.size : Int) < (n : Int) := by omega
  have z3 : ¬ C.size < n := by omega
  have HIX := Lib.hid hix
  clear h hix hf
  go_enter Try.func8, Try.ntmps8
  go_wp2_with fail
  (with_reducible refine HIX.out.mono ?_)
  rintro e w1 ⟨rfl, hF⟩
  go_wp2_with fail
  go_ret2
  exact ⟨rfl, hF⟩
set_option maxHeartbeats 4000000 in
theorem put_down {w : World} {x lb pb c g : Nat} {ds : List (Nat × Nat × Nat)} {Ds : List DevS} {C : ColdS} {l : List (PlaceS × Value)} (h : ColdAt w x lb pb c g (ds.map (·.1)) C l) (hD : DevsAt w ds Ds) (A : Option Addr) (n ca k : Nat) (h0 : n ≠ 0) (h1 : n ≤ C.size) (hf : firstFree C.places = (k : Int)) (hdn : C.m < downN Ds Ds.length) :
    Calls Try.prog 8 #[ptr x, .slice A n ca] w fun e w' => e = .returned (.tuple #[.int .i64 0, errV 20]) ∧ Fr none_ w w' := by
  obtain ⟨_, c1, c2, c3, c4, c5, c6, c7⟩ := h.cells
  have hix := index_any h
  rw [hf] at hix
  rw [errV_n (by decide)]
  have z1 : ((n : Int) == 0) = false := by simpa using (show ¬ (n : Int) = 0 by omega)
  have z2 : ¬ (C.size : Int) < (n : Int) := by omega
  have z3 : ¬ C.size < n := by omega
  have z4 : ¬ (k : Int) < 0 := by omega
  obtain ⟨dn, hdne⟩ : ∃ dn, dn = downN Ds Ds.length := ⟨_, rfl⟩
  have hdw := fun wx (hx : Fr none_ w wx) => cdown_any (h.fr0 hx) (hD.fr0 hx)
  rw [← hdne] at hdw hdn
  have z5 : (C.m : Int) < (dn : Int) := by omega
  have z6 : C.m < dn := hdn
  have HIX := Lib.hid hix
  have HDW := Lib.hid hdw
  clear h hix hf hD hdw hdne hdn
  go_enter Try.func8, Try.ntmps8
  go_wp2_with fail
  (with_reducible refine HIX.out.mono ?_)
  rintro e w1 ⟨rfl, hF⟩
  have d2 := hF.cell0 c2
  have hG : Fr none_ w w1.drew := hF.drew
  go_wp2_with fail
  go_region_held3 (fun w' => w'.cell? ⟨x, 2, none⟩ = some (.int .i64 (C.m : Int))) (first | exact d2) (first | (go_at_call 21; (with_reducible refine (HDW.out _ hG).mono ?_); rintro e x1 ⟨rfl, hw1⟩; subst hw1))
  all_goals (go_wp2_with fail; go_ret2; exact ⟨rfl, hG⟩)
end Go.Proofs.Ytdkjmnhblepkaaa

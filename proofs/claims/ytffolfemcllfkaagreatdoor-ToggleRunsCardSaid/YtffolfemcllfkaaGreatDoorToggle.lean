import Derived.Test.YtffolfemcllfkaaGreatDoorReaderM
import Derived.Deep.RegionHeld3
namespace Go.Proofs.YtffolfemcllfkaaGreatDoor
open Go.RowKit
set_option linter.unusedVariables false
set_option linter.unusedSimpArgs false

/-! toggle: Room, place, from. -/
def placeF (s : Int) : Int := wrap64 ((wrap64 (s - 1)).tdiv 2)
abbrev area (f s : Int) : Value := .agg #[.int .i64 f, .int .i64 s]
theorem placeF_in (s : Int) (h : 3 ≤ s ∧ s ≤ 16384) : placeF s = (s - 1) / 2 := by
  unfold placeF
  rw [IntWalk.wrap64_in (s - 1) (by omega), Int.tdiv_eq_ediv_of_nonneg (by omega), IntWalk.wrap64_in _ (by omega)]
theorem place_any (f s : Int) (w : World) : Calls Tryz.prog 108 #[area f s] w fun e w' => e = .returned (.int .i64 (placeF s)) ∧ Fr none_ w w' := by
  go_enter Tryz.func108, Tryz.ntmps108
  go_wp2_with fail
  go_ret
  exact ⟨rfl, (Fr.refl _ _).alloc _⟩
def roomF (s : Int) : Int := if s < 3 ∨ 16384 < s then 0 else (s - 1) / 2 * 64
theorem roomF_le (s : Int) : 0 ≤ roomF s ∧ roomF s ≤ 524288 := by unfold roomF; split <;> omega
theorem room_any (f s : Int) (w : World) : Calls Tryz.prog 55 #[area f s] w fun e w' => e = .returned (.int .i64 (roomF s)) ∧ Fr none_ w w' := by
  by_cases h1 : s < 3
  · have hr : roomF s = 0 := by unfold roomF; rw [if_pos (.inl h1)]
    rw [hr]
    clear hr
    go_enter Tryz.func55, Tryz.ntmps55
    go_wp2_with fail
    go_ret
    exact ⟨rfl, (Fr.refl _ _).alloc _⟩
  · by_cases h2 : 16384 < s
    · have hr : roomF s = 0 := by unfold roomF; rw [if_pos (.inr h2)]
      rw [hr]
      clear hr
      go_enter Tryz.func55, Tryz.ntmps55
      go_wp2_with fail
      go_ret
      exact ⟨rfl, (Fr.refl _ _).alloc _⟩
    · have hp := placeF_in s (by omega)
      have hr : roomF s = (s - 1) / 2 * 64 := by unfold roomF; rw [if_neg (by omega)]
      have hw : wrap64 (placeF s * 64) = roomF s := by rw [hr, hp, IntWalk.wrap64_in _ (by omega)]
      clear hr hp
      go_enter Tryz.func55, Tryz.ntmps55
      go_wp2_with fail
      (with_reducible refine (place_any f s _).mono ?_)
      rintro e w1 ⟨rfl, hF1⟩
      go_wp2_with fail
      go_ret
      exact ⟨by rw [← hw]; rfl, ((Fr.refl _ _).alloc _).trans hF1⟩
/-- What the first sector tells. -/
def fromF (second : Bool) (f s : Int) : Int := if second then f + 1 + (s - 1) / 2 else f + 1
abbrev tellerV (n : Nat) (second : Bool) (long : Int) : Value := .agg #[.int .u64 (n : Int), .bool second, .int .i64 long]
theorem from_any (n : Nat) (second : Bool) (long f s : Int) (w : World) (hs : 3 ≤ s ∧ s ≤ 16384) (hf : 0 ≤ f ∧ f ≤ 16384) :
    Calls Tryz.prog 56 #[tellerV n second long, area f s] w fun e w' => e = .returned (.int .i64 (fromF second f s)) ∧ Fr none_ w w' := by
  have hp := placeF_in s hs
  have c0 := heap_alloc_new (w.alloc (.cells #[.int .u64 (n : Int), .bool second, .int .i64 long] 117)) (.cells #[.int .i64 f, .int .i64 s] 36)
  have c1 : ((w.alloc (.cells #[.int .u64 (n : Int), .bool second, .int .i64 long] 117)).alloc (.cells #[.int .i64 f, .int .i64 s] 36)).drew.cell? ⟨w.heap.size + 1, 0, none⟩ = some (.int .i64 f) := by
    have := c0; rw [World.size_alloc] at this; exact cell_of_blk this 0
  have c2 : ((w.alloc (.cells #[.int .u64 (n : Int), .bool second, .int .i64 long] 117)).alloc (.cells #[.int .i64 f, .int .i64 s] 36)).drew.cell? ⟨w.heap.size + 1, 1, none⟩ = some (.int .i64 s) := by
    have := c0; rw [World.size_alloc] at this; exact cell_of_blk this 1
  cases second
  · have hr : fromF false f s = f + 1 := rfl
    rw [hr]
    clear c0 c1 c2
    go_enter Tryz.func56, Tryz.ntmps56
    go_wp2_with fail
    go_ret
    exact ⟨rfl, ((Fr.refl _ _).alloc _).alloc _⟩
  · have hr : fromF true f s = f + 1 + placeF s := by rw [hp]; rfl
    rw [hr]
    have hw1 : IntKind.i64.wrap (IntKind.i64.wrap (f + 1) + placeF s) = f + 1 + placeF s := by rw [hp, IntWalk.i64_in (f + 1) (by omega), IntWalk.i64_in _ (by omega)]
    have HW := Lib.hid hw1
    clear c0 hp hw1
    go_enter Tryz.func56, Tryz.ntmps56
    go_wp2_with fail
    go_region_held3 (fun w' => (w'.cell? ⟨w.heap.size + 1, 0, none⟩ = some (.int .i64 f) ∧ w'.cell? ⟨w.heap.size + 1, 1, none⟩ = some (.int .i64 s))) (first | exact ⟨d1, d2⟩ | exact ⟨c1, c2⟩) (first | (go_at_call 108; (with_reducible refine (place_any f s _).mono ?_); rintro e w1 ⟨rfl, hF1⟩; have d1 := hF1.cell0 c1; have d2 := hF1.cell0 c2))
    rw [HW.out]
    go_wp2
    go_ret
    exact ⟨rfl, (((Fr.refl _ _).alloc _).alloc _).trans hF1.undrew⟩
end Go.Proofs.YtffolfemcllfkaaGreatDoor

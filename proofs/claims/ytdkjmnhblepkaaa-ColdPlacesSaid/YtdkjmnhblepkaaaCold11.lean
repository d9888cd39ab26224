import Derived.Test.YtdkjmnhblepkaaaCold9
import Derived.StillTailTactics
namespace Go.Proofs.Ytdkjmnhblepkaaa
open Go.RowKit
set_option linter.unusedVariables false
set_option linter.unusedSimpArgs false
set_option maxRecDepth 100000

/-! drydocklaw18.ints. -/
set_option maxHeartbeats 4000000 in
theorem ints_any {w : World} (A B : Option Addr) (ca cb na nb : Nat) (a b : List Nat) (hna : na = a.length) (hnb : nb = b.length) (hA : CellsAt w A (a.map natV)) (hB : CellsAt w B (b.map natV)) (hl : a.length ≤ 1000000) (hl2 : b.length ≤ 1000000) :
    Calls Try.prog 10 #[.slice A na ca, .slice B nb cb] w fun e w' => e = .returned (.bool (decide (a = b))) ∧ Fr none_ w w' := by
  subst hna hnb
  by_cases hlen : a.length = b.length
  · obtain ⟨n, hn⟩ : ∃ n, n = a.length := ⟨_, rfl⟩
    have hnb : b.length = n := by omega
    rw [← hn, hnb]
    rw [← hn] at hl
    have H := Lib.hid (And.intro hA (And.intro hB (And.intro hn hnb)))
    clear hA hB hn hnb hlen hl2
    go_enter Try.func10, Try.ntmps10
    go_wp2_with fail
    go_loopw [5] (fun i wr => ∃ k : Nat, k ≤ n ∧ i = .int .i64 k ∧ Fr none_ w wr ∧ ∀ j (h1 : j < k) (h2 : j < a.length) (h3 : j < b.length), a[j] = b[j]) (fun i _ => n - (intOf i).toNat)
    case atStart => exact ⟨0, by omega, rfl, Fr.refl _ _, fun j h => absurd h (by omega)⟩
    case round =>
      obtain ⟨k, hk, rfl, hF, hall⟩ := hrel
      have HALL := Lib.hid hall
      clear hall
      by_cases hkn : k < n
      · have q1 : (k : Int) < (n : Int) := by omega
        have q2 : (0 : Int) ≤ (k : Int) ∧ (k : Int) < (n : Int) := by omega
        obtain ⟨hA, hB, hn, hnb⟩ := H.out
        have ha : k < a.length := by omega
        have hb : k < b.length := by omega
        obtain ⟨aa, ao, rfl, h1⟩ := hA.getD (k := k) (v := natV a[k]) (by rw [List.getElem?_map, List.getElem?_eq_getElem ha]; rfl)
        obtain ⟨ba, bo, rfl, h2⟩ := hB.getD (k := k) (v := natV b[k]) (by rw [List.getElem?_map, List.getElem?_eq_getElem hb]; rfl)
        obtain ⟨x, hx⟩ : ∃ x, x = a[k] := ⟨_, rfl⟩
        obtain ⟨y, hy⟩ : ∃ y, y = b[k] := ⟨_, rfl⟩
        rw [← hx] at h1
        rw [← hy] at h2
        replace h1 : wr.drew.cell? ⟨aa, ao + k, none⟩ = some (.int .i64 (x : Int)) := hF.drew.cell0 h1
        replace h2 : wr.drew.cell? ⟨ba, bo + k, none⟩ = some (.int .i64 (y : Int)) := hF.drew.cell0 h2
        have z3 : (0 : Int) ≤ (k : Int) := by omega
        have HXY := Lib.hid (And.intro hx hy)
        clear hA hB hn hnb hx hy
        by_cases he : x = y
        · have hal2 : ∀ j (h1 : j < k + 1) (h2 : j < a.length) (h3 : j < b.length), a[j] = b[j] := fun j h1 h2 h3 => by
            by_cases e : j = k
            · subst e; rw [← HXY.out.1, ← HXY.out.2]; exact he
            · exact HALL.out j (by omega) h2 h3
          have HAL2 := Lib.hid hal2
          subst he
          clear hal2
          go_wp2_with fail
          go_still (by kernel_rfl)
          go_wp2_with fail
          go_roundw
          case rel => exact ⟨k + 1, by omega, by go_num, hF.drew, HAL2.out⟩
          case measure => simp [intOf]; omega
        · have hne : decide (a = b) = false := by
            rw [decide_eq_false_iff_not]
            intro e
            apply he
            rw [HXY.out.1, HXY.out.2]
            subst e
            rfl
          have HNE := Lib.hid hne
          have z1 : ((x : Int) != (y : Int)) = true := by simpa using (show ¬ (x : Int) = (y : Int) by omega)
          clear hne he
          go_wp2_with fail
          go_still (by kernel_rfl)
          go_wp2_with fail
          go_ret
          exact ⟨by rw [HNE.out]; rfl, hF.drew⟩
      · have hk2 : k = n := by omega
        subst hk2
        have hab : decide (a = b) = true := by
          rw [decide_eq_true_iff]
          obtain ⟨_, _, hn, hnb⟩ := H.out
          exact List.ext_getElem (by omega) (fun j h1 h2 => HALL.out j (by omega) h1 h2)
        have HAB := Lib.hid hab
        clear hab
        go_wp2_with fail
        go_ret
        exact ⟨by rw [HAB.out]; rfl, hF⟩
  · have hne : decide (a = b) = false := by
      rw [decide_eq_false_iff_not]
      intro e
      apply hlen
      rw [e]
    have HNE := Lib.hid hne
    have z1 : ((a.length : Int) != (b.length : Int)) = true := by simpa using (show ¬ (a.length : Int) = (b.length : Int) by omega)
    clear hne hA hB hlen
    go_enter Try.func10, Try.ntmps10
    go_wp2_with fail
    go_ret
    exact ⟨by rw [HNE.out]; rfl, Fr.refl _ _⟩
end Go.Proofs.Ytdkjmnhblepkaaa

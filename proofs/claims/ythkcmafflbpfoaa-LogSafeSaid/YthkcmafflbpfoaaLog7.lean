import Derived.Test.YthkcmafflbpfoaaLog6
namespace Go.Proofs.Ythkcmafflbpfoaa
open Go.RowKit
set_option linter.unusedVariables false
set_option linter.unusedSimpArgs false
set_option maxRecDepth 100000

/-! log: clean. -/
theorem clean1_any (x : UInt8) (w : World) : Calls Try.prog 39 #[byteV x] w fun e w' => e = .returned (.bool (decide (x ≠ 0))) ∧ w = w' := by
  obtain ⟨n, hn⟩ : ∃ n : Nat, n = x.toNat := ⟨_, rfl⟩
  have hx : byteV x = .int .u8 (n : Int) := by rw [hn]; rfl
  rw [hx]
  by_cases h : x = 0
  · subst h
    have hd : decide ((0 : UInt8) ≠ 0) = false := by decide
    rw [hd]
    have h0 : n = 0 := hn
    clear hx hn hd
    subst h0
    rw [show ((0 : Nat) : Int) = 0 from rfl]
    go_enter Try.func39, Try.ntmps39
    go_wp2_with fail
    go_ret
    exact ⟨rfl, rfl⟩
  · have h0 : ¬ n = 0 := fun h0 => h (UInt8.toNat_inj.1 (by rw [← hn, h0]; rfl))
    have h1 : ¬ (n : Int) = 0 := by omega
    have hd : decide (x ≠ 0) = true := by simpa using h
    have H1 := Lib.hid h1
    clear hn hx h1 h0 h
    rw [hd]
    clear hd
    go_enter Try.func39, Try.ntmps39
    go_wp2_with fail
    go_ret
    exact ⟨by show Ending.returned (Value.bool ((n : Int) != 0)) = _; rw [bne_iff_ne.2 H1.out], rfl⟩
/-- is there a byte that is none? -/
def dirtyB (l : List UInt8) : Bool := l.any (fun x => decide (x ≠ 0))
set_option maxHeartbeats 2000000 in
theorem contains_any {w : World} (A : Option Addr) (n c : Nat) (l : List UInt8) (hn : n = l.length) (hA : CellsAt w A (l.map byteV)) (hm : l.length ≤ 1048576) :
    Calls Try.prog 38 #[.slice A n c, .func (.func 39) #[] #[]] w fun e w' => e = .returned (.bool (dirtyB l)) ∧ w = w' := by
  have hix : Calls Try.prog 53 #[.slice A n c, .func (.func 39) #[] #[]] w fun e w' => (∃ k : Int, e = .returned (.int .i64 k) ∧ (0 ≤ k ↔ dirtyB l = true)) ∧ w = w' := by
    subst hn
    go_enter Try.func53, Try.ntmps53
    go_wp2_with fail
    go_loop [8] (fun i => ∃ k : Nat, k ≤ l.length ∧ i = .int .i64 (k : Int) ∧ dirtyB (l.take k) = false) (fun i => l.length - (intOf i).toNat)
    case atStart => exact ⟨0, by omega, rfl, rfl⟩
    case round =>
      obtain ⟨k, hk, rfl, hz⟩ := hrel
      by_cases hlt : k < l.length
      · obtain ⟨g, o, rfl, hc⟩ := hA k (by rw [List.length_map]; exact hlt)
        rw [List.getElem_map] at hc
        obtain ⟨x, hx⟩ : ∃ x, x = l[k] := ⟨_, rfl⟩
        rw [← hx] at hc
        have k1 : (k : Int) < (l.length : Int) := by omega
        have k2 : (0 : Int) ≤ (k : Int) := by omega
        have hst : dirtyB (l.take (k + 1)) = decide (x ≠ 0) := by
          unfold dirtyB at hz ⊢; rw [List.take_succ_eq_append_getElem hlt, List.any_append, hz, ← hx]; simp
        have hall : x ≠ 0 → dirtyB l = true := fun h => List.any_eq_true.2 ⟨x, hx ▸ List.getElem_mem _, by simpa using h⟩
        have HST := Lib.hid hst
        have HALL := Lib.hid hall
        have C1 := Lib.hid (clean1_any x w)
        clear hst hall hz hx
        go_wp2_with fail
        (with_reducible refine C1.out.mono ?_)
        rintro e w1 ⟨rfl, rfl⟩
        by_cases he : x = 0
        · have hd : decide (x ≠ 0) = false := by simp [he]
          have hs := HST.out
          rw [hd] at hs
          rw [hd]
          have HS := Lib.hid hs
          clear he hs hd
          go_wp2_with fail
          go_round
          case rel => exact ⟨k + 1, by omega, by go_num, HS.out⟩
          case measure => simp [intOf]; omega
        · have hd : decide (x ≠ 0) = true := by simpa using he
          have hs := HALL.out he
          rw [hd]
          have HS := Lib.hid hs
          clear he hs hd
          go_wp2_with fail
          go_ret
          exact ⟨⟨_, rfl, fun _ => HS.out, fun _ => by omega⟩, rfl⟩
      · have hkk : k = l.length := by omega
        have k1 : ¬ (k : Int) < (l.length : Int) := by omega
        rw [hkk, List.take_length] at hz
        have HZ := Lib.hid hz
        clear hz
        go_wp2_with fail
        go_ret
        exact ⟨⟨-1, rfl, fun h => absurd h (by decide), fun h => by rw [HZ.out] at h; cases h⟩, rfl⟩
  have HI := Lib.hid hix
  clear hix hn
  go_enter Try.func38, Try.ntmps38
  go_wp2_with fail
  (with_reducible refine HI.out.mono ?_)
  rintro e w1 ⟨⟨k, rfl, hk⟩, rfl⟩
  by_cases h : 0 ≤ k
  · have hr := hk.1 h
    have HR := Lib.hid hr
    clear hk hr
    go_wp2_with fail
    go_ret
    exact ⟨by rw [HR.out]; rfl, rfl⟩
  · have hf : dirtyB l = false := by
      cases hb : dirtyB l with
      | false => rfl
      | true => exact absurd (hk.2 hb) h
    have HR := Lib.hid hf
    clear hk hf
    go_wp2_with fail
    go_ret
    exact ⟨by rw [HR.out]; show Ending.returned (Value.bool (decide (0 ≤ k))) = _; rw [decide_eq_false (by omega)], rfl⟩
end Go.Proofs.Ythkcmafflbpfoaa

import Derived.Test.YthkcmafflbpfoaaLog2
namespace Go.Proofs.Ythkcmafflbpfoaa
open Go.RowKit
set_option linter.unusedVariables false
set_option linter.unusedSimpArgs false
set_option maxRecDepth 100000

/-! log: tagged, bytes.Equal, write, check, ring. -/
def tagK (n k : Nat) : UInt8 := lastI n (7 - k)
def tagL (n : Nat) : List UInt8 := (List.range 8).map (tagK n)
theorem tagL_take (n k : Nat) (hk : k < 8) : (tagL n).take (k + 1) = (tagL n).take k ++ [tagK n k] := by
  rw [List.take_succ_eq_append_getElem (by simp [tagL]; omega)]
  simp [tagL]
set_option maxHeartbeats 2000000 in
theorem tagged_any (n : Nat) (hn : n < 4611686018427387904) (w : World) : Calls Try.prog 28 #[.int .i64 (n : Int)] w fun e w' => Cloned w (tagL n) e w' := by
  go_enter Try.func28, Try.ntmps28
  go_wp2_with fail
  go_loopw [3, 4] (fun v sh wr => ∃ k : Nat, k ≤ 8 ∧ sh = .int .i64 (56 - 8 * (k : Int)) ∧ Fr none_ w wr ∧ wr.ownsRow w.heap.size 5 1 v k (((tagL n).take k).map byteV)) (fun _ sh => fun _ => ((intOf sh + 8) / 8).toNat)
  case atStart => exact ⟨0, by omega, rfl, Fr.refl _ _, World.ownsRow_nil _ _ _ _⟩
  case round =>
    obtain ⟨k, hk, rfl, hF, hown⟩ := hrel
    by_cases hlt : k < 8
    · have hsz := hF.size
      obtain ⟨j, hj⟩ : ∃ j : Nat, (56 - 8 * (k : Int)) = (j : Int) := ⟨56 - 8 * k, by omega⟩
      have hjk : j = 8 * (7 - k) := by omega
      rw [hj]
      have k1 : (0 : Int) ≤ (j : Int) := by omega
      have k2 : j ≤ 56 := by omega
      have HJ := Lib.hid hj
      have HJK := Lib.hid hjk
      clear hj hjk
      have hval : Value.int .u8 ((n : Int) / 2 ^ j % 256) = byteV (tagK n k) := by rw [HJK.out]; exact lastV n (7 - k)
      have hAz : CellsAt (wr.alloc (.cells #[.int .u8 ((n : Int) / 2 ^ j % 256)] 5)) (some ⟨wr.heap.size, 0, none⟩) ([tagK n k].map byteV) := by
        have := CellsAt.one wr (.int .u8 ((n : Int) / 2 ^ j % 256)) 5
        rw [hval] at this ⊢
        exact this
      have hal := (Fr.refl none_ wr).alloc (.cells #[.int .u8 ((n : Int) / 2 ^ j % 256)] 5)
      have howna := ownsRow_fr0 hown hal
      have hFa := hF.trans hal
      have HAZ := Lib.hid hAz
      clear hval hAz hown
      go_wp2_with ((with_reducible refine at_append (.tmp 9) (.tmp 16) 36 w.heap.size 5 (.int .u8 0) 1 1 (n := k) (A := some ⟨wr.heap.size, 0, none⟩) (m := 1) (c := 1) (news := [tagK n k].map byteV) Try.underlying36 info_u8 ?_ ?_ ?_ ?_ howna HAZ.out ?_ ?_ ?_ ?_ ?_ ?_ ?_); (focus rfl); (focus decide); (focus rfl); (focus rfl); (focus (intro h; cases h)); (focus rfl); (focus exact bytes_oneCell _); (focus unfold maxLen; omega); (focus omega); (focus rw [World.size_alloc]; omega); intro v2 w2 hown2 hg2)
      have hF2 := Fr.grown hFa hg2 howna (Nat.le_refl _)
      go_roundw
      case rel =>
        refine ⟨k + 1, by omega, ?_, hF2, ?_⟩
        · have := HJ.out
          congr 1
          first
            | omega
            | (rw [IntWalk.wrap64_in _ (by omega)]; omega)
        · rw [tagL_take n k hlt, List.map_append]
          exact hown2
      case measure => have := HJ.out; simp [intOf]; omega
    · have hk8 : k = 8 := by omega
      subst hk8
      go_wp2_with fail
      go_ret
      refine ⟨⟨_, rfl, ?_⟩, hF⟩
      have : (tagL n).take 8 = tagL n := List.take_of_length_le (by simp [tagL])
      rw [this] at hown
      exact hown
theorem equal_any {w : World} (A1 : Option Addr) (n1 c1 : Nat) (l1 : List UInt8) (A2 : Option Addr) (n2 c2 : Nat) (l2 : List UInt8) (h1 : n1 = l1.length) (hA1 : CellsAt w A1 (l1.map byteV)) (hnil1 : A1 = none → n1 = 0 ∧ c1 = 0) (h2 : n2 = l2.length) (hA2 : CellsAt w A2 (l2.map byteV)) (hnil2 : A2 = none → n2 = 0 ∧ c2 = 0) :
    Calls Try.prog 31 #[.slice A1 n1 c1, .slice A2 n2 c2] w fun e w' => e = .returned (.bool (decide (l1 = l2))) ∧ w = w' := by
  have k1 := conv_bytes (P := Try.prog) (src := 36) (dst := 9) (w := w) Try.underlying36 Try.underlying5 Try.underlying9 h1 hA1 hnil1
  have k2 := conv_bytes (P := Try.prog) (src := 36) (dst := 9) (w := w) Try.underlying36 Try.underlying5 Try.underlying9 h2 hA2 hnil2
  clear h1 h2
  go_enter Try.func31, Try.ntmps31
  go_wp2_with fail
  go_ret
  refine ⟨?_, rfl⟩
  show Ending.returned (.bool (l1 == l2)) = _
  by_cases h : l1 = l2 <;> simp [h]
end Go.Proofs.Ythkcmafflbpfoaa

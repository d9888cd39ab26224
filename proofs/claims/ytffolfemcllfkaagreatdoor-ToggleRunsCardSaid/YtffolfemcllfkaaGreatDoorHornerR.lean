import Derived.Test.YtffolfemcllfkaaGreatDoorHorner
namespace Go.Proofs.YtffolfemcllfkaaGreatDoor
open Go.RowKit
set_option linter.unusedVariables false
set_option linter.unusedSimpArgs false

/-! The reference's sums. -/
set_option maxHeartbeats 400000 in
theorem rmore_any (s n : Nat) (A : Option Addr) (c : Nat) (l : List UInt8) (w : World) (hs : s < 4294967296) (hn : n = l.length) (hl : l.length ≤ 281474976710656) (hA : CellsAt w A (l.map byteV)) :
    Calls Tryz.prog 188 #[.int .u32 (s : Int), .slice A n c] w fun e w' => e = .returned (.int .u32 (moreF s l : Nat)) ∧ w = w' := by
  subst hn
  go_enter Tryz.func188, Tryz.ntmps188
  go_wp2
  go_loop [5, 6] (fun n i => ∃ k : Nat, k ≤ l.length ∧ n = .int .u64 (moreF s (l.take k) : Nat) ∧ i = .int .i64 k) (fun _ i => l.length - (intOf i).toNat)
  case atStart => exact ⟨0, by omega, by simp [moreF], rfl⟩
  case round =>
    obtain ⟨k, hk, rfl, rfl⟩ := hrel
    have hm := moreF_lt s (l.take k)
    by_cases hlt : k < l.length
    · obtain ⟨b, o, rfl, hc⟩ := hA k (by simpa using hlt)
      have HS := Lib.hid (show moreF s (l.take (k+1)) = mstep (moreF s (l.take k)) l[k] from foldl_take_succ _ _ _ _ hlt)
      have hc' : w.cell? ⟨b, o + k, none⟩ = some (.int .u8 (l[k].toNat : Int)) := by simpa [byteV] using hc
      have hb : (l[k].toNat : Int) < 256 := by have := l[k].toNat_lt; omega
      clear hc
      go_wp2
      go_round
      case rel => exact ⟨k + 1, by omega, by rw [HS.out]; simp [mstep]; omega, by go_num⟩
      case measure => simp [intOf]; omega
    · have HK := Lib.hid (show l.take k = l from List.take_of_length_le (by omega))
      go_wp2
      go_ret
      exact ⟨by rw [HK.out]; rfl, rfl⟩
theorem rsum_any (n : Nat) (A : Option Addr) (c : Nat) (l : List UInt8) (w : World) (hn : n = l.length) (hl : l.length ≤ 281474976710656) (hA : CellsAt w A (l.map byteV)) :
    Calls Tryz.prog 169 #[.slice A n c] w fun e w' => e = .returned (.int .u32 (sumF l : Nat)) ∧ w = w' := by
  subst hn
  go_enter Tryz.func169, Tryz.ntmps169
  go_wp2_with (go_at_call 188; refine (rmore_any 1 _ A c l _ (by decide) rfl hl hA).mono ?_; rintro e w' ⟨rfl, rfl⟩)
  go_ret
  exact ⟨rfl, rfl⟩
end Go.Proofs.YtffolfemcllfkaaGreatDoor

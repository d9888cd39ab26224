import Derived.Test.YtdkjmnhblepkaaaProg
import Derived.Test.YtdkjmnhblepkaaaKit
namespace Go.Proofs.Ytdkjmnhblepkaaa
open Go.RowKit
set_option linter.unusedVariables false
set_option linter.unusedSimpArgs false

/-! horner.More, horner.Sum and the reference's. -/
def mstep (n : Nat) (c : UInt8) : Nat := (n * 257 + c.toNat) % 2147483647
def moreF (s : Nat) (l : List UInt8) : Nat := l.foldl mstep (s % 2147483647)
def sumF (l : List UInt8) : Nat := moreF 1 l
theorem mstep_lt (n : Nat) (c : UInt8) : mstep n c < 2147483647 := Nat.mod_lt _ (by decide)
theorem moreF_lt (s : Nat) (l : List UInt8) : moreF s l < 2147483647 := by
  unfold moreF
  have : ∀ (l : List UInt8) (n : Nat), n < 2147483647 → l.foldl mstep n < 2147483647 := by
    intro l; induction l with
    | nil => intro n h; exact h
    | cons x l ih => intro n _; exact ih _ (mstep_lt _ _)
  exact this l _ (Nat.mod_lt _ (by decide))
theorem moreF_append (s : Nat) (a b : List UInt8) : moreF s (a ++ b) = moreF (moreF s a) b := by
  have h := moreF_lt s a
  have e : moreF (moreF s a) b = b.foldl mstep (moreF s a) := by
    rw [moreF]; congr 1; omega
  rw [e]; simp [moreF, List.foldl_append]
set_option maxHeartbeats 400000 in
theorem more_any (s n : Nat) (A : Option Addr) (c : Nat) (l : List UInt8) (w : World) (hs : s < 4294967296) (hn : n = l.length) (hl : l.length ≤ 281474976710656) (hA : CellsAt w A (l.map byteV)) :
    Calls Try.prog 35 #[.int .u32 (s : Int), .slice A n c] w fun e w' => e = .returned (.int .u32 (moreF s l : Nat)) ∧ w = w' := by
  subst hn
  go_enter Try.func35, Try.ntmps35
  go_wp2
  go_loop [5, 13] (fun n i => ∃ k : Nat, k ≤ l.length ∧ n = .int .u64 (moreF s (l.take k) : Nat) ∧ i = .int .i64 k) (fun _ i => l.length - (intOf i).toNat)
  case atStart => exact ⟨0, by omega, by simp [moreF], rfl⟩
  case round =>
    obtain ⟨k, hk, rfl, rfl⟩ := hrel
    have hm := moreF_lt s (l.take k)
    by_cases hlt : k < l.length
    · obtain ⟨b, o, rfl, hc⟩ := hA k (by simpa using hlt)
      have HS := Lib.hid (show moreF s (l.take (k+1)) = mstep (moreF s (l.take k)) l[k] from foldl_take_succ _ _ _ _ hlt)
      have hc' : w.cell? ⟨b, o + k, none⟩ = some (.int .u8 (l[k].toNat : Int)) := by simpa [byteV] using hc
      have hb : (l[k].toNat : Int) < 256 := by have := l[k].toNat_lt; omega
      clear hc
      go_wp2
      go_round
      case rel => exact ⟨k + 1, by omega, by rw [HS.out]; simp [mstep], by go_num⟩
      case measure => simp [intOf]; omega
    · have HK := Lib.hid (show l.take k = l from List.take_of_length_le (by omega))
      go_wp2
      go_ret
      exact ⟨by rw [HK.out]; rfl, rfl⟩
theorem sum_any (n : Nat) (A : Option Addr) (c : Nat) (l : List UInt8) (w : World) (hn : n = l.length) (hl : l.length ≤ 281474976710656) (hA : CellsAt w A (l.map byteV)) :
    Calls Try.prog 25 #[.slice A n c] w fun e w' => e = .returned (.int .u32 (sumF l : Nat)) ∧ w = w' := by
  subst hn
  go_enter Try.func25, Try.ntmps25
  go_wp2_with (go_at_call 35; refine (more_any 1 _ A c l _ (by decide) rfl hl hA).mono ?_; rintro e w' ⟨rfl, rfl⟩)
  go_ret
  exact ⟨rfl, rfl⟩
end Go.Proofs.Ytdkjmnhblepkaaa

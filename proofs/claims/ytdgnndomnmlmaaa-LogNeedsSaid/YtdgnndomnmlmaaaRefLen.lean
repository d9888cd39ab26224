import Derived.Test.YtdgnndomnmlmaaaLog
import Derived.Test.YtdgnndomnmlmaaaHornerR
namespace Go.Proofs.Ytdgnndomnmlmaaa
open Go.RowKit
set_option linter.unusedVariables false
set_option linter.unusedSimpArgs false
set_option maxRecDepth 100000

/-! The reference's bytes: how many they are. -/
def RLen (w : World) (m : Nat) (e : Ending) (w' : World) : Prop := (∃ v, ∃ xs : List UInt8, xs.length = m ∧ e = .returned v ∧ w'.ownsRow w.heap.size 5 1 v m (xs.map byteV)) ∧ Fr none_ w w'
theorem rpower_any (n : Nat) (hn : n ≤ 63) (w : World) : Calls Try.prog 75 #[.int .i64 (n : Int)] w fun e w' => e = .returned (.int .u64 ((2 ^ n : Nat) : Int)) ∧ w = w' := by
  go_enter Try.func75, Try.ntmps75
  go_wp2_with fail
  go_loop [3, 4] (fun p i => ∃ k : Nat, k ≤ n ∧ p = .int .u64 ((2 ^ k : Nat) : Int) ∧ i = .int .i64 (k : Int)) (fun _ i => n - (intOf i).toNat)
  case atStart => exact ⟨0, by omega, rfl, rfl⟩
  case round =>
    obtain ⟨k, hk, rfl, rfl⟩ := hrel
    by_cases hlt : k < n
    · have hp : 2 ^ k ≤ 2 ^ 62 := Nat.pow_le_pow_right (by decide) (by omega)
      obtain ⟨x, hx⟩ : ∃ x, x = 2 ^ k := ⟨_, rfl⟩
      have hs : 2 ^ (k + 1) = 2 * x := by rw [hx, Nat.pow_succ]; omega
      rw [← hx] at hp ⊢
      have HS := Lib.hid hs
      have hxb : x ≤ 4611686018427387904 := hp
      clear hp hx hs
      have k1 : (k : Int) < (n : Int) := by omega
      go_wp2_with fail
      go_round
      case rel => exact ⟨k + 1, by omega, by rw [HS.out]; congr 1; (try rw [IntWalk.u64_in _ (by omega)]); (try omega), by go_num⟩
      case measure => simp [intOf]; omega
    · have hkn : k = n := by omega
      subst hkn
      have k1 : ¬ (k : Int) < (k : Int) := by omega
      go_wp2_with fail
      go_ret
      exact ⟨rfl, rfl⟩
theorem behind_least (n k : Nat) (hk : k < 8) (h1 : ∀ j, j < k → ¬ n < 2 ^ (7 * j + 7)) (h2 : n < 2 ^ (7 * k + 7)) : behindF n = k := by
  have g0 := h1 0
  have g1 := h1 1
  have g2 := h1 2
  have g3 := h1 3
  have g4 := h1 4
  have g5 := h1 5
  have g6 := h1 6
  have : k = 0 ∨ k = 1 ∨ k = 2 ∨ k = 3 ∨ k = 4 ∨ k = 5 ∨ k = 6 ∨ k = 7 := by omega
  unfold behindF
  rcases this with rfl | rfl | rfl | rfl | rfl | rfl | rfl | rfl <;> simp only [Nat.reduceMul, Nat.reduceAdd, Nat.reducePow] at * <;> ((repeat' split) <;> omega)
theorem behind_eight (n : Nat) (h1 : ∀ j, j < 8 → ¬ n < 2 ^ (7 * j + 7)) : behindF n = 8 := by
  have g0 := h1 0 (by decide)
  have g1 := h1 1 (by decide)
  have g2 := h1 2 (by decide)
  have g3 := h1 3 (by decide)
  have g4 := h1 4 (by decide)
  have g5 := h1 5 (by decide)
  have g6 := h1 6 (by decide)
  have g7 := h1 7 (by decide)
  unfold behindF
  simp only [Nat.reduceMul, Nat.reduceAdd, Nat.reducePow] at *
  (repeat' split) <;> omega
theorem rmore_len (n : Nat) (w : World) : Calls Try.prog 61 #[.int .u64 (n : Int)] w fun e w' => e = .returned (.int .i64 (behindF n : Nat)) ∧ w = w' := by
  go_enter Try.func61, Try.ntmps61
  go_wp2_with fail
  go_loop [3] (fun i => ∃ k : Nat, k ≤ 8 ∧ i = .int .i64 (k : Int) ∧ ∀ j, j < k → ¬ n < 2 ^ (7 * j + 7)) (fun i => 8 - (intOf i).toNat)
  case atStart => exact ⟨0, by omega, rfl, fun j hj => absurd hj (by omega)⟩
  case round =>
    obtain ⟨k, hk, rfl, hno⟩ := hrel
    have HNO := Lib.hid hno
    clear hno
    by_cases hlt : k < 8
    · have k1 : (k : Int) < 8 := by omega
      have hpw := rpower_any (7 * k + 7) (by omega) w
      rw [show ((7 * k + 7 : Nat) : Int) = 7 * (k : Int) + 7 by omega] at hpw
      obtain ⟨x, hx⟩ : ∃ x, x = 2 ^ (7 * k + 7) := ⟨_, rfl⟩
      rw [← hx] at hpw
      have HPW := Lib.hid hpw
      have HX := Lib.hid hx
      clear hpw hx
      by_cases hb : n < x
      · have b1 : (n : Int) < (x : Int) := by omega
        go_wp2_with fail
        (with_reducible refine HPW.out.mono ?_)
        rintro e w1 ⟨rfl, rfl⟩
        go_wp2_with fail
        go_ret
        exact ⟨by rw [behind_least n k hlt HNO.out (HX.out ▸ hb)]; rfl, rfl⟩
      · have b1 : ¬ (n : Int) < (x : Int) := by omega
        go_wp2_with fail
        (with_reducible refine HPW.out.mono ?_)
        rintro e w1 ⟨rfl, rfl⟩
        go_wp2_with fail
        go_round
        case rel =>
          refine ⟨k + 1, by omega, by go_num, fun j hj => ?_⟩
          by_cases hjk : j < k
          · exact HNO.out j hjk
          · have : j = k := by omega
            subst this
            rw [← HX.out]; exact hb
        case measure => simp [intOf]; omega
    · have hk8 : k = 8 := by omega
      subst hk8
      go_wp2_with fail
      go_ret
      exact ⟨by rw [behind_eight n HNO.out]; rfl, rfl⟩
theorem rones_any (k : Nat) (hk : k ≤ 8) (w : World) : Calls Try.prog 63 #[.int .i64 (k : Int)] w fun e w' => (∃ x : UInt8, e = .returned (byteV x)) ∧ w = w' := by
  have hpw := rpower_any (8 - k) (by omega) w
  rw [show ((8 - k : Nat) : Int) = 8 - (k : Int) by omega] at hpw
  obtain ⟨x, hx⟩ : ∃ x, x = 2 ^ (8 - k) := ⟨_, rfl⟩
  have hxb : x ≤ 256 := by rw [hx]; exact Nat.pow_le_pow_right (n := 2) (by decide) (by omega : 8 - k ≤ 8)
  rw [← hx] at hpw
  have HPW := Lib.hid hpw
  clear hpw hx
  go_enter Try.func63, Try.ntmps63
  go_wp2_with fail
  (with_reducible refine HPW.out.mono ?_)
  rintro e w1 ⟨rfl, rfl⟩
  go_wp2_with fail
  go_ret
  refine ⟨⟨UInt8.ofNat (256 - x), ?_⟩, rfl⟩
  show Ending.returned (Value.int .u8 ((256 - (x : Int)) % 256)) = _
  rw [show (256 - (x : Int)) = ((256 - x : Nat) : Int) by omega, byteV_mod]
theorem rown_any {w : World} (A : Option Addr) (n c : Nat) (l : List UInt8) (hn : n = l.length) (hA : CellsAt w A (l.map byteV)) (hnil : A = none → n = 0 ∧ c = 0) (hm : l.length ≤ 1000000) :
    Calls Try.prog 62 #[.slice A n c] w fun e w' => Cloned w l e w' := by
  subst hn
  have h0 : w.ownsRow w.heap.size 5 1 (.slice none 0 0) 0 [] := World.ownsRow_nil _ _ _ _
  go_enter Try.func62, Try.ntmps62
  go_wp2_with ((with_reducible refine at_append (.tmp 4) (.tmp 5) 39 w.heap.size 5 (.int .u8 0) 1 1 (v := .slice none 0 0) (n := 0) (xs := []) (A := A) (m := l.length) (c := c) (news := l.map byteV) Try.underlying39 info_u8 ?_ ?_ ?_ ?_ h0 hA hnil ?_ ?_ ?_ ?_ ?_ ?_); (focus rfl); (focus decide); (focus rfl); (focus rfl); (focus simp); (focus exact bytes_oneCell _); (focus unfold maxLen; omega); (focus omega); (focus exact Nat.le_refl _); intro v' w1 hown1 hg)
  go_ret
  refine Cloned.mk ⟨v', rfl, ?_⟩ (Fr.grown (Fr.refl _ _) hg h0 (Nat.le_refl _))
  rw [Nat.zero_add, List.nil_append] at hown1
  exact hown1
set_option maxHeartbeats 4000000 in
theorem ruint_len {w : World} (A : Option Addr) (n c : Nat) (l : List UInt8) (x : Nat) (hx : x < 18446744073709551616) (hn : n = l.length) (hA : CellsAt w A (l.map byteV)) (hnil : A = none → n = 0 ∧ c = 0) (hm : l.length ≤ 200000) :
    Calls Try.prog 40 #[.slice A n c, .int .u64 (x : Int)] w fun e w' => RLen w (l.length + behindF x + 1) e w' := by
  have hk8 := behindF_le x
  obtain ⟨K, hK⟩ : ∃ K, K = behindF x := ⟨_, rfl⟩
  have hmr := rmore_len x w
  rw [← hK] at hmr hk8 ⊢
  have HMR := Lib.hid hmr
  have HN := Lib.hid hn
  have HNIL := Lib.hid hnil
  clear hmr hK hn hnil
  go_enter Try.func40, Try.ntmps40
  go_wp2_with fail
  (with_reducible refine HMR.out.mono ?_)
  rintro e w0 ⟨rfl, rfl⟩
  go_wp2_with fail
  go_loopw [1, 6, 7] (fun nv d i wr => ∃ k y : Nat, ∃ xs : List UInt8, k ≤ K ∧ y < 18446744073709551616 ∧ xs.length = k ∧ nv = .int .u64 (y : Int) ∧ i = .int .i64 (k : Int) ∧ Fr none_ w wr ∧ wr.ownsRow w.heap.size 5 1 d k (xs.map byteV)) (fun _ _ i _ => K - (intOf i).toNat)
  case atStart => exact ⟨0, x, [], by omega, hx, rfl, rfl, rfl, Fr.refl _ _, World.ownsRow_nil _ _ _ _⟩
  case round =>
    obtain ⟨k, y, xs, hk, hy, hxl, rfl, rfl, hF, hown⟩ := hrel
    by_cases hlt : k < K
    · obtain ⟨A1, c1, rfl, hA1, hc1, hnil1, hbl1⟩ := ownsRow_read hown
      have hsz := hF.size
      have hbv : byteV (UInt8.ofNat y) = .int .u8 ((y : Int) % 256) := (byteV_mod y).symm
      have hal := (Fr.refl none_ wr).alloc (.cells #[.int .u8 ((y : Int) % 256)] 5)
      have hAa : CellsAt (wr.alloc (.cells #[.int .u8 ((y : Int) % 256)] 5)) (some ⟨wr.heap.size, 0, none⟩) ([UInt8.ofNat y].map byteV) := by
        have := CellsAt.one wr (.int .u8 ((y : Int) % 256)) 5
        rw [← hbv] at this ⊢
        exact this
      have h0 : (wr.alloc (.cells #[.int .u8 ((y : Int) % 256)] 5)).ownsRow w.heap.size 5 1 (.slice none 0 0) 0 [] := World.ownsRow_nil _ _ _ _
      have hA1a := hA1.fr0 hal
      have HXL := Lib.hid hxl
      have HHA := Lib.hid (And.intro hAa hA1a)
      have HNIL1 := Lib.hid hnil1
      have hFa := hF.trans hal
      clear hbv hxl hA1 hAa hA1a hnil1 hown hbl1
      go_wp2_with (first
        | ((with_reducible refine at_append (.tmp 16) (.tmp 20) 39 w.heap.size 5 (.int .u8 0) 1 1 (v := .slice none 0 0) (n := 0) (xs := []) (A := some ⟨wr.heap.size, 0, none⟩) (m := 1) (c := 1) (news := [UInt8.ofNat y].map byteV) Try.underlying39 info_u8 ?_ ?_ ?_ ?_ h0 HHA.out.1 ?_ ?_ ?_ ?_ ?_ ?_ ?_); (focus rfl); (focus decide); (focus rfl); (focus rfl); (focus (intro h; cases h)); (focus rfl); (focus exact bytes_oneCell _); (focus unfold maxLen; omega); (focus omega); (focus rw [World.size_alloc]; omega); intro v1 w1 hown1 hg1; have hF1 := Fr.grown hFa hg1 h0 (Nat.le_refl _); have hA11 := HHA.out.2.fr0 ((Fr.of_grown hg1).mono (fun k _ e => by cases e)))
        | ((with_reducible refine at_append (.tmp 21) (.tmp 22) 39 w.heap.size 5 (.int .u8 0) 1 1 (n := 1) (A := A1) (m := k) (c := c1) (news := xs.map byteV) Try.underlying39 info_u8 ?_ ?_ ?_ ?_ hown1 hA11 HNIL1.out ?_ ?_ ?_ ?_ ?_ ?_); (focus rfl); (focus decide); (focus rfl); (focus rfl); (focus rw [List.length_map, HXL.out, Nat.mul_one]); (focus exact bytes_oneCell _); (focus unfold maxLen; omega); (focus omega); (focus have := hF1.size; omega); intro v2 w2 hown2 hg2; have hF2 := Fr.grown hF1 hg2 hown1 (Nat.le_refl _)))
      go_roundw
      case rel =>
        refine ⟨k + 1, y / 256, UInt8.ofNat y :: xs, by omega, by omega, by rw [List.length_cons, HXL.out], by go_num, by go_num, hF2, ?_⟩
        rw [show k + 1 = 1 + k by omega]
        exact hown2
      case measure => simp [intOf]; omega
    · obtain rfl : k = K := by omega
      obtain ⟨A1, c1, rfl, hA1, hc1, hnil1, hbl1⟩ := ownsRow_read hown
      have hsz := hF.size
      have hA0 := hA.fr0 hF
      have HAA := Lib.hid (And.intro hA1 hA0)
      have HNIL1 := Lib.hid hnil1
      have HXL := Lib.hid hxl
      have kq : ¬ (k : Int) < (k : Int) := by omega
      have hown0 := rown_any (w := wr) A n c l HN.out hA0 HNIL.out (by omega)
      have HOW := Lib.hid hown0
      clear hA1 hA0 hnil1 hxl hown hbl1 hown0
      go_wp2_with fail
      (with_reducible refine HOW.out.mono ?_)
      rintro e w1 ⟨⟨v1, rfl, hown1⟩, hF1⟩
      go_wp2_with fail
      (with_reducible refine (rones_any k hk8 _).mono ?_)
      rintro e w2 ⟨⟨z, rfl⟩, rfl⟩
      unfold byteV
      have hval : byteV (UInt8.ofNat (z.toNat + y)) = .int .u8 (((z.toNat : Int) + (y : Int)) % 256) := by rw [← byteV_mod]; rfl
      have hAz : CellsAt (w1.alloc (.cells #[.int .u8 (((z.toNat : Int) + (y : Int)) % 256)] 5)) (some ⟨w1.heap.size, 0, none⟩) ([UInt8.ofNat (z.toNat + y)].map byteV) := by
        have := CellsAt.one w1 (.int .u8 (((z.toNat : Int) + (y : Int)) % 256)) 5
        rw [← hval] at this ⊢
        exact this
      have hal := (Fr.refl none_ w1).alloc (.cells #[.int .u8 (((z.toNat : Int) + (y : Int)) % 256)] 5)
      have hown1a := ownsRow_mono (ownsRow_fr0 hown1 hal) hsz
      have hFa := (hF.trans hF1).trans hal
      have hA1a := (HAA.out.1.fr0 hF1).fr0 hal
      have hsz1 : w.heap.size ≤ w1.heap.size := (hF.trans hF1).size
      have hA1own : ∀ b, blkOf A1 b → b < wr.heap.size ∨ k = 0 := fun b hb => by
        by_cases hk0 : k = 0
        · exact .inr hk0
        · exact .inl (HAA.out.1.lt hb (by rw [List.length_map, HXL.out]; omega))
      have hv1 : ∀ b, v1.ownBlock = some b → wr.heap.size ≤ b := fun b hb => (ownsRow_lt hown1 hb).1
      have HHA := Lib.hid (And.intro hAz (And.intro hA1a (And.intro hA1own hv1)))
      clear hval hAz hA1a hown1 hA1own hv1
      go_wp2_with (first
        | ((with_reducible refine at_append (.tmp 27) (.tmp 33) 39 w.heap.size 5 (.int .u8 0) 1 1 (n := l.length) (A := some ⟨w1.heap.size, 0, none⟩) (m := 1) (c := 1) (news := [UInt8.ofNat (z.toNat + y)].map byteV) Try.underlying39 info_u8 ?_ ?_ ?_ ?_ hown1a HHA.out.1 ?_ ?_ ?_ ?_ ?_ ?_ ?_); (focus rfl); (focus decide); (focus rfl); (focus rfl); (focus (intro h; cases h)); (focus rfl); (focus exact bytes_oneCell _); (focus unfold maxLen; omega); (focus omega); (focus rw [World.size_alloc]; omega); intro v2 w2 hown2 hg2; have hF2 := Fr.grown hFa hg2 hown1a (Nat.le_refl _); have hA12 : CellsAt w2 A1 (xs.map byteV) := HHA.out.2.1.frp (Fr.of_grown hg2) (fun b hb hl e => by have h1 := HHA.out.2.2.1 b hb; have h2 := HHA.out.2.2.2 b e; rw [List.length_map, HXL.out] at hl; omega))
        | ((with_reducible refine at_append (.tmp 34) (.tmp 35) 39 w.heap.size 5 (.int .u8 0) 1 1 (n := l.length + 1) (A := A1) (m := k) (c := c1) (news := xs.map byteV) Try.underlying39 info_u8 ?_ ?_ ?_ ?_ hown2 hA12 HNIL1.out ?_ ?_ ?_ ?_ ?_ ?_); (focus rfl); (focus decide); (focus rfl); (focus rfl); (focus rw [List.length_map, HXL.out, Nat.mul_one]); (focus exact bytes_oneCell _); (focus unfold maxLen; omega); (focus omega); (focus have := hF2.size; omega); intro v3 w3 hown3 hg3; have hF3 := Fr.grown hF2 hg3 hown2 (Nat.le_refl _)))
      go_ret
      refine ⟨⟨v3, l ++ [UInt8.ofNat (z.toNat + y)] ++ xs, ?_, rfl, ?_⟩, hF3⟩
      · rw [List.length_append, List.length_append, HXL.out]; simp; omega
      · rw [List.map_append, List.map_append, show l.length + k + 1 = l.length + 1 + k by omega]
        exact hown3
end Go.Proofs.Ytdgnndomnmlmaaa

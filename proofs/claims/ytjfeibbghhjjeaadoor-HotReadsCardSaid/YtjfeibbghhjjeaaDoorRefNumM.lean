import Derived.Test.YtjfeibbghhjjeaaDoorCanon
import Derived.Test.YtjfeibbghhjjeaaDoorHornerR
import Derived.Deep.DeepCutAuto
import Derived.Deep.QuietTactic
import Derived.Deep.CutBlock
import Derived.OwnWalk
import Derived.Test.YtjfeibbghhjjeaaDoorSeal
import Derived.Test.YtjfeibbghhjjeaaDoorOpen
import Derived.Deep.RegionHeld3
namespace Go.Proofs.YtjfeibbghhjjeaaDoor
open Go.RowKit
set_option linter.unusedVariables false
set_option linter.unusedSimpArgs false
set_option maxRecDepth 100000

/-! The reference's numbers: power, More, ones, number. -/
theorem rpower_any (n : Nat) (hn : n ≤ 63) (w : World) : Calls Tryd.prog 78 #[.int .i64 (n : Int)] w fun e w' => e = .returned (.int .u64 ((2 ^ n : Nat) : Int)) ∧ w = w' := by
  go_enter Tryd.func78, Tryd.ntmps78
  go_wp2_with fail
  go_loop [3, 4] (fun p i => ∃ k : Nat, k ≤ n ∧ p = .int .u64 ((2 ^ k : Nat) : Int) ∧ i = .int .i64 (k : Int)) (fun _ i => n - (intOf i).toNat)
  case atStart => exact ⟨0, by omega, rfl, rfl⟩
  case round =>
    obtain ⟨k, hk, rfl, rfl⟩ := hrel
    by_cases hlt : k < n
    · have hp : 2 ^ k ≤ 2 ^ 62 := Nat.pow_le_pow_right (by decide) (by omega)
      obtain ⟨x, hx⟩ : ∃ x, x = 2 ^ k := ⟨_, rfl⟩
      have hs : 2 ^ (k + 1) = 2 * x := by rw [hx, Nat.pow_succ]; omega
      rw [← hx] at hp ⊢
      have HS := Lib.hid hs
      have hxb : x ≤ 4611686018427387904 := hp
      clear hp hx hs
      have k1 : (k : Int) < (n : Int) := by omega
      go_wp2_with fail
      go_round
      case rel => exact ⟨k + 1, by omega, by rw [HS.out]; congr 1; (try rw [IntWalk.u64_in _ (by omega)]); (try omega), by go_num⟩
      case measure => simp [intOf]; omega
    · have hkn : k = n := by omega
      subst hkn
      have k1 : ¬ (k : Int) < (k : Int) := by omega
      go_wp2_with fail
      go_ret
      exact ⟨rfl, rfl⟩
theorem behind_least (n k : Nat) (hk : k < 8) (h1 : ∀ j, j < k → ¬ n < 2 ^ (7 * j + 7)) (h2 : n < 2 ^ (7 * k + 7)) : behindF n = k := by
  have g0 := h1 0
  have g1 := h1 1
  have g2 := h1 2
  have g3 := h1 3
  have g4 := h1 4
  have g5 := h1 5
  have g6 := h1 6
  have : k = 0 ∨ k = 1 ∨ k = 2 ∨ k = 3 ∨ k = 4 ∨ k = 5 ∨ k = 6 ∨ k = 7 := by omega
  unfold behindF
  rcases this with rfl | rfl | rfl | rfl | rfl | rfl | rfl | rfl <;> simp only [Nat.reduceMul, Nat.reduceAdd, Nat.reducePow] at * <;> ((repeat' split) <;> omega)
theorem behind_eight (n : Nat) (h1 : ∀ j, j < 8 → ¬ n < 2 ^ (7 * j + 7)) : behindF n = 8 := by
  have g0 := h1 0 (by decide)
  have g1 := h1 1 (by decide)
  have g2 := h1 2 (by decide)
  have g3 := h1 3 (by decide)
  have g4 := h1 4 (by decide)
  have g5 := h1 5 (by decide)
  have g6 := h1 6 (by decide)
  have g7 := h1 7 (by decide)
  unfold behindF
  simp only [Nat.reduceMul, Nat.reduceAdd, Nat.reducePow] at *
  (repeat' split) <;> omega
theorem rmore_len (n : Nat) (w : World) : Calls Tryd.prog 65 #[.int .u64 (n : Int)] w fun e w' => e = .returned (.int .i64 (behindF n : Nat)) ∧ w = w' := by
  go_enter Tryd.func65, Tryd.ntmps65
  go_wp2_with fail
  go_loop [3] (fun i => ∃ k : Nat, k ≤ 8 ∧ i = .int .i64 (k : Int) ∧ ∀ j, j < k → ¬ n < 2 ^ (7 * j + 7)) (fun i => 8 - (intOf i).toNat)
  case atStart => exact ⟨0, by omega, rfl, fun j hj => absurd hj (by omega)⟩
  case round =>
    obtain ⟨k, hk, rfl, hno⟩ := hrel
    have HNO := Lib.hid hno
    clear hno
    by_cases hlt : k < 8
    · have k1 : (k : Int) < 8 := by omega
      have hpw := rpower_any (7 * k + 7) (by omega) w
      rw [show ((7 * k + 7 : Nat) : Int) = 7 * (k : Int) + 7 by omega] at hpw
      obtain ⟨x, hx⟩ : ∃ x, x = 2 ^ (7 * k + 7) := ⟨_, rfl⟩
      rw [← hx] at hpw
      have HPW := Lib.hid hpw
      have HX := Lib.hid hx
      clear hpw hx
      by_cases hb : n < x
      · have b1 : (n : Int) < (x : Int) := by omega
        go_wp2_with fail
        (with_reducible refine HPW.out.mono ?_)
        rintro e w1 ⟨rfl, rfl⟩
        go_wp2_with fail
        go_ret
        exact ⟨by rw [behind_least n k hlt HNO.out (HX.out ▸ hb)]; rfl, rfl⟩
      · have b1 : ¬ (n : Int) < (x : Int) := by omega
        go_wp2_with fail
        (with_reducible refine HPW.out.mono ?_)
        rintro e w1 ⟨rfl, rfl⟩
        go_wp2_with fail
        go_round
        case rel =>
          refine ⟨k + 1, by omega, by go_num, fun j hj => ?_⟩
          by_cases hjk : j < k
          · exact HNO.out j hjk
          · have : j = k := by omega
            subst this
            rw [← HX.out]; exact hb
        case measure => simp [intOf]; omega
    · have hk8 : k = 8 := by omega
      subst hk8
      go_wp2_with fail
      go_ret
      exact ⟨by rw [behind_eight n HNO.out]; rfl, rfl⟩

theorem rones_val (k : Nat) (hk : k ≤ 8) (w : World) : Calls Tryd.prog 64 #[.int .i64 (k : Int)] w fun e w' => e = .returned (.int .u8 (((256 - 2 ^ (8 - k)) % 256 : Nat) : Int)) ∧ w = w' := by
  have hpw := rpower_any (8 - k) (by omega) w
  rw [show ((8 - k : Nat) : Int) = 8 - (k : Int) by omega] at hpw
  obtain ⟨x, hx⟩ : ∃ x, x = 2 ^ (8 - k) := ⟨_, rfl⟩
  have hxb : x ≤ 256 := by rw [hx]; exact Nat.pow_le_pow_right (n := 2) (by decide) (by omega : 8 - k ≤ 8)
  rw [← hx] at hpw ⊢
  have HPW := Lib.hid hpw
  clear hpw hx
  go_enter Tryd.func64, Tryd.ntmps64
  go_wp2_with fail
  (with_reducible refine HPW.out.mono ?_)
  rintro e w1 ⟨rfl, rfl⟩
  go_wp2_with fail
  go_ret
  refine ⟨?_, rfl⟩
  show Ending.returned (Value.int .u8 ((256 - (x : Int)) % 256)) = _
  rw [show (256 - (x : Int)) % 256 = (((256 - x) % 256 : Nat) : Int) by omega]
theorem lead_iff (x : UInt8) (j : Nat) (hj : j ≤ 8) : (256 - 2 ^ (8 - j)) % 256 ≤ x.toNat ↔ j ≤ leadF x := by
  have h : ∀ i : Fin 256, ∀ j : Fin 9, ((256 - 2 ^ (8 - j.val)) % 256 ≤ (UInt8.ofNat i.val).toNat ↔ j.val ≤ leadF (UInt8.ofNat i.val)) := by decide +kernel
  obtain ⟨i, rfl⟩ := u8_fin x
  exact h i ⟨j, by omega⟩
theorem first_sub (x : UInt8) : (((x.toNat : Int) - (((256 - 2 ^ (8 - leadF x)) % 256 : Nat) : Int)) % 256) = (firstB x : Int) := by
  have h : ∀ i : Fin 256, ((((UInt8.ofNat i.val).toNat : Int) - (((256 - 2 ^ (8 - leadF (UInt8.ofNat i.val))) % 256 : Nat) : Int)) % 256) = (firstB (UInt8.ofNat i.val) : Int) := by decide +kernel
  obtain ⟨i, rfl⟩ := u8_fin x
  exact h i
theorem first_most (x : UInt8) : (firstB x + 1) * 256 ^ (leadF x) ≤ 256 ^ 8 := by
  obtain ⟨i, hi⟩ := u8_fin x
  have hle := leadF_le x
  rcases Nat.lt_or_ge (leadF x) 8 with hk | hk
  · have := firstB_small i
    rw [← hi] at this
    have h3 := this hk
    have h4 : (firstB x + 1) * 256 ^ (leadF x) ≤ 2 ^ (7 - leadF x) * 256 ^ (leadF x) := Nat.mul_le_mul_right _ h3
    refine Nat.le_trans h4 ?_
    generalize leadF x = K at *
    have : K = 0 ∨ K = 1 ∨ K = 2 ∨ K = 3 ∨ K = 4 ∨ K = 5 ∨ K = 6 ∨ K = 7 := by omega
    rcases this with rfl | rfl | rfl | rfl | rfl | rfl | rfl | rfl <;> decide
  · have hk8 : leadF x = 8 := by omega
    have := firstB_8 i
    rw [← hi] at this
    rw [this hk8, hk8]
    decide
theorem behind_small (n K : Nat) (hK : K < 8) (h : n + 1 ≤ 2 ^ (7 - K) * 256 ^ K) : behindF n ≤ K := by
  have : K = 0 ∨ K = 1 ∨ K = 2 ∨ K = 3 ∨ K = 4 ∨ K = 5 ∨ K = 6 ∨ K = 7 := by omega
  unfold behindF
  rcases this with rfl | rfl | rfl | rfl | rfl | rfl | rfl | rfl
  · replace h : n + 1 ≤ 128 := h
    (repeat' split) <;> omega
  · replace h : n + 1 ≤ 16384 := h
    (repeat' split) <;> omega
  · replace h : n + 1 ≤ 2097152 := h
    (repeat' split) <;> omega
  · replace h : n + 1 ≤ 268435456 := h
    (repeat' split) <;> omega
  · replace h : n + 1 ≤ 34359738368 := h
    (repeat' split) <;> omega
  · replace h : n + 1 ≤ 4398046511104 := h
    (repeat' split) <;> omega
  · replace h : n + 1 ≤ 562949953421312 := h
    (repeat' split) <;> omega
  · replace h : n + 1 ≤ 72057594037927936 := h
    (repeat' split) <;> omega
/-- no number of k more bytes wants more than k -/
theorem behind_fold (x : UInt8) (L : List UInt8) (hL : L.length = leadF x) : behindF (foldN (firstB x) L) ≤ leadF x := by
  obtain ⟨i, hi⟩ := u8_fin x
  have hle := leadF_le x
  have hm := first_most x
  have hf := foldN_le (firstB x) L (by rw [hL]; exact hm)
  rw [hL] at hf
  rcases Nat.lt_or_ge (leadF x) 8 with hk | hk
  · have := firstB_small i
    rw [← hi] at this
    have h3 := this hk
    have h4 : (firstB x + 1) * 256 ^ (leadF x) ≤ 2 ^ (7 - leadF x) * 256 ^ (leadF x) := Nat.mul_le_mul_right _ h3
    exact behind_small _ _ hk (Nat.le_trans hf h4)
  · have := behindF_le (foldN (firstB x) L)
    omega
theorem Fr.drewN (w : World) (n : Nat) : Fr none_ w (w.drewN n) := ⟨rfl, rfl, rfl, Nat.le_refl _, fun _ _ _ => rfl⟩
theorem fold_add (n : Nat) (c : UInt8) : n * 256 % 18446744073709551616 ||| c.toNat = (256 * n + c.toNat) % 18446744073709551616 := by
  have hc := c.toNat_lt
  have h : n * 256 % 18446744073709551616 = (n % 72057594037927936) * 256 := by omega
  rw [h, or_low _ _ (by omega)]
  omega
set_option maxHeartbeats 4000000 in
theorem rnumber_any {w : World} (A : Option Addr) (n c : Nat) (l : List UInt8) (hn : n = l.length) (hA : CellsAt w A (l.map byteV)) (hm : l.length ≤ 140737488351232) :
    Calls Tryd.prog 43 #[.slice A n c] w fun e w' => e = .returned (.tuple #[.int .u64 ((numberF l).1 : Int), .int .i64 ((numberF l).2.1 : Int), .int .i64 (numberF l).2.2]) ∧ Fr none_ w w' := by
  cases l with
  | nil =>
    have h0 : (n : Int) = 0 := by rw [hn]; rfl
    clear hn hA hm
    go_enter Tryd.func43, Tryd.ntmps43
    go_wp2_with fail
    go_ret3
    exact ⟨rfl, Fr.refl _ _⟩
  | cons x r =>
    obtain ⟨b, o, rfl⟩ := hA.addr (by simp)
    have hc0 : ∀ wx, Fr none_ w wx → wx.cell? ⟨b, o, none⟩ = some (.int .u8 (x.toNat : Int)) := fun wx hF => hF.cell0 (by simpa [byteV] using hA.get 0 (by simp))
    have hcj : ∀ wx, Fr none_ w wx → ∀ j (hj : j < r.length), wx.cell? ⟨b, o + (j + 1), none⟩ = some (.int .u8 (r[j].toNat : Int)) := fun wx hF j hj => hF.cell0 (by have := hA.get (j + 1) (by simpa using hj); simpa [byteV] using this)
    have hn1 : n = r.length + 1 := hn
    have n1 : ¬ (n : Int) = 0 := by omega
    have n3 : ((n : Int) == 0) = false := by rw [beq_eq_false_iff_ne]; exact n1
    have n2 : (0 : Int) < (n : Int) := by omega
    have hnb : n ≤ 140737488351232 := by rw [hn]; exact hm
    have hxb : x.toNat < 256 := x.toNat_lt
    have HC0 := Lib.hid hc0
    have HCJ := Lib.hid hcj
    have HN := Lib.hid hn1
    clear hc0 hcj hA hm hn hn1
    have hone : ∀ k : Nat, k ≤ 8 → ∀ wx : World, Calls Tryd.prog 64 #[.int .i64 (k : Int)] wx fun e w' => e = .returned (.int .u8 (((256 - 2 ^ (8 - k)) % 256 : Nat) : Int)) ∧ w' = wx := fun k hk wx => (rones_val k hk wx).mono (fun e w' ⟨h1, h2⟩ => ⟨h1, h2.symm⟩)
    have HONE := Lib.hid hone
    have hL8 := leadF_le x
    obtain ⟨K, hK⟩ : ∃ K, K = leadF x := ⟨_, rfl⟩
    have hlead : ∀ j, j ≤ 8 → ((256 - 2 ^ (8 - j)) % 256 ≤ x.toNat ↔ j ≤ K) := fun j hj => by rw [hK]; exact lead_iff x j hj
    have HLEAD := Lib.hid hlead
    have HK := Lib.hid hK
    rw [← hK] at hL8
    clear hone hlead hK
    go_enter Tryd.func43, Tryd.ntmps43
    go_upto_block 0 with fail
    go_cut [5] (fun v5 wx => v5 = .int .i64 (K : Int) ∧ Fr none_ w wx)
    case first =>
      go_wp2_with fail
      go_loopw [5] (fun i wr => ∃ k : Nat, k ≤ K ∧ i = .int .i64 (k : Int) ∧ Fr none_ w wr) (fun i _ => K - (intOf i).toNat)
      case atStart => exact ⟨0, by omega, rfl, Fr.refl _ _⟩
      case round =>
        obtain ⟨k, hk, rfl, hF⟩ := hrel
        have hc := HC0.out wr hF
        have hcd : ∀ nq, (wr.drewN nq).cell? ⟨b, o, none⟩ = some (.int .u8 (x.toNat : Int)) := fun _ => hc
        by_cases hlt : k < 8
        · have k1 : (k : Int) < 8 := by omega
          have hon := HONE.out (k + 1) (by omega)
          rw [show ((k + 1 : Nat) : Int) = (k : Int) + 1 by omega] at hon
          have hl := HLEAD.out (k + 1) (by omega)
          obtain ⟨y, hy⟩ : ∃ y, y = (256 - 2 ^ (8 - (k + 1))) % 256 := ⟨_, rfl⟩
          rw [← hy] at hon hl
          have hyb : y < 256 := by omega
          have HON := Lib.hid hon
          clear hon hy
          by_cases hgo : k + 1 ≤ K
          · have hyx : y ≤ x.toNat := hl.2 hgo
            have d1 : (y : Int) ≤ (x.toNat : Int) := by omega
            clear hl
            go_upto_region 4 with fail
            go_quiet ((go_at_call 64; exact Calls.quiet_of_same (HON.out _)))
            go_wp2_with fail
            go_roundw
            case rel => exact ⟨k + 1, by omega, by go_num, hF.trans (Fr.drewN _ _)⟩
            case measure => simp [intOf]; omega
          · have hyx : ¬ y ≤ x.toNat := fun h => hgo (hl.1 h)
            have d1 : ¬ (y : Int) ≤ (x.toNat : Int) := by omega
            clear hl
            go_upto_region 4 with fail
            go_quiet ((go_at_call 64; exact Calls.quiet_of_same (HON.out _)))
            go_wp2_with fail
            go_meet
            exact ⟨by rw [show k = K by omega], hF.trans (Fr.drewN _ _)⟩
        · have hk8 : k = 8 := by omega
          subst hk8
          go_upto_region 4 with fail
          go_quiet (fail)
          go_wp2_with fail
          go_meet
          exact ⟨by rw [show K = 8 by omega], hF.trans (Fr.drewN _ _)⟩
    case rest =>
      obtain ⟨rfl, hF⟩ := hcut
      have hc := HC0.out wc hF
      have hcd : ∀ nq, (wc.drewN nq).cell? ⟨b, o, none⟩ = some (.int .u8 (x.toNat : Int)) := fun _ => hc
      by_cases hsh : r.length < K
      · have hE : numberF (x :: r) = (0, 0, 12) := by rw [numberF_cons, if_pos (by rw [← HK.out]; exact hsh)]
        have k1 : (n : Int) < (K : Int) + 1 := by have := HN.out; omega
        have HE := Lib.hid hE
        clear hE
        go_wp2_with fail
        go_ret3
        exact ⟨by rw [HE.out]; rfl, hF⟩
      · have k1 : ¬ (n : Int) < (K : Int) + 1 := by have := HN.out; omega
        have hon := HONE.out K hL8
        have hfs := first_sub x
        rw [← HK.out] at hfs
        obtain ⟨y, hy⟩ : ∃ y, y = (256 - 2 ^ (8 - K)) % 256 := ⟨_, rfl⟩
        rw [← hy] at hon hfs
        have HON := Lib.hid hon
        obtain ⟨z, hz⟩ : ∃ z, z = firstB x := ⟨_, rfl⟩
        rw [← hz] at hfs
        have hzb : z < 256 := by omega
        have HZ := Lib.hid hz
        clear hon hy hz
        go_upto_region 8 with fail
        go_quiet ((go_at_call 64; exact Calls.quiet_of_same (HON.out _)))
        rw [hfs]
        clear hfs
        go_upto_block 2 with fail
        go_cut [6, 7] (fun v6 v7 wx => v6 = .int .u64 ((foldN z (r.take K) : Nat) : Int) ∧ Fr none_ w wx)
        case first =>
          go_wp2_with fail
          go_loopw [6, 7] (fun a i wr => ∃ k : Nat, k ≤ K ∧ i = .int .i64 ((k + 1 : Nat) : Int) ∧ a = .int .u64 ((foldN z (r.take k) : Nat) : Int) ∧ Fr none_ w wr) (fun _ i _ => K + 1 - (intOf i).toNat)
          case atStart => exact ⟨0, by omega, rfl, rfl, hF.trans (Fr.drewN _ _)⟩
          case round =>
            obtain ⟨k, hk, rfl, rfl, hF1⟩ := hrel
            have hm1 := foldN_lt z (by omega) (r.take k)
            obtain ⟨m, hm⟩ : ∃ m, m = foldN z (r.take k) := ⟨_, rfl⟩
            rw [← hm] at hm1 ⊢
            rw [show ((k + 1 : Nat) : Int) = (k : Int) + 1 by omega]
            by_cases hlt : k < K
            · have hkr : k < r.length := by omega
              have hcc := HCJ.out wr hF1 k hkr
              have hst := foldN_step z r k hkr
              have ha := fold_add m r[k]
              rw [← hm] at hst
              rw [ha] at hst
              obtain ⟨cc, hcv⟩ : ∃ cc, cc = r[k].toNat := ⟨_, rfl⟩
              have hcb : cc < 256 := by rw [hcv]; exact r[k].toNat_lt
              rw [← hcv] at hst hcc
              have HST := Lib.hid hst
              have e1 : (k : Int) + 1 ≤ (K : Int) := by omega
              have e2 : (k : Int) + 1 < (n : Int) := by have := HN.out; omega
              clear hst ha hcv hm
              go_wp2_with fail
              go_roundw
              case rel => exact ⟨k + 1, by omega, by go_num, by rw [HST.out]; congr 1; simp only [IntKind.wrap_u64]; omega, hF1⟩
              case measure => simp [intOf]; omega
            · have e1 : ¬ (k : Int) + 1 ≤ (K : Int) := by omega
              have HM := Lib.hid hm
              clear hm
              go_wp2_with fail
              go_meet
              exact ⟨by rw [HM.out, show k = K by omega], hF1⟩
        case rest =>
          obtain ⟨rfl, hF2⟩ := hcut
          have hrl : (r.take K).length = leadF x := by rw [List.length_take, ← HK.out]; omega
          have hbf := behind_fold x (r.take K) hrl
          rw [← HZ.out, ← HK.out] at hbf
          have hnum : numberF (x :: r) = if behindF (foldN z (r.take K)) = K then (foldN z (r.take K), K + 1, 0) else (0, 0, 3) := by
            rw [numberF_cons, ← HZ.out, ← HK.out, if_neg hsh]
          have hmr := rmore_len (foldN z (r.take K)) wc
          obtain ⟨m, hm⟩ : ∃ m, m = foldN z (r.take K) := ⟨_, rfl⟩
          rw [← hm] at hbf hmr hnum ⊢
          obtain ⟨q, hq⟩ : ∃ q, q = behindF m := ⟨_, rfl⟩
          rw [← hq] at hbf hmr hnum
          have HMR := Lib.hid hmr
          have HNUM := Lib.hid hnum
          clear hnum hmr hrl hm hq
          by_cases hlt : q < K
          · have hne : ¬ q = K := by omega
            have HNE := Lib.hid hne
            have e1 : (q : Int) < (K : Int) := by omega
            clear hne
            go_wp2_with fail
            (with_reducible refine HMR.out.mono ?_)
            rintro e w1 ⟨rfl, rfl⟩
            go_wp2_with fail
            go_ret3
            exact ⟨by rw [HNUM.out, if_neg HNE.out]; rfl, hF2⟩
          · have heq : q = K := by omega
            have HEQ := Lib.hid heq
            have e1 : ¬ (q : Int) < (K : Int) := by omega
            clear heq
            go_wp2_with fail
            (with_reducible refine HMR.out.mono ?_)
            rintro e w1 ⟨rfl, rfl⟩
            go_wp2_with fail
            go_ret3
            exact ⟨by rw [HNUM.out, if_pos HEQ.out]; rfl, hF2⟩
end Go.Proofs.YtjfeibbghhjjeaaDoor
namespace Go.Proofs.YtjfeibbghhjjeaaDoor
open Go.RowKit
set_option linter.unusedVariables false
set_option linter.unusedSimpArgs false
set_option maxRecDepth 100000

/-! The reference's reader: fail, ReadUint, Done. -/
/-- B: where its bytes lie, below -/
structure RRd (w : World) (B : Nat) (v : Value) (l : List UInt8) (e : Int) : Prop where
  rep : ∃ A c, v = .agg #[.slice A l.length c, .int .i64 e] ∧ CellsAt w A (l.map byteV) ∧ l.length ≤ c ∧ (A = none → l.length = 0 ∧ c = 0) ∧ (∀ bb, blkOf A bb → bb < B)
  most : l.length ≤ 140737488351232
theorem RRd.fr {S : Nat → Prop} {w w' : World} {B : Nat} {v : Value} {l : List UInt8} {e : Int} (h : RRd w B v l e) (hF : Fr S w w') (hn : ∀ i, i < B → ¬ S i) : RRd w' B v l e := by
  obtain ⟨⟨A, c, hv, h1, h2, h3, h4⟩, hm⟩ := h
  exact ⟨⟨A, c, hv, h1.frp hF (fun b hb _ => hn b (h4 b hb)), h2, h3, h4⟩, hm⟩
theorem RRd.fr0 {w w' : World} {B : Nat} {v : Value} {l : List UInt8} {e : Int} (h : RRd w B v l e) (hF : Fr none_ w w') : RRd w' B v l e := h.fr hF (fun _ _ h => h)
theorem heap_2nd (w : World) (o1 : Obj) (c : Array Value) (T : TypeId) : ((w.alloc o1).alloc (.cells c T)).heap[w.heap.size + 1]? = some (.cells c T (0, 0)) := by
  have h2 := heap_alloc_new (w.alloc o1) (.cells c T)
  rw [World.size_alloc] at h2; exact h2
theorem two_blocks (w : World) (o1 o2 : Array Value) (T1 T2 : TypeId) : ∃ V, V = (w.alloc (.cells o1 T1)).alloc (.cells o2 T2) ∧ Fr none_ w V ∧ V.heap[w.heap.size]? = some (.cells o1 T1 (0, 0)) ∧ V.heap[w.heap.size + 1]? = some (.cells o2 T2 (0, 0)) :=
  ⟨_, rfl, ((Fr.refl _ _).alloc _).alloc _, ((Fr.refl none_ (w.alloc (.cells o1 T1))).alloc (.cells o2 T2)).heap0 (heap_alloc_new _ _), heap_2nd _ _ _ _⟩
theorem res_rd {f : Func} {W : World} {b : Nat} {v0 v1 r : Value} {T : TypeId} {F : Nat × Nat} {tmps : Array Value} (hr : f.results = #[.cell 4 77, .tmp 5]) (h : W.heap[b]? = some (.cells #[v0, v1] T F)) (t4 : tmps[4]?.getD undef = ptr b) (t5 : tmps[5]?.getD undef = r) :
    (results f tmps).run Tryd.prog W = .ok (.tuple #[.agg #[v0, v1], r]) W := by
  have c0 : W.cell? ⟨b, 0, none⟩ = some v0 := by rw [cell_of_blk h]; rfl
  have c1 : W.cell? ⟨b, 1, none⟩ = some v1 := by rw [cell_of_blk h]; rfl
  simp [results, hr, go_sem, t4, t5, c0, c1]
theorem res_rd1 {f : Func} {W : World} {b : Nat} {v0 v1 : Value} {T : TypeId} {F : Nat × Nat} {tmps : Array Value} (hr : f.results = #[.cell 4 77]) (h : W.heap[b]? = some (.cells #[v0, v1] T F)) (t4 : tmps[4]?.getD undef = ptr b) :
    (results f tmps).run Tryd.prog W = .ok (.agg #[v0, v1]) W := by
  have c0 : W.cell? ⟨b, 0, none⟩ = some v0 := by rw [cell_of_blk h]; rfl
  have c1 : W.cell? ⟨b, 1, none⟩ = some v1 := by rw [cell_of_blk h]; rfl
  simp [results, hr, go_sem, t4, c0, c1]
set_option maxHeartbeats 2000000 in
theorem rfail_any {w : World} (A : Option Addr) (n c : Nat) (e x : Int) : Calls Tryd.prog 44 #[.agg #[.slice A n c, .int .i64 e], .int .i64 x] w fun en w' => en = .returned (.agg #[.slice A n c, .int .i64 (if e = 0 then x else e)]) ∧ Fr none_ w w' := by
  by_cases he : e = 0
  · rw [if_pos he]
    subst he
    go_enter Tryd.func44, Tryd.ntmps44
    go_wp2_with fail
    refine bodyPost_ret (res_rd1 Tryd.results44 (heap_2nd _ _ _ _) rfl) rfl ?_
    exact ⟨rfl, ((Fr.refl _ _).alloc _).alloc _⟩
  · rw [if_neg he]
    have h1 : (e == 0) = false := by simpa using he
    go_enter Tryd.func44, Tryd.ntmps44
    go_wp2_with fail
    refine bodyPost_ret (res_rd1 Tryd.results44 (heap_2nd _ _ _ _) rfl) rfl ?_
    exact ⟨rfl, ((Fr.refl _ _).alloc _).alloc _⟩
theorem rdone_any {w : World} {B : Nat} {v : Value} {l : List UInt8} {e : Int} (h : RRd w B v l e) : Calls Tryd.prog 23 #[v] w fun en w' => en = .returned (.int .i64 (if e = 0 ∧ l ≠ [] then 3 else e)) ∧ Fr none_ w w' := by
  obtain ⟨⟨A, c, rfl, h1, h2, h3, _⟩, hm⟩ := h
  by_cases he : e = 0
  · subst he
    by_cases hl : l = []
    · have k1 : (l.length : Int) = 0 := by rw [hl]; rfl
      have k2 : ¬ (0 : Int) < (l.length : Int) := by omega
      have k3 : ¬ 0 < l.length := by omega
      rw [if_neg (by rintro ⟨_, h⟩; exact h hl)]
      clear h1 hl
      go_enter Tryd.func23, Tryd.ntmps23
      go_wp2_with fail
      go_ret
      exact ⟨rfl, (Fr.refl _ _).alloc _⟩
    · have k3 : 0 < l.length := List.length_pos_iff.2 hl
      have k2 : (0 : Int) < (l.length : Int) := by omega
      rw [if_pos ⟨rfl, hl⟩]
      clear h1 hl
      go_enter Tryd.func23, Tryd.ntmps23
      go_wp2_with fail
      go_ret
      exact ⟨rfl, (Fr.refl _ _).alloc _⟩
  · rw [if_neg (by rintro ⟨h, _⟩; exact he h)]
    have k1 : (e == 0) = false := by simpa using he
    clear h1
    go_enter Tryd.func23, Tryd.ntmps23
    go_wp2_with fail
    go_ret
    exact ⟨rfl, (Fr.refl _ _).alloc _⟩
/-- what ReadUint leaves -/
def RUI (w : World) (B : Nat) (l : List UInt8) (e : Int) (most : Nat) (en : Ending) (w' : World) : Prop := ∃ v', en = .returned (.tuple #[v', .int .u64 (uintN l e most : Nat)]) ∧ RRd w' B v' (uintL l e most) (uintE l e most) ∧ Fr none_ w w'
set_option maxHeartbeats 4000000 in
theorem rreaduint_any {w : World} {B : Nat} {v : Value} {l : List UInt8} {e : Int} (h : RRd w B v l e) (most : Nat) (hm : most < 18446744073709551616) : Calls Tryd.prog 22 #[v, .int .u64 (most : Int)] w fun en w' => RUI w B l e most en w' := by
  obtain ⟨⟨A, c, rfl, h1, h2, h3, h4⟩, hl⟩ := h
  by_cases he : e = 0
  · subst he
    have hE : uintE l 0 most = boundE l most 4 0 := rfl
    have hN : uintN l 0 most = boundN l most 4 0 := rfl
    have hL : uintL l 0 most = boundL l most 4 0 := rfl
    obtain ⟨V, hV, hFV, hbp, hbq⟩ := two_blocks w #[.slice A l.length c, .int .i64 0] #[.slice none 0 0, .int .i64 0] 77 77
    have hnum := rnumber_any (w := V) A l.length c l rfl (h1.fr0 hFV) hl
    have hk := fun (n k : Nat) (h : numberF l = (n, k, 0)) => numberF_k h
    obtain ⟨t, ht⟩ : ∃ t, t = numberF l := ⟨_, rfl⟩
    obtain ⟨n, k, f⟩ := t
    have hnb := numberF_n l
    rw [← ht] at hnum hk hnb
    replace hnb : n < 18446744073709551616 := hnb
    have hbe : boundE l most 4 0 = if f ≠ 0 then f else if most < n then 4 else 0 := by
      unfold boundE; rw [← ht]; simp
    have HNUM := Lib.hid hnum
    have HBE := Lib.hid (And.intro hE (And.intro hN (And.intro hL (And.intro hbe ht))))
    have HH := Lib.hid h1
    have v0 : V.cell? ⟨w.heap.size, 0, none⟩ = some (.slice A l.length c) := by rw [cell_of_blk hbp]; rfl
    have v1 : V.cell? ⟨w.heap.size, 1, none⟩ = some (.int .i64 0) := by rw [cell_of_blk hbp]; rfl
    have HV := Lib.hid hV
    have HB := Lib.hid (And.intro hFV (And.intro hbp hbq))
    clear hV hFV hbp hbq hnum hE hN hL hbe ht h1
    by_cases hf : f = 0
    · subst hf
      have hkl := hk n k rfl
      clear hk
      by_cases hmn : most < n
      · have m1 : (most : Int) < (n : Int) := by omega
        go_enter Tryd.func22, Tryd.ntmps22
        go_upto_region 1 with fail
        rw [← HV.out]
        go_wp2_with (first | ((with_reducible refine HNUM.out.mono ?_); rintro e w1 ⟨rfl, hF1⟩; have hp1 := hF1.heap0 HB.out.2.1; have hq1 := hF1.heap0 HB.out.2.2; have p0 : w1.cell? ⟨w.heap.size, 0, none⟩ = some (.slice A l.length c) := (by rw [cell_of_blk hp1]; rfl); have p1 : w1.cell? ⟨w.heap.size, 1, none⟩ = some (.int .i64 0) := (by rw [cell_of_blk hp1]; rfl); have pf := frozen_of_blk hp1 0; have HW1 := Lib.hid (And.intro (HB.out.1.trans hF1) (And.intro hp1 hq1)); clear hF1 hp1 hq1) | ((with_reducible refine (rfail_any A l.length c 0 4).mono ?_); rintro e w2 ⟨rfl, hF2⟩; rw [if_pos rfl]; have HW2 := Lib.hid (And.intro (HW1.out.1.trans hF2) (hF2.heap0 HW1.out.2.2)); clear hF2) | ((with_reducible refine at_store 77 (.tmp 4) (.tmp 31) (b := w.heap.size + 1) (c' := #[.slice A l.length c, .int .i64 4]) ?_ ?_ HW2.out.2 ?_ ?_ ?_ ?_); (focus rfl); (focus rfl); (focus rfl); (focus kernel_rfl); (focus (intro u hu; simp at hu; rcases hu with rfl | rfl <;> rfl)); intro w3 hFw3 hbw3; have HZ := Lib.hid (And.intro (HW2.out.1.own hFw3 (by omega)) hbw3); clear hFw3 hbw3))
        refine bodyPost_ret (res_rd Tryd.results22 HZ.out.2 rfl rfl) rfl ?_
        obtain ⟨hE, hN, hL, hbe, ht⟩ := HBE.out
        have hz : boundE l most 4 0 = 4 := by rw [hbe]; rw [if_neg (by simp), if_pos hmn]
        refine ⟨_, by rw [hN]; unfold boundN; rw [hz, if_neg (by decide)]; rfl, ?_, HZ.out.1⟩
        rw [hE, hL]
        unfold boundL
        rw [hz, if_neg (by decide)]
        exact ⟨⟨A, c, rfl, HH.out.fr0 HZ.out.1, h2, h3, h4⟩, hl⟩
      · have m1 : ¬ (most : Int) < (n : Int) := by omega
        obtain ⟨ba, oa, rfl⟩ := HH.out.addr (by rw [List.length_map]; omega)
        have key : ∀ A' : Option Addr, (A' = some ⟨ba, oa + k, none⟩ ∨ (k = l.length ∧ A' = some ⟨ba, oa, none⟩)) → ∀ W : World, Fr none_ w W → RUI w B l 0 most (.returned (.tuple #[.agg #[.slice A' (l.length - k) (c - k), .int .i64 0], .int .u64 (n : Int)])) W := by
          intro A' hA' W hF
          obtain ⟨hE, hN, hL, hbe, ht⟩ := HBE.out
          have hz : boundE l most 4 0 = 0 := by rw [hbe, if_neg (by simp), if_neg hmn]
          refine ⟨_, by rw [hN]; unfold boundN; rw [hz, if_pos rfl, ← ht], ?_, hF⟩
          rw [hE, hL]
          unfold boundL
          rw [hz, if_pos rfl, ← ht]
          refine ⟨⟨A', c - k, by rw [List.length_drop], ?_, by rw [List.length_drop]; show l.length - k ≤ c - k; omega, fun h => ?_, fun bb hbb => ?_⟩, by rw [List.length_drop]; omega⟩
          · rcases hA' with rfl | ⟨h9, rfl⟩
            · have h8 := (HH.out.fr0 hF).sub k (l.length - k) (by rw [List.length_map]; omega)
              have e1 : ((l.map byteV).drop k).take (l.length - k) = (l.drop k).map byteV := by rw [← List.map_drop, List.take_of_length_le (by simp)]
              rw [e1] at h8
              exact h8
            · rw [show l.drop k = [] from List.drop_eq_nil_of_le (by omega)]
              exact CellsAt.nil _ _
          · rcases hA' with rfl | ⟨h9, rfl⟩ <;> cases h
          · rcases hA' with rfl | ⟨h9, rfl⟩
            · have := blkOf_some hbb; exact this ▸ h4 ba ⟨oa, rfl⟩
            · have := blkOf_some hbb; exact this ▸ h4 ba ⟨oa, rfl⟩
        have KEY := Lib.hid key
        clear key
        have m2 : (k : Int) ≤ (l.length : Int) := by omega
        by_cases hkc : k < c
        · have m3 : (k : Int) < (c : Int) := by omega
          go_enter Tryd.func22, Tryd.ntmps22
          go_upto_region 1 with fail
          rw [← HV.out]
          go_upto_region 9 with (first | ((with_reducible refine HNUM.out.mono ?_); rintro e w1 ⟨rfl, hF1⟩; have hp1 := hF1.heap0 HB.out.2.1; have hq1 := hF1.heap0 HB.out.2.2; have p0 : w1.cell? ⟨w.heap.size, 0, none⟩ = some (.slice (some ⟨ba, oa, none⟩) l.length c) := (by rw [cell_of_blk hp1]; rfl); have p1 : w1.cell? ⟨w.heap.size, 1, none⟩ = some (.int .i64 0) := (by rw [cell_of_blk hp1]; rfl); have pf := frozen_of_blk hp1 0; have HW1 := Lib.hid (And.intro (HB.out.1.trans hF1) (And.intro hp1 hq1)); clear hF1 hp1 hq1))
          obtain ⟨w2, hw2⟩ : ∃ w2, w2 = w1.setCell ⟨w.heap.size, 0, none⟩ (.slice (some ⟨ba, oa + k, none⟩) (l.length - k) (c - k)) := ⟨_, rfl⟩
          have hF2 : Fr (fun i => i = w.heap.size) w1 w2 := by rw [hw2]; exact Fr.set w1 w.heap.size 0 _
          have hp2 : w2.heap[w.heap.size]? = some (.cells #[.slice (some ⟨ba, oa + k, none⟩) (l.length - k) (c - k), .int .i64 0] 77 (0, 0)) := by rw [hw2]; exact heap_setCell_same HW1.out.2.1 (o := 0) _
          have hq2 := hF2.heap HW1.out.2.2 (by omega)
          have hF02 := HW1.out.1.own hF2 (by omega)
          rw [← hw2]
          clear hw2 p0 p1 pf hF2
          go_wp2_with (first | ((with_reducible refine at_load 77 (.tmp 2) (b := w.heap.size) ?_ hp2 Tryd.underlying77 rfl (by kernel_rfl) ?_); (focus rfl)) | ((with_reducible refine at_store 77 (.tmp 4) (.tmp 37) (b := w.heap.size + 1) (c' := #[.slice (some ⟨ba, oa + k, none⟩) (l.length - k) (c - k), .int .i64 0]) ?_ ?_ hq2 ?_ ?_ ?_ ?_); (focus rfl); (focus rfl); (focus rfl); (focus kernel_rfl); (focus (intro u hu; simp at hu; rcases hu with rfl | rfl <;> rfl)); intro w3 hF3 hb3; have HZ := Lib.hid (And.intro (hF02.own hF3 (by omega)) hb3); clear hF3 hb3))
          refine bodyPost_ret (res_rd Tryd.results22 HZ.out.2 rfl rfl) rfl ?_
          exact KEY.out _ (.inl rfl) _ HZ.out.1
        · have m3 : c = k := by omega
          have m4 : l.length = k := by omega
          have hk9 := KEY.out (some ⟨ba, oa, none⟩) (.inr ⟨m4.symm, rfl⟩)
          rw [m3, Nat.sub_self, show l.length - k = 0 by omega] at hk9
          have HK9 := Lib.hid hk9
          subst m3
          clear hk9 m4
          go_enter Tryd.func22, Tryd.ntmps22
          go_upto_region 1 with fail
          rw [← HV.out]
          go_upto_region 9 with (first | ((with_reducible refine HNUM.out.mono ?_); rintro e w1 ⟨rfl, hF1⟩; have hp1 := hF1.heap0 HB.out.2.1; have hq1 := hF1.heap0 HB.out.2.2; have p0 : w1.cell? ⟨w.heap.size, 0, none⟩ = some (.slice (some ⟨ba, oa, none⟩) l.length c) := (by rw [cell_of_blk hp1]; rfl); have p1 : w1.cell? ⟨w.heap.size, 1, none⟩ = some (.int .i64 0) := (by rw [cell_of_blk hp1]; rfl); have pf := frozen_of_blk hp1 0; have HW1 := Lib.hid (And.intro (HB.out.1.trans hF1) (And.intro hp1 hq1)); clear hF1 hp1 hq1))
          obtain ⟨w2, hw2⟩ : ∃ w2, w2 = w1.setCell ⟨w.heap.size, 0, none⟩ (.slice (some ⟨ba, oa, none⟩) 0 0) := ⟨_, rfl⟩
          have hF2 : Fr (fun i => i = w.heap.size) w1 w2 := by rw [hw2]; exact Fr.set w1 w.heap.size 0 _
          have hp2 : w2.heap[w.heap.size]? = some (.cells #[.slice (some ⟨ba, oa, none⟩) 0 0, .int .i64 0] 77 (0, 0)) := by rw [hw2]; exact heap_setCell_same HW1.out.2.1 (o := 0) _
          have hq2 := hF2.heap HW1.out.2.2 (by omega)
          have hF02 := HW1.out.1.own hF2 (by omega)
          rw [← hw2]
          clear hw2 p0 p1 pf hF2
          go_wp2_with (first | ((with_reducible refine at_load 77 (.tmp 2) (b := w.heap.size) ?_ hp2 Tryd.underlying77 rfl (by kernel_rfl) ?_); (focus rfl)) | ((with_reducible refine at_store 77 (.tmp 4) (.tmp 37) (b := w.heap.size + 1) (c' := #[.slice (some ⟨ba, oa, none⟩) 0 0, .int .i64 0]) ?_ ?_ hq2 ?_ ?_ ?_ ?_); (focus rfl); (focus rfl); (focus rfl); (focus kernel_rfl); (focus (intro u hu; simp at hu; rcases hu with rfl | rfl <;> rfl)); intro w3 hF3 hb3; have HZ := Lib.hid (And.intro (hF02.own hF3 (by omega)) hb3); clear hF3 hb3))
          refine bodyPost_ret (res_rd Tryd.results22 HZ.out.2 rfl rfl) rfl ?_
          exact HK9.out _ HZ.out.1
    · have f1 : (f == 0) = false := by simpa using hf
      have f2 : (f != 0) = true := by simpa using hf
      clear hk
      go_enter Tryd.func22, Tryd.ntmps22
      go_upto_region 1 with fail
      rw [← HV.out]
      go_wp2_with (first | ((with_reducible refine HNUM.out.mono ?_); rintro e w1 ⟨rfl, hF1⟩; have hp1 := hF1.heap0 HB.out.2.1; have hq1 := hF1.heap0 HB.out.2.2; have p0 : w1.cell? ⟨w.heap.size, 0, none⟩ = some (.slice A l.length c) := (by rw [cell_of_blk hp1]; rfl); have p1 : w1.cell? ⟨w.heap.size, 1, none⟩ = some (.int .i64 0) := (by rw [cell_of_blk hp1]; rfl); have pf := frozen_of_blk hp1 0; have HW1 := Lib.hid (And.intro (HB.out.1.trans hF1) (And.intro hp1 hq1)); clear hF1 hp1 hq1) | ((with_reducible refine (rfail_any A l.length c 0 f).mono ?_); rintro e w2 ⟨rfl, hF2⟩; rw [if_pos rfl]; have HW2 := Lib.hid (And.intro (HW1.out.1.trans hF2) (hF2.heap0 HW1.out.2.2)); clear hF2) | ((with_reducible refine at_store 77 (.tmp 4) (.tmp 31) (b := w.heap.size + 1) (c' := #[.slice A l.length c, .int .i64 f]) ?_ ?_ HW2.out.2 ?_ ?_ ?_ ?_); (focus rfl); (focus rfl); (focus rfl); (focus kernel_rfl); (focus (intro u hu; simp at hu; rcases hu with rfl | rfl <;> rfl)); intro w3 hFw3 hbw3; have HZ := Lib.hid (And.intro (HW2.out.1.own hFw3 (by omega)) hbw3); clear hFw3 hbw3))
      refine bodyPost_ret (res_rd Tryd.results22 HZ.out.2 rfl rfl) rfl ?_
      obtain ⟨hE, hN, hL, hbe, ht⟩ := HBE.out
      have hz : boundE l most 4 0 = f := by rw [hbe]; rw [if_pos hf]
      refine ⟨_, by rw [hN]; unfold boundN; rw [hz, if_neg (by exact hf)]; rfl, ?_, HZ.out.1⟩
      rw [hE, hL]
      unfold boundL
      rw [hz, if_neg (by exact hf)]
      exact ⟨⟨A, c, rfl, HH.out.fr0 HZ.out.1, h2, h3, h4⟩, hl⟩
  · have hE : uintE l e most = e := by unfold uintE; rw [if_neg he]
    have hN : uintN l e most = 0 := by unfold uintN; rw [if_neg he]
    have hL : uintL l e most = l := by unfold uintL; rw [if_neg he]
    have k1 : (e == 0) = false := by simpa using he
    have k2 : (e != 0) = true := by simpa using he
    have HH := Lib.hid (And.intro h1 (And.intro hE (And.intro hN hL)))
    clear h1 hE hN hL
    go_enter Tryd.func22, Tryd.ntmps22
    go_wp2_with fail
    refine bodyPost_ret (res_rd Tryd.results22 (heap_2nd _ _ _ _) rfl rfl) rfl ?_
    obtain ⟨h1, hE, hN, hL⟩ := HH.out
    refine ⟨_, by rw [hN]; rfl, ?_, ((Fr.refl _ _).alloc _).alloc _⟩
    rw [hE, hL]
    exact ⟨⟨A, c, rfl, (h1.alloc _).alloc _, h2, h3, h4⟩, hl⟩
end Go.Proofs.YtjfeibbghhjjeaaDoor
namespace Go.Proofs.YtjfeibbghhjjeaaDoor
open Go.RowKit
set_option linter.unusedVariables false
set_option linter.unusedSimpArgs false
set_option maxRecDepth 100000

/-! The reference's Seal and Open. -/
set_option maxHeartbeats 4000000 in
theorem rseal_any {w : World} (A : Option Addr) (n c : Nat) (l : List UInt8) (hn : n = l.length) (hA : CellsAt w A (l.map byteV)) (hnil : A = none → n = 0 ∧ c = 0) (hm : l.length ≤ 140737488351232) :
    Calls Tryd.prog 42 #[.slice A n c] w fun e w' => Cloned w (sealB l) e w' := by
  have hsum := rsum_any n A c l w hn (by omega) hA
  obtain ⟨s, hs⟩ : ∃ s, s = sumF l := ⟨_, rfl⟩
  rw [← hs] at hsum
  have HSUM := Lib.hid hs
  have hslt : s < 2147483647 := by rw [hs]; exact moreF_lt 1 l
  have h0 : w.ownsRow w.heap.size 5 1 (.slice none 0 0) 0 [] := World.ownsRow_nil _ _ _ _
  have HS := Lib.hid hsum
  have HN := Lib.hid hn
  have hnb : n ≤ 140737488351232 := by omega
  clear hsum hs hn
  go_enter Tryd.func42, Tryd.ntmps42
  go_wp2_with fail
  (with_reducible refine HS.out.mono ?_)
  rintro e w1 ⟨rfl, rfl⟩
  have hbv : ∀ y : Nat, Value.int .u8 ((y : Int) % 256) = byteV (UInt8.ofNat y) := byteV_mod
  have hlit : ∀ W : World, CellsAt (W.alloc (.cells #[.int .u8 ((s : Int) % 256), .int .u8 ((s : Int) / 256 % 256), .int .u8 ((s : Int) / 65536 % 256), .int .u8 ((s : Int) / 16777216)] 5)) (some ⟨W.heap.size, 0, none⟩) ([UInt8.ofNat s, UInt8.ofNat (s / 256), UInt8.ofNat (s / 65536), UInt8.ofNat (s / 16777216)].map byteV) := fun W => by
    have e1 := hbv s
    have e2 := hbv (s / 256)
    have e3 := hbv (s / 65536)
    have e4 := hbv (s / 16777216)
    rw [show ((s / 256 : Nat) : Int) = (s : Int) / 256 by omega] at e2
    rw [show ((s / 65536 : Nat) : Int) = (s : Int) / 65536 by omega] at e3
    rw [show ((s / 16777216 : Nat) : Int) % 256 = (s : Int) / 16777216 by omega] at e4
    have := CellsAt.whole (w := W.alloc (.cells [byteV (UInt8.ofNat s), byteV (UInt8.ofNat (s / 256)), byteV (UInt8.ofNat (s / 65536)), byteV (UInt8.ofNat (s / 16777216))].toArray 5)) (l := [byteV (UInt8.ofNat s), byteV (UInt8.ofNat (s / 256)), byteV (UInt8.ofNat (s / 65536)), byteV (UInt8.ofNat (s / 16777216))]) (heap_alloc_new W _)
    rw [← e1, ← e2, ← e3, ← e4] at this
    rw [List.map_cons, List.map_cons, List.map_cons, List.map_cons, List.map_nil, ← e1, ← e2, ← e3, ← e4]
    exact this
  have HLIT := Lib.hid hlit
  clear hbv hlit
  go_wp2_with (first
    | ((with_reducible refine at_append (.tmp 7) (.tmp 8) 24 w.heap.size 5 (.int .u8 0) 1 1 (v := .slice none 0 0) (n := 0) (xs := []) (A := A) (m := n) (c := c) (news := l.map byteV) Tryd.underlying24 info_u8 ?_ ?_ ?_ ?_ h0 hA hnil ?_ ?_ ?_ ?_ ?_ ?_); (focus rfl); (focus decide); (focus rfl); (focus rfl); (focus rw [List.length_map, HN.out, Nat.mul_one]); (focus exact bytes_oneCell _); (focus unfold maxLen; omega); (focus omega); (focus exact Nat.le_refl _); intro v2 w2 hown2 hg2; have hF2 := Fr.grown (Fr.refl none_ w) hg2 h0 (Nat.le_refl _); have hal := (Fr.refl none_ w2).alloc (.cells #[.int .u8 ((s : Int) % 256), .int .u8 ((s : Int) / 256 % 256), .int .u8 ((s : Int) / 65536 % 256), .int .u8 ((s : Int) / 16777216)] 5); have hown2a := ownsRow_fr0 hown2 hal; have hFa := hF2.trans hal; have hsz2 := hF2.size; rw [Nat.zero_add, List.nil_append] at hown2a; have HA2 := Lib.hid (HLIT.out w2); clear hown2)
    | ((with_reducible refine at_append (.tmp 9) (.tmp 24) 24 w.heap.size 5 (.int .u8 0) 1 1 (n := n) (A := some ⟨w2.heap.size, 0, none⟩) (m := 4) (c := 4) (news := [UInt8.ofNat s, UInt8.ofNat (s / 256), UInt8.ofNat (s / 65536), UInt8.ofNat (s / 16777216)].map byteV) Tryd.underlying24 info_u8 ?_ ?_ ?_ ?_ hown2a HA2.out ?_ ?_ ?_ ?_ ?_ ?_ ?_); (focus rfl); (focus decide); (focus rfl); (focus rfl); (focus (intro h; cases h)); (focus rfl); (focus exact bytes_oneCell _); (focus unfold maxLen; omega); (focus omega); (focus rw [World.size_alloc]; omega); intro v3 w3 hown3 hg3; have hF3 := Fr.grown hFa hg3 hown2a (Nat.le_refl _)))
  go_ret
  have hlast : lastB s = [UInt8.ofNat s, UInt8.ofNat (s / 256), UInt8.ofNat (s / 65536), UInt8.ofNat (s / 16777216)] := by
    unfold lastB lastI
    simp
  have hsl : (sealB l).length = n + 4 := by unfold sealB; rw [List.length_append, HN.out]; rfl
  refine ⟨⟨v3, rfl, ?_⟩, hF3⟩
  rw [hsl]
  unfold sealB
  rw [← HSUM.out, hlast, List.map_append]
  exact hown3
/-- what Open tells -/
structure ROpened (w : World) (A0 : Option Addr) (l : List UInt8) (e : Ending) (w' : World) : Prop where
  ret : ∃ A n c, e = .returned (.tuple #[.slice A n c, .int .i64 (openE l)]) ∧ (openE l = 0 → A = A0 ∧ n = (bodyB l).length ∧ CellsAt w' A ((bodyB l).map byteV) ∧ n ≤ c ∧ (A = none → n = 0 ∧ c = 0)) ∧ (openE l ≠ 0 → A = none ∧ n = 0 ∧ c = 0)
  fr : Fr none_ w w'
set_option maxHeartbeats 8000000 in
theorem ropen_any {w : World} (A : Option Addr) (n c : Nat) (l : List UInt8) (hn : n = l.length) (hA : CellsAt w A (l.map byteV)) (hnc : n ≤ c) (hm : l.length ≤ 140737488351232) :
    Calls Tryd.prog 21 #[.slice A n c] w fun e w' => ROpened w A l e w' := by
  by_cases h4 : n < 4
  · have hE : openE l = 12 := by unfold openE; rw [if_pos (by omega)]
    have HE := Lib.hid hE
    have q1 : (n : Int) < 4 := by omega
    clear hE hn hm
    go_enter Tryd.func21, Tryd.ntmps21
    go_wp2_with fail
    go_ret2
    exact ⟨⟨none, 0, 0, by rw [HE.out]; rfl, (fun h => by rw [HE.out] at h; cases h), (fun _ => ⟨rfl, rfl, rfl⟩)⟩, Fr.refl _ _⟩
  · obtain ⟨m, hmm⟩ : ∃ m : Nat, n = m + 4 := ⟨n - 4, by omega⟩
    obtain ⟨b, o, rfl⟩ := hA.addr (by rw [List.length_map]; omega)
    have hbl : bodyB l = l.take m := by unfold bodyB; rw [← hn, hmm, Nat.add_sub_cancel]
    have hlt : (l.take m).length = m := by rw [List.length_take]; omega
    have hbody : CellsAt w (some ⟨b, o, none⟩) ((l.take m).map byteV) := by
      have := hA.sub 0 m (by rw [List.length_map]; omega)
      rw [List.drop_zero, ← List.map_take] at this
      exact this
    have hsea := rseal_any (w := w.drew) (some ⟨b, o, none⟩) m c (l.take m) hlt.symm (hbody.fr0 (Fr.refl none_ _).drew) (fun h => by cases h) (by rw [hlt]; omega)
    have hcv : ∀ W, Fr none_ w W → (convert 24 9 (.slice (some ⟨b, o, none⟩) n c)).run Tryd.prog W = .ok (.string ⟨l.toArray⟩) W := fun W hF => conv_bytes (P := Tryd.prog) (src := 24) (dst := 9) (w := W) Tryd.underlying24 Tryd.underlying5 Tryd.underlying9 hn (hA.fr0 hF) (fun h => by cases h)
    have hE : openE l = if sealB (l.take m) = l then 0 else 11 := by
      unfold openE
      rw [if_neg (by omega), hbl, ← hn, hmm, Nat.add_sub_cancel]
      have e1 : sealB (l.take m) = l ↔ lastB (sumF (l.take m)) = l.drop m := by
        unfold sealB
        constructor
        · intro h
          have h2 := List.take_append_drop m l
          rw [← h] at h2
          exact (List.append_cancel_left (h.trans (List.take_append_drop m l).symm))
        · intro h; rw [h, List.take_append_drop]
      by_cases hx : lastB (sumF (l.take m)) = l.drop m
      · rw [if_pos hx, if_pos (e1.2 hx)]
      · rw [if_neg hx, if_neg (fun h => hx (e1.1 h))]
    have q1 : ¬ (n : Int) < 4 := by omega
    have q2 : (n : Int) - 4 = (m : Int) := by omega
    have q3 : (m : Int) ≤ (n : Int) := by omega
    have q5 : (m : Int) ≤ (c : Int) := by omega
    have q6 : (0 : Int) ≤ (m : Int) := by omega
    have hs0 := hcv w.drew (Fr.refl none_ w).drew
    have HCV := Lib.hid hcv
    have HSEA := Lib.hid hsea
    have HE := Lib.hid hE
    have HBL := Lib.hid (And.intro hbl (And.intro hlt hbody))
    have mb : m ≤ 140737488351232 := by omega
    have hmn : m + 4 ≤ c := by omega
    subst hmm
    clear hcv hsea hE hbl hlt hbody hA hm hn
    go_enter Tryd.func21, Tryd.ntmps21
    go_upto_region 4 with fail
    obtain ⟨x, hx⟩ : ∃ x, x = sealB (l.take m) := ⟨_, rfl⟩
    rw [← hx] at HSEA HE
    have HX := Lib.hid hx
    clear hx
    refine wp_region_held_drew (S := fun w' => (convert 24 9 (.slice (some ⟨b, o, none⟩) (m + 4) c)).run Tryd.prog w' = .ok (.string ⟨l.toArray⟩) w') (by kernel_rfl) hs0 (fun hHeld0 => ?_)
    refine wpAnyH_take (i := 0) (oi := _) (v := ?v1) rfl (by kernel_rfl) (by kernel_rfl) (by kernel_rfl) (fun _ _ _ h => h) (Or.inl ⟨by rfl, ?hy1⟩) (by assumption) ?rest1
    case hy1 => (intro w hSw; (try dsimp only at hSw); go_simp; try with_reducible rfl)
    try simp only [List.getElem_toArray, List.getElem_cons_zero, List.getElem_cons_succ, Act.put, List.setIfInBounds_toArray, List.set_cons_zero, List.set_cons_succ]
    refine wpAnyH_take (i := 1) (oi := _) (v := ?v2) rfl (by kernel_rfl) (by kernel_rfl) (by kernel_rfl) (fun _ _ _ h => h) (Or.inl ⟨by rfl, ?hy2⟩) (by assumption) ?rest2
    case hy2 => (intro w hSw; (try dsimp only at hSw); go_simp; try with_reducible rfl)
    try simp only [List.getElem_toArray, List.getElem_cons_zero, List.getElem_cons_succ, Act.put, List.setIfInBounds_toArray, List.set_cons_zero, List.set_cons_succ]
    refine wpAnyH_take (i := 2) (oi := _) (v := ?v3) rfl (by kernel_rfl) (by kernel_rfl) (by kernel_rfl) (fun _ _ _ h => h) (Or.inl ⟨by rfl, ?hy3⟩) (by assumption) ?rest3
    case hy3 => (intro w hSw; (try dsimp only at hSw); go_simp; try with_reducible rfl)
    try simp only [List.getElem_toArray, List.getElem_cons_zero, List.getElem_cons_succ, Act.put, List.setIfInBounds_toArray, List.set_cons_zero, List.set_cons_succ]
    refine wpAnyH_take (i := 5) (oi := _) (v := ?v4) rfl (by kernel_rfl) (by kernel_rfl) (by kernel_rfl) (fun _ _ _ h => h) (Or.inl ⟨by rfl, ?hy4⟩) (by assumption) ?rest4
    case hy4 => (intro w hSw; (try dsimp only at hSw); go_simp; try with_reducible rfl)
    try simp only [List.getElem_toArray, List.getElem_cons_zero, List.getElem_cons_succ, Act.put, List.setIfInBounds_toArray, List.set_cons_zero, List.set_cons_succ]
    refine wpAnyH_take (i := 6) (oi := _) (v := ?v5) rfl (by kernel_rfl) (by kernel_rfl) (by kernel_rfl) (fun _ _ _ h => h) (Or.inl ⟨by rfl, ?hy5⟩) (by assumption) ?rest5
    case hy5 => (intro w hSw; (try dsimp only at hSw); go_simp; try with_reducible rfl)
    try simp only [List.getElem_toArray, List.getElem_cons_zero, List.getElem_cons_succ, Act.put, List.setIfInBounds_toArray, List.set_cons_zero, List.set_cons_succ]
    refine wpAnyH_ready (rs := [3]) (by kernel_rfl) (by simp) ?_
    refine AllReadyH.cons (o := _) rfl (fun KK hKK => ?_) AllReadyH.nil
    go_simp
    (go_at_call 42; (with_reducible refine HSEA.out.mono ?_); rintro e w1 ⟨⟨v1, rfl, hown1⟩, hF1⟩; obtain ⟨A1, c1, rfl, hA1, _, hnil1, _⟩ := ownsRow_read hown1; have HS1 := Lib.hid (HCV.out w1 ((Fr.refl none_ w).drew.trans hF1)); have hc1 := conv_bytes (P := Tryd.prog) (src := 24) (dst := 9) (w := w1) Tryd.underlying24 Tryd.underlying5 Tryd.underlying9 rfl hA1 hnil1; clear hown1 hnil1 hA1)
    go_wp2_with fail
    refine hKK.out _ _ ?hS6 (fun hHeld6 => ?rest6)
    case hS6 => exact HS1.out
    clear hKK KK
    try simp only [List.getElem_toArray, List.getElem_cons_zero, List.getElem_cons_succ, Act.put, List.setIfInBounds_toArray, List.set_cons_zero, List.set_cons_succ]
    refine wpAnyH_ready (rs := [4]) (by kernel_rfl) (by simp) ?_
    refine AllReadyH.cons (o := _) rfl (fun KK hKK => ?_) AllReadyH.nil
    go_simp
    refine hKK.out _ _ ?hS7 (fun hHeld7 => ?rest7)
    case hS7 => exact HS1.out
    clear hKK KK
    try simp only [List.getElem_toArray, List.getElem_cons_zero, List.getElem_cons_succ, Act.put, List.setIfInBounds_toArray, List.set_cons_zero, List.set_cons_succ]
    refine wpAnyH_take (i := 7) (oi := _) (v := ?v8) rfl (by kernel_rfl) (by kernel_rfl) (by kernel_rfl) (fun _ _ _ h => h) (Or.inl ⟨by rfl, ?hy8⟩) (by assumption) ?rest8
    case hy8 => (intro w hSw; (try dsimp only at hSw); go_simp; try with_reducible rfl)
    try simp only [List.getElem_toArray, List.getElem_cons_zero, List.getElem_cons_succ, Act.put, List.setIfInBounds_toArray, List.set_cons_zero, List.set_cons_succ]
    refine wpAnyH_done (by kernel_rfl) ?_ _
    have hfin := (Fr.refl none_ w).drew.trans hF1
    by_cases hxl : x = l
    · have hb1 : (x == l) = true := by rw [hxl]; exact beq_self_eq_true l
      rw [hb1, Bool.not_true]
      clear hb1
      have HE0 := Lib.hid (show openE l = 0 by rw [HE.out, if_pos hxl])
      have HFIN := Lib.hid hfin
      clear hxl hfin hF1
      go_wp2_with fail
      go_ret2
      refine ⟨⟨_, _, _, by rw [HE0.out]; rfl, fun _ => ⟨rfl, by rw [HBL.out.1]; exact HBL.out.2.1.symm, by rw [HBL.out.1]; exact HBL.out.2.2.fr0 HFIN.out, by omega, fun h => by cases h⟩, fun h => absurd HE0.out h⟩, HFIN.out⟩
    · have hb1 : (x == l) = false := by rw [beq_eq_false_iff_ne]; exact hxl
      rw [hb1, Bool.not_false]
      clear hb1
      have HE0 := Lib.hid (show openE l = 11 by rw [HE.out, if_neg hxl])
      have HFIN := Lib.hid hfin
      clear hxl hfin hF1
      go_wp2_with fail
      go_ret2
      exact ⟨⟨none, 0, 0, by rw [HE0.out]; rfl, (fun h => by rw [HE0.out] at h; cases h), (fun _ => ⟨rfl, rfl, rfl⟩)⟩, HFIN.out⟩
end Go.Proofs.YtjfeibbghhjjeaaDoor

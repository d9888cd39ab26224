import Derived.Test.YtffolfemcllfkaaGreatDoorCanon
import Derived.Test.YtffolfemcllfkaaGreatDoorHornerR
import Derived.Deep.DeepCutAuto
import Derived.Deep.QuietTactic
import Derived.Deep.CutBlock
import Derived.OwnWalk
import Derived.Test.YtffolfemcllfkaaGreatDoorReaderM
namespace Go.Proofs.YtffolfemcllfkaaGreatDoor
open Go.RowKit
set_option linter.unusedVariables false
set_option linter.unusedSimpArgs false
set_option maxRecDepth 100000

/-! The reference's numbers: power, More, ones, number. -/
theorem rpower_any (n : Nat) (hn : n ≤ 63) (w : World) : Calls Tryz.prog 186 #[.int .i64 (n : Int)] w fun e w' => e = .returned (.int .u64 ((2 ^ n : Nat) : Int)) ∧ w = w' := by
  go_enter Tryz.func186, Tryz.ntmps186
  go_wp2_with fail
  go_loop [3, 4] (fun p i => ∃ k : Nat, k ≤ n ∧ p = .int .u64 ((2 ^ k : Nat) : Int) ∧ i = .int .i64 (k : Int)) (fun _ i => n - (intOf i).toNat)
  case atStart => exact ⟨0, by omega, rfl, rfl⟩
  case round =>
    obtain ⟨k, hk, rfl, rfl⟩ := hrel
    by_cases hlt : k < n
    · have hp : 2 ^ k ≤ 2 ^ 62 := Nat.pow_le_pow_right (by decide) (by omega)
      obtain ⟨x, hx⟩ : ∃ x, x = 2 ^ k := ⟨_, rfl⟩
      have hs : 2 ^ (k + 1) = 2 * x := by rw [hx, Nat.pow_succ]; omega
      rw [← hx] at hp ⊢
      have HS := Lib.hid hs
      have hxb : x ≤ 4611686018427387904 := hp
      clear hp hx hs
      have k1 : (k : Int) < (n : Int) := by omega
      go_wp2_with fail
      go_round
      case rel => exact ⟨k + 1, by omega, by rw [HS.out]; congr 1; (try rw [IntWalk.u64_in _ (by omega)]); (try omega), by go_num⟩
      case measure => simp [intOf]; omega
    · have hkn : k = n := by omega
      subst hkn
      have k1 : ¬ (k : Int) < (k : Int) := by omega
      go_wp2_with fail
      go_ret
      exact ⟨rfl, rfl⟩
theorem behind_least (n k : Nat) (hk : k < 8) (h1 : ∀ j, j < k → ¬ n < 2 ^ (7 * j + 7)) (h2 : n < 2 ^ (7 * k + 7)) : behindF n = k := by
  have g0 := h1 0
  have g1 := h1 1
  have g2 := h1 2
  have g3 := h1 3
  have g4 := h1 4
  have g5 := h1 5
  have g6 := h1 6
  have : k = 0 ∨ k = 1 ∨ k = 2 ∨ k = 3 ∨ k = 4 ∨ k = 5 ∨ k = 6 ∨ k = 7 := by omega
  unfold behindF
  rcases this with rfl | rfl | rfl | rfl | rfl | rfl | rfl | rfl <;> simp only [Nat.reduceMul, Nat.reduceAdd, Nat.reducePow] at * <;> ((repeat' split) <;> omega)
theorem behind_eight (n : Nat) (h1 : ∀ j, j < 8 → ¬ n < 2 ^ (7 * j + 7)) : behindF n = 8 := by
  have g0 := h1 0 (by decide)
  have g1 := h1 1 (by decide)
  have g2 := h1 2 (by decide)
  have g3 := h1 3 (by decide)
  have g4 := h1 4 (by decide)
  have g5 := h1 5 (by decide)
  have g6 := h1 6 (by decide)
  have g7 := h1 7 (by decide)
  unfold behindF
  simp only [Nat.reduceMul, Nat.reduceAdd, Nat.reducePow] at *
  (repeat' split) <;> omega
theorem rmore_len (n : Nat) (w : World) : Calls Tryz.prog 160 #[.int .u64 (n : Int)] w fun e w' => e = .returned (.int .i64 (behindF n : Nat)) ∧ w = w' := by
  go_enter Tryz.func160, Tryz.ntmps160
  go_wp2_with fail
  go_loop [3] (fun i => ∃ k : Nat, k ≤ 8 ∧ i = .int .i64 (k : Int) ∧ ∀ j, j < k → ¬ n < 2 ^ (7 * j + 7)) (fun i => 8 - (intOf i).toNat)
  case atStart => exact ⟨0, by omega, rfl, fun j hj => absurd hj (by omega)⟩
  case round =>
    obtain ⟨k, hk, rfl, hno⟩ := hrel
    have HNO := Lib.hid hno
    clear hno
    by_cases hlt : k < 8
    · have k1 : (k : Int) < 8 := by omega
      have hpw := rpower_any (7 * k + 7) (by omega) w
      rw [show ((7 * k + 7 : Nat) : Int) = 7 * (k : Int) + 7 by omega] at hpw
      obtain ⟨x, hx⟩ : ∃ x, x = 2 ^ (7 * k + 7) := ⟨_, rfl⟩
      rw [← hx] at hpw
      have HPW := Lib.hid hpw
      have HX := Lib.hid hx
      clear hpw hx
      by_cases hb : n < x
      · have b1 : (n : Int) < (x : Int) := by omega
        go_wp2_with fail
        (with_reducible refine HPW.out.mono ?_)
        rintro e w1 ⟨rfl, rfl⟩
        go_wp2_with fail
        go_ret
        exact ⟨by rw [behind_least n k hlt HNO.out (HX.out ▸ hb)]; rfl, rfl⟩
      · have b1 : ¬ (n : Int) < (x : Int) := by omega
        go_wp2_with fail
        (with_reducible refine HPW.out.mono ?_)
        rintro e w1 ⟨rfl, rfl⟩
        go_wp2_with fail
        go_round
        case rel =>
          refine ⟨k + 1, by omega, by go_num, fun j hj => ?_⟩
          by_cases hjk : j < k
          · exact HNO.out j hjk
          · have : j = k := by omega
            subst this
            rw [← HX.out]; exact hb
        case measure => simp [intOf]; omega
    · have hk8 : k = 8 := by omega
      subst hk8
      go_wp2_with fail
      go_ret
      exact ⟨by rw [behind_eight n HNO.out]; rfl, rfl⟩

theorem rones_val (k : Nat) (hk : k ≤ 8) (w : World) : Calls Tryz.prog 162 #[.int .i64 (k : Int)] w fun e w' => e = .returned (.int .u8 (((256 - 2 ^ (8 - k)) % 256 : Nat) : Int)) ∧ w = w' := by
  have hpw := rpower_any (8 - k) (by omega) w
  rw [show ((8 - k : Nat) : Int) = 8 - (k : Int) by omega] at hpw
  obtain ⟨x, hx⟩ : ∃ x, x = 2 ^ (8 - k) := ⟨_, rfl⟩
  have hxb : x ≤ 256 := by rw [hx]; exact Nat.pow_le_pow_right (n := 2) (by decide) (by omega : 8 - k ≤ 8)
  rw [← hx] at hpw ⊢
  have HPW := Lib.hid hpw
  clear hpw hx
  go_enter Tryz.func162, Tryz.ntmps162
  go_wp2_with fail
  (with_reducible refine HPW.out.mono ?_)
  rintro e w1 ⟨rfl, rfl⟩
  go_wp2_with fail
  go_ret
  refine ⟨?_, rfl⟩
  show Ending.returned (Value.int .u8 ((256 - (x : Int)) % 256)) = _
  rw [show (256 - (x : Int)) % 256 = (((256 - x) % 256 : Nat) : Int) by omega]
theorem lead_iff (x : UInt8) (j : Nat) (hj : j ≤ 8) : (256 - 2 ^ (8 - j)) % 256 ≤ x.toNat ↔ j ≤ leadF x := by
  have h : ∀ i : Fin 256, ∀ j : Fin 9, ((256 - 2 ^ (8 - j.val)) % 256 ≤ (UInt8.ofNat i.val).toNat ↔ j.val ≤ leadF (UInt8.ofNat i.val)) := by decide +kernel
  obtain ⟨i, rfl⟩ := u8_fin x
  exact h i ⟨j, by omega⟩
theorem first_sub (x : UInt8) : (((x.toNat : Int) - (((256 - 2 ^ (8 - leadF x)) % 256 : Nat) : Int)) % 256) = (firstB x : Int) := by
  have h : ∀ i : Fin 256, ((((UInt8.ofNat i.val).toNat : Int) - (((256 - 2 ^ (8 - leadF (UInt8.ofNat i.val))) % 256 : Nat) : Int)) % 256) = (firstB (UInt8.ofNat i.val) : Int) := by decide +kernel
  obtain ⟨i, rfl⟩ := u8_fin x
  exact h i
theorem first_most (x : UInt8) : (firstB x + 1) * 256 ^ (leadF x) ≤ 256 ^ 8 := by
  obtain ⟨i, hi⟩ := u8_fin x
  have hle := leadF_le x
  rcases Nat.lt_or_ge (leadF x) 8 with hk | hk
  · have := firstB_small i
    rw [← hi] at this
    have h3 := this hk
    have h4 : (firstB x + 1) * 256 ^ (leadF x) ≤ 2 ^ (7 - leadF x) * 256 ^ (leadF x) := Nat.mul_le_mul_right _ h3
    refine Nat.le_trans h4 ?_
    generalize leadF x = K at *
    have : K = 0 ∨ K = 1 ∨ K = 2 ∨ K = 3 ∨ K = 4 ∨ K = 5 ∨ K = 6 ∨ K = 7 := by omega
    rcases this with rfl | rfl | rfl | rfl | rfl | rfl | rfl | rfl <;> decide
  · have hk8 : leadF x = 8 := by omega
    have := firstB_8 i
    rw [← hi] at this
    rw [this hk8, hk8]
    decide
theorem behind_small (n K : Nat) (hK : K < 8) (h : n + 1 ≤ 2 ^ (7 - K) * 256 ^ K) : behindF n ≤ K := by
  have : K = 0 ∨ K = 1 ∨ K = 2 ∨ K = 3 ∨ K = 4 ∨ K = 5 ∨ K = 6 ∨ K = 7 := by omega
  unfold behindF
  rcases this with rfl | rfl | rfl | rfl | rfl | rfl | rfl | rfl
  · replace h : n + 1 ≤ 128 := h
    (repeat' split) <;> omega
  · replace h : n + 1 ≤ 16384 := h
    (repeat' split) <;> omega
  · replace h : n + 1 ≤ 2097152 := h
    (repeat' split) <;> omega
  · replace h : n + 1 ≤ 268435456 := h
    (repeat' split) <;> omega
  · replace h : n + 1 ≤ 34359738368 := h
    (repeat' split) <;> omega
  · replace h : n + 1 ≤ 4398046511104 := h
    (repeat' split) <;> omega
  · replace h : n + 1 ≤ 562949953421312 := h
    (repeat' split) <;> omega
  · replace h : n + 1 ≤ 72057594037927936 := h
    (repeat' split) <;> omega
/-- no number of k more bytes wants more than k -/
theorem behind_fold (x : UInt8) (L : List UInt8) (hL : L.length = leadF x) : behindF (foldN (firstB x) L) ≤ leadF x := by
  obtain ⟨i, hi⟩ := u8_fin x
  have hle := leadF_le x
  have hm := first_most x
  have hf := foldN_le (firstB x) L (by rw [hL]; exact hm)
  rw [hL] at hf
  rcases Nat.lt_or_ge (leadF x) 8 with hk | hk
  · have := firstB_small i
    rw [← hi] at this
    have h3 := this hk
    have h4 : (firstB x + 1) * 256 ^ (leadF x) ≤ 2 ^ (7 - leadF x) * 256 ^ (leadF x) := Nat.mul_le_mul_right _ h3
    exact behind_small _ _ hk (Nat.le_trans hf h4)
  · have := behindF_le (foldN (firstB x) L)
    omega
theorem Fr.drewN (w : World) (n : Nat) : Fr none_ w (w.drewN n) := ⟨rfl, rfl, rfl, Nat.le_refl _, fun _ _ _ => rfl⟩
theorem fold_add (n : Nat) (c : UInt8) : n * 256 % 18446744073709551616 ||| c.toNat = (256 * n + c.toNat) % 18446744073709551616 := by
  have hc := c.toNat_lt
  have h : n * 256 % 18446744073709551616 = (n % 72057594037927936) * 256 := by omega
  rw [h, or_low _ _ (by omega)]
  omega
set_option maxHeartbeats 4000000 in
theorem rnumber_any {w : World} (A : Option Addr) (n c : Nat) (l : List UInt8) (hn : n = l.length) (hA : CellsAt w A (l.map byteV)) (hm : l.length ≤ 140737488351232) :
    Calls Tryz.prog 130 #[.slice A n c] w fun e w' => e = .returned (.tuple #[.int .u64 ((numberF l).1 : Int), .int .i64 ((numberF l).2.1 : Int), .int .i64 (numberF l).2.2]) ∧ Fr none_ w w' := by
  cases l with
  | nil =>
    have h0 : (n : Int) = 0 := by rw [hn]; rfl
    clear hn hA hm
    go_enter Tryz.func130, Tryz.ntmps130
    go_wp2_with fail
    go_ret3
    exact ⟨rfl, Fr.refl _ _⟩
  | cons x r =>
    obtain ⟨b, o, rfl⟩ := hA.addr (by simp)
    have hc0 : ∀ wx, Fr none_ w wx → wx.cell? ⟨b, o, none⟩ = some (.int .u8 (x.toNat : Int)) := fun wx hF => hF.cell0 (by simpa [byteV] using hA.get 0 (by simp))
    have hcj : ∀ wx, Fr none_ w wx → ∀ j (hj : j < r.length), wx.cell? ⟨b, o + (j + 1), none⟩ = some (.int .u8 (r[j].toNat : Int)) := fun wx hF j hj => hF.cell0 (by have := hA.get (j + 1) (by simpa using hj); simpa [byteV] using this)
    have hn1 : n = r.length + 1 := hn
    have n1 : ¬ (n : Int) = 0 := by omega
    have n3 : ((n : Int) == 0) = false := by rw [beq_eq_false_iff_ne]; exact n1
    have n2 : (0 : Int) < (n : Int) := by omega
    have hnb : n ≤ 140737488351232 := by rw [hn]; exact hm
    have hxb : x.toNat < 256 := x.toNat_lt
    have HC0 := Lib.hid hc0
    have HCJ := Lib.hid hcj
    have HN := Lib.hid hn1
    clear hc0 hcj hA hm hn hn1
    have hone : ∀ k : Nat, k ≤ 8 → ∀ wx : World, Calls Tryz.prog 162 #[.int .i64 (k : Int)] wx fun e w' => e = .returned (.int .u8 (((256 - 2 ^ (8 - k)) % 256 : Nat) : Int)) ∧ w' = wx := fun k hk wx => (rones_val k hk wx).mono (fun e w' ⟨h1, h2⟩ => ⟨h1, h2.symm⟩)
    have HONE := Lib.hid hone
    have hL8 := leadF_le x
    obtain ⟨K, hK⟩ : ∃ K, K = leadF x := ⟨_, rfl⟩
    have hlead : ∀ j, j ≤ 8 → ((256 - 2 ^ (8 - j)) % 256 ≤ x.toNat ↔ j ≤ K) := fun j hj => by rw [hK]; exact lead_iff x j hj
    have HLEAD := Lib.hid hlead
    have HK := Lib.hid hK
    rw [← hK] at hL8
    clear hone hlead hK
    go_enter Tryz.func130, Tryz.ntmps130
    go_upto_block 0 with fail
    go_cut [5] (fun v5 wx => v5 = .int .i64 (K : Int) ∧ Fr none_ w wx)
    case first =>
      go_wp2_with fail
      go_loopw [5] (fun i wr => ∃ k : Nat, k ≤ K ∧ i = .int .i64 (k : Int) ∧ Fr none_ w wr) (fun i _ => K - (intOf i).toNat)
      case atStart => exact ⟨0, by omega, rfl, Fr.refl _ _⟩
      case round =>
        obtain ⟨k, hk, rfl, hF⟩ := hrel
        have hc := HC0.out wr hF
        have hcd : ∀ nq, (wr.drewN nq).cell? ⟨b, o, none⟩ = some (.int .u8 (x.toNat : Int)) := fun _ => hc
        by_cases hlt : k < 8
        · have k1 : (k : Int) < 8 := by omega
          have hon := HONE.out (k + 1) (by omega)
          rw [show ((k + 1 : Nat) : Int) = (k : Int) + 1 by omega] at hon
          have hl := HLEAD.out (k + 1) (by omega)
          obtain ⟨y, hy⟩ : ∃ y, y = (256 - 2 ^ (8 - (k + 1))) % 256 := ⟨_, rfl⟩
          rw [← hy] at hon hl
          have hyb : y < 256 := by omega
          have HON := Lib.hid hon
          clear hon hy
          by_cases hgo : k + 1 ≤ K
          · have hyx : y ≤ x.toNat := hl.2 hgo
            have d1 : (y : Int) ≤ (x.toNat : Int) := by omega
            clear hl
            go_upto_region 4 with fail
            go_quiet ((go_at_call 162; exact Calls.quiet_of_same (HON.out _)))
            go_wp2_with fail
            go_roundw
            case rel => exact ⟨k + 1, by omega, by go_num, hF.trans (Fr.drewN _ _)⟩
            case measure => simp [intOf]; omega
          · have hyx : ¬ y ≤ x.toNat := fun h => hgo (hl.1 h)
            have d1 : ¬ (y : Int) ≤ (x.toNat : Int) := by omega
            clear hl
            go_upto_region 4 with fail
            go_quiet ((go_at_call 162; exact Calls.quiet_of_same (HON.out _)))
            go_wp2_with fail
            go_meet
            exact ⟨by rw [show k = K by omega], hF.trans (Fr.drewN _ _)⟩
        · have hk8 : k = 8 := by omega
          subst hk8
          go_upto_region 4 with fail
          go_quiet (fail)
          go_wp2_with fail
          go_meet
          exact ⟨by rw [show K = 8 by omega], hF.trans (Fr.drewN _ _)⟩
    case rest =>
      obtain ⟨rfl, hF⟩ := hcut
      have hc := HC0.out wc hF
      have hcd : ∀ nq, (wc.drewN nq).cell? ⟨b, o, none⟩ = some (.int .u8 (x.toNat : Int)) := fun _ => hc
      by_cases hsh : r.length < K
      · have hE : numberF (x :: r) = (0, 0, 12) := by rw [numberF_cons, if_pos (by rw [← HK.out]; exact hsh)]
        have k1 : (n : Int) < (K : Int) + 1 := by have := HN.out; omega
        have HE := Lib.hid hE
        clear hE
        go_wp2_with fail
        go_ret3
        exact ⟨by rw [HE.out]; rfl, hF⟩
      · have k1 : ¬ (n : Int) < (K : Int) + 1 := by have := HN.out; omega
        have hon := HONE.out K hL8
        have hfs := first_sub x
        rw [← HK.out] at hfs
        obtain ⟨y, hy⟩ : ∃ y, y = (256 - 2 ^ (8 - K)) % 256 := ⟨_, rfl⟩
        rw [← hy] at hon hfs
        have HON := Lib.hid hon
        obtain ⟨z, hz⟩ : ∃ z, z = firstB x := ⟨_, rfl⟩
        rw [← hz] at hfs
        have hzb : z < 256 := by omega
        have HZ := Lib.hid hz
        clear hon hy hz
        go_upto_region 8 with fail
        go_quiet ((go_at_call 162; exact Calls.quiet_of_same (HON.out _)))
        rw [hfs]
        clear hfs
        go_upto_block 2 with fail
        go_cut [6, 7] (fun v6 v7 wx => v6 = .int .u64 ((foldN z (r.take K) : Nat) : Int) ∧ Fr none_ w wx)
        case first =>
          go_wp2_with fail
          go_loopw [6, 7] (fun a i wr => ∃ k : Nat, k ≤ K ∧ i = .int .i64 ((k + 1 : Nat) : Int) ∧ a = .int .u64 ((foldN z (r.take k) : Nat) : Int) ∧ Fr none_ w wr) (fun _ i _ => K + 1 - (intOf i).toNat)
          case atStart => exact ⟨0, by omega, rfl, rfl, hF.trans (Fr.drewN _ _)⟩
          case round =>
            obtain ⟨k, hk, rfl, rfl, hF1⟩ := hrel
            have hm1 := foldN_lt z (by omega) (r.take k)
            obtain ⟨m, hm⟩ : ∃ m, m = foldN z (r.take k) := ⟨_, rfl⟩
            rw [← hm] at hm1 ⊢
            rw [show ((k + 1 : Nat) : Int) = (k : Int) + 1 by omega]
            by_cases hlt : k < K
            · have hkr : k < r.length := by omega
              have hcc := HCJ.out wr hF1 k hkr
              have hst := foldN_step z r k hkr
              have ha := fold_add m r[k]
              rw [← hm] at hst
              rw [ha] at hst
              obtain ⟨cc, hcv⟩ : ∃ cc, cc = r[k].toNat := ⟨_, rfl⟩
              have hcb : cc < 256 := by rw [hcv]; exact r[k].toNat_lt
              rw [← hcv] at hst hcc
              have HST := Lib.hid hst
              have e1 : (k : Int) + 1 ≤ (K : Int) := by omega
              have e2 : (k : Int) + 1 < (n : Int) := by have := HN.out; omega
              clear hst ha hcv hm
              go_wp2_with fail
              go_roundw
              case rel => exact ⟨k + 1, by omega, by go_num, by rw [HST.out]; congr 1; simp only [IntKind.wrap_u64]; omega, hF1⟩
              case measure => simp [intOf]; omega
            · have e1 : ¬ (k : Int) + 1 ≤ (K : Int) := by omega
              have HM := Lib.hid hm
              clear hm
              go_wp2_with fail
              go_meet
              exact ⟨by rw [HM.out, show k = K by omega], hF1⟩
        case rest =>
          obtain ⟨rfl, hF2⟩ := hcut
          have hrl : (r.take K).length = leadF x := by rw [List.length_take, ← HK.out]; omega
          have hbf := behind_fold x (r.take K) hrl
          rw [← HZ.out, ← HK.out] at hbf
          have hnum : numberF (x :: r) = if behindF (foldN z (r.take K)) = K then (foldN z (r.take K), K + 1, 0) else (0, 0, 3) := by
            rw [numberF_cons, ← HZ.out, ← HK.out, if_neg hsh]
          have hmr := rmore_len (foldN z (r.take K)) wc
          obtain ⟨m, hm⟩ : ∃ m, m = foldN z (r.take K) := ⟨_, rfl⟩
          rw [← hm] at hbf hmr hnum ⊢
          obtain ⟨q, hq⟩ : ∃ q, q = behindF m := ⟨_, rfl⟩
          rw [← hq] at hbf hmr hnum
          have HMR := Lib.hid hmr
          have HNUM := Lib.hid hnum
          clear hnum hmr hrl hm hq
          by_cases hlt : q < K
          · have hne : ¬ q = K := by omega
            have HNE := Lib.hid hne
            have e1 : (q : Int) < (K : Int) := by omega
            clear hne
            go_wp2_with fail
            (with_reducible refine HMR.out.mono ?_)
            rintro e w1 ⟨rfl, rfl⟩
            go_wp2_with fail
            go_ret3
            exact ⟨by rw [HNUM.out, if_neg HNE.out]; rfl, hF2⟩
          · have heq : q = K := by omega
            have HEQ := Lib.hid heq
            have e1 : ¬ (q : Int) < (K : Int) := by omega
            clear heq
            go_wp2_with fail
            (with_reducible refine HMR.out.mono ?_)
            rintro e w1 ⟨rfl, rfl⟩
            go_wp2_with fail
            go_ret3
            exact ⟨by rw [HNUM.out, if_pos HEQ.out]; rfl, hF2⟩
end Go.Proofs.YtffolfemcllfkaaGreatDoor
namespace Go.Proofs.YtffolfemcllfkaaGreatDoor
open Go.RowKit
set_option linter.unusedVariables false
set_option linter.unusedSimpArgs false
set_option maxRecDepth 100000

/-! The reference's reader: fail, ReadUint. -/
/-- B: where its bytes lie, below -/
structure RRd (w : World) (B : Nat) (v : Value) (l : List UInt8) (e : Int) : Prop where
  rep : ∃ A c, v = .agg #[.slice A l.length c, .int .i64 e] ∧ CellsAt w A (l.map byteV) ∧ l.length ≤ c ∧ (A = none → l.length = 0 ∧ c = 0) ∧ (∀ bb, blkOf A bb → bb < B)
  most : l.length ≤ 140737488351232
theorem RRd.fr {S : Nat → Prop} {w w' : World} {B : Nat} {v : Value} {l : List UInt8} {e : Int} (h : RRd w B v l e) (hF : Fr S w w') (hn : ∀ i, i < B → ¬ S i) : RRd w' B v l e := by
  obtain ⟨⟨A, c, hv, h1, h2, h3, h4⟩, hm⟩ := h
  exact ⟨⟨A, c, hv, h1.frp hF (fun b hb _ => hn b (h4 b hb)), h2, h3, h4⟩, hm⟩
theorem RRd.fr0 {w w' : World} {B : Nat} {v : Value} {l : List UInt8} {e : Int} (h : RRd w B v l e) (hF : Fr none_ w w') : RRd w' B v l e := h.fr hF (fun _ _ h => h)
theorem heap_2nd (w : World) (o1 : Obj) (c : Array Value) (T : TypeId) : ((w.alloc o1).alloc (.cells c T)).heap[w.heap.size + 1]? = some (.cells c T (0, 0)) := by
  have h2 := heap_alloc_new (w.alloc o1) (.cells c T)
  rw [World.size_alloc] at h2; exact h2
theorem two_blocks (w : World) (o1 o2 : Array Value) (T1 T2 : TypeId) : ∃ V, V = (w.alloc (.cells o1 T1)).alloc (.cells o2 T2) ∧ Fr none_ w V ∧ V.heap[w.heap.size]? = some (.cells o1 T1 (0, 0)) ∧ V.heap[w.heap.size + 1]? = some (.cells o2 T2 (0, 0)) :=
  ⟨_, rfl, ((Fr.refl _ _).alloc _).alloc _, ((Fr.refl none_ (w.alloc (.cells o1 T1))).alloc (.cells o2 T2)).heap0 (heap_alloc_new _ _), heap_2nd _ _ _ _⟩
theorem res_rd {f : Func} {W : World} {b : Nat} {v0 v1 r : Value} {T : TypeId} {F : Nat × Nat} {tmps : Array Value} (hr : f.results = #[.cell 4 151, .tmp 5]) (h : W.heap[b]? = some (.cells #[v0, v1] T F)) (t4 : tmps[4]?.getD undef = ptr b) (t5 : tmps[5]?.getD undef = r) :
    (results f tmps).run Tryz.prog W = .ok (.tuple #[.agg #[v0, v1], r]) W := by
  have c0 : W.cell? ⟨b, 0, none⟩ = some v0 := by rw [cell_of_blk h]; rfl
  have c1 : W.cell? ⟨b, 1, none⟩ = some v1 := by rw [cell_of_blk h]; rfl
  simp [results, hr, go_sem, t4, t5, c0, c1]
theorem res_rd1 {f : Func} {W : World} {b : Nat} {v0 v1 : Value} {T : TypeId} {F : Nat × Nat} {tmps : Array Value} (hr : f.results = #[.cell 4 151]) (h : W.heap[b]? = some (.cells #[v0, v1] T F)) (t4 : tmps[4]?.getD undef = ptr b) :
    (results f tmps).run Tryz.prog W = .ok (.agg #[v0, v1]) W := by
  have c0 : W.cell? ⟨b, 0, none⟩ = some v0 := by rw [cell_of_blk h]; rfl
  have c1 : W.cell? ⟨b, 1, none⟩ = some v1 := by rw [cell_of_blk h]; rfl
  simp [results, hr, go_sem, t4, c0, c1]
set_option maxHeartbeats 2000000 in
theorem rfail_any {w : World} (A : Option Addr) (n c : Nat) (e x : Int) : Calls Tryz.prog 131 #[.agg #[.slice A n c, .int .i64 e], .int .i64 x] w fun en w' => en = .returned (.agg #[.slice A n c, .int .i64 (if e = 0 then x else e)]) ∧ Fr none_ w w' := by
  by_cases he : e = 0
  · rw [if_pos he]
    subst he
    go_enter Tryz.func131, Tryz.ntmps131
    go_wp2_with fail
    refine bodyPost_ret (res_rd1 Tryz.results131 (heap_2nd _ _ _ _) rfl) rfl ?_
    exact ⟨rfl, ((Fr.refl _ _).alloc _).alloc _⟩
  · rw [if_neg he]
    have h1 : (e == 0) = false := by simpa using he
    go_enter Tryz.func131, Tryz.ntmps131
    go_wp2_with fail
    refine bodyPost_ret (res_rd1 Tryz.results131 (heap_2nd _ _ _ _) rfl) rfl ?_
    exact ⟨rfl, ((Fr.refl _ _).alloc _).alloc _⟩
/-- what ReadUint leaves -/
def RUI (w : World) (B : Nat) (l : List UInt8) (e : Int) (most : Nat) (en : Ending) (w' : World) : Prop := ∃ v', en = .returned (.tuple #[v', .int .u64 (uintN l e most : Nat)]) ∧ RRd w' B v' (uintL l e most) (uintE l e most) ∧ Fr none_ w w'
set_option maxHeartbeats 4000000 in
theorem rreaduint_any {w : World} {B : Nat} {v : Value} {l : List UInt8} {e : Int} (h : RRd w B v l e) (most : Nat) (hm : most < 18446744073709551616) : Calls Tryz.prog 75 #[v, .int .u64 (most : Int)] w fun en w' => RUI w B l e most en w' := by
  obtain ⟨⟨A, c, rfl, h1, h2, h3, h4⟩, hl⟩ := h
  by_cases he : e = 0
  · subst he
    have hE : uintE l 0 most = boundE l most 4 0 := rfl
    have hN : uintN l 0 most = boundN l most 4 0 := rfl
    have hL : uintL l 0 most = boundL l most 4 0 := rfl
    obtain ⟨V, hV, hFV, hbp, hbq⟩ := two_blocks w #[.slice A l.length c, .int .i64 0] #[.slice none 0 0, .int .i64 0] 151 151
    have hnum := rnumber_any (w := V) A l.length c l rfl (h1.fr0 hFV) hl
    have hk := fun (n k : Nat) (h : numberF l = (n, k, 0)) => numberF_k h
    obtain ⟨t, ht⟩ : ∃ t, t = numberF l := ⟨_, rfl⟩
    obtain ⟨n, k, f⟩ := t
    have hnb := numberF_n l
    rw [← ht] at hnum hk hnb
    replace hnb : n < 18446744073709551616 := hnb
    have hbe : boundE l most 4 0 = if f ≠ 0 then f else if most < n then 4 else 0 := by
      unfold boundE; rw [← ht]; simp
    have HNUM := Lib.hid hnum
    have HBE := Lib.hid (And.intro hE (And.intro hN (And.intro hL (And.intro hbe ht))))
    have HH := Lib.hid h1
    have v0 : V.cell? ⟨w.heap.size, 0, none⟩ = some (.slice A l.length c) := by rw [cell_of_blk hbp]; rfl
    have v1 : V.cell? ⟨w.heap.size, 1, none⟩ = some (.int .i64 0) := by rw [cell_of_blk hbp]; rfl
    have HV := Lib.hid hV
    have HB := Lib.hid (And.intro hFV (And.intro hbp hbq))
    clear hV hFV hbp hbq hnum hE hN hL hbe ht h1
    by_cases hf : f = 0
    · subst hf
      have hkl := hk n k rfl
      clear hk
      by_cases hmn : most < n
      · have m1 : (most : Int) < (n : Int) := by omega
        go_enter Tryz.func75, Tryz.ntmps75
        go_upto_region 1 with fail
        rw [← HV.out]
        go_wp2_with (first | ((with_reducible refine HNUM.out.mono ?_); rintro e w1 ⟨rfl, hF1⟩; have hp1 := hF1.heap0 HB.out.2.1; have hq1 := hF1.heap0 HB.out.2.2; have p0 : w1.cell? ⟨w.heap.size, 0, none⟩ = some (.slice A l.length c) := (by rw [cell_of_blk hp1]; rfl); have p1 : w1.cell? ⟨w.heap.size, 1, none⟩ = some (.int .i64 0) := (by rw [cell_of_blk hp1]; rfl); have pf := frozen_of_blk hp1 0; have HW1 := Lib.hid (And.intro (HB.out.1.trans hF1) (And.intro hp1 hq1)); clear hF1 hp1 hq1) | ((with_reducible refine (rfail_any A l.length c 0 4).mono ?_); rintro e w2 ⟨rfl, hF2⟩; rw [if_pos rfl]; have HW2 := Lib.hid (And.intro (HW1.out.1.trans hF2) (hF2.heap0 HW1.out.2.2)); clear hF2) | ((with_reducible refine at_store 151 (.tmp 4) (.tmp 31) (b := w.heap.size + 1) (c' := #[.slice A l.length c, .int .i64 4]) ?_ ?_ HW2.out.2 ?_ ?_ ?_ ?_); (focus rfl); (focus rfl); (focus rfl); (focus kernel_rfl); (focus (intro u hu; simp at hu; rcases hu with rfl | rfl <;> rfl)); intro w3 hFw3 hbw3; have HZ := Lib.hid (And.intro (HW2.out.1.own hFw3 (by omega)) hbw3); clear hFw3 hbw3))
        refine bodyPost_ret (res_rd Tryz.results75 HZ.out.2 rfl rfl) rfl ?_
        obtain ⟨hE, hN, hL, hbe, ht⟩ := HBE.out
        have hz : boundE l most 4 0 = 4 := by rw [hbe]; rw [if_neg (by simp), if_pos hmn]
        refine ⟨_, by rw [hN]; unfold boundN; rw [hz, if_neg (by decide)]; rfl, ?_, HZ.out.1⟩
        rw [hE, hL]
        unfold boundL
        rw [hz, if_neg (by decide)]
        exact ⟨⟨A, c, rfl, HH.out.fr0 HZ.out.1, h2, h3, h4⟩, hl⟩
      · have m1 : ¬ (most : Int) < (n : Int) := by omega
        obtain ⟨ba, oa, rfl⟩ := HH.out.addr (by rw [List.length_map]; omega)
        have key : ∀ A' : Option Addr, (A' = some ⟨ba, oa + k, none⟩ ∨ (k = l.length ∧ A' = some ⟨ba, oa, none⟩)) → ∀ W : World, Fr none_ w W → RUI w B l 0 most (.returned (.tuple #[.agg #[.slice A' (l.length - k) (c - k), .int .i64 0], .int .u64 (n : Int)])) W := by
          intro A' hA' W hF
          obtain ⟨hE, hN, hL, hbe, ht⟩ := HBE.out
          have hz : boundE l most 4 0 = 0 := by rw [hbe, if_neg (by simp), if_neg hmn]
          refine ⟨_, by rw [hN]; unfold boundN; rw [hz, if_pos rfl, ← ht], ?_, hF⟩
          rw [hE, hL]
          unfold boundL
          rw [hz, if_pos rfl, ← ht]
          refine ⟨⟨A', c - k, by rw [List.length_drop], ?_, by rw [List.length_drop]; show l.length - k ≤ c - k; omega, fun h => ?_, fun bb hbb => ?_⟩, by rw [List.length_drop]; omega⟩
          · rcases hA' with rfl | ⟨h9, rfl⟩
            · have h8 := (HH.out.fr0 hF).sub k (l.length - k) (by rw [List.length_map]; omega)
              have e1 : ((l.map byteV).drop k).take (l.length - k) = (l.drop k).map byteV := by rw [← List.map_drop, List.take_of_length_le (by simp)]
              rw [e1] at h8
              exact h8
            · rw [show l.drop k = [] from List.drop_eq_nil_of_le (by omega)]
              exact CellsAt.nil _ _
          · rcases hA' with rfl | ⟨h9, rfl⟩ <;> cases h
          · rcases hA' with rfl | ⟨h9, rfl⟩
            · have := blkOf_some hbb; exact this ▸ h4 ba ⟨oa, rfl⟩
            · have := blkOf_some hbb; exact this ▸ h4 ba ⟨oa, rfl⟩
        have KEY := Lib.hid key
        clear key
        have m2 : (k : Int) ≤ (l.length : Int) := by omega
        by_cases hkc : k < c
        · have m3 : (k : Int) < (c : Int) := by omega
          go_enter Tryz.func75, Tryz.ntmps75
          go_upto_region 1 with fail
          rw [← HV.out]
          go_upto_region 9 with (first | ((with_reducible refine HNUM.out.mono ?_); rintro e w1 ⟨rfl, hF1⟩; have hp1 := hF1.heap0 HB.out.2.1; have hq1 := hF1.heap0 HB.out.2.2; have p0 : w1.cell? ⟨w.heap.size, 0, none⟩ = some (.slice (some ⟨ba, oa, none⟩) l.length c) := (by rw [cell_of_blk hp1]; rfl); have p1 : w1.cell? ⟨w.heap.size, 1, none⟩ = some (.int .i64 0) := (by rw [cell_of_blk hp1]; rfl); have pf := frozen_of_blk hp1 0; have HW1 := Lib.hid (And.intro (HB.out.1.trans hF1) (And.intro hp1 hq1)); clear hF1 hp1 hq1))
          obtain ⟨w2, hw2⟩ : ∃ w2, w2 = w1.setCell ⟨w.heap.size, 0, none⟩ (.slice (some ⟨ba, oa + k, none⟩) (l.length - k) (c - k)) := ⟨_, rfl⟩
          have hF2 : Fr (fun i => i = w.heap.size) w1 w2 := by rw [hw2]; exact Fr.set w1 w.heap.size 0 _
          have hp2 : w2.heap[w.heap.size]? = some (.cells #[.slice (some ⟨ba, oa + k, none⟩) (l.length - k) (c - k), .int .i64 0] 151 (0, 0)) := by rw [hw2]; exact heap_setCell_same HW1.out.2.1 (o := 0) _
          have hq2 := hF2.heap HW1.out.2.2 (by omega)
          have hF02 := HW1.out.1.own hF2 (by omega)
          rw [← hw2]
          clear hw2 p0 p1 pf hF2
          go_wp2_with (first | ((with_reducible refine at_load 151 (.tmp 2) (b := w.heap.size) ?_ hp2 Tryz.underlying151 rfl (by kernel_rfl) ?_); (focus rfl)) | ((with_reducible refine at_store 151 (.tmp 4) (.tmp 37) (b := w.heap.size + 1) (c' := #[.slice (some ⟨ba, oa + k, none⟩) (l.length - k) (c - k), .int .i64 0]) ?_ ?_ hq2 ?_ ?_ ?_ ?_); (focus rfl); (focus rfl); (focus rfl); (focus kernel_rfl); (focus (intro u hu; simp at hu; rcases hu with rfl | rfl <;> rfl)); intro w3 hF3 hb3; have HZ := Lib.hid (And.intro (hF02.own hF3 (by omega)) hb3); clear hF3 hb3))
          refine bodyPost_ret (res_rd Tryz.results75 HZ.out.2 rfl rfl) rfl ?_
          exact KEY.out _ (.inl rfl) _ HZ.out.1
        · have m3 : c = k := by omega
          have m4 : l.length = k := by omega
          have hk9 := KEY.out (some ⟨ba, oa, none⟩) (.inr ⟨m4.symm, rfl⟩)
          rw [m3, Nat.sub_self, show l.length - k = 0 by omega] at hk9
          have HK9 := Lib.hid hk9
          subst m3
          clear hk9 m4
          go_enter Tryz.func75, Tryz.ntmps75
          go_upto_region 1 with fail
          rw [← HV.out]
          go_upto_region 9 with (first | ((with_reducible refine HNUM.out.mono ?_); rintro e w1 ⟨rfl, hF1⟩; have hp1 := hF1.heap0 HB.out.2.1; have hq1 := hF1.heap0 HB.out.2.2; have p0 : w1.cell? ⟨w.heap.size, 0, none⟩ = some (.slice (some ⟨ba, oa, none⟩) l.length c) := (by rw [cell_of_blk hp1]; rfl); have p1 : w1.cell? ⟨w.heap.size, 1, none⟩ = some (.int .i64 0) := (by rw [cell_of_blk hp1]; rfl); have pf := frozen_of_blk hp1 0; have HW1 := Lib.hid (And.intro (HB.out.1.trans hF1) (And.intro hp1 hq1)); clear hF1 hp1 hq1))
          obtain ⟨w2, hw2⟩ : ∃ w2, w2 = w1.setCell ⟨w.heap.size, 0, none⟩ (.slice (some ⟨ba, oa, none⟩) 0 0) := ⟨_, rfl⟩
          have hF2 : Fr (fun i => i = w.heap.size) w1 w2 := by rw [hw2]; exact Fr.set w1 w.heap.size 0 _
          have hp2 : w2.heap[w.heap.size]? = some (.cells #[.slice (some ⟨ba, oa, none⟩) 0 0, .int .i64 0] 151 (0, 0)) := by rw [hw2]; exact heap_setCell_same HW1.out.2.1 (o := 0) _
          have hq2 := hF2.heap HW1.out.2.2 (by omega)
          have hF02 := HW1.out.1.own hF2 (by omega)
          rw [← hw2]
          clear hw2 p0 p1 pf hF2
          go_wp2_with (first | ((with_reducible refine at_load 151 (.tmp 2) (b := w.heap.size) ?_ hp2 Tryz.underlying151 rfl (by kernel_rfl) ?_); (focus rfl)) | ((with_reducible refine at_store 151 (.tmp 4) (.tmp 37) (b := w.heap.size + 1) (c' := #[.slice (some ⟨ba, oa, none⟩) 0 0, .int .i64 0]) ?_ ?_ hq2 ?_ ?_ ?_ ?_); (focus rfl); (focus rfl); (focus rfl); (focus kernel_rfl); (focus (intro u hu; simp at hu; rcases hu with rfl | rfl <;> rfl)); intro w3 hF3 hb3; have HZ := Lib.hid (And.intro (hF02.own hF3 (by omega)) hb3); clear hF3 hb3))
          refine bodyPost_ret (res_rd Tryz.results75 HZ.out.2 rfl rfl) rfl ?_
          exact HK9.out _ HZ.out.1
    · have f1 : (f == 0) = false := by simpa using hf
      have f2 : (f != 0) = true := by simpa using hf
      clear hk
      go_enter Tryz.func75, Tryz.ntmps75
      go_upto_region 1 with fail
      rw [← HV.out]
      go_wp2_with (first | ((with_reducible refine HNUM.out.mono ?_); rintro e w1 ⟨rfl, hF1⟩; have hp1 := hF1.heap0 HB.out.2.1; have hq1 := hF1.heap0 HB.out.2.2; have p0 : w1.cell? ⟨w.heap.size, 0, none⟩ = some (.slice A l.length c) := (by rw [cell_of_blk hp1]; rfl); have p1 : w1.cell? ⟨w.heap.size, 1, none⟩ = some (.int .i64 0) := (by rw [cell_of_blk hp1]; rfl); have pf := frozen_of_blk hp1 0; have HW1 := Lib.hid (And.intro (HB.out.1.trans hF1) (And.intro hp1 hq1)); clear hF1 hp1 hq1) | ((with_reducible refine (rfail_any A l.length c 0 f).mono ?_); rintro e w2 ⟨rfl, hF2⟩; rw [if_pos rfl]; have HW2 := Lib.hid (And.intro (HW1.out.1.trans hF2) (hF2.heap0 HW1.out.2.2)); clear hF2) | ((with_reducible refine at_store 151 (.tmp 4) (.tmp 31) (b := w.heap.size + 1) (c' := #[.slice A l.length c, .int .i64 f]) ?_ ?_ HW2.out.2 ?_ ?_ ?_ ?_); (focus rfl); (focus rfl); (focus rfl); (focus kernel_rfl); (focus (intro u hu; simp at hu; rcases hu with rfl | rfl <;> rfl)); intro w3 hFw3 hbw3; have HZ := Lib.hid (And.intro (HW2.out.1.own hFw3 (by omega)) hbw3); clear hFw3 hbw3))
      refine bodyPost_ret (res_rd Tryz.results75 HZ.out.2 rfl rfl) rfl ?_
      obtain ⟨hE, hN, hL, hbe, ht⟩ := HBE.out
      have hz : boundE l most 4 0 = f := by rw [hbe]; rw [if_pos hf]
      refine ⟨_, by rw [hN]; unfold boundN; rw [hz, if_neg (by exact hf)]; rfl, ?_, HZ.out.1⟩
      rw [hE, hL]
      unfold boundL
      rw [hz, if_neg (by exact hf)]
      exact ⟨⟨A, c, rfl, HH.out.fr0 HZ.out.1, h2, h3, h4⟩, hl⟩
  · have hE : uintE l e most = e := by unfold uintE; rw [if_neg he]
    have hN : uintN l e most = 0 := by unfold uintN; rw [if_neg he]
    have hL : uintL l e most = l := by unfold uintL; rw [if_neg he]
    have k1 : (e == 0) = false := by simpa using he
    have k2 : (e != 0) = true := by simpa using he
    have HH := Lib.hid (And.intro h1 (And.intro hE (And.intro hN hL)))
    clear h1 hE hN hL
    go_enter Tryz.func75, Tryz.ntmps75
    go_wp2_with fail
    refine bodyPost_ret (res_rd Tryz.results75 (heap_2nd _ _ _ _) rfl rfl) rfl ?_
    obtain ⟨h1, hE, hN, hL⟩ := HH.out
    refine ⟨_, by rw [hN]; rfl, ?_, ((Fr.refl _ _).alloc _).alloc _⟩
    rw [hE, hL]
    exact ⟨⟨A, c, rfl, (h1.alloc _).alloc _, h2, h3, h4⟩, hl⟩
end Go.Proofs.YtffolfemcllfkaaGreatDoor
namespace Go.Proofs.YtffolfemcllfkaaGreatDoor
open Go.RowKit
set_option linter.unusedVariables false
set_option linter.unusedSimpArgs false
set_option maxRecDepth 100000

/-! The reference's numbers, laid. -/
def tailB (x K k : Nat) : List UInt8 := ((List.range K).map (restB x K)).drop (K - k)
theorem tailB_succ (x K k : Nat) (hk : k < K) : UInt8.ofNat (x / 2 ^ (8 * k)) :: tailB x K k = tailB x K (k + 1) := by
  unfold tailB
  have hl : K - (k + 1) < ((List.range K).map (restB x K)).length := by simp; omega
  rw [← List.getElem_cons_drop (h := hl), show K - (k + 1) + 1 = K - k by omega]
  congr 1
  simp only [List.getElem_map, List.getElem_range]
  unfold restB
  rw [show K - 1 - (K - (k + 1)) = k by omega]
theorem head_or : ∀ k : Fin 8, ∀ h : Fin (2 ^ (7 - k.val)), UInt8.ofNat (headN k.val ||| (h.val % 256)) = UInt8.ofNat ((256 - 2 ^ (8 - k.val)) % 256 + h.val) := by decide +kernel
theorem first_byte (x : Nat) (hx : x < 18446744073709551616) : encF x = UInt8.ofNat ((256 - 2 ^ (8 - behindF x)) % 256 + x / 2 ^ (8 * behindF x)) :: tailB x (behindF x) (behindF x) := by
  unfold encF tailB
  rw [Nat.sub_self, List.drop_zero]
  congr 1
  unfold firstN
  by_cases h8 : behindF x < 8
  · rw [if_pos h8]
    exact head_or ⟨behindF x, h8⟩ ⟨x / 2 ^ (8 * behindF x), high_lt x h8 hx⟩
  · have h9 : behindF x = 8 := by have := behindF_le x; omega
    rw [if_neg h8, h9, Nat.div_eq_of_lt (by omega)]
theorem rown_any {w : World} (A : Option Addr) (n c : Nat) (l : List UInt8) (hn : n = l.length) (hA : CellsAt w A (l.map byteV)) (hnil : A = none → n = 0 ∧ c = 0) (hm : l.length ≤ 140737488350000) :
    Calls Tryz.prog 161 #[.slice A n c] w fun e w' => Cloned w l e w' := by
  subst hn
  have h0 : w.ownsRow w.heap.size 5 1 (.slice none 0 0) 0 [] := World.ownsRow_nil _ _ _ _
  go_enter Tryz.func161, Tryz.ntmps161
  go_wp2_with ((with_reducible refine at_append (.tmp 4) (.tmp 5) 37 w.heap.size 5 (.int .u8 0) 1 1 (v := .slice none 0 0) (n := 0) (xs := []) (A := A) (m := l.length) (c := c) (news := l.map byteV) Tryz.underlying37 info_u8 ?_ ?_ ?_ ?_ h0 hA hnil ?_ ?_ ?_ ?_ ?_ ?_); (focus rfl); (focus decide); (focus rfl); (focus rfl); (focus simp); (focus exact bytes_oneCell _); (focus unfold maxLen; omega); (focus omega); (focus exact Nat.le_refl _); intro v' w1 hown1 hg)
  go_ret
  refine Cloned.mk ⟨v', rfl, ?_⟩ (Fr.grown (Fr.refl _ _) hg h0 (Nat.le_refl _))
  rw [Nat.zero_add, List.nil_append] at hown1
  exact hown1
theorem ownsRow_monoU {w : World} {b b' : Nat} {e : TypeId} {size n : Nat} {v : Value} {xs : List Value} (h : w.ownsRow b' e size v n xs) (hb : b ≤ b') : w.ownsRow b e size v n xs := by
  obtain ⟨h1, h2⟩ := h
  refine ⟨h1, ?_⟩
  rcases h2 with h2 | ⟨g, cap, cur, hv, hg, r⟩
  · exact .inl h2
  · exact .inr ⟨g, cap, cur, hv, Nat.le_trans hb hg, r⟩
set_option maxHeartbeats 4000000 in
theorem ruint_enc_any {w : World} (A : Option Addr) (n c : Nat) (l : List UInt8) (x : Nat) (hx : x < 18446744073709551616) (hn : n = l.length) (hA : CellsAt w A (l.map byteV)) (hnil : A = none → n = 0 ∧ c = 0) (hm : l.length ≤ 140737488350000) :
    Calls Tryz.prog 115 #[.slice A n c, .int .u64 (x : Int)] w fun e w' => Cloned w (l ++ encF x) e w' := by
  have hk8 := behindF_le x
  have hfb := first_byte x hx
  obtain ⟨K, hK⟩ : ∃ K, K = behindF x := ⟨_, rfl⟩
  have hmr := rmore_len x w
  rw [← hK] at hmr hk8 hfb
  have HFB := Lib.hid (And.intro hfb hK)
  have HMR := Lib.hid hmr
  have HN := Lib.hid hn
  have HNIL := Lib.hid hnil
  clear hmr hK hn hnil hfb
  go_enter Tryz.func115, Tryz.ntmps115
  go_wp2_with fail
  (with_reducible refine HMR.out.mono ?_)
  rintro e w0 ⟨rfl, rfl⟩
  go_wp2_with fail
  go_loopw [1, 6, 7] (fun nv d i wr => ∃ k y : Nat, ∃ xs : List UInt8, k ≤ K ∧ (y < 18446744073709551616 ∧ y = x / 2 ^ (8 * k) ∧ xs = tailB x K k) ∧ xs.length = k ∧ nv = .int .u64 (y : Int) ∧ i = .int .i64 (k : Int) ∧ Fr none_ w wr ∧ wr.ownsRow w.heap.size 5 1 d k (xs.map byteV)) (fun _ _ i _ => K - (intOf i).toNat)
  case atStart => exact ⟨0, x, [], by omega, ⟨hx, by simp, by simp [tailB]⟩, rfl, rfl, rfl, Fr.refl _ _, World.ownsRow_nil _ _ _ _⟩
  case round =>
    obtain ⟨k, y, xs, hk, ⟨hy, hye, hxe⟩, hxl, rfl, rfl, hF, hown⟩ := hrel
    have HYX := Lib.hid (And.intro hye hxe)
    clear hye hxe
    by_cases hlt : k < K
    · obtain ⟨A1, c1, rfl, hA1, hc1, hnil1, hbl1⟩ := ownsRow_read hown
      have hsz := hF.size
      have hbv : byteV (UInt8.ofNat y) = .int .u8 ((y : Int) % 256) := (byteV_mod y).symm
      have hal := (Fr.refl none_ wr).alloc (.cells #[.int .u8 ((y : Int) % 256)] 5)
      have hAa : CellsAt (wr.alloc (.cells #[.int .u8 ((y : Int) % 256)] 5)) (some ⟨wr.heap.size, 0, none⟩) ([UInt8.ofNat y].map byteV) := by
        have := CellsAt.one wr (.int .u8 ((y : Int) % 256)) 5
        rw [← hbv] at this ⊢
        exact this
      have h0 : (wr.alloc (.cells #[.int .u8 ((y : Int) % 256)] 5)).ownsRow w.heap.size 5 1 (.slice none 0 0) 0 [] := World.ownsRow_nil _ _ _ _
      have hA1a := hA1.fr0 hal
      have HXL := Lib.hid hxl
      have HHA := Lib.hid (And.intro hAa hA1a)
      have HNIL1 := Lib.hid hnil1
      have hFa := hF.trans hal
      clear hbv hxl hA1 hAa hA1a hnil1 hown hbl1
      go_wp2_with (first
        | ((with_reducible refine at_append (.tmp 16) (.tmp 20) 37 w.heap.size 5 (.int .u8 0) 1 1 (v := .slice none 0 0) (n := 0) (xs := []) (A := some ⟨wr.heap.size, 0, none⟩) (m := 1) (c := 1) (news := [UInt8.ofNat y].map byteV) Tryz.underlying37 info_u8 ?_ ?_ ?_ ?_ h0 HHA.out.1 ?_ ?_ ?_ ?_ ?_ ?_ ?_); (focus rfl); (focus decide); (focus rfl); (focus rfl); (focus (intro h; cases h)); (focus rfl); (focus exact bytes_oneCell _); (focus unfold maxLen; omega); (focus omega); (focus rw [World.size_alloc]; omega); intro v1 w1 hown1 hg1; have hF1 := Fr.grown hFa hg1 h0 (Nat.le_refl _); have hA11 := HHA.out.2.fr0 ((Fr.of_grown hg1).mono (fun k _ e => by cases e)))
        | ((with_reducible refine at_append (.tmp 21) (.tmp 22) 37 w.heap.size 5 (.int .u8 0) 1 1 (n := 1) (A := A1) (m := k) (c := c1) (news := xs.map byteV) Tryz.underlying37 info_u8 ?_ ?_ ?_ ?_ hown1 hA11 HNIL1.out ?_ ?_ ?_ ?_ ?_ ?_); (focus rfl); (focus decide); (focus rfl); (focus rfl); (focus rw [List.length_map, HXL.out, Nat.mul_one]); (focus exact bytes_oneCell _); (focus unfold maxLen; omega); (focus omega); (focus have := hF1.size; omega); intro v2 w2 hown2 hg2; have hF2 := Fr.grown hF1 hg2 hown1 (Nat.le_refl _)))
      go_roundw
      case rel =>
        refine ⟨k + 1, y / 256, UInt8.ofNat y :: xs, by omega, ⟨by omega, by rw [HYX.out.1, Nat.div_div_eq_div_mul, show (256 : Nat) = 2 ^ 8 from rfl, ← Nat.pow_add]; congr 2, by rw [HYX.out.1, HYX.out.2]; exact tailB_succ x K k hlt⟩, by rw [List.length_cons, HXL.out], by go_num, by go_num, hF2, ?_⟩
        rw [show k + 1 = 1 + k by omega]
        exact hown2
      case measure => simp [intOf]; omega
    · obtain rfl : k = K := by omega
      obtain ⟨A1, c1, rfl, hA1, hc1, hnil1, hbl1⟩ := ownsRow_read hown
      have hsz := hF.size
      have hA0 := hA.fr0 hF
      have HAA := Lib.hid (And.intro hA1 hA0)
      have HNIL1 := Lib.hid hnil1
      have HXL := Lib.hid hxl
      have kq : ¬ (k : Int) < (k : Int) := by omega
      have hown0 := rown_any (w := wr) A n c l HN.out hA0 HNIL.out (by omega)
      have HOW := Lib.hid hown0
      clear hA1 hA0 hnil1 hxl hown hbl1 hown0
      go_wp2_with fail
      (with_reducible refine HOW.out.mono ?_)
      rintro e w1 ⟨⟨v1, rfl, hown1⟩, hF1⟩
      go_wp2_with fail
      (with_reducible refine (rones_val k hk8 _).mono ?_)
      rintro e w2 ⟨rfl, rfl⟩
      obtain ⟨z, hz⟩ : ∃ z, z = (256 - 2 ^ (8 - k)) % 256 := ⟨_, rfl⟩
      have hz8 : z < 256 := by omega
      rw [← hz]
      have HZV := Lib.hid hz
      clear hz
      have hval : byteV (UInt8.ofNat (z + y)) = .int .u8 (((z : Int) + (y : Int)) % 256) := by rw [← byteV_mod]; rfl
      have hAz : CellsAt (w1.alloc (.cells #[.int .u8 (((z : Int) + (y : Int)) % 256)] 5)) (some ⟨w1.heap.size, 0, none⟩) ([UInt8.ofNat (z + y)].map byteV) := by
        have := CellsAt.one w1 (.int .u8 (((z : Int) + (y : Int)) % 256)) 5
        rw [← hval] at this ⊢
        exact this
      have hal := (Fr.refl none_ w1).alloc (.cells #[.int .u8 (((z : Int) + (y : Int)) % 256)] 5)
      have hown1a := ownsRow_monoU (ownsRow_fr0 hown1 hal) hsz
      have hFa := (hF.trans hF1).trans hal
      have hA1a := (HAA.out.1.fr0 hF1).fr0 hal
      have hsz1 : w.heap.size ≤ w1.heap.size := (hF.trans hF1).size
      have hA1own : ∀ b, blkOf A1 b → b < wr.heap.size ∨ k = 0 := fun b hb => by
        by_cases hk0 : k = 0
        · exact .inr hk0
        · exact .inl (HAA.out.1.lt hb (by rw [List.length_map, HXL.out]; omega))
      have hv1 : ∀ b, v1.ownBlock = some b → wr.heap.size ≤ b := fun b hb => (ownsRow_lt hown1 hb).1
      have HHA := Lib.hid (And.intro hAz (And.intro hA1a (And.intro hA1own hv1)))
      clear hval hAz hA1a hown1 hA1own hv1
      go_wp2_with (first
        | ((with_reducible refine at_append (.tmp 27) (.tmp 33) 37 w.heap.size 5 (.int .u8 0) 1 1 (n := l.length) (A := some ⟨w1.heap.size, 0, none⟩) (m := 1) (c := 1) (news := [UInt8.ofNat (z + y)].map byteV) Tryz.underlying37 info_u8 ?_ ?_ ?_ ?_ hown1a HHA.out.1 ?_ ?_ ?_ ?_ ?_ ?_ ?_); (focus rfl); (focus decide); (focus rfl); (focus rfl); (focus (intro h; cases h)); (focus rfl); (focus exact bytes_oneCell _); (focus unfold maxLen; omega); (focus omega); (focus rw [World.size_alloc]; omega); intro v2 w2 hown2 hg2; have hF2 := Fr.grown hFa hg2 hown1a (Nat.le_refl _); have hA12 : CellsAt w2 A1 (xs.map byteV) := HHA.out.2.1.frp (Fr.of_grown hg2) (fun b hb hl e => by have h1 := HHA.out.2.2.1 b hb; have h2 := HHA.out.2.2.2 b e; rw [List.length_map, HXL.out] at hl; omega))
        | ((with_reducible refine at_append (.tmp 34) (.tmp 35) 37 w.heap.size 5 (.int .u8 0) 1 1 (n := l.length + 1) (A := A1) (m := k) (c := c1) (news := xs.map byteV) Tryz.underlying37 info_u8 ?_ ?_ ?_ ?_ hown2 hA12 HNIL1.out ?_ ?_ ?_ ?_ ?_ ?_); (focus rfl); (focus decide); (focus rfl); (focus rfl); (focus rw [List.length_map, HXL.out, Nat.mul_one]); (focus exact bytes_oneCell _); (focus unfold maxLen; omega); (focus omega); (focus have := hF2.size; omega); intro v3 w3 hown3 hg3; have hF3 := Fr.grown hF2 hg3 hown2 (Nat.le_refl _)))
      go_ret
      have hfin : l ++ encF x = l ++ [UInt8.ofNat (z + y)] ++ xs := by
        rw [List.append_assoc]
        congr 1
        rw [HZV.out, HYX.out.1, HYX.out.2]
        exact HFB.out.1
      refine Cloned.mk ⟨v3, rfl, ?_⟩ hF3
      rw [hfin, List.length_append, List.length_append, HXL.out, List.map_append, List.map_append]
      exact hown3
end Go.Proofs.YtffolfemcllfkaaGreatDoor
namespace Go.Proofs.YtffolfemcllfkaaGreatDoor
open Go.RowKit
set_option linter.unusedVariables false
set_option linter.unusedSimpArgs false
set_option maxRecDepth 100000

/-! The reference's truths: ReadBool, Bool. -/
/-- what ReadBool leaves -/
def RBI (w : World) (B : Nat) (l : List UInt8) (e : Int) (en : Ending) (w' : World) : Prop := ∃ v', en = .returned (.tuple #[v', .bool (boolV l e)]) ∧ RRd w' B v' (boolL l e) (boolE l e) ∧ Fr none_ w w'
theorem boolV_cons (x : UInt8) (l : List UInt8) : boolV (x :: l) 0 = decide (x = 1) := by unfold boolV; simp; by_cases h : x = 1 <;> simp [h]
theorem res_rdb {f : Func} {W : World} {b : Nat} {v0 v1 r : Value} {T : TypeId} {F : Nat × Nat} {tmps : Array Value} (hr : f.results = #[.cell 2 151, .tmp 3]) (h : W.heap[b]? = some (.cells #[v0, v1] T F)) (t4 : tmps[2]?.getD undef = ptr b) (t5 : tmps[3]?.getD undef = r) :
    (results f tmps).run Tryz.prog W = .ok (.tuple #[.agg #[v0, v1], r]) W := by
  have c0 : W.cell? ⟨b, 0, none⟩ = some v0 := by rw [cell_of_blk h]; rfl
  have c1 : W.cell? ⟨b, 1, none⟩ = some v1 := by rw [cell_of_blk h]; rfl
  simp [results, hr, go_sem, t4, t5, c0, c1]
set_option maxHeartbeats 4000000 in
theorem rreadbool_any {w : World} {B : Nat} {v : Value} {l : List UInt8} {e : Int} (h : RRd w B v l e) : Calls Tryz.prog 159 #[v] w fun en w' => RBI w B l e en w' := by
  obtain ⟨⟨A, c, rfl, h1, h2, h3, h4⟩, hl⟩ := h
  by_cases he : e = 0
  · subst he
    obtain ⟨n, hnl⟩ : ∃ n, n = l.length := ⟨_, rfl⟩
    rw [← hnl]
    obtain ⟨V, hV, hFV, hbp, hbq⟩ := two_blocks w #[.slice A n c, .int .i64 0] #[.slice none 0 0, .int .i64 0] 151 151
    have v0 : V.cell? ⟨w.heap.size, 0, none⟩ = some (.slice A n c) := by rw [cell_of_blk hbp]; rfl
    have v1 : V.cell? ⟨w.heap.size, 1, none⟩ = some (.int .i64 0) := by rw [cell_of_blk hbp]; rfl
    have vf := frozen_of_blk hbp 0
    have HH := Lib.hid h1
    have HV := Lib.hid hV
    cases l with
    | nil =>
      have hn0 : n = 0 := hnl
      clear hnl
      subst hn0
      have HB := Lib.hid (And.intro hFV (And.intro hbp hbq))
      clear hV hFV hbp hbq h1
      go_enter Tryz.func159, Tryz.ntmps159
      go_upto_region 1 with fail
      rw [← HV.out]
      go_wp2_with (first | ((with_reducible refine (rfail_any A 0 c 0 12).mono ?_); rintro e w2 ⟨rfl, hF2⟩; rw [if_pos rfl]; have HW2 := Lib.hid (And.intro (HB.out.1.trans hF2) (hF2.heap0 HB.out.2.2)); clear hF2) | ((with_reducible refine at_store 151 (.tmp 2) (.tmp 14) (b := w.heap.size + 1) (c' := #[.slice A 0 c, .int .i64 12]) ?_ ?_ HW2.out.2 ?_ ?_ ?_ ?_); (focus rfl); (focus rfl); (focus rfl); (focus kernel_rfl); (focus (intro u hu; simp at hu; rcases hu with rfl | rfl <;> rfl)); intro w3 hFw3 hbw3; have HZ := Lib.hid (And.intro (HW2.out.1.own hFw3 (by omega)) hbw3); clear hFw3 hbw3))
      refine bodyPost_ret (res_rdb Tryz.results159 HZ.out.2 rfl rfl) rfl ?_
      exact ⟨_, rfl, ⟨⟨A, c, rfl, HH.out.fr0 HZ.out.1, h2, h3, h4⟩, hl⟩, HZ.out.1⟩
    | cons x l =>
      have hn1 : n = l.length + 1 := hnl
      clear hnl
      subst hn1
      obtain ⟨ba, oa, rfl⟩ := h1.addr (by simp)
      have hb4 := h4 ba ⟨oa, rfl⟩
      have cb : V.cell? ⟨ba, oa, none⟩ = some (.int .u8 (x.toNat : Int)) := (h1.fr0 hFV).get 0 (by simp)
      have HB := Lib.hid (And.intro hFV (And.intro hbp hbq))
      clear hV hFV hbp hbq h1
      have q0 : ¬ (l.length : Int) + 1 = 0 := by omega
      have q1 : (0 : Int) < (l.length : Int) + 1 := by omega
      by_cases hx : 1 < x
      · have hx1 : 1 < x.toNat := hx
        have hx2 : (1 : Int) < (x.toNat : Int) := by omega
        go_enter Tryz.func159, Tryz.ntmps159
        go_upto_region 1 with fail
        rw [← HV.out]
        go_wp2_with (first | ((with_reducible refine (rfail_any (some ⟨ba, oa, none⟩) (l.length + 1) c 0 3).mono ?_); rintro e w2 ⟨rfl, hF2⟩; rw [if_pos rfl]; have HW2 := Lib.hid (And.intro (HB.out.1.trans hF2) (hF2.heap0 HB.out.2.2)); clear hF2) | ((with_reducible refine at_store 151 (.tmp 2) (.tmp 21) (b := w.heap.size + 1) (c' := #[.slice (some ⟨ba, oa, none⟩) (l.length + 1) c, .int .i64 3]) ?_ ?_ HW2.out.2 ?_ ?_ ?_ ?_); (focus rfl); (focus rfl); (focus rfl); (focus kernel_rfl); (focus (intro u hu; simp at hu; rcases hu with rfl | rfl <;> rfl)); intro w3 hFw3 hbw3; have HZ := Lib.hid (And.intro (HW2.out.1.own hFw3 (by omega)) hbw3); clear hFw3 hbw3))
        refine bodyPost_ret (res_rdb Tryz.results159 HZ.out.2 rfl rfl) rfl ?_
        have e1 : boolE (x :: l) 0 = 3 := by unfold boolE; simp [hx]
        have e2 : boolL (x :: l) 0 = x :: l := by unfold boolL; rw [e1]; rfl
        have e3 : boolV (x :: l) 0 = false := by
          rw [boolV_cons]
          have : x ≠ 1 := by rintro rfl; exact absurd hx (by decide)
          simp [this]
        unfold RBI
        rw [e1, e2, e3]
        exact ⟨_, rfl, ⟨⟨some ⟨ba, oa, none⟩, c, rfl, HH.out.fr0 HZ.out.1, h2, h3, h4⟩, hl⟩, HZ.out.1⟩
      · have hx0 : ¬ 1 < x.toNat := hx
        have hx1 : x.toNat ≤ 1 := by omega
        have hx2 : ¬ (1 : Int) < (x.toNat : Int) := by omega
        have h2c : l.length + 1 ≤ c := h2
        have key : ∀ (A' : Option Addr), (A' = some ⟨ba, oa + 1, none⟩ ∨ (l = [] ∧ A' = some ⟨ba, oa, none⟩)) → ∀ W : World, Fr none_ w W → RBI w B (x :: l) 0 (.returned (.tuple #[.agg #[.slice A' l.length (c - 1), .int .i64 0], .bool (decide (x = 1))])) W := by
          intro A' hA' W hF
          have e1 : boolE (x :: l) 0 = 0 := by unfold boolE; simp [hx]
          have e2 : boolL (x :: l) 0 = l := by unfold boolL; rw [e1]; rfl
          unfold RBI
          rw [e1, e2, boolV_cons]
          refine ⟨_, rfl, ⟨⟨A', c - 1, rfl, ?_, by omega, fun h => ?_, fun bb hbb => ?_⟩, by have := hl; rw [List.length_cons] at this; omega⟩, hF⟩
          · rcases hA' with rfl | ⟨h9, rfl⟩
            · have h8 := (HH.out.fr0 hF).sub 1 l.length (by simp; omega)
              have e1 : (((x :: l).map byteV).drop 1).take l.length = l.map byteV := by rw [← List.map_drop, List.drop_succ_cons, List.drop_zero, List.take_of_length_le (by simp)]
              rw [e1] at h8
              exact h8
            · rw [h9]; exact CellsAt.nil _ _
          · rcases hA' with rfl | ⟨h9, rfl⟩ <;> cases h
          · rcases hA' with rfl | ⟨h9, rfl⟩
            · have := blkOf_some hbb; exact this ▸ hb4
            · have := blkOf_some hbb; exact this ▸ hb4
        have KEY := Lib.hid key
        clear key
        have hxd : (x.toNat : Int) = 1 ∨ (x.toNat : Int) = 0 := by omega
        have hxv : decide (x = 1) = decide ((x.toNat : Int) = 1) := by
          by_cases h : x = 1
          · subst h; rfl
          · have : ¬ x.toNat = 1 := fun h' => h (UInt8.toNat_inj.1 h')
            have h2 : ¬ (x.toNat : Int) = 1 := by omega
            simp [h]; exact h2
        rw [hxv] at KEY
        clear hxv hx hx0 hx1
        obtain ⟨y, hy⟩ : ∃ y : Int, y = (x.toNat : Int) := ⟨_, rfl⟩
        rw [← hy] at cb hx2 hxd KEY
        clear hy
        by_cases hck : c = 1
        · subst hck
          have hl0 : l = [] := List.eq_nil_of_length_eq_zero (by omega)
          subst hl0
          have v0 : V.cell? ⟨w.heap.size, 0, none⟩ = some (.slice (some ⟨ba, oa, none⟩) 1 1) := v0
          have HV1 := Lib.hid (show V = (w.alloc (.cells #[.slice (some ⟨ba, oa, none⟩) 1 1, .int .i64 0] 151)).alloc (.cells #[.slice none 0 0, .int .i64 0] 151) from HV.out)
          have q0 : ¬ (1 : Int) = 0 := by omega
          have K9 := KEY.out (some ⟨ba, oa, none⟩) (.inr ⟨rfl, rfl⟩)
          have HK9 := Lib.hid K9
          clear K9
          rcases hxd with rfl | rfl
          all_goals
            go_enter Tryz.func159, Tryz.ntmps159
            go_upto_region 1 with fail
            rw [← HV1.out]
            go_upto_region 9 with fail
            obtain ⟨w2, hw2⟩ : ∃ w2, w2 = V.setCell ⟨w.heap.size, 0, none⟩ (.slice (some ⟨ba, oa, none⟩) 0 0) := ⟨_, rfl⟩
            have hF2 : Fr (fun i => i = w.heap.size) V w2 := by rw [hw2]; exact Fr.set V w.heap.size 0 _
            have hp2 : w2.heap[w.heap.size]? = some (.cells #[.slice (some ⟨ba, oa, none⟩) 0 0, .int .i64 0] 151 (0, 0)) := by rw [hw2]; exact heap_setCell_same HB.out.2.1 (o := 0) _
            have hq2 := hF2.heap HB.out.2.2 (by omega)
            have hF02 := HB.out.1.own hF2 (by omega)
            rw [← hw2]
            clear hw2 v0 v1 vf hF2
            go_wp2_with (first | ((with_reducible refine at_load 151 (.tmp 1) (b := w.heap.size) ?_ hp2 Tryz.underlying151 rfl (by kernel_rfl) ?_); (focus rfl)) | ((with_reducible refine at_store 151 (.tmp 2) (.tmp 31) (b := w.heap.size + 1) (c' := #[.slice (some ⟨ba, oa, none⟩) 0 0, .int .i64 0]) ?_ ?_ hq2 ?_ ?_ ?_ ?_); (focus rfl); (focus rfl); (focus rfl); (focus kernel_rfl); (focus (intro u hu; simp at hu; rcases hu with rfl | rfl <;> rfl)); intro w3 hF3 hb3; have HZ := Lib.hid (And.intro (hF02.own hF3 (by omega)) hb3); clear hF3 hb3))
            refine bodyPost_ret (res_rdb Tryz.results159 HZ.out.2 rfl rfl) rfl ?_
            exact HK9.out _ HZ.out.1
        · have hck2 : 1 < c := by omega
          have hck3 : (1 : Int) < (c : Int) := by omega
          have q2 : (1 : Int) ≤ (l.length : Int) + 1 := by omega
          rcases hxd with rfl | rfl
          all_goals
            go_enter Tryz.func159, Tryz.ntmps159
            go_upto_region 1 with fail
            rw [← HV.out]
            go_upto_region 9 with fail
            obtain ⟨w2, hw2⟩ : ∃ w2, w2 = V.setCell ⟨w.heap.size, 0, none⟩ (.slice (some ⟨ba, oa + 1, none⟩) l.length (c - 1)) := ⟨_, rfl⟩
            have hF2 : Fr (fun i => i = w.heap.size) V w2 := by rw [hw2]; exact Fr.set V w.heap.size 0 _
            have hp2 : w2.heap[w.heap.size]? = some (.cells #[.slice (some ⟨ba, oa + 1, none⟩) l.length (c - 1), .int .i64 0] 151 (0, 0)) := by rw [hw2]; exact heap_setCell_same HB.out.2.1 (o := 0) _
            have hq2 := hF2.heap HB.out.2.2 (by omega)
            have hF02 := HB.out.1.own hF2 (by omega)
            rw [← hw2]
            clear hw2 v0 v1 vf hF2
            go_wp2_with (first | ((with_reducible refine at_load 151 (.tmp 1) (b := w.heap.size) ?_ hp2 Tryz.underlying151 rfl (by kernel_rfl) ?_); (focus rfl)) | ((with_reducible refine at_store 151 (.tmp 2) (.tmp 31) (b := w.heap.size + 1) (c' := #[.slice (some ⟨ba, oa + 1, none⟩) l.length (c - 1), .int .i64 0]) ?_ ?_ hq2 ?_ ?_ ?_ ?_); (focus rfl); (focus rfl); (focus rfl); (focus kernel_rfl); (focus (intro u hu; simp at hu; rcases hu with rfl | rfl <;> rfl)); intro w3 hF3 hb3; have HZ := Lib.hid (And.intro (hF02.own hF3 (by omega)) hb3); clear hF3 hb3))
            refine bodyPost_ret (res_rdb Tryz.results159 HZ.out.2 rfl rfl) rfl ?_
            exact KEY.out _ (.inl rfl) _ HZ.out.1
  · have hE : boolE l e = e := by unfold boolE; rw [if_pos he]
    have hN : boolV l e = false := by unfold boolV; simp [he]
    have hL : boolL l e = l := by unfold boolL; rw [hE, if_neg he]
    have k1 : (e == 0) = false := by simpa using he
    have k2 : (e != 0) = true := by simpa using he
    have HH := Lib.hid (And.intro h1 (And.intro hE (And.intro hN hL)))
    clear h1 hE hN hL
    go_enter Tryz.func159, Tryz.ntmps159
    go_wp2_with fail
    refine bodyPost_ret (res_rdb Tryz.results159 (heap_2nd _ _ _ _) rfl rfl) rfl ?_
    obtain ⟨h1, hE, hN, hL⟩ := HH.out
    unfold RBI
    rw [hE, hL, hN]
    exact ⟨_, rfl, ⟨⟨A, c, rfl, (h1.alloc _).alloc _, h2, h3, h4⟩, hl⟩, ((Fr.refl _ _).alloc _).alloc _⟩
/-- a truth, laid -/
theorem rbool_enc_any {w : World} (A : Option Addr) (n c : Nat) (l : List UInt8) (is : Bool) (hn : n = l.length) (hA : CellsAt w A (l.map byteV)) (hnil : A = none → n = 0 ∧ c = 0) (hm : l.length ≤ 140737488350000) :
    Calls Tryz.prog 116 #[.slice A n c, .bool is] w fun e w' => Cloned w (l ++ [if is then 1 else 0]) e w' := by
  have hown0 := fun w (hA : CellsAt w A (l.map byteV)) => rown_any (w := w) A n c l hn hA hnil hm
  have HOW := Lib.hid (hown0 w hA)
  subst hn
  clear hown0 hA hnil
  cases is
  · go_enter Tryz.func116, Tryz.ntmps116
    go_wp2_with fail
    (with_reducible refine HOW.out.mono ?_)
    rintro e w1 ⟨⟨v1, rfl, hown1⟩, hF1⟩
    have hAz : CellsAt (w1.alloc (.cells #[.int .u8 0] 5)) (some ⟨w1.heap.size, 0, none⟩) ([(0 : UInt8)].map byteV) := CellsAt.one w1 (.int .u8 0) 5
    have hal := (Fr.refl none_ w1).alloc (.cells #[.int .u8 0] 5)
    have hown1a := ownsRow_fr0 hown1 hal
    have hFa := hF1.trans hal
    have hsz1 := hF1.size
    have HHA := Lib.hid hAz
    clear hAz hown1
    go_wp2_with ((with_reducible refine at_append (.tmp 11) (.tmp 12) 37 w.heap.size 5 (.int .u8 0) 1 1 (n := l.length) (A := some ⟨w1.heap.size, 0, none⟩) (m := 1) (c := 1) (news := [(0 : UInt8)].map byteV) Tryz.underlying37 info_u8 ?_ ?_ ?_ ?_ hown1a HHA.out ?_ ?_ ?_ ?_ ?_ ?_ ?_); (focus rfl); (focus decide); (focus rfl); (focus rfl); (focus (intro h; cases h)); (focus rfl); (focus exact bytes_oneCell _); (focus unfold maxLen; omega); (focus omega); (focus rw [World.size_alloc]; omega); intro v2 w2 hown2 hg2; have hF2 := Fr.grown hFa hg2 hown1a (Nat.le_refl _))
    go_ret
    refine Cloned.mk ⟨v2, rfl, ?_⟩ hF2
    rw [List.length_append, List.map_append]
    exact hown2
  · go_enter Tryz.func116, Tryz.ntmps116
    go_wp2_with fail
    (with_reducible refine HOW.out.mono ?_)
    rintro e w1 ⟨⟨v1, rfl, hown1⟩, hF1⟩
    have hAz : CellsAt (w1.alloc (.cells #[.int .u8 1] 5)) (some ⟨w1.heap.size, 0, none⟩) ([(1 : UInt8)].map byteV) := CellsAt.one w1 (.int .u8 1) 5
    have hal := (Fr.refl none_ w1).alloc (.cells #[.int .u8 1] 5)
    have hown1a := ownsRow_fr0 hown1 hal
    have hFa := hF1.trans hal
    have hsz1 := hF1.size
    have HHA := Lib.hid hAz
    clear hAz hown1
    go_wp2_with ((with_reducible refine at_append (.tmp 7) (.tmp 8) 37 w.heap.size 5 (.int .u8 0) 1 1 (n := l.length) (A := some ⟨w1.heap.size, 0, none⟩) (m := 1) (c := 1) (news := [(1 : UInt8)].map byteV) Tryz.underlying37 info_u8 ?_ ?_ ?_ ?_ hown1a HHA.out ?_ ?_ ?_ ?_ ?_ ?_ ?_); (focus rfl); (focus decide); (focus rfl); (focus rfl); (focus (intro h; cases h)); (focus rfl); (focus exact bytes_oneCell _); (focus unfold maxLen; omega); (focus omega); (focus rw [World.size_alloc]; omega); intro v2 w2 hown2 hg2; have hF2 := Fr.grown hFa hg2 hown1a (Nat.le_refl _))
    go_ret
    refine Cloned.mk ⟨v2, rfl, ?_⟩ hF2
    rw [List.length_append, List.map_append]
    exact hown2
end Go.Proofs.YtffolfemcllfkaaGreatDoor
namespace Go.Proofs.YtffolfemcllfkaaGreatDoor
open Go.RowKit
set_option linter.unusedVariables false
set_option linter.unusedSimpArgs false
set_option maxRecDepth 100000

/-! What a teller's bytes tell, any bytes: plain; the reference's Tell. -/
structure TellR where
  n : Nat
  sec : Bool
  long : Nat
  err : Int
def allZb (b : List UInt8) (k : Nat) : Bool := (b.take k).all (· == 0)
theorem allZb_succ (b : List UInt8) (k : Nat) (h : k < b.length) : allZb b (k + 1) = (allZb b k && (b[k] == 0)) := by
  unfold allZb
  rw [List.take_succ_eq_append_getElem h, List.all_append]
  simp
def tN (b : List UInt8) : Nat := uintN b 0 18446744073709551614
def tL1 (b : List UInt8) : List UInt8 := uintL b 0 18446744073709551614
def tE1 (b : List UInt8) : Int := uintE b 0 18446744073709551614
def tL2 (b : List UInt8) : List UInt8 := boolL (tL1 b) (tE1 b)
def tE2 (b : List UInt8) : Int := boolE (tL1 b) (tE1 b)
def tLong (b : List UInt8) (room : Nat) : Nat := uintN (tL2 b) (tE2 b) room
def tE3 (b : List UInt8) (room : Nat) : Int := uintE (tL2 b) (tE2 b) room
def tellF (b : List UInt8) (room : Nat) : TellR :=
  if allZb b 64 = true then ⟨0, false, 0, 8⟩
  else if tE3 b room ≠ 0 ∨ tN b = 0 then ⟨0, false, 0, 3⟩
  else ⟨tN b, boolV (tL1 b) (tE1 b), tLong b room, 0⟩
theorem res4 {f : Func} {W : World} {a b c d : Value} {tmps : Array Value} (hr : f.results = #[.tmp 4, .tmp 5, .tmp 6, .tmp 7]) (h4 : tmps[4]?.getD undef = a) (h5 : tmps[5]?.getD undef = b) (h6 : tmps[6]?.getD undef = c) (h7 : tmps[7]?.getD undef = d) :
    (results f tmps).run Tryz.prog W = .ok (.tuple #[a, b, c, d]) W := by
  simp [results, hr, go_sem, h4, h5, h6, h7]
def tellRV (t : TellR) : Value := .tuple #[.int .u64 (t.n : Int), .bool t.sec, .int .i64 (t.long : Int), .int .i64 t.err]
def RTell (w : World) (t : TellR) (e : Ending) (w' : World) : Prop := e = .returned (tellRV t) ∧ Fr none_ w w'
theorem uintN_le' (l : List UInt8) (e : Int) (most : Nat) : uintN l e most ≤ most := by
  unfold uintN
  split
  · unfold boundN
    split
    · rename_i h
      unfold boundE at h
      split at h
      · rename_i h2; exact absurd h h2
      · split at h
        · cases h
        · omega
    · exact Nat.zero_le _
  · exact Nat.zero_le _
set_option maxHeartbeats 8000000 in
theorem rtell_any {w : World} (A : Option Addr) (c : Nat) (b : List UInt8) (hlen : b.length = 64) (hA : CellsAt w A (b.map byteV)) (hc : 64 ≤ c) (room : Nat) (hr : room ≤ 524288) :
    Calls Tryz.prog 113 #[.slice A 64 c, .int .i64 (room : Int)] w fun e w' => RTell w (tellF b room) e w' := by
  obtain ⟨ba, oa, rfl⟩ := hA.addr (by rw [List.length_map]; omega)
  have hcs : ∀ k (hk : k < 64), w.cell? ⟨ba, oa + k, none⟩ = some (byteV (b[k]'(by omega))) := fun k hk => by
    have := hA.get k (by rw [List.length_map]; omega)
    rw [List.getElem_map] at this
    exact this
  have hR0 : RRd w w.heap.size (.agg #[.slice (some ⟨ba, oa, none⟩) 64 c, .int .i64 0]) b 0 := ⟨⟨_, c, by rw [hlen], hA, by omega, (fun h => by cases h), fun bb hbb => hA.lt hbb (by rw [List.length_map]; omega)⟩, by omega⟩
  have HCS := Lib.hid hcs
  have HR0 := Lib.hid hR0
  clear hcs hA hR0
  go_enter Tryz.func113, Tryz.ntmps113
  go_wp2_with fail
  go_loopw [8, 9] (fun v i wr => ∃ k : Nat, k ≤ 64 ∧ i = .int .i64 k ∧ v = .bool (allZb b k) ∧ wr = w) (fun _ i _ => 64 - (intOf i).toNat)
  case atStart => exact ⟨0, by omega, rfl, rfl, rfl⟩
  case round =>
    obtain ⟨k, hk, rfl, rfl, rfl⟩ := hrel
    by_cases hlt : k < 64
    · have hcj := HCS.out k hlt
      unfold byteV at hcj
      have hz := allZb_succ b k (by omega)
      obtain ⟨x, hx⟩ : ∃ x, x = (b[k]'(by omega)).toNat := ⟨_, rfl⟩
      have hzx : ((b[k]'(by omega)) == 0) = decide (x = 0) := by
        rw [hx]
        by_cases h0 : (b[k]'(by omega)) = 0
        · rw [h0]; rfl
        · have : ¬ (b[k]'(by omega)).toNat = 0 := fun h => h0 (UInt8.toNat_inj.1 h)
          simp [h0, this]
      rw [← hx] at hcj
      rw [hzx] at hz
      have HZ := Lib.hid hz
      clear hz hzx hx
      obtain ⟨z, hz⟩ : ∃ z, z = allZb b k := ⟨_, rfl⟩
      rw [← hz]
      have HZ2 := Lib.hid hz
      clear hz
      by_cases hx0 : x = 0
      all_goals
        cases z
        all_goals
          go_wp2_with fail
          go_roundw
          case rel => exact ⟨k + 1, by omega, by go_num, by rw [HZ.out, ← HZ2.out]; simp [hx0], trivial⟩
          case measure => simp [intOf]; omega
    · have hk4 : k = 64 := by omega
      subst hk4
      by_cases hb : allZb b 64 = true
      · have hT : tellF b room = ⟨0, false, 0, 8⟩ := by unfold tellF; rw [if_pos hb]
        have HT := Lib.hid hT
        rw [hb]
        clear hb hT
        go_wp2_with fail
        refine bodyPost_ret (res4 Tryz.results113 rfl rfl rfl rfl) rfl ?_
        rw [HT.out]
        exact ⟨rfl, Fr.refl _ _⟩
      · have hb2 : allZb b 64 = false := by simpa using hb
        have hT : tellF b room = if tE3 b room ≠ 0 ∨ tN b = 0 then ⟨0, false, 0, 3⟩ else ⟨tN b, boolV (tL1 b) (tE1 b), tLong b room, 0⟩ := by unfold tellF; rw [if_neg hb]
        have HT := Lib.hid hT
        rw [hb2]
        clear hb hb2 hT
        go_wp2_with fail
        have hu1 : Calls Tryz.prog 75 #[.agg #[.slice (some ⟨ba, oa, none⟩) 64 c, .int .i64 0], .int .u64 18446744073709551614] wr fun en w' => RUI wr wr.heap.size b 0 18446744073709551614 en w' := rreaduint_any HR0.out 18446744073709551614 (by decide)
        (with_reducible refine hu1.mono ?_)
        rintro e w1 ⟨v1, rfl, hR1, hF1⟩
        replace hR1 : RRd w1 wr.heap.size v1 (tL1 b) (tE1 b) := hR1
        rw [show uintN b 0 18446744073709551614 = tN b from rfl]
        have htn := uintN_le' b 0 18446744073709551614
        replace htn : tN b ≤ 18446744073709551614 := htn
        obtain ⟨A1, c1, rfl, g1, g2, g3, g4⟩ := hR1.rep
        clear g1
        go_wp2_with fail
        have hb2 := heap_alloc_new w1 (.cells #[.slice A1 (tL1 b).length c1, .int .i64 (tE1 b)] 151)
        have hRa := hR1.fr0 ((Fr.refl none_ w1).alloc (.cells #[.slice A1 (tL1 b).length c1, .int .i64 (tE1 b)] 151))
        have hFa := hF1.alloc (.cells #[.slice A1 (tL1 b).length c1, .int .i64 (tE1 b)] 151)
        have hsz1 := hF1.size
        clear hR1 hF1 hu1 g2 g3 g4
        (with_reducible refine (rreadbool_any hRa).mono ?_)
        rintro e w2 ⟨v2, rfl, hR2, hF2⟩
        replace hR2 : RRd w2 wr.heap.size v2 (tL2 b) (tE2 b) := hR2
        obtain ⟨A2, c2, rfl, g1, g2, g3, g4⟩ := hR2.rep
        have hb3 := hF2.heap0 hb2
        have hFb := hFa.trans hF2
        clear g1 g2 g3 g4 hFa hF2 hb2 hRa
        have KQ := Lib.hid (And.intro hR2 (And.intro hb3 hFb))
        clear hR2 hb3 hFb
        go_wp2_with (first
          | ((with_reducible refine at_store 151 (.tmp 10) (.tmp 38) (b := w1.heap.size) (c' := #[.slice A2 (tL2 b).length c2, .int .i64 (tE2 b)]) ?_ ?_ KQ.out.2.1 ?_ ?_ ?_ ?_); (focus rfl); (focus rfl); (focus rfl); (focus kernel_rfl); (focus (intro u hu; simp at hu; rcases hu with rfl | rfl <;> rfl)); intro w3 hF3 hb4; have KR := Lib.hid (And.intro (KQ.out.1.fr hF3 (fun i h e => by omega)) (And.intro hb4 (KQ.out.2.2.own hF3 (by omega)))); clear hF3 hb4)
          | ((with_reducible refine at_load 151 (.tmp 10) (b := w1.heap.size) ?_ KR.out.2.1 Tryz.underlying151 rfl (by kernel_rfl) ?_); (focus rfl)))
        (with_reducible refine (rreaduint_any KR.out.1 room (by omega)).mono ?_)
        rintro e w4 ⟨v3, rfl, hR4, hF4⟩
        replace hR4 : RRd w4 wr.heap.size v3 (uintL (tL2 b) (tE2 b) room) (tE3 b room) := hR4
        obtain ⟨A3, c3, rfl, g1, g2, g3, g4⟩ := hR4.rep
        rw [show uintN (tL2 b) (tE2 b) room = tLong b room from rfl]
        have htl := uintN_le' (tL2 b) (tE2 b) room
        replace htl : tLong b room ≤ room := htl
        have KS := Lib.hid (And.intro (hF4.heap0 KR.out.2.1) (KR.out.2.2.trans hF4))
        clear g1 g2 g3 g4 hF4 hR4
        have harm : True := trivial
        by_cases h3 : tE3 b room = 0
        · rw [h3]
          by_cases hn : tN b = 0
          · have hn2 : ((tN b : Nat) : Int) = 0 := by omega
            go_wp2_with ((with_reducible refine at_store 151 (.tmp 10) (.tmp 45) (b := w1.heap.size) (c' := #[.slice A3 (uintL (tL2 b) (tE2 b) room).length c3, .int .i64 0]) ?_ ?_ KS.out.1 ?_ ?_ ?_ ?_); (focus rfl); (focus rfl); (focus rfl); (focus kernel_rfl); (focus (intro u hu; simp at hu; rcases hu with rfl | rfl <;> rfl)); intro w5 hF5 hb5; have e5 : w5.cell? ⟨w1.heap.size, 1, none⟩ = some (.int .i64 0) := (by rw [cell_of_blk hb5]; rfl); have KT := Lib.hid (And.intro hb5 (KS.out.2.own hF5 (by omega))); clear hF5 hb5)
            refine bodyPost_ret (res4 Tryz.results113 rfl rfl rfl rfl) rfl ?_
            rw [HT.out, if_pos (.inr hn)]
            exact ⟨rfl, KT.out.2⟩
          · have hn2 : ¬ ((tN b : Nat) : Int) = 0 := by omega
            go_wp2_with ((with_reducible refine at_store 151 (.tmp 10) (.tmp 45) (b := w1.heap.size) (c' := #[.slice A3 (uintL (tL2 b) (tE2 b) room).length c3, .int .i64 0]) ?_ ?_ KS.out.1 ?_ ?_ ?_ ?_); (focus rfl); (focus rfl); (focus rfl); (focus kernel_rfl); (focus (intro u hu; simp at hu; rcases hu with rfl | rfl <;> rfl)); intro w5 hF5 hb5; have e5 : w5.cell? ⟨w1.heap.size, 1, none⟩ = some (.int .i64 0) := (by rw [cell_of_blk hb5]; rfl); have KT := Lib.hid (And.intro hb5 (KS.out.2.own hF5 (by omega))); clear hF5 hb5)
            refine bodyPost_ret (res4 Tryz.results113 rfl rfl rfl rfl) rfl ?_
            rw [HT.out, if_neg (fun h => h.elim (fun h => h h3) hn)]
            exact ⟨rfl, KT.out.2⟩
        · obtain ⟨E, hE⟩ : ∃ E, E = tE3 b room := ⟨_, rfl⟩
          rw [← hE]
          have k1 : (E == 0) = false := by rw [hE]; simpa using h3
          have k2 : (E != 0) = true := by rw [hE]; simpa using h3
          have HE := Lib.hid h3
          clear hE h3
          go_wp2_with ((with_reducible refine at_store 151 (.tmp 10) (.tmp 45) (b := w1.heap.size) (c' := #[.slice A3 (uintL (tL2 b) (tE2 b) room).length c3, .int .i64 E]) ?_ ?_ KS.out.1 ?_ ?_ ?_ ?_); (focus rfl); (focus rfl); (focus rfl); (focus kernel_rfl); (focus (intro u hu; simp at hu; rcases hu with rfl | rfl <;> rfl)); intro w5 hF5 hb5; have e5 : w5.cell? ⟨w1.heap.size, 1, none⟩ = some (.int .i64 E) := (by rw [cell_of_blk hb5]; rfl); have KT := Lib.hid (And.intro hb5 (KS.out.2.own hF5 (by omega))); clear hF5 hb5)
          refine bodyPost_ret (res4 Tryz.results113 rfl rfl rfl rfl) rfl ?_
          rw [HT.out, if_pos (.inl HE.out)]
          exact ⟨rfl, KT.out.2⟩
end Go.Proofs.YtffolfemcllfkaaGreatDoor

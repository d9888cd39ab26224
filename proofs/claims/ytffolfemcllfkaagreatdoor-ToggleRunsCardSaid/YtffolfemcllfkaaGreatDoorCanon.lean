import Derived.Test.YtffolfemcllfkaaGreatDoorReaderM
namespace Go.Proofs.YtffolfemcllfkaaGreatDoor
open Go.RowKit
set_option linter.unusedVariables false
set_option linter.unusedSimpArgs false
set_option maxRecDepth 100000

/-! pack: a number that is read lies there as it is laid (plain). -/
theorem snoc_ind {P : List UInt8 → Prop} (h0 : P []) (h1 : ∀ L c, P L → P (L ++ [c])) (L : List UInt8) : P L := by
  have key : ∀ M : List UInt8, P M.reverse := by
    intro M
    induction M with
    | nil => exact h0
    | cons c M ih => rw [List.reverse_cons]; exact h1 _ _ ih
  have := key L.reverse
  rwa [List.reverse_reverse] at this
theorem foldN_snoc (n0 : Nat) (L : List UInt8) (c : UInt8) : foldN n0 (L ++ [c]) = foldN n0 L * 256 % 18446744073709551616 ||| c.toNat := by
  unfold foldN; rw [List.foldl_append]; rfl
theorem foldN_le (n0 : Nat) (L : List UInt8) : (n0 + 1) * 256 ^ L.length ≤ 256 ^ 8 → foldN n0 L + 1 ≤ (n0 + 1) * 256 ^ L.length := by
  induction L using snoc_ind with
  | h0 => intro _; simp [foldN]
  | h1 L c ih =>
    intro h
    rw [List.length_append, List.length_singleton, Nat.pow_succ, ← Nat.mul_assoc] at h ⊢
    have h1 := ih (by omega)
    have hc := c.toNat_lt
    have hp : (256 : Nat) ^ 8 = 18446744073709551616 := by decide
    rw [foldN_snoc, Nat.mod_eq_of_lt (by omega), or_low _ _ (by omega)]
    omega
theorem foldN_inj (L : List UInt8) : ∀ (L' : List UInt8) (n0 n0' : Nat), L.length = L'.length → (n0 + 1) * 256 ^ L.length ≤ 256 ^ 8 → (n0' + 1) * 256 ^ L'.length ≤ 256 ^ 8 → foldN n0 L = foldN n0' L' → n0 = n0' ∧ L = L' := by
  induction L using snoc_ind with
  | h0 =>
    intro L' n0 n0' hl h1 h2 he
    obtain rfl : L' = [] := List.length_eq_zero_iff.1 hl.symm
    exact ⟨he, rfl⟩
  | h1 L c ih =>
    intro L' n0 n0' hl h1 h2 he
    rcases List.eq_nil_or_concat L' with rfl | ⟨L2, c2, rfl⟩
    · simp at hl
    · rw [List.concat_eq_append] at *
      rw [List.length_append, List.length_append, List.length_singleton, List.length_singleton] at hl
      rw [List.length_append, List.length_singleton, Nat.pow_succ, ← Nat.mul_assoc] at h1 h2
      have b1 := foldN_le n0 L (by omega)
      have b2 := foldN_le n0' L2 (by omega)
      have hp : (256 : Nat) ^ 8 = 18446744073709551616 := by decide
      have hc := c.toNat_lt
      have hc2 := c2.toNat_lt
      rw [foldN_snoc, foldN_snoc, Nat.mod_eq_of_lt (by omega), Nat.mod_eq_of_lt (by omega), or_low _ _ (by omega), or_low _ _ (by omega)] at he
      obtain ⟨r1, r2⟩ := ih L2 n0 n0' (by omega) (by omega) (by omega) (by omega)
      have : c = c2 := UInt8.toNat_inj.1 (by omega)
      rw [r2, this]
      exact ⟨r1, rfl⟩
theorem byte_back : ∀ i : Fin 256, UInt8.ofNat (if leadF (UInt8.ofNat i.val) < 8 then headN (leadF (UInt8.ofNat i.val)) ||| (firstB (UInt8.ofNat i.val) % 256) else 255) = UInt8.ofNat i.val := by decide +kernel
theorem firstB_small : ∀ i : Fin 256, leadF (UInt8.ofNat i.val) < 8 → firstB (UInt8.ofNat i.val) < 2 ^ (7 - leadF (UInt8.ofNat i.val)) := by decide +kernel
theorem firstB_8 : ∀ i : Fin 256, leadF (UInt8.ofNat i.val) = 8 → firstB (UInt8.ofNat i.val) = 0 := by decide +kernel
theorem u8_fin (x : UInt8) : ∃ i : Fin 256, x = UInt8.ofNat i.val := ⟨⟨x.toNat, x.toNat_lt⟩, by simp⟩
/-- what is read as a number is a number's bytes -/
theorem numberF_canon {l : List UInt8} {n k : Nat} (h : numberF l = (n, k, 0)) : k = behindF n + 1 ∧ l.take k = encF n ∧ n < 18446744073709551616 := by
  have hn := numberF_n l
  rw [h] at hn
  replace hn : n < 18446744073709551616 := hn
  cases l with
  | nil => simp [numberF] at h
  | cons x r =>
    rw [numberF_cons] at h
    split at h
    · simp at h
    · rename_i hlen
      split at h
      · rename_i hbe
        simp only [Prod.mk.injEq] at h
        obtain ⟨h1, h2, _⟩ := h
        have hK : behindF n = leadF x := by rw [← h1]; exact hbe
        refine ⟨by rw [hK]; exact h2.symm, ?_, hn⟩
        obtain ⟨i, hi⟩ := u8_fin x
        have hle := leadF_le x
        obtain ⟨f1, f2⟩ := first_ok n hn
        have hrest := fold_rest n (behindF n) hn (behindF n) (Nat.le_refl _)
        rw [List.take_of_length_le (by simp), Nat.sub_self, Nat.mul_zero, Nat.pow_zero, Nat.div_one] at hrest
        have hlr : (r.take (leadF x)).length = leadF x := by rw [List.length_take]; omega
        have hb1 : (firstB x + 1) * 256 ^ (leadF x) ≤ 256 ^ 8 := by
          rcases Nat.lt_or_ge (leadF x) 8 with hk | hk
          · have := firstB_small i
            rw [← hi] at this
            have h3 := this hk
            have h4 : (firstB x + 1) * 256 ^ (leadF x) ≤ 2 ^ (7 - leadF x) * 256 ^ (leadF x) := Nat.mul_le_mul_right _ h3
            refine Nat.le_trans h4 ?_
            generalize leadF x = K at *
            have : K = 0 ∨ K = 1 ∨ K = 2 ∨ K = 3 ∨ K = 4 ∨ K = 5 ∨ K = 6 ∨ K = 7 := by omega
            rcases this with rfl | rfl | rfl | rfl | rfl | rfl | rfl | rfl <;> decide
          · have hk8 : leadF x = 8 := by omega
            have := firstB_8 i
            rw [← hi] at this
            rw [this hk8, hk8]
            decide
        have hb2 : (n / 2 ^ (8 * behindF n) + 1) * 256 ^ (behindF n) ≤ 256 ^ 8 := by
          have e : n / 2 ^ (8 * behindF n) = firstB (UInt8.ofNat (firstN n)) := f2.symm
          rcases Nat.lt_or_ge (behindF n) 8 with hk | hk
          · have h3 := high_lt n hk hn
            have h4 : (n / 2 ^ (8 * behindF n) + 1) * 256 ^ (behindF n) ≤ 2 ^ (7 - behindF n) * 256 ^ (behindF n) := Nat.mul_le_mul_right _ h3
            refine Nat.le_trans h4 ?_
            generalize behindF n = K at *
            have : K = 0 ∨ K = 1 ∨ K = 2 ∨ K = 3 ∨ K = 4 ∨ K = 5 ∨ K = 6 ∨ K = 7 := by omega
            rcases this with rfl | rfl | rfl | rfl | rfl | rfl | rfl | rfl <;> decide
          · have hk8 : behindF n = 8 := by have := behindF_le n; omega
            rw [hk8]
            have : n / 2 ^ (8 * 8) = 0 := Nat.div_eq_of_lt (by omega)
            rw [this]
            decide
        obtain ⟨e1, e2⟩ := foldN_inj (r.take (leadF x)) ((List.range (behindF n)).map (restB n (behindF n))) (firstB x) (n / 2 ^ (8 * behindF n)) (by rw [hlr]; simp [hK]) (by rw [hlr]; exact hb1) (by simpa using hb2) (h1.trans hrest.symm)
        rw [← h2, List.take_succ_cons, e2]
        unfold encF
        congr 1
        unfold firstN
        have hbb := byte_back i
        rw [← hi] at hbb
        rw [e1, ← hK] at hbb
        exact hbb.symm
      · simp at h
end Go.Proofs.YtffolfemcllfkaaGreatDoor

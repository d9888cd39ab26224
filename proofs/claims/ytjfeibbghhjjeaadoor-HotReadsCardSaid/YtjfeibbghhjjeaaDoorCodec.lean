import Derived.Test.YtjfeibbghhjjeaaDoorReader3
namespace Go.Proofs.YtjfeibbghhjjeaaDoor
open Go.RowKit
set_option linter.unusedVariables false
set_option linter.unusedSimpArgs false

/-! What Uint lays is what Uint takes off. -/
theorem or_low (m b : Nat) (hb : b < 256) : m * 256 ||| b = m * 256 + b := by
  have h := Nat.shiftLeft_add_eq_or_of_lt (i := 8) (b := b) (by omega) m
  rw [Nat.shiftLeft_eq] at h
  exact h.symm
theorem behindF_lt (n : Nat) (hn : n < 18446744073709551616) : n < 2 ^ (7 * behindF n + 7) ∨ behindF n = 8 := by
  unfold behindF
  (repeat' split) <;> simp <;> omega
theorem high_lt (n : Nat) (hk : behindF n < 8) (hn : n < 18446744073709551616) : n / 2 ^ (8 * behindF n) < 2 ^ (7 - behindF n) := by
  rcases behindF_lt n hn with h | h
  · rw [Nat.div_lt_iff_lt_mul (Nat.two_pow_pos _), ← Nat.pow_add]
    have e : 7 - behindF n + 8 * behindF n = 7 * behindF n + 7 := by omega
    rw [e]; exact h
  · omega
theorem first_bits : ∀ k : Fin 8, ∀ h : Fin (2 ^ (7 - k.val)), leadF (UInt8.ofNat (headN k.val ||| (h.val % 256))) = k.val ∧ firstB (UInt8.ofNat (headN k.val ||| (h.val % 256))) = h.val := by decide +kernel
theorem first_8 : leadF (UInt8.ofNat 255) = 8 ∧ firstB (UInt8.ofNat 255) = 0 := by decide +kernel
theorem first_ok (n : Nat) (hn : n < 18446744073709551616) : leadF (UInt8.ofNat (firstN n)) = behindF n ∧ firstB (UInt8.ofNat (firstN n)) = n / 2 ^ (8 * behindF n) := by
  have h8 := behindF_le n
  by_cases hk : behindF n < 8
  · have hh := high_lt n hk hn
    have := first_bits ⟨behindF n, hk⟩ ⟨n / 2 ^ (8 * behindF n), hh⟩
    unfold firstN
    rw [if_pos hk]
    exact this
  · have e : behindF n = 8 := by omega
    unfold firstN
    rw [if_neg hk, e]
    refine ⟨first_8.1, ?_⟩
    rw [first_8.2]
    symm
    apply Nat.div_eq_of_lt
    omega
theorem fold_rest (n k : Nat) (hn : n < 18446744073709551616) (i : Nat) (hi : i ≤ k) : foldN (n / 2 ^ (8 * k)) (((List.range k).map (restB n k)).take i) = n / 2 ^ (8 * (k - i)) := by
  induction i with
  | zero => simp [foldN]
  | succ i ih =>
    rw [foldN_step _ _ _ (by simp; omega), ih (by omega)]
    simp only [List.getElem_map, List.getElem_range]
    have e1 : 8 * (k - i) = 8 * (k - (i + 1)) + 8 := by omega
    have e2 : k - 1 - i = k - (i + 1) := by omega
    unfold restB
    rw [e1, e2, Nat.pow_add, ← Nat.div_div_eq_div_mul]
    have hN : n / 2 ^ (8 * (k - (i + 1))) ≤ n := Nat.div_le_self _ _
    generalize n / 2 ^ (8 * (k - (i + 1))) = N at *
    have e3 : (UInt8.ofNat N).toNat = N % 256 := by simp
    rw [e3, Nat.mod_eq_of_lt (by omega : N / 2 ^ 8 * 256 < 18446744073709551616), or_low _ _ (Nat.mod_lt _ (by omega))]
    omega
theorem numberF_enc (n : Nat) (hn : n < 18446744073709551616) (rest : List UInt8) : numberF (encF n ++ rest) = (n, behindF n + 1, 0) := by
  obtain ⟨h1, h2⟩ := first_ok n hn
  unfold encF
  rw [List.cons_append, numberF_cons, h1, h2, if_neg (by simp)]
  have ht : (((List.range (behindF n)).map (restB n (behindF n))) ++ rest).take (behindF n) = (List.range (behindF n)).map (restB n (behindF n)) := by
    rw [List.take_append_of_le_length (by simp), List.take_of_length_le (by simp)]
  have hf := fold_rest n (behindF n) hn (behindF n) (Nat.le_refl _)
  rw [List.take_of_length_le (by simp), Nat.sub_self] at hf
  simp only [Nat.mul_zero, Nat.pow_zero, Nat.div_one] at hf
  rw [ht, hf, if_pos rfl]
theorem drop_enc (n : Nat) (rest : List UInt8) : (encF n ++ rest).drop (behindF n + 1) = rest := by
  rw [← encF_len n, List.drop_left]
/-- Uint takes off what Uint has laid, if it is within the bound. -/
theorem uint_enc (n most : Nat) (hn : n ≤ most) (hm : most < 18446744073709551616) (rest : List UInt8) : uintN (encF n ++ rest) 0 most = n ∧ uintL (encF n ++ rest) 0 most = rest ∧ uintE (encF n ++ rest) 0 most = 0 := by
  have h := numberF_enc n (by omega) rest
  have hE : boundE (encF n ++ rest) most 4 0 = 0 := by
    unfold boundE; rw [h]
    simp
    omega
  unfold uintN uintL uintE boundN boundL
  rw [hE, h]
  simp [drop_enc]
end Go.Proofs.YtjfeibbghhjjeaaDoor

import Derived.Test.YtjfeibbghhjjeaaDoorReader
import Derived.Deep.RegionHeld3
namespace Go.Proofs.YtjfeibbghhjjeaaDoor
open Go.RowKit
set_option linter.unusedVariables false
set_option linter.unusedSimpArgs false
/-- how many bits 1 a byte begins with -/
def leadF (x : UInt8) : Nat := 8 - Lib.bitLen (255 - x.toNat)
def foldN (n0 : Nat) (l : List UInt8) : Nat := l.foldl (fun n c => n * 256 % 18446744073709551616 ||| c.toNat) n0
def firstB (x : UInt8) : Nat := x.toNat % 2 ^ (8 - leadF x)
def numberF (l : List UInt8) : Nat × Nat × Int :=
  match l with
  | [] => (0, 0, 12)
  | x :: r => if r.length < leadF x then (0, 0, 12) else if behindF (foldN (firstB x) (r.take (leadF x))) = leadF x then (foldN (firstB x) (r.take (leadF x)), leadF x + 1, 0) else (0, 0, 3)
theorem not_u8 (x : Nat) (hx : x < 256) : bits BinOp.xor IntKind.u8 IntKind.u8.max (x : Int) = ((255 - x : Nat) : Int) := by
  have h : ∀ y : Fin 256, bits BinOp.xor IntKind.u8 IntKind.u8.max ((y.val : Nat) : Int) = ((255 - y.val : Nat) : Int) := by decide +kernel
  exact h ⟨x, hx⟩
theorem andnot_u8 (x k : Nat) (hx : x < 256) (hk : k ≤ 8) : IntKind.u64.wrap (bits BinOp.andNot IntKind.u8 (x : Int) ((256 - 2 ^ (8 - k) : Nat) : Int)) = ((x % 2 ^ (8 - k) : Nat) : Int) := by
  have h : ∀ y : Fin 256, ∀ j : Fin 9, IntKind.u64.wrap (bits BinOp.andNot IntKind.u8 ((y.val : Nat) : Int) ((256 - 2 ^ (8 - j.val) : Nat) : Int)) = ((y.val % 2 ^ (8 - j.val) : Nat) : Int) := by decide +kernel
  exact h ⟨x, hx⟩ ⟨k, by omega⟩
theorem foldN_lt (n0 : Nat) (h : n0 < 18446744073709551616) (l : List UInt8) : foldN n0 l < 18446744073709551616 := by
  unfold foldN
  induction l generalizing n0 with
  | nil => exact h
  | cons y l ih =>
    simp only [List.foldl_cons]
    apply ih
    have : y.toNat < 256 := UInt8.toNat_lt y
    exact Nat.or_lt_two_pow (n := 64) (by omega) (by omega)
theorem firstB_lt (x : UInt8) : firstB x < 18446744073709551616 := by
  have hx : x.toNat < 256 := UInt8.toNat_lt x
  unfold firstB
  exact Nat.lt_of_le_of_lt (Nat.mod_le _ _) (by omega)
theorem foldN_step (n0 : Nat) (l : List UInt8) (j : Nat) (h : j < l.length) : foldN n0 (l.take (j + 1)) = foldN n0 (l.take j) * 256 % 18446744073709551616 ||| l[j].toNat := by
  unfold foldN
  rw [List.take_succ_eq_append_getElem h, List.foldl_append]
  rfl
theorem bits_or_u64_nat (a b : Nat) (ha : a < 18446744073709551616) (hb : b < 18446744073709551616) : bits .or .u64 (a : Int) (b : Int) = ((a ||| b : Nat) : Int) := by
  have hx : a ||| b < 2 ^ 64 := Nat.or_lt_two_pow (by omega) (by omega)
  have h1 : (BitVec.ofInt 64 (a : Int)).toNat = a := by
    rw [BitVec.ofInt_natCast, BitVec.toNat_ofNat]; exact Nat.mod_eq_of_lt (by omega)
  have h2 : (BitVec.ofInt 64 (b : Int)).toNat = b := by
    rw [BitVec.ofInt_natCast, BitVec.toNat_ofNat]; exact Nat.mod_eq_of_lt (by omega)
  show IntKind.u64.wrap ((BitVec.ofInt 64 (a : Int) ||| BitVec.ofInt 64 (b : Int)).toNat : Int) = _
  rw [BitVec.toNat_or, h1, h2, IntKind.wrap_u64]
  omega
theorem or_step (n : Nat) (y : UInt8) : Value.int .u64 (bits BinOp.or IntKind.u64 (IntKind.u64.wrap ((n : Int) * 256)) (IntKind.u64.wrap (y.toNat : Int))) = Value.int .u64 ((n * 256 % 18446744073709551616 ||| y.toNat : Nat) : Int) := by
  have hy : y.toNat < 256 := UInt8.toNat_lt y
  have h1 : IntKind.u64.wrap ((n : Int) * 256) = ((n * 256 % 18446744073709551616 : Nat) : Int) := by rw [IntKind.wrap_u64]; omega
  have h2 : IntKind.u64.wrap (y.toNat : Int) = (y.toNat : Int) := by rw [IntKind.wrap_u64]; omega
  rw [h1, h2, bits_or_u64_nat _ _ (by omega) (by omega)]
theorem leadF_le (x : UInt8) : leadF x ≤ 8 := by unfold leadF; omega
theorem lead_int (x : UInt8) : (8 : Int) - (Lib.bitLen (255 - x.toNat) : Int) = (leadF x : Nat) := by
  have hx : x.toNat < 256 := UInt8.toNat_lt x
  have : Lib.bitLen (255 - x.toNat) ≤ 8 := (bitLen_iff (255 - x.toNat) 8 (by omega) (by omega)).2 (by omega)
  unfold leadF; omega
theorem numberF_cons (x : UInt8) (r : List UInt8) : numberF (x :: r) = if r.length < leadF x then (0, 0, 12) else if behindF (foldN (firstB x) (r.take (leadF x))) = leadF x then (foldN (firstB x) (r.take (leadF x)), leadF x + 1, 0) else (0, 0, 3) := rfl
def numV (t : Nat × Nat × Int) : Value := .tuple #[.int .u64 (t.1 : Int), .int .i64 (t.2.1 : Int), errV t.2.2]
set_option maxHeartbeats 1000000 in
theorem number_any (w : World) (A : Option Addr) (n c : Nat) (l : List UInt8) (hn : n = l.length) (hA : CellsAt w A (l.map byteV)) (hc : n ≤ c) (hm : l.length ≤ 140737488351232) :
    Calls Tryd.prog 62 #[.slice A n c] w fun e w' => e = .returned (numV (numberF l)) ∧ Fr none_ w w' := by
  subst hn
  cases l with
  | nil =>
    go_enter Tryd.func62, Tryd.ntmps62
    go_wp2_with fail
    go_wp2_with fail
    exact bodyPost_ret (v := numV (numberF [])) (by simp [results, Tryd.results62, go_sem]; rfl) rfl ⟨rfl, Fr.refl _ _⟩
  | cons x r =>
    obtain ⟨b, o, rfl, hc0⟩ := hA 0 (by simp)
    have hc0 : w.cell? ⟨b, o, none⟩ = some (.int .u8 (x.toNat : Int)) := hc0
    have hx : x.toNat < 256 := UInt8.toNat_lt x
    obtain ⟨T, hT⟩ : ∃ T, T = numberF (x :: r) := ⟨_, rfl⟩
    rw [← hT]
    have HT := Lib.hid (hT.trans (numberF_cons x r))
    clear hT
    simp only [List.length_cons] at hc hm
    rw [List.length_cons]
    have hlen : (0 : Int) < ((r.length + 1 : Nat) : Int) := by omega
    have hlen0 : ¬ ((r.length + 1 : Nat) : Int) = 0 := by omega
    go_enter Tryd.func62, Tryd.ntmps62
    go_wp2_with fail
    rw [not_u8 x.toNat hx]
    (with_reducible refine (Tryd.bits_LeadingZeros8 _ _ (by omega) (by omega)).mono ?_)
    rintro e w1 ⟨rfl, hw⟩
    have hw2 := hw.symm
    subst hw2
    rw [Int.toNat_natCast, lead_int]
    have hk8 := leadF_le x
    obtain ⟨k, hk⟩ : ∃ k, k = leadF x := ⟨_, rfl⟩
    have HK := Lib.hid hk
    rw [← hk] at hk8 ⊢
    clear hk
    by_cases hlk : r.length < k
    · have hlk2 : (r.length : Int) + 1 ≤ (k : Int) := by omega
      go_wp2_with fail
      have hres : T = (0, 0, 12) := by rw [HT.out, ← HK.out, if_pos hlk]
      rw [hres]
      exact bodyPost_ret (v := numV (0, 0, 12)) (by simp [results, Tryd.results62, go_sem]; rfl) rfl ⟨rfl, Fr.refl _ _⟩
    · have hlk2 : ¬ (r.length : Int) + 1 ≤ (k : Int) := by omega
      have hT2 : T = if behindF (foldN (firstB x) (r.take k)) = k then (foldN (firstB x) (r.take k), k + 1, 0) else (0, 0, 3) := by rw [HT.out, ← HK.out, if_neg hlk]
      have HT2 := Lib.hid hT2
      clear hT2 HT
      go_wp2_with fail
      have hcd : w.drew.cell? ⟨b, o, none⟩ = some (.int .u8 (x.toNat : Int)) := hc0
      go_region_held3 (fun w' => w'.cell? ⟨b, o, none⟩ = some (.int .u8 (x.toNat : Int))) (exact hcd) (first | (go_at_call 58; (with_reducible refine (head_any k _ hk8).mono ?_); rintro e w1 ⟨rfl, hw1⟩; have hw2 := hw1.symm; subst hw2))
      rw [andnot_u8 x.toNat k hx hk8]
      have hfb : firstB x = x.toNat % 2 ^ (8 - k) := by unfold firstB; rw [← HK.out]
      rw [← hfb]
      have HF := Lib.hid hfb
      have hA2 : CellsAt w.drew (some ⟨b, o, none⟩) ((x :: r).map byteV) := hA
      have q1 : (1 : Int) ≤ (k : Int) + 1 := by omega
      have q2 : (k : Int) + 1 ≤ (c : Int) := by omega
      clear hfb
      have hcs : ∀ j (hj : j < r.length), w.drew.cell? ⟨b, o + 1 + j, none⟩ = some (.int .u8 (r[j].toNat : Int)) := fun j hj => by
        have h := hA2.get (j + 1) (by simp; omega)
        rw [show o + 1 + j = o + (j + 1) by omega, h]
        simp [byteV]
      have HCS := Lib.hid hcs
      clear hcs hA2 hA
      obtain hc1 | hc1 : c = 1 ∨ ¬ c = 1 := by omega
      all_goals
        go_wp2_with fail
        go_loopw [6, 35] (fun v i wr => ∃ j : Nat, j ≤ k ∧ i = .int .i64 j ∧ v = .int .u64 (foldN (firstB x) (r.take j) : Nat) ∧ wr = w.drew) (fun _ i _ => k - (intOf i).toNat)
        case atStart => exact ⟨0, by omega, rfl, rfl, rfl⟩
        case round =>
          obtain ⟨j, hj, rfl, rfl, rfl⟩ := hrel
          by_cases hlt : j < k
          · have hcj := HCS.out j (by omega)
            go_wp2_with fail
            all_goals
              go_roundw
              case rel =>
                refine ⟨j + 1, by omega, by go_num, ?_, by simp⟩
                rw [foldN_step _ _ _ (by omega)]
                exact or_step _ _
              case measure => simp [intOf]; omega
          · have hjk : j = k := by omega
            subst hjk
            go_wp2_with fail
            (with_reducible refine (behind_any _ _ (foldN_lt _ (firstB_lt x) _)).mono ?_)
            rintro e w1 ⟨rfl, rfl⟩
            by_cases hbk : behindF (foldN (firstB x) (r.take j)) = j
            · have hres : T = (foldN (firstB x) (r.take j), j + 1, 0) := by rw [HT2.out, if_pos hbk]
              go_wp2_with fail
              exact bodyPost_ret (v := numV T) (by rw [hres]; simp [results, Tryd.results62, go_sem]; rfl) rfl ⟨rfl, (Fr.refl _ _).drew⟩
            · have hres : T = (0, 0, 3) := by rw [HT2.out, if_neg hbk]
              have hbk2 : ¬ ((behindF (foldN (firstB x) (r.take j)) : Nat) : Int) = (j : Int) := by omega
              go_wp2_with fail
              exact bodyPost_ret (v := numV T) (by rw [hres]; simp [results, Tryd.results62, go_sem]; rfl) rfl ⟨rfl, (Fr.refl _ _).drew⟩
end Go.Proofs.YtjfeibbghhjjeaaDoor

import Derived.Test.YthkcmafflbpfoaaLog11
import Derived.Test.YthkcmafflbpfoaaCodec
import Derived.Test.YthkcmafflbpfoaaLogR1
namespace Go.Proofs.Ythkcmafflbpfoaa
open Go.RowKit
set_option linter.unusedVariables false
set_option linter.unusedSimpArgs false
set_option maxRecDepth 100000

/-! log: which records bytes hold (plain). -/
/-- the bytes of the first sectors, without their tags -/
def preB (l : List UInt8) (k : Nat) : List UInt8 := (List.range k).flatMap (fun i => (l.drop (i * 64 + 8)).take 56)
theorem preB_succ (l : List UInt8) (k : Nat) : preB l (k + 1) = preB l k ++ (l.drop (k * 64 + 8)).take 56 := by
  unfold preB; rw [List.range_succ, List.flatMap_append]; simp
theorem preB_len (l : List UInt8) (k : Nat) (h : k * 64 ≤ l.length) : (preB l k).length = k * 56 := by
  induction k with
  | zero => rfl
  | succ k ih => rw [preB_succ, List.length_append, ih (by omega), List.length_take, List.length_drop]; omega
/-- so many sectors have the tag -/
structure TagK (l : List UInt8) (seq k : Nat) : Prop where
  le : k * 64 ≤ l.length
  tags : ∀ i, i < k → (l.drop (i * 64)).take 8 = tagL seq
  stop : l.length = k * 64 ∨ (l.drop (k * 64)).take 8 ≠ tagL seq
def oneL (B : List UInt8) : List UInt8 := uintL B 0 1099511627776
def oneE (B : List UInt8) : Int := uintE B 0 1099511627776
def oneD (B : List UInt8) : List UInt8 := bytD (oneL B) (oneE B)
def oneR (B : List UInt8) : Nat := B.length - (bytL (oneL B) (oneE B)).length + 4
def oneOk (B : List UInt8) (seq : Nat) : Prop := bytE (oneL B) (oneE B) = 0 ∧ oneR B ≤ B.length ∧ uintN B 0 1099511627776 = seq ∧ B.take (oneR B) = seaB (oneD B) seq
instance (B : List UInt8) (seq : Nat) : Decidable (oneOk B seq) := by unfold oneOk; infer_instance
/-- the record that bytes begin with, and its sectors -/
def oneF (B : List UInt8) (seq : Nat) : Option (List UInt8 × Nat) := if oneOk B seq then some (oneD B, secN (oneR B)) else none
theorem bytE_enc (n : Nat) (hn : n ≤ 65536) (d r : List UInt8) (hd : d.length = n) : bytE (encF n ++ (d ++ r)) 0 = 0 ∧ bytD (encF n ++ (d ++ r)) 0 = d ∧ bytL (encF n ++ (d ++ r)) 0 = r := by
  have hnum := numberF_enc n (by omega) (d ++ r)
  have hE : boundE (encF n ++ (d ++ r)) 65536 2 12 = 0 := by
    unfold boundE
    rw [hnum]
    have hdr := congrArg List.length (drop_enc n (d ++ r))
    rw [List.length_drop, show (d ++ r).length = d.length + r.length from List.length_append] at hdr
    rw [if_neg (by simp), if_neg (by simp; omega), if_neg (by show ¬ _ - (behindF n + 1) < n; omega)]
  have hN : boundN (encF n ++ (d ++ r)) 65536 2 12 = n := by unfold boundN; rw [if_pos hE, hnum]
  have hL : boundL (encF n ++ (d ++ r)) 65536 2 12 = d ++ r := by unfold boundL; rw [if_pos hE, hnum]; exact drop_enc n (d ++ r)
  have hb : bytE (encF n ++ (d ++ r)) 0 = 0 := by unfold bytE; rw [if_pos rfl, hE]
  refine ⟨hb, ?_, ?_⟩
  · unfold bytD; rw [if_pos hb, hN, hL, ← hd, List.take_left']; rfl
  · unfold bytL; rw [if_pos hb, hN, hL, ← hd, List.drop_left']; rfl
theorem oneF_rec (d : List UInt8) (seq : Nat) (hd : d.length ≤ 65536) (hs : seq ≤ 1099511627776) (pad : List UInt8) : oneF (seaB d seq ++ pad) seq = some (d, secN (seaB d seq).length) := by
  have hB : seaB d seq ++ pad = encF seq ++ (encF d.length ++ (d ++ (lastB (sumF (recB d seq)) ++ pad))) := by
    unfold seaB sealB recB; simp only [List.append_assoc]
  obtain ⟨u1, u2, u3⟩ := uint_enc seq 1099511627776 hs (by omega) (encF d.length ++ (d ++ (lastB (sumF (recB d seq)) ++ pad)))
  obtain ⟨b1, b2, b3⟩ := bytE_enc d.length hd d (lastB (sumF (recB d seq)) ++ pad) rfl
  rw [← hB] at u1 u2 u3
  have hL : oneL (seaB d seq ++ pad) = encF d.length ++ (d ++ (lastB (sumF (recB d seq)) ++ pad)) := u2
  have hE : oneE (seaB d seq ++ pad) = 0 := u3
  have hD : oneD (seaB d seq ++ pad) = d := by unfold oneD; rw [hL, hE]; exact b2
  have hl4 : (lastB (sumF (recB d seq))).length = 4 := rfl
  have hR : oneR (seaB d seq ++ pad) = (seaB d seq).length := by
    unfold oneR
    rw [hL, hE, b3, List.length_append, List.length_append, hl4, seaB_len]
    omega
  unfold oneF
  rw [if_pos ?_, hD, hR]
  refine ⟨by rw [hL, hE]; exact b1, by rw [hR, List.length_append]; omega, u1, ?_⟩
  rw [hR, hD, List.take_left']; rfl
/-- the records that bytes hold from a number on -/
inductive Scan : List UInt8 → Nat → List (List UInt8 × Nat) → Prop
  | none {R : List UInt8} {seq k : Nat} (h : TagK R seq k) (h1 : oneF (preB R k) seq = none) : Scan R seq []
  | over {R : List UInt8} {seq : Nat} (h : 1099511627776 < seq) : Scan R seq []
  | step {R : List UInt8} {seq k n : Nat} {d : List UInt8} {rs : List (List UInt8 × Nat)} (hs : seq ≤ 1099511627776) (h : TagK R seq k) (h1 : oneF (preB R k) seq = some (d, n)) (h2 : Scan (R.drop (n * 64)) (seq + 1) rs) : Scan R seq ((d, n) :: rs)
def sizesOf (rs : List (List UInt8 × Nat)) : List Nat := rs.map (·.2)
theorem sumN_cons (x : Nat) (l : List Nat) : sumN (x :: l) = x + sumN l := by
  have key : ∀ (l : List Nat) (s : Nat), l.foldl (· + ·) s = s + l.foldl (· + ·) 0 := by
    intro l
    induction l with
    | nil => intro s; rfl
    | cons y l ih => intro s; rw [List.foldl_cons, List.foldl_cons, ih, ih (0 + y)]; omega
  unfold sumN
  rw [List.foldl_cons, key]; omega
theorem sumN_append (a b : List Nat) : sumN (a ++ b) = sumN a + sumN b := by
  induction a with
  | nil => simp [sumN]
  | cons x a ih => rw [List.cons_append, sumN_cons, sumN_cons, ih]; omega
theorem Scan.at {R : List UInt8} {seq : Nat} {rs : List (List UInt8 × Nat)} (h : Scan R seq rs) : ∀ k, k ≤ rs.length → Scan (R.drop (sumN ((sizesOf rs).take k) * 64)) (seq + k) (rs.drop k) := by
  induction h with
  | none h h1 => intro k hk; obtain rfl : k = 0 := by simpa using hk
                 exact Scan.none h h1
  | over h => intro k hk; obtain rfl : k = 0 := by simpa using hk
              exact Scan.over h
  | @step R seq k0 n d rs hs h h1 h2 ih =>
    intro k hk
    cases k with
    | zero => exact Scan.step hs h h1 h2
    | succ k =>
      have := ih k (by simpa using hk)
      rw [List.drop_drop] at this
      rw [show sizesOf ((d, n) :: rs) = n :: sizesOf rs from rfl, List.take_succ_cons, sumN_cons, show (n + sumN ((sizesOf rs).take k)) * 64 = n * 64 + sumN ((sizesOf rs).take k) * 64 by omega, show seq + (k + 1) = seq + 1 + k by omega, List.drop_succ_cons]
      exact this
theorem oneF_le {B d : List UInt8} {seq n K : Nat} (h : oneF B seq = some (d, n)) (hB : B.length ≤ K * 56) : 1 ≤ n ∧ n ≤ K := by
  unfold oneF at h
  split at h
  · rename_i hk
    cases h
    have h2 := hk.2.1
    unfold secN
    have : 4 ≤ oneR B := by unfold oneR; omega
    omega
  · cases h
theorem bytD_len (l : List UInt8) (e : Int) : (bytD l e).length ≤ 65536 := by
  unfold bytD
  split
  · rename_i h
    have : boundE l 65536 2 12 = 0 := by
      unfold bytE at h
      split at h
      · exact h
      · rename_i h2; exact absurd h h2
    rw [List.length_take]
    have := (bound_le this).2
    omega
  · simp
theorem oneF_len {B d : List UInt8} {seq n : Nat} (h : oneF B seq = some (d, n)) : d.length ≤ 65536 := by
  unfold oneF at h
  split at h
  · cases h; exact bytD_len _ _
  · cases h
end Go.Proofs.Ythkcmafflbpfoaa

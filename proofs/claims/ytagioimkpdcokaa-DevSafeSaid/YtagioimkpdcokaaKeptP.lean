import Derived.Test.YtagioimkpdcokaaDevAll
namespace Go.Proofs.Ytagioimkpdcokaa
open Go.RowKit
set_option linter.unusedVariables false
set_option linter.unusedSimpArgs false

/-! DevKept, the plain part: what four sectors hold behind a start. -/
def zf {α : Type} (a b c d : α) : Nat → α := fun | 0 => a | 1 => b | 2 => c | _ => d
/-- the first writes -/
def kA (f : Nat → UInt8) : Nat → DevS
  | 0 => newD 4
  | i + 1 => (kA f i).write i [f i]
/-- the second writes: only where g is not nought -/
def kD (z : Nat → Bool) (f g : Nat → UInt8) : Nat → DevS
  | 0 => (kA f 4).flush
  | i + 1 => if z i then kD z f g i else (kD z f g i).write i [g i]
def kN (z : Nat → Bool) : Nat → Nat
  | 0 => 0
  | i + 1 => if z i then kN z i else kN z i + 1
def kW (z kb : Nat → Bool) (f g : Nat → UInt8) : Nat → Nat → UInt8
  | 0 => fun _ => 0
  | i + 1 => fun j => if j = i then (if z i then f i else if kb (kN z i) then g i else f i) else kW z kb f g i j
def startK (D : DevS) (kb : Nat → Bool) (ks : List Int) : Nat → List (Int × Blk)
  | 0 => D.now
  | i + 1 => if kb i then startK D kb ks i else mset (startK D kb ks i) (ks.getD i 0) ((mget D.loose (ks.getD i 0)).getD zeroB)
theorem startK_eq (D : DevS) (kept : List Bool) (ks : List Int) (i : Nat) : startTo D kept ks i = startK D (fun i : Nat => decide (kept[i]? = some true)) ks i := by
  induction i with
  | zero => rfl
  | succ i ih => simp only [startTo, startK, ih, decide_eq_true_eq]
theorem startK_kb (D : DevS) (kb kb' : Nat → Bool) (ks : List Int) (i : Nat) (h : ∀ j, j < i → kb j = kb' j) : startK D kb ks i = startK D kb' ks i := by
  induction i with
  | zero => rfl
  | succ i ih => simp only [startK, ih (fun j hj => h j (by omega)), h i (by omega)]
theorem kN_le (z : Nat → Bool) (i : Nat) : kN z i ≤ i := by
  induction i with
  | zero => exact Nat.le_refl _
  | succ i ih => simp only [kN]; split <;> omega
theorem kW_kb (z kb kb' : Nat → Bool) (f g : Nat → UInt8) (i : Nat) (h : ∀ j, j < i → kb j = kb' j) : kW z kb f g i = kW z kb' f g i := by
  induction i with
  | zero => rfl
  | succ i ih =>
    have := kN_le z i
    simp only [kW, ih (fun j hj => h j (by omega)), h (kN z i) (by omega)]
/-- A device of four that is neither lost nor crashed nor armed. -/
structure Fit (D : DevS) : Prop where
  sectors : D.sectors = 4
  armed : D.armed = false
  crashed : D.crashed = false
  lost : D.lost = false
theorem Fit.at {D : DevS} (h : Fit D) (i : Nat) (hi : i < 4) : D.atE i = 0 := by
  unfold DevS.atE DevS.down
  rw [h.crashed, h.lost, h.sectors]
  simp
  omega
theorem Fit.writeE {D : DevS} (h : Fit D) (i : Nat) (hi : i < 4) : D.writeE i 1 = 0 := by
  unfold DevS.writeE
  rw [h.at i hi, h.armed]
  simp
theorem Fit.write {D : DevS} (h : Fit D) (s : Int) (b : List UInt8) : Fit (D.write s b) := by
  unfold DevS.write
  split
  · exact h
  · rw [h.armed, if_neg (by simp)]
    exact ⟨h.1, h.2, h.3, h.4⟩
theorem Fit.flush {D : DevS} (h : Fit D) : Fit D.flush := by
  refine ⟨?_, ?_, ?_, ?_⟩ <;> simp [DevS.flush, DevS.down, h.1, h.2, h.3, h.4]
theorem Fit.flushE {D : DevS} (h : Fit D) : D.flushE = 0 := by
  unfold DevS.flushE DevS.down
  rw [h.crashed, h.lost]
  rfl
theorem kA_fit (f : Nat → UInt8) (i : Nat) : Fit (kA f i) := by
  induction i with
  | zero => exact ⟨rfl, rfl, rfl, rfl⟩
  | succ i ih => exact ih.write _ _
theorem kD_fit (z : Nat → Bool) (f g : Nat → UInt8) (i : Nat) : Fit (kD z f g i) := by
  induction i with
  | zero => exact (kA_fit f 4).flush
  | succ i ih =>
    simp only [kD]
    split
    · exact ih
    · exact ih.write _ _
theorem Fit.start {D : DevS} (h : Fit D) (kept : List Bool) : Fit (D.start kept) := by
  refine ⟨?_, ?_, ?_, ?_⟩ <;> simp [DevS.start, h.1, h.2, h.3, h.4]
theorem keys_sorted (z0 z1 z2 z3 : Bool) (f g : Nat → UInt8) : (kD (zf z0 z1 z2 z3) f g 4).loose.map (·.1) = (if z0 then [] else [0]) ++ (if z1 then [] else [1]) ++ (if z2 then [] else [2]) ++ (if z3 then [] else [3]) := by
  cases z0 <;> cases z1 <;> cases z2 <;> cases z3 <;> kernel_rfl
theorem len_n (z0 z1 z2 z3 : Bool) (f g : Nat → UInt8) : (kD (zf z0 z1 z2 z3) f g 4).loose.length = kN (zf z0 z1 z2 z3) 4 := by
  cases z0 <;> cases z1 <;> cases z2 <;> cases z3 <;> kernel_rfl
theorem sort_id (z0 z1 z2 z3 : Bool) (f g : Nat → UInt8) : sortedKeys (kD (zf z0 z1 z2 z3) f g 4).loose = (kD (zf z0 z1 z2 z3) f g 4).loose.map (·.1) := by
  unfold sortedKeys
  apply List.mergeSort_of_pairwise
  rw [keys_sorted]
  cases z0 <;> cases z1 <;> cases z2 <;> cases z3 <;> decide
theorem kept_bits (z0 z1 z2 z3 k0 k1 k2 k3 : Bool) (f g : Nat → UInt8) (j : Nat) (hj : j < 4) :
    ((mget (startK (kD (zf z0 z1 z2 z3) f g 4) (zf k0 k1 k2 k3) ((kD (zf z0 z1 z2 z3) f g 4).loose.map (·.1)) (kN (zf z0 z1 z2 z3) 4)) (j : Int)).getD zeroB)[0]? = some (kW (zf z0 z1 z2 z3) (zf k0 k1 k2 k3) f g 4 j) := by
  obtain rfl | rfl | rfl | rfl : j = 0 ∨ j = 1 ∨ j = 2 ∨ j = 3 := by omega
  all_goals (cases z0 <;> cases z1 <;> cases z2 <;> cases z3 <;> cases k0 <;> cases k1 <;> cases k2 <;> cases k3 <;> kernel_rfl)
theorem kD_z (z : Nat → Bool) (f g : Nat → UInt8) : kD z f g 4 = kD (zf (z 0) (z 1) (z 2) (z 3)) f g 4 := rfl
theorem kN_z (z : Nat → Bool) : kN z 4 = kN (zf (z 0) (z 1) (z 2) (z 3)) 4 := rfl
theorem kW_z (z kb : Nat → Bool) (f g : Nat → UInt8) : kW z kb f g 4 = kW (zf (z 0) (z 1) (z 2) (z 3)) kb f g 4 := rfl
theorem kept_len (z : Nat → Bool) (f g : Nat → UInt8) : (sortedKeys (kD z f g 4).loose).length = kN z 4 := by
  rw [sortedKeys_len, kD_z, kN_z, len_n]
theorem kept_plain (z : Nat → Bool) (f g : Nat → UInt8) (kept : List Bool) (j : Nat) (hj : j < 4) :
    (((kD z f g 4).start kept).get j)[0]? = some (kW z (fun i : Nat => decide (kept[i]? = some true)) f g 4 j) := by
  have hlost := (kD_fit z f g 4).lost
  unfold DevS.get DevS.start
  rw [hlost]
  show ((mget (startTo (kD z f g 4) kept (sortedKeys (kD z f g 4).loose) (sortedKeys (kD z f g 4).loose).length) (j : Int)).getD zeroB)[0]? = _
  rw [startK_eq, kept_len, kD_z, sort_id, kN_z, kW_z]
  generalize (fun i : Nat => decide (kept[i]? = some true)) = kb
  have h : ∀ j, j < 4 → kb j = zf (kb 0) (kb 1) (kb 2) (kb 3) j := fun j hj => by
    obtain rfl | rfl | rfl | rfl : j = 0 ∨ j = 1 ∨ j = 2 ∨ j = 3 := by omega
    all_goals rfl
  rw [startK_kb _ kb (zf (kb 0) (kb 1) (kb 2) (kb 3)) _ _ (fun j hj => h j (by have := kN_le (zf (z 0) (z 1) (z 2) (z 3)) 4; omega)), kW_kb _ kb (zf (kb 0) (kb 1) (kb 2) (kb 3)) _ _ _ h]
  exact kept_bits _ _ _ _ _ _ _ _ f g j hj
end Go.Proofs.Ytagioimkpdcokaa

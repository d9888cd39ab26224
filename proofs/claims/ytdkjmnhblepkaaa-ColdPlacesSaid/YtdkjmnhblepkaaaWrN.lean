import Derived.Test.YtdkjmnhblepkaaaDevW
namespace Go.Proofs.Ytdkjmnhblepkaaa
open Go.RowKit
set_option linter.unusedVariables false
set_option linter.unusedSimpArgs false

/-! Bytes that are written sector by sector, and read again. -/
theorem atE_up {D : DevS} (hd : D.down = false) {s : Int} (h0 : 0 ≤ s) (h1 : s < D.sectors) : D.atE s = 0 := by
  unfold DevS.atE; rw [hd, if_neg (by simp), if_neg (by omega)]
theorem write_down {D : DevS} (hd : D.down = true) (s : Int) (l : List UInt8) : D.write s l = D := by
  have : D.atE s ≠ 0 := by unfold DevS.atE; rw [hd]; simp
  unfold DevS.write; rw [if_pos (.inl this)]
theorem write_sectors (D : DevS) (s : Int) (l : List UInt8) : (D.write s l).sectors = D.sectors := by
  unfold DevS.write; (repeat' split) <;> rfl
theorem writeE_eq (D : DevS) (s : Int) (h0 : 0 ≤ s) (h1 : s < D.sectors) (l : List UInt8) (hl : l.length ≤ 64) : D.writeE s l.length = if (D.write s l).down then 13 else 0 := by
  cases hd : D.down
  · have ha := atE_up hd h0 h1
    have e1 : D.write s l = if D.armed = true ∧ D.left = 0 then { D with crashed := true } else D.put s l := by unfold DevS.write; rw [ha, if_neg (by omega)]
    have e2 : D.writeE s l.length = if D.armed = true ∧ D.left = 0 then 13 else 0 := by unfold DevS.writeE; rw [ha, if_neg (by decide), if_neg (by omega)]
    rw [e1, e2]
    by_cases hc : D.armed = true ∧ D.left = 0
    · rw [if_pos hc, if_pos hc]; rfl
    · rw [if_neg hc, if_neg hc]
      have : (D.put s l).down = false := hd
      rw [this]; rfl
  · rw [write_down hd, hd]
    have : D.atE s = 13 := by unfold DevS.atE; rw [hd]; rfl
    unfold DevS.writeE; rw [this]; rfl
/-- the k-th sector's bytes of a text -/
def chunk (l : List UInt8) (k : Nat) : List UInt8 := (l.drop (64 * k)).take 64
theorem chunk_len (l : List UInt8) (k : Nat) : (chunk l k).length = min 64 (l.length - 64 * k) := by unfold chunk; rw [List.length_take, List.length_drop]
/-- a text's sectors from `at` on -/
def wrN (D : DevS) (s : Int) (l : List UInt8) : Nat → DevS
  | 0 => D
  | k + 1 => (wrN D s l k).write (s + k) (chunk l k)
def cnt (n : Nat) : Nat := (n + 63) / 64
theorem wrN_sectors (D : DevS) (s : Int) (l : List UInt8) (k : Nat) : (wrN D s l k).sectors = D.sectors := by
  induction k with
  | zero => rfl
  | succ k ih => show (DevS.write _ _ _).sectors = _; rw [write_sectors, ih]
theorem wrN_down (D : DevS) (s : Int) (l : List UInt8) (k : Nat) (hd : (wrN D s l k).down = true) (j : Nat) : wrN D s l (k + j) = wrN D s l k := by
  induction j with
  | zero => rfl
  | succ j ih =>
    show (wrN D s l (k + j)).write _ _ = _
    rw [ih, write_down hd]
/-- The text that lies from s on, as sectors that are read. -/
def joined (D : DevS) (s : Int) (k : Nat) : List UInt8 := (List.range k).flatMap (fun i => D.get (s + (i : Nat)))
theorem joined_succ (D : DevS) (s : Int) (k : Nat) : joined D s (k + 1) = joined D s k ++ D.get (s + (k : Nat)) := by
  unfold joined; rw [List.range_succ, List.flatMap_append]; simp
theorem joined_len (D : DevS) (s : Int) (hl : ∀ i, (D.get i).length = 64) (k : Nat) : (joined D s k).length = k * 64 := by
  unfold joined; rw [flatMap_len _ 64 (fun x => hl _), List.length_range]
theorem joined_full (D : DevS) (s : Int) (l : List UInt8) (k : Nat) (h : ∀ i : Nat, i < k → D.get (s + (i : Nat)) = padB (chunk l i)) (hk : 64 * k ≤ l.length) : joined D s k = l.take (64 * k) := by
  induction k with
  | zero => rfl
  | succ k ih =>
    rw [joined_succ, ih (fun i hi => h i (by omega)) (by omega), h k (by omega)]
    have hc : (chunk l k).length = 64 := by rw [chunk_len]; omega
    unfold padB
    rw [hc]
    show l.take (64 * k) ++ (chunk l k ++ []) = _
    rw [List.append_nil]
    unfold chunk
    rw [show 64 * (k + 1) = 64 * k + 64 by omega, List.take_add]
theorem joined_text (D : DevS) (s : Int) (l : List UInt8) (h : ∀ i : Nat, i < cnt l.length → D.get (s + (i : Nat)) = padB (chunk l i)) : (joined D s (cnt l.length)).take l.length = l := by
  by_cases hr : l.length % 64 = 0
  · have hc : 64 * cnt l.length = l.length := by unfold cnt; omega
    rw [joined_full D s l _ h (by omega), hc, List.take_length, List.take_length]
  · have hc : cnt l.length = l.length / 64 + 1 := by unfold cnt; omega
    rw [hc, joined_succ, joined_full D s l _ (fun i hi => h i (by omega)) (by omega), h _ (by omega)]
    have hck : chunk l (l.length / 64) = l.drop (64 * (l.length / 64)) := by unfold chunk; exact List.take_of_length_le (by rw [List.length_drop]; omega)
    rw [hck]
    unfold padB
    rw [← List.append_assoc, List.take_append_drop]
    exact List.take_left
/-! A device that does not crash. -/
structure Calm (D : DevS) : Prop where
  up : D.down = false
  armed : D.armed = false
theorem Calm.write {D : DevS} (h : Calm D) {s : Int} (h0 : 0 ≤ s) (h1 : s < D.sectors) {l : List UInt8} (hl : l.length ≤ 64) : D.write s l = D.put s l := by
  unfold DevS.write
  rw [atE_up h.up h0 h1, if_neg (by omega), h.armed, if_neg (by simp)]
theorem Calm.put {D : DevS} (h : Calm D) (s : Int) (l : List UInt8) : Calm (D.put s l) := ⟨h.up, h.armed⟩
theorem get_put (D : DevS) (s : Int) (l : List UInt8) (j : Int) : (D.put s l).get j = if j = s then padB l else D.get j := by
  unfold DevS.get DevS.put
  simp only [mget_mset]
  split <;> rfl
theorem write_up {D : DevS} {s : Int} (h0 : 0 ≤ s) (h1 : s < D.sectors) {l : List UInt8} (hl : l.length ≤ 64) (hd : (D.write s l).down = false) : D.down = false ∧ D.write s l = D.put s l := by
  cases hu : D.down
  · refine ⟨rfl, ?_⟩
    have ha := atE_up hu h0 h1
    unfold DevS.write at hd ⊢
    rw [ha, if_neg (by omega)] at hd ⊢
    by_cases hc : D.armed = true ∧ D.left = 0
    · rw [if_pos hc] at hd; cases hd
    · rw [if_neg hc]
  · rw [write_down hu, hu] at hd; cases hd
theorem wrN_get (D : DevS) {s : Int} (h0 : 0 ≤ s) (l : List UInt8) (k : Nat) (h1 : s + k ≤ D.sectors) (hd : (wrN D s l k).down = false) (j : Int) : (wrN D s l k).get j = if s ≤ j ∧ j < s + k then padB (chunk l (j - s).toNat) else D.get j := by
  induction k with
  | zero => rw [if_neg (by omega)]; rfl
  | succ k ih =>
    obtain ⟨i1, i2⟩ := write_up (D := wrN D s l k) (s := s + k) (l := chunk l k) (by omega) (by rw [wrN_sectors]; omega) (by rw [chunk_len]; omega) hd
    show (DevS.write _ _ _).get j = _
    rw [i2, get_put, ih (by omega) i1]
    by_cases hj : j = s + k
    · subst hj
      rw [if_pos rfl, if_pos (by omega)]
      congr 2
      omega
    · rw [if_neg hj]
      by_cases hs : s ≤ j ∧ j < s + k
      · rw [if_pos hs, if_pos (by omega)]
      · rw [if_neg hs, if_neg (by omega)]
theorem Calm.wrN {D : DevS} (h : Calm D) {s : Int} (h0 : 0 ≤ s) (l : List UInt8) (k : Nat) (h1 : s + k ≤ D.sectors) : Calm (wrN D s l k) := by
  induction k with
  | zero => exact h
  | succ k ih =>
    have i1 := ih (by omega)
    show Calm (DevS.write _ _ _)
    rw [i1.write (by omega) (by rw [wrN_sectors]; omega) (by rw [chunk_len]; omega)]
    exact i1.put _ _
end Go.Proofs.Ytdkjmnhblepkaaa

import Derived.Test.YtdlhndbgmldeaaaHot5
namespace Go.Proofs.Ytdlhndbgmldeaaa
open Go.RowKit
set_option linter.unusedVariables false
set_option linter.unusedSimpArgs false

/-! Bytes of boxes behind a write, plainly. -/
theorem joined_get {D : DevS} (hl : ∀ i, (D.get i).length = 64) (s : Int) (k q : Nat) (hq : q < k * 64) : (joined D s k)[q]? = (D.get (s + ((q / 64 : Nat) : Int)))[q % 64]? := by
  induction k with
  | zero => omega
  | succ k ih =>
    have hjl := joined_len D s hl k
    rw [joined_succ]
    by_cases h : q < k * 64
    · rw [List.getElem?_append_left (by omega), ih h]
    · rw [List.getElem?_append_right (by omega), hjl, show q / 64 = k by omega, show q - k * 64 = q % 64 by omega]
theorem bytesAt_len {D : DevS} (hl : ∀ i, (D.get i).length = 64) (H : HotS) (i fr n : Nat) : (bytesAt D H i fr n).length = n := by
  unfold bytesAt
  rw [List.length_take, List.length_drop, joined_len D _ hl]
  omega
theorem bytesAt_get {D : DevS} (hl : ∀ i, (D.get i).length = 64) (H : HotS) (i fr n k : Nat) (hk : k < n) : (bytesAt D H i fr n)[k]? = (D.get (sectorF H i ((fr + k) / 64)))[(fr + k) % 64]? := by
  unfold bytesAt
  rw [List.getElem?_take_of_lt hk, List.getElem?_drop, joined_get hl _ _ _ (by omega), ← sectorF_add, show fr / 64 + (fr % 64 + k) / 64 = (fr + k) / 64 by omega, show (fr % 64 + k) % 64 = (fr + k) % 64 by omega]
/-- what is written, with the bytes that stand ahead in its first sector -/
def txtOf (D : DevS) (H : HotS) (i fr : Nat) (l : List UInt8) : List UInt8 := (D.get (sectorF H i (fr / 64))).take (fr % 64) ++ l
def hwrite (D : DevS) (H : HotS) (i fr : Nat) (l : List UInt8) : DevS := wrN D (sectorF H i (fr / 64)) (txtOf D H i fr l) (cnt (txtOf D H i fr l).length)
theorem txtOf_len {D : DevS} (hl : ∀ i, (D.get i).length = 64) (H : HotS) (i fr : Nat) (l : List UInt8) : (txtOf D H i fr l).length = fr % 64 + l.length := by
  unfold txtOf
  rw [List.length_append, List.length_take, hl]
  omega
theorem sectorF_lt {H : HotS} {i j a b : Nat} (hij : i < j) (ha : a < H.sectors) : sectorF H i a < sectorF H j b := by
  unfold sectorF
  have : (i + 1) * H.sectors ≤ j * H.sectors := Nat.mul_le_mul_right _ hij
  rw [Nat.add_mul, Nat.one_mul] at this
  omega
theorem sectorF_step (H : HotS) (i a : Nat) : sectorF H i a = sectorF H i 0 + (a : Nat) := by unfold sectorF; omega
section
variable {D : DevS} {H : HotS} {i fr : Nat} {l : List UInt8}
theorem hw_get (hl : ∀ i, (D.get i).length = 64) (hc : Calm D) (h0 : 0 ≤ sectorF H i 0) (h1 : sectorF H i 0 + (H.sectors : Nat) ≤ D.sectors) (hfit : fr + l.length ≤ H.sectors * 64) (j : Int) :
    (hwrite D H i fr l).get j = if sectorF H i (fr / 64) ≤ j ∧ j < sectorF H i (fr / 64) + (cnt (fr % 64 + l.length) : Nat) then padB (chunk (txtOf D H i fr l) (j - sectorF H i (fr / 64)).toNat) else D.get j := by
  have hs := sectorF_step H i (fr / 64)
  have hb : fr / 64 + cnt (fr % 64 + l.length) ≤ H.sectors ∨ l.length = 0 := by unfold cnt; omega
  have htl := txtOf_len hl H i fr l
  unfold hwrite
  rw [htl]
  rcases hb with hb | hb
  · exact wrN_get D (by omega) _ _ (by omega) (hc.wrN (by omega) _ _ (by omega)).up j
  · by_cases hz : fr % 64 = 0
    · have : cnt (fr % 64 + l.length) = 0 := by unfold cnt; omega
      rw [this]
      show D.get j = _
      rw [if_neg (by omega)]
    · have hb2 : fr / 64 + cnt (fr % 64 + l.length) ≤ H.sectors := by unfold cnt; omega
      exact wrN_get D (by omega) _ _ (by omega) (hc.wrN (by omega) _ _ (by omega)).up j
theorem hw_calm (hl : ∀ i, (D.get i).length = 64) (hc : Calm D) (h0 : 0 ≤ sectorF H i 0) (h1 : sectorF H i 0 + (H.sectors : Nat) ≤ D.sectors) (hfit : fr + l.length ≤ H.sectors * 64) (hp : 0 < l.length) : Calm (hwrite D H i fr l) := by
  have hs := sectorF_step H i (fr / 64)
  unfold hwrite
  rw [txtOf_len hl]
  exact hc.wrN (by omega) _ _ (by unfold cnt; omega)
theorem hw_sectors : (hwrite D H i fr l).sectors = D.sectors := wrN_sectors _ _ _ _
theorem padB_get {l : List UInt8} (q : Nat) (hq : q < l.length) : (padB l)[q]? = l[q]? := by
  unfold padB
  rw [List.getElem?_append_left hq]
theorem chunk_get (l : List UInt8) (k q : Nat) (hq : q < 64) : (chunk l k)[q]? = l[64 * k + q]? := by
  unfold chunk
  rw [List.getElem?_take_of_lt hq, List.getElem?_drop]
/-- a byte that was written, or stands ahead of it in its sector -/
theorem hw_in (hl : ∀ i, (D.get i).length = 64) (hc : Calm D) (h0 : 0 ≤ sectorF H i 0) (h1 : sectorF H i 0 + (H.sectors : Nat) ≤ D.sectors) (hfit : fr + l.length ≤ H.sectors * 64) (p : Nat) (hp1 : fr / 64 ≤ p / 64) (hp2 : p < fr + l.length) :
    ((hwrite D H i fr l).get (sectorF H i (p / 64)))[p % 64]? = (txtOf D H i fr l)[p - 64 * (fr / 64)]? := by
  have hs1 := sectorF_step H i (fr / 64)
  have hs2 := sectorF_step H i (p / 64)
  have htl := txtOf_len hl H i fr l
  rw [hw_get hl hc h0 h1 hfit, if_pos (by unfold cnt; omega), show (sectorF H i (p / 64) - sectorF H i (fr / 64)).toNat = p / 64 - fr / 64 by omega,
    padB_get _ (by rw [chunk_len]; omega), chunk_get _ _ _ (by omega), show 64 * (p / 64 - fr / 64) + p % 64 = p - 64 * (fr / 64) by omega]
theorem hw_new (hl : ∀ i, (D.get i).length = 64) (hc : Calm D) (h0 : 0 ≤ sectorF H i 0) (h1 : sectorF H i 0 + (H.sectors : Nat) ≤ D.sectors) (hfit : fr + l.length ≤ H.sectors * 64) (k : Nat) (hk : k < l.length) :
    ((hwrite D H i fr l).get (sectorF H i ((fr + k) / 64)))[(fr + k) % 64]? = l[k]? := by
  rw [hw_in hl hc h0 h1 hfit (fr + k) (by omega) (by omega)]
  unfold txtOf
  rw [List.getElem?_append_right (by rw [List.length_take, hl]; omega), List.length_take, hl]
  congr 1
  omega
theorem hw_old (hl : ∀ i, (D.get i).length = 64) (hc : Calm D) (h0 : 0 ≤ sectorF H i 0) (h1 : sectorF H i 0 + (H.sectors : Nat) ≤ D.sectors) (hfit : fr + l.length ≤ H.sectors * 64) (p : Nat) (hp : p < fr) :
    ((hwrite D H i fr l).get (sectorF H i (p / 64)))[p % 64]? = (D.get (sectorF H i (p / 64)))[p % 64]? := by
  by_cases hs : p / 64 = fr / 64
  · rw [hw_in hl hc h0 h1 hfit p (by omega) (by omega)]
    unfold txtOf
    rw [List.getElem?_append_left (by rw [List.length_take, hl]; omega), List.getElem?_take_of_lt (by omega), hs]
    congr 1
    omega
  · have hs1 := sectorF_step H i (fr / 64)
    have hs2 := sectorF_step H i (p / 64)
    rw [hw_get hl hc h0 h1 hfit, if_neg (by omega)]
theorem hw_far (hl : ∀ i, (D.get i).length = 64) (hc : Calm D) (h0 : 0 ≤ sectorF H i 0) (h1 : sectorF H i 0 + (H.sectors : Nat) ≤ D.sectors) (hfit : fr + l.length ≤ H.sectors * 64) (hp : 0 < l.length) (j a : Nat) (hj : j ≠ i) (ha : a < H.sectors) :
    (hwrite D H i fr l).get (sectorF H j a) = D.get (sectorF H j a) := by
  have hs1 := sectorF_step H i (fr / 64)
  rw [hw_get hl hc h0 h1 hfit, if_neg]
  rintro ⟨g1, g2⟩
  have hcn : fr / 64 + cnt (fr % 64 + l.length) ≤ H.sectors := by unfold cnt; omega
  rcases Nat.lt_or_gt_of_ne hj with h | h
  · have := sectorF_lt (H := H) (i := j) (j := i) (a := a) (b := fr / 64) h ha
    omega
  · have := sectorF_lt (H := H) (i := i) (j := j) (a := H.sectors - 1) (b := a) h (by omega)
    have h3 := sectorF_step H i (H.sectors - 1)
    omega
theorem hw_len (hl : ∀ i, (D.get i).length = 64) (hc : Calm D) (h0 : 0 ≤ sectorF H i 0) (h1 : sectorF H i 0 + (H.sectors : Nat) ≤ D.sectors) (hfit : fr + l.length ≤ H.sectors * 64) (j : Int) : ((hwrite D H i fr l).get j).length = 64 := by
  rw [hw_get hl hc h0 h1 hfit]
  split
  · unfold padB
    rw [List.length_append, List.length_replicate]
    have := chunk_len (txtOf D H i fr l) (j - sectorF H i (fr / 64)).toNat
    omega
  · exact hl j
/-- what was put is there -/
theorem bytesAt_new (hl : ∀ i, (D.get i).length = 64) (hc : Calm D) (h0 : 0 ≤ sectorF H i 0) (h1 : sectorF H i 0 + (H.sectors : Nat) ≤ D.sectors) (hfit : fr + l.length ≤ H.sectors * 64) : bytesAt (hwrite D H i fr l) H i fr l.length = l := by
  have hl2 := hw_len (D := D) (H := H) (i := i) (fr := fr) (l := l) hl hc h0 h1 hfit
  apply List.ext_getElem?
  intro k
  by_cases hk : k < l.length
  · rw [bytesAt_get hl2 H i fr _ k hk, hw_new hl hc h0 h1 hfit k hk]
  · rw [List.getElem?_eq_none (by rw [bytesAt_len hl2]; omega), List.getElem?_eq_none (by omega)]
/-- what lies elsewhere is as it was -/
theorem bytesAt_old (hl : ∀ i, (D.get i).length = 64) (hc : Calm D) (h0 : 0 ≤ sectorF H i 0) (h1 : sectorF H i 0 + (H.sectors : Nat) ≤ D.sectors) (hfit : fr + l.length ≤ H.sectors * 64) (hp : 0 < l.length) (j f n : Nat) (hn : f + n ≤ H.sectors * 64) (hj : j ≠ i ∨ f + n ≤ fr) :
    bytesAt (hwrite D H i fr l) H j f n = bytesAt D H j f n := by
  have hl2 := hw_len (D := D) (H := H) (i := i) (fr := fr) (l := l) hl hc h0 h1 hfit
  apply List.ext_getElem?
  intro k
  by_cases hk : k < n
  · rw [bytesAt_get hl2 H j f _ k hk, bytesAt_get hl H j f _ k hk]
    by_cases hji : j = i
    · subst hji
      exact hw_old hl hc h0 h1 hfit (f + k) (by omega)
    · rw [hw_far hl hc h0 h1 hfit hp j _ hji (by omega)]
  · rw [List.getElem?_eq_none (by rw [bytesAt_len hl2]; omega), List.getElem?_eq_none (by rw [bytesAt_len hl]; omega)]
end
theorem bytesAt_boxes (D : DevS) (H H' : HotS) (h1 : H'.first = H.first) (h2 : H'.sectors = H.sectors) (i f n : Nat) : bytesAt D H' i f n = bytesAt D H i f n := by
  unfold bytesAt sectorF
  rw [h1, h2]
end Go.Proofs.Ytdlhndbgmldeaaa

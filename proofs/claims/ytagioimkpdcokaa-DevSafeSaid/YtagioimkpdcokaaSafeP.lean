import Derived.Test.YtagioimkpdcokaaKeptP
namespace Go.Proofs.Ytagioimkpdcokaa
open Go.RowKit
set_option linter.unusedVariables false
set_option linter.unusedSimpArgs false

/-! DevSafe, the plain part. -/
theorem Fit.write_put {D : DevS} (h : Fit D) (s : Int) (hs : 0 ≤ s ∧ s < 4) (l : List UInt8) (hl : l.length ≤ 64) : D.write s l = D.put s l := by
  have : D.atE s = 0 := by
    have := h.at s.toNat (by omega)
    rwa [Int.toNat_of_nonneg hs.1] at this
  unfold DevS.write
  rw [this, if_neg (by omega), h.armed, if_neg (by simp)]
theorem put_get (D : DevS) (s : Int) (l : List UInt8) (j : Int) : (D.put s l).get j = if j = s then padB l else D.get j := by
  unfold DevS.get DevS.put
  simp only [mget_mset]
  split <;> rfl
theorem put_loose (D : DevS) (s : Int) (l : List UInt8) (j : Int) (hj : j ≠ s) : mget (D.put s l).loose j = mget D.loose j := by
  unfold DevS.put
  simp only
  split
  · rfl
  · rw [mget_mset, if_neg hj]
structure Sf (a b : List UInt8) (D : DevS) : Prop where
  fit : Fit D
  get0 : D.get 0 = padB a
  get1 : D.get 1 = padB a ∨ D.get 1 = padB b
  l0 : mget D.loose 0 = none
  l1 : ∀ x, mget D.loose 1 = some x → x = padB a
theorem Sf.write {a b : List UInt8} {D : DevS} (h : Sf a b D) (s : Int) (hs : s = 2 ∨ s = 3) : Sf a b (D.write s []) := by
  rw [h.fit.write_put s (by omega) [] (by simp)]
  refine ⟨?_, ?_, ?_, ?_, ?_⟩
  · rw [← h.fit.write_put s (by omega) [] (by simp)]; exact h.fit.write _ _
  · rw [put_get, if_neg (by omega)]; exact h.get0
  · rw [put_get, if_neg (by omega)]; exact h.get1
  · rw [put_loose _ _ _ _ (by omega)]; exact h.l0
  · rw [put_loose _ _ _ _ (by omega)]; exact h.l1
theorem startTo_get (D : DevS) (kept : List Bool) (ks : List Int) (j : Int) (i : Nat) : mget (startTo D kept ks i) j = mget D.now j ∨ ∃ n, n < i ∧ ks.getD n 0 = j ∧ mget (startTo D kept ks i) j = some ((mget D.loose j).getD zeroB) := by
  induction i with
  | zero => exact .inl rfl
  | succ i ih =>
    simp only [startTo]
    split
    · rcases ih with ih | ⟨n, h1, h2, h3⟩
      · exact .inl ih
      · exact .inr ⟨n, by omega, h2, h3⟩
    · rw [mget_mset]
      split
      · rename_i he
        subst he
        exact .inr ⟨i, by omega, rfl, rfl⟩
      · rcases ih with ih | ⟨n, h1, h2, h3⟩
        · exact .inl ih
        · exact .inr ⟨n, by omega, h2, h3⟩
theorem mget_of_key {α : Type} {m : List (Int × α)} {j : Int} (h : j ∈ m.map (·.1)) : ∃ x, mget m j = some x := by
  obtain ⟨y, hy, rfl⟩ := List.mem_map.1 h
  have : (m.find? (fun x => x.1 == y.1)).isSome := List.find?_isSome.2 ⟨y, hy, by simp⟩
  obtain ⟨z, hz⟩ := Option.isSome_iff_exists.1 this
  exact ⟨z.2, by simp [mget, hz]⟩
theorem start_get (D : DevS) (hl : D.lost = false) (kept : List Bool) (j : Int) : (D.start kept).get j = D.get j ∨ ∃ x, mget D.loose j = some x ∧ (D.start kept).get j = x := by
  have e : (D.start kept).get j = (mget (startTo D kept (sortedKeys D.loose) (sortedKeys D.loose).length) j).getD zeroB := by
    unfold DevS.get DevS.start
    rw [hl]; rfl
  rw [e]
  rcases startTo_get D kept (sortedKeys D.loose) j (sortedKeys D.loose).length with h | ⟨n, h1, h2, h3⟩
  · left; rw [h]; rfl
  · right
    have hm : j ∈ D.loose.map (·.1) := by
      have : j ∈ sortedKeys D.loose := by
        rw [← h2, List.getD_eq_getElem?_getD, List.getElem?_eq_getElem h1]
        exact List.getElem_mem _
      exact (List.mergeSort_perm _ _).mem_iff.1 this
    obtain ⟨x, hx⟩ := mget_of_key hm
    exact ⟨x, hx, by rw [h3, hx]; rfl⟩
theorem start_loose {D : DevS} (hl : D.lost = false) (kept : List Bool) : (D.start kept).loose = [] := by
  unfold DevS.start; rw [hl]; rfl
theorem Sf.start {a b : List UInt8} {D : DevS} (h : Sf a b D) (kept : List Bool) : Sf a b (D.start kept) := by
  have hl := start_loose h.fit.lost kept
  refine ⟨h.fit.start kept, ?_, ?_, by rw [hl]; rfl, by rw [hl]; intro x hx; cases hx⟩
  · rcases start_get D h.fit.lost kept 0 with e | ⟨x, hx, e⟩
    · rw [e]; exact h.get0
    · rw [h.l0] at hx; cases hx
  · rcases start_get D h.fit.lost kept 1 with e | ⟨x, hx, e⟩
    · rw [e]; exact h.get1
    · rw [e]; exact .inl (h.l1 x hx)
def safeD (a b : List UInt8) : DevS := (((((newD 4).write 0 a).flush).write 1 a).flush).write 1 b
theorem flush_get {D : DevS} (h : Fit D) (j : Int) : D.flush.get j = D.get j := by
  unfold DevS.flush DevS.down
  rw [h.crashed, h.lost]; rfl
theorem flush_loose {D : DevS} (h : Fit D) : D.flush.loose = [] := by
  unfold DevS.flush DevS.down
  rw [h.crashed, h.lost]; rfl
theorem newD_fit : Fit (newD 4) := ⟨rfl, rfl, rfl, rfl⟩
theorem safe_sf (a b : List UInt8) (ha : a.length ≤ 64) (hb : b.length ≤ 64) : Sf a b (safeD a b) ∧ (safeD a b).get 1 = padB b := by
  have f0 := newD_fit
  have f1 := f0.write 0 a
  have f2 := f1.flush
  have f3 := f2.write 1 a
  have f4 := f3.flush
  have f5 := f4.write 1 b
  have g4 : ((((newD 4).write 0 a).flush).write 1 a).flush.get 0 = padB a ∧ ((((newD 4).write 0 a).flush).write 1 a).flush.get 1 = padB a := by
    constructor
    · rw [flush_get f3, f2.write_put 1 (by omega) a ha, put_get, if_neg (by omega), flush_get f1, f0.write_put 0 (by omega) a ha, put_get, if_pos rfl]
    · rw [flush_get f3, f2.write_put 1 (by omega) a ha, put_get, if_pos rfl]
  have g5 : (safeD a b).get 1 = padB b := by
    unfold safeD
    rw [f4.write_put 1 (by omega) b hb, put_get, if_pos rfl]
  refine ⟨⟨f5, ?_, .inr g5, ?_, ?_⟩, g5⟩
  · unfold safeD
    rw [f4.write_put 1 (by omega) b hb, put_get, if_neg (by omega)]
    exact g4.1
  · unfold safeD
    rw [f4.write_put 1 (by omega) b hb, put_loose _ _ _ _ (by omega), flush_loose f3]; rfl
  · unfold safeD
    rw [f4.write_put 1 (by omega) b hb]
    intro x hx
    unfold DevS.put at hx
    rw [flush_loose f3] at hx
    simp only [show (mget ([] : List (Int × Blk)) 1).isSome = false from rfl, Bool.false_eq_true, if_false, mget_mset, if_true] at hx
    rw [← g4.2]
    simpa using hx.symm
end Go.Proofs.Ytagioimkpdcokaa

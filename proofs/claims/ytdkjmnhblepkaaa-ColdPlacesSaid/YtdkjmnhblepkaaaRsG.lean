import Derived.Test.YtdkjmnhblepkaaaRsPM
namespace Go.Proofs.Ytdkjmnhblepkaaa
open Go.RowKit
set_option linter.unusedVariables false
set_option linter.unusedSimpArgs false
set_option maxRecDepth 100000

/-! rs.invert, plain: where the pivot is; rows that change places. -/
theorem piv_spec (rows : List (List UInt8)) (j n p : Nat) (hp : pivF rows j n = p) (hlt : p < n) : j ≤ p ∧ (rows.getD p []).getD j 0 ≠ 0 ∧ ∀ t, j ≤ t → t < p → (rows.getD t []).getD j 0 = 0 := by
  unfold pivF at hp
  cases hf : (List.range n).find? (fun t => decide (j ≤ t) && (((rows.getD t []).getD j 0) != 0)) with
  | none => rw [hf] at hp; simp at hp; omega
  | some q =>
    rw [hf] at hp
    have e : q = p := hp
    subst e
    have h := List.find?_range_eq_some.1 hf
    obtain ⟨h1, h2, h3⟩ := h
    simp only [Bool.and_eq_true, decide_eq_true_eq, bne_iff_ne] at h1
    refine ⟨h1.1, h1.2, fun t ht htp => ?_⟩
    have h4 := h3 t htp
    simp only [Bool.not_eq_true', Bool.and_eq_false_iff, decide_eq_false_iff_not, bne_eq_false_iff_eq] at h4
    rcases h4 with h4 | h4
    · exact absurd ht h4
    · exact h4
theorem swapT_eq (l : List (List UInt8)) (i j : Nat) (hi : i < l.length) (hj : j < l.length) : swapL l i j hi hj = swapT l i j := by
  unfold swapL swapT
  rw [List.getD_eq_getElem?_getD, List.getElem?_eq_getElem hj, List.getD_eq_getElem?_getD, List.getElem?_eq_getElem hi]
  rfl
theorem getD_of {α : Type} (l : List α) (i : Nat) (d : α) (hi : i < l.length) : l.getD i d = l[i] := by
  rw [List.getD_eq_getElem?_getD, List.getElem?_eq_getElem hi]; rfl
theorem elimF_succ_eq (rows : List (List UInt8)) (j : Nat) : elimF rows j (j + 1) = elimF rows j j := by
  show (if j = j then _ else _) = _
  rw [if_pos rfl]
theorem elimF_succ_ne (rows : List (List UInt8)) (j i : Nat) (h : ¬ i = j) : elimF rows j (i + 1) = (elimF rows j i).set i (takeF ((elimF rows j i).getD i []) ((elimF rows j i).getD j []) (((elimF rows j i).getD i []).getD j 0)) := by
  show (if i = j then _ else _) = _
  rw [if_neg h]
theorem WorkS.fld {w wr w' : World} {g b n : Nat} {bs : List Nat} {rows : List (List UInt8)} (h : WorkS w wr g b n bs rows) (hM : FieldM w' g) (hF : Fr (fun i => i = g) wr w') : WorkS w w' g b n bs rows :=
  ⟨.inr hM, hF.heap h.arr h.bne, h.lb, h.lr, h.all, fun j h1 h2 => hF.heap (h.each j h1 h2) (h.apart _ (List.getElem_mem h1)).2.1, h.nodup, h.apart, h.bge, h.bne, h.fr.trans hF⟩
theorem piv_at (rows : List (List UInt8)) (j n p : Nat) (hp : pivF rows j n = p) (hj : j < rows.length) (hpl : p < rows.length) : (pivR rows j n).getD j [] = rows.getD p [] := by
  unfold pivR
  rw [hp, ← swapT_eq rows j p hj hpl, List.getD_eq_getElem?_getD, swapL_get rows j p hj hpl j hj, getD_of rows p [] hpl]
  by_cases e : j = p
  · subst e; rw [if_pos rfl]; rfl
  · rw [if_neg e, if_pos rfl]; rfl
end Go.Proofs.Ytdkjmnhblepkaaa

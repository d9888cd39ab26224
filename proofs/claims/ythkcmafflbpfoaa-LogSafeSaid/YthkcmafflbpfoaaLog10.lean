import Derived.Test.YthkcmafflbpfoaaLog9
import Derived.ArgAppend
namespace Go.Proofs.Ythkcmafflbpfoaa
open Go.RowKit
set_option linter.unusedVariables false
set_option linter.unusedSimpArgs false
set_option maxRecDepth 100000

/-! log: a size is laid behind the sizes. -/
theorem info_int : (Try.prog.info? 3).map (fun i => (i.zero, i.size, i.bytes)) = some (some (.int .i64 0), 1, 8) := by kernel_rfl
theorem SzAt.ofOwn {w : World} {base : Nat} {v : Value} {l : List Nat} (h : w.ownsRow base 3 1 v l.length (l.map natV)) : SzAt w v l := by
  obtain ⟨h1, h2⟩ := h
  rcases h2 with ⟨rfl, hl⟩ | ⟨g, cap, cur, rfl, hb, hg, hn, hcm, hcs, ht⟩
  · exact ⟨.inl ⟨rfl, List.length_eq_zero_iff.1 hl⟩⟩
  · refine ⟨.inr ⟨g, 0, cap, cur.toList, rfl, by simpa using hg, by simp [hcs], hn, ?_⟩⟩
    rw [List.drop_zero]
    simpa using ht
theorem own_ge2 {w : World} {base g o n c m : Nat} {e : TypeId} {xs : List Value} (h : w.ownsRow base e 1 (.slice (some ⟨g, o, none⟩) n c) m xs) : base ≤ g := by
  rcases h.2 with ⟨h0, _⟩ | ⟨g', cap', cur, hv, hb, _⟩
  · cases h0
  · cases hv; exact hb
theorem at_app_sz2 {P : Program} (hP : P = Try.prog) {w : World} {ops : Array Oper} {rest : List Oper} {a : Act} {Q : Exit → Act → World → Prop} {dst : Option Tmp} {tt : TypeId} {ps : String} {af : Array Edge} (s x : Operand) (t : TypeId) (ht : Try.prog.underlying t = some (.slice 3)) (v : Value) (l : List Nat) (N g : Nat) (h : SzAt w v l) (hs : a.eval s = v) (hx : a.eval x = .slice (some ⟨g, 0, none⟩) 1 1) (hg : w.heap[g]? = some (.cells #[.int .i64 (N : Int)] 3 (0, 0))) (hl : l.length ≤ 16384)
    (hk : ∀ v' w', SzAt w' v' (l ++ [N]) → Fr (szB v) w w' → (∀ i, szB v' i → szB v i ∨ w.heap.size ≤ i) → wpList P ops Q rest (a.put dst v') w') :
    wpList P ops Q ({ dst := dst, op := .call { callee := .builtin .append, args := #[s, x], argTypes := #[t, t] }, type := tt, pos := ps, after := af, guard := none } :: rest) a w := by
  subst hP
  obtain ⟨i0, hi, hz0, hz1, hz2⟩ := info_parts info_int
  have hnews : ∀ j u, ([natV N] : List Value)[j]? = some u → w.cell? ((⟨g, 0, none⟩ : Addr).add j) = some u := by
    intro j u hj
    have hj0 : j = 0 := by
      have := (List.getElem?_eq_some_iff.1 hj).1
      simpa using this
    subst hj0
    cases hj
    show w.cell? ⟨g, 0 + 0, none⟩ = _
    rw [cell_of_blk hg]; rfl
  have hone : ∀ u ∈ ([natV N] : List Value), u.oneCell' = true := by
    intro u hu
    rw [List.mem_singleton.1 hu]; rfl
  have hnew : ∀ v' w', w'.ownsRow w.heap.size 3 1 v' (l.length + 1) (l.map natV ++ [natV N]) → w.grownBy w' none → wpList Try.prog ops Q rest (a.put dst v') w' := fun v' w' ho hgr => by
    refine hk v' w' ?_ ((Fr.of_grown hgr).mono (fun k _ e => by cases e)) (fun i ⟨oi, ni, ci, hvi⟩ => .inr (by subst hvi; exact own_ge2 ho))
    refine SzAt.ofOwn (base := w.heap.size) ?_
    rw [List.length_append, List.map_append]
    exact ho
  rcases h.rep with ⟨hv, hl0⟩ | ⟨g1, o, cap, full, hv, h1, h2, h3, h4⟩
  · refine wpList_append_grows w rfl s x t rfl 3 i0 _ 1 8 ht hi hz0 hz1 hz2 rfl (by omega) none 0 0 [] (by rw [hs, hv]) (fun _ => ⟨rfl, rfl⟩) rfl (fun b hb => by cases hb) ⟨g, 0, none⟩ 1 1 [natV N] hx rfl hnews hone (by omega) (by decide) (by decide) ?_
    intro v' w' ho hgr
    refine hnew v' w' ?_ hgr
    rw [hl0]
    exact ho
  · have hcell : ∀ j, w.cell? ⟨g1, j, none⟩ = full[j]? := fun j => by rw [cell_of_blk h1]; simp
    refine wpList_append_arg w rfl s x t rfl 3 i0 _ 1 8 ht hi hz0 hz1 hz2 rfl (by omega) g1 o l.length cap (l.map natV) (by rw [hs, hv]) (by simp) (fun j u hj => ?_) ⟨g, 0, none⟩ 1 1 [natV N] hx rfl hnews hone (fun hr j hj => ⟨?_, frozen_of_blk h1 _⟩) (by unfold maxLen; omega) (by omega) (fun hr => ?_) (fun hr v' w' ho hgr => hnew v' w' ho hgr)
    · rw [hcell, ← hj, ← h4]
      have hjl : j < l.length := by
        have := (List.getElem?_eq_some_iff.1 hj).1
        simpa using this
      rw [List.getElem?_take_of_lt hjl, List.getElem?_drop]
    · have hj0 : j = 0 := by simpa using hj
      subst hj0
      rw [hcell, List.getElem?_eq_getElem (by omega)]; rfl
    · have hst : w.setCells g1 (o + l.length * 1) [natV N] = w.setCell ⟨g1, o + l.length, none⟩ (natV N) := by rw [Nat.mul_one]; rfl
      rw [hst]
      refine hk _ _ ⟨.inr ⟨g1, o, cap, full.set (o + l.length) (natV N), by rw [List.length_append]; rfl, ?_, by simpa using h2, by simp; omega, ?_⟩⟩ ?_ (fun i ⟨oi, ni, ci, hvi⟩ => .inl (by cases hvi; exact ⟨o, l.length, cap, hv⟩))
      · rw [heap_setCell_same h1]
        congr 2
        simp
      · rw [List.length_append, List.map_append, ← h4]
        apply List.ext_getElem?
        intro j
        by_cases hj : j < l.length
        · rw [List.getElem?_take_of_lt (by simp; omega), List.getElem?_drop, List.getElem?_set_ne (by omega), List.getElem?_append_left (by simp; omega), List.getElem?_take_of_lt hj, List.getElem?_drop]
        · by_cases hj2 : j = l.length
          · subst hj2
            rw [List.getElem?_take_of_lt (by simp), List.getElem?_drop, List.getElem?_set_self (by omega), List.getElem?_append_right (by simp [Nat.min_le_left])]
            simp
            rw [Nat.min_eq_left (by omega)]; simp
          · rw [List.getElem?_eq_none (by simp; omega), List.getElem?_eq_none (by simp; omega)]
      · exact (Fr.set w g1 (o + l.length) (natV N)).mono (fun k _ e => by subst e; exact ⟨o, l.length, cap, hv⟩)
end Go.Proofs.Ythkcmafflbpfoaa

import Derived.Test.YtdlhndbgmldeaaaKit
import Derived.ArgAppend
namespace Go.Proofs.Ytdlhndbgmldeaaa
open Go.RowKit
set_option linter.unusedVariables false
set_option linter.unusedSimpArgs false

/-! append onto a slice of an array's block, whatever the block's type: in place, or in a new row. -/
theorem at_app_arr {P : Program} {w : World} {ops : Array Oper} {rest : List Oper} {a : Act} {Q : Exit → Act → World → Prop} {dst : Option Tmp} {tt : TypeId} {ps : String} {af : Array Edge} (s x : Operand) (t : TypeId)
    (e : TypeId) (z : Value) (ht : P.underlying t = some (.slice e)) (hinfo : (P.info? e).map (fun i => (i.zero, i.size, i.bytes)) = some (some z, 1, 1)) (hzs : z.cells.size = 1)
    {g n cap : Nat} {full : List Value} {T : TypeId} {A : Option Addr} {m c : Nat} {news : List Value} (hs : a.eval s = .slice (some ⟨g, 0, none⟩) n cap) (hx : a.eval x = .slice A m c)
    (hb : w.heap[g]? = some (.cells full.toArray T (0, 0))) (hfl : full.length = cap) (hn : n ≤ cap) (hA : CellsAt w A news) (hl : news.length = m) (hm : 0 < m) (h1 : ∀ u ∈ news, u.oneCell' = true)
    (h63 : n + m ≤ maxLen) (hbytes : n + m ≤ 140737488355328)
    (h : ∀ g2 c2 w', (g2 = g ∨ w.heap.size ≤ g2) → n + m ≤ c2 → Fr (fun i => i = g) w w' → CellsAt w' (some ⟨g2, 0, none⟩) (full.take n ++ news) → wpList P ops Q rest (a.put dst (.slice (some ⟨g2, 0, none⟩) (n + m) c2)) w') :
    wpList P ops Q ({ dst := dst, op := .call { callee := .builtin .append, args := #[s, x], argTypes := #[t, t] }, type := tt, pos := ps, after := af, guard := none } :: rest) a w := by
  obtain ⟨i0, hi, hz0, hz1, hz2⟩ := info_parts hinfo
  obtain ⟨bx, ox, rfl⟩ := hA.addr (by omega)
  have hcell : ∀ j, j < cap → w.cell? ⟨g, j, none⟩ = full[j]? := fun j hj => by rw [cell_of_blk hb]; simp
  refine wpList_append_arg w rfl s x t rfl e i0 z 1 1 ht hi hz0 hz1 hz2 hzs (by omega) g 0 n cap (full.take n) hs (by simp; omega) (fun j u hj => ?_) ⟨bx, ox, none⟩ m c news hx (by omega) (hA.adds rfl) h1 (fun hr j hj => ⟨?_, frozen_of_blk hb _⟩) h63 (by omega) (fun hr => ?_) (fun hr v' w' hown hg => ?_)
  · obtain ⟨hlt, he⟩ := List.getElem?_eq_some_iff.1 hj
    have hjn : j < n := by simp at hlt; omega
    rw [Nat.zero_add, hcell j (by omega), ← hj, List.getElem?_take_of_lt hjn]
  · rw [show 0 + n * 1 + j = n + j by omega, hcell _ (by omega), List.getElem?_eq_getElem (by omega)]; rfl
  · refine h g cap _ (.inl rfl) hr (fr_setCells w g news _ w) ?_
    intro k hk
    refine ⟨g, 0, rfl, ?_⟩
    rw [List.length_append, List.length_take] at hk
    rw [Nat.zero_add k]
    by_cases hkn : k < n
    · rw [World.cell?_setCells_out g news _ w _ (fun _ _ => .inl (by simp; omega)), hcell k (by omega), List.getElem?_eq_getElem (by omega), List.getElem_append_left (by simp; omega), List.getElem_take]
    · have := World.cell?_setCells_in g news (0 + n * 1) w (fun j hj => by rw [show 0 + n * 1 + j = n + j by omega, hcell _ (by omega), List.getElem?_eq_getElem (by omega)]; rfl) (k - n) (by omega)
      rw [show 0 + n * 1 + (k - n) = k by omega] at this
      rw [this, List.getElem_append_right (by simp; omega)]
      congr 2
      simp; omega
  · obtain ⟨A', c', rfl, hA', hc', hnil', hbl'⟩ := ownsRow_read hown
    obtain ⟨g2, o2, rfl⟩ := hA'.addr (by simp; omega)
    have ho2 : o2 = 0 := by
      rcases hown.2 with ⟨h0, _⟩ | ⟨g', cap', cur, hv, _⟩
      · cases h0
      · cases hv; rfl
    subst ho2
    exact h g2 c' w' (.inr (hbl' g2 ⟨0, rfl⟩).1) hc' ((Fr.of_grown hg).mono (fun k _ e => by cases e)) hA'
end Go.Proofs.Ytdlhndbgmldeaaa

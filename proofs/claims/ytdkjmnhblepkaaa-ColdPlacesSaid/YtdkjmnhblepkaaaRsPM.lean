import Derived.Test.YtdkjmnhblepkaaaAppMk
namespace Go.Proofs.Ytdkjmnhblepkaaa
open Go.RowKit
set_option linter.unusedVariables false
set_option linter.unusedSimpArgs false
set_option maxRecDepth 100000

/-! rs.invert: the matrix and the one beside it: rows in blocks of their own, their slices in a block that is turned. -/
theorem nodup_inj {l : List Nat} (h : l.Nodup) {i j : Nat} (hi : i < l.length) (hj : j < l.length) (e : l[i] = l[j]) : i = j := by
  rcases Nat.lt_trichotomy i j with hlt | rfl | hlt
  · exact absurd e (List.pairwise_iff_getElem.1 h i j hi hj hlt)
  · rfl
  · exact absurd e.symm (List.pairwise_iff_getElem.1 h j i hj hi hlt)
def rowV (n x : Nat) : Value := .slice (some ⟨x, 0, none⟩) (2 * n) (2 * n)
structure WorkS (w wr : World) (g b n : Nat) (bs : List Nat) (rows : List (List UInt8)) : Prop where
  fd : FieldAt wr g
  arr : wr.heap[b]? = some (.cells (bs.map (rowV n)).toArray 33 (0, 0))
  lb : bs.length = n
  lr : rows.length = n
  all : ∀ r ∈ rows, r.length = 2 * n
  each : ∀ j (h1 : j < bs.length) (h2 : j < rows.length), wr.heap[bs[j]]? = some (.cells (rows[j].map byteV).toArray 5 (0, 0))
  nodup : bs.Nodup
  apart : ∀ x ∈ bs, x ≠ b ∧ x ≠ g ∧ w.heap.size ≤ x
  bge : w.heap.size ≤ b
  bne : b ≠ g
  fr : Fr (fun i => i = g) w wr
theorem WorkS.cellA {w wr : World} {g b n : Nat} {bs : List Nat} {rows : List (List UInt8)} (h : WorkS w wr g b n bs rows) (j : Nat) (hj : j < bs.length) : wr.cell? ⟨b, j, none⟩ = some (rowV n bs[j]) := by
  rw [cell_of_blk h.arr, List.getElem?_toArray, List.getElem?_map, List.getElem?_eq_getElem hj]; rfl
theorem WorkS.fzA {w wr : World} {g b n : Nat} {bs : List Nat} {rows : List (List UInt8)} (h : WorkS w wr g b n bs rows) (o : Nat) : wr.frozen? ⟨b, o, none⟩ = false := frozen_of_blk h.arr o
theorem WorkS.cell {w wr : World} {g b n : Nat} {bs : List Nat} {rows : List (List UInt8)} (h : WorkS w wr g b n bs rows) (j : Nat) (h1 : j < bs.length) (h2 : j < rows.length) (k : Nat) (hk : k < rows[j].length) : wr.cell? ⟨bs[j], k, none⟩ = some (byteV rows[j][k]) := by
  rw [cell_of_blk (h.each j h1 h2), List.getElem?_toArray, List.getElem?_map, List.getElem?_eq_getElem hk]; rfl
theorem WorkS.row {w wr : World} {g b n : Nat} {bs : List Nat} {rows : List (List UInt8)} (h : WorkS w wr g b n bs rows) (j : Nat) (h1 : j < bs.length) (h2 : j < rows.length) : RowM wr wr g bs[j] rows[j] :=
  ⟨h.fd, h.each j h1 h2, Fr.refl _ _, (h.apart _ (List.getElem_mem h1)).2.1⟩
/-- row j is turned -/
theorem WorkS.turn {w wr w' : World} {g b n : Nat} {bs : List Nat} {rows : List (List UInt8)} (h : WorkS w wr g b n bs rows) (j : Nat) (h1 : j < bs.length) (h2 : j < rows.length) {r : List UInt8} (hr : RowM wr w' g bs[j] r) (hl : r.length = 2 * n) : WorkS w w' g b n bs (rows.set j r) := by
  have ha := h.apart _ (List.getElem_mem h1)
  refine ⟨hr.fd, hr.fr.heap h.arr (by rintro (e | e); exact h.bne e; exact ha.1 e.symm), h.lb, by rw [List.length_set]; exact h.lr, fun x hx => ?_, fun i k1 k2 => ?_, h.nodup, h.apart, h.bge, h.bne, h.fr.trans' hr.fr (fun i hi e => ?_)⟩
  · rcases List.mem_or_eq_of_mem_set hx with e | e
    · exact h.all x e
    · rw [e]; exact hl
  · rw [List.length_set] at k2
    by_cases e : j = i
    · subst e
      rw [List.getElem_set_self]
      exact hr.out
    · rw [List.getElem_set_ne e]
      refine hr.fr.heap (h.each i k1 k2) ?_
      rintro (e2 | e2)
      · exact (h.apart _ (List.getElem_mem k1)).2.1 e2
      · exact e (nodup_inj h.nodup k1 h1 e2).symm
  · rcases e with e | e
    · exact e
    · have := ha.2.2; omega
/-- two rows change places -/
def swapL {α : Type} (l : List α) (i j : Nat) (hi : i < l.length) (hj : j < l.length) : List α := (l.set i l[j]).set j l[i]
theorem swapL_get {α : Type} (l : List α) (i j : Nat) (hi : i < l.length) (hj : j < l.length) (k : Nat) (hk : k < l.length) : (swapL l i j hi hj)[k]? = some (if k = j then l[i] else if k = i then l[j] else l[k]) := by
  unfold swapL
  rw [List.getElem?_set, List.length_set]
  by_cases e : j = k
  · subst e
    rw [if_pos rfl, if_pos hj, if_pos rfl]
  · rw [if_neg e, if_neg (fun h => e h.symm), List.getElem?_set]
    by_cases e2 : i = k
    · subst e2
      rw [if_pos rfl, if_pos hi, if_pos rfl]
    · rw [if_neg e2, if_neg (fun h => e2 h.symm), List.getElem?_eq_getElem hk]
theorem swapL_len {α : Type} (l : List α) (i j : Nat) (hi : i < l.length) (hj : j < l.length) : (swapL l i j hi hj).length = l.length := by simp [swapL]
theorem swapL_perm {α : Type} (l : List α) (i j : Nat) (hi : i < l.length) (hj : j < l.length) (x : α) (hx : x ∈ swapL l i j hi hj) : x ∈ l := by
  unfold swapL at hx
  rcases List.mem_or_eq_of_mem_set hx with e | e
  · rcases List.mem_or_eq_of_mem_set e with e | e
    · exact e
    · rw [e]; exact List.getElem_mem _
  · rw [e]; exact List.getElem_mem _
theorem swapL_nodup (l : List Nat) (h : l.Nodup) (i j : Nat) (hi : i < l.length) (hj : j < l.length) : (swapL l i j hi hj).Nodup := by
  refine List.pairwise_iff_getElem.2 (fun a b ha hb hab => ?_)
  have hal : a < l.length := by rw [swapL_len] at ha; exact ha
  have hbl : b < l.length := by rw [swapL_len] at hb; exact hb
  have h1 := swapL_get l i j hi hj a hal
  have h2 := swapL_get l i j hi hj b hbl
  rw [List.getElem?_eq_getElem ha] at h1
  rw [List.getElem?_eq_getElem hb] at h2
  rw [Option.some.inj h1, Option.some.inj h2]
  intro e
  by_cases a1 : a = j
  · by_cases b1 : b = j
    · omega
    · by_cases b2 : b = i
      · rw [if_pos a1, if_neg b1, if_pos b2] at e
        have := nodup_inj h hi hj e; omega
      · rw [if_pos a1, if_neg b1, if_neg b2] at e
        have := nodup_inj h hi hbl e; omega
  · by_cases a2 : a = i
    · by_cases b1 : b = j
      · rw [if_neg a1, if_pos a2, if_pos b1] at e
        have := nodup_inj h hj hi e; omega
      · by_cases b2 : b = i
        · omega
        · rw [if_neg a1, if_pos a2, if_neg b1, if_neg b2] at e
          have := nodup_inj h hj hbl e; omega
    · by_cases b1 : b = j
      · rw [if_neg a1, if_neg a2, if_pos b1] at e
        have := nodup_inj h hal hi e; omega
      · by_cases b2 : b = i
        · rw [if_neg a1, if_neg a2, if_neg b1, if_pos b2] at e
          have := nodup_inj h hal hj e; omega
        · rw [if_neg a1, if_neg a2, if_neg b1, if_neg b2] at e
          have := nodup_inj h hal hbl e; omega
theorem WorkS.swap {w wr w' : World} {g b n : Nat} {bs : List Nat} {rows : List (List UInt8)} (h : WorkS w wr g b n bs rows) (i j : Nat) (hi : i < bs.length) (hj : j < bs.length) (hi2 : i < rows.length) (hj2 : j < rows.length)
    (hw : w' = (wr.setCell ⟨b, i, none⟩ (rowV n bs[j])).setCell ⟨b, j, none⟩ (rowV n bs[i])) : WorkS w w' g b n (swapL bs i j hi hj) (swapL rows i j hi2 hj2) := by
  have hF : Fr (fun k => k = b) wr w' := by
    rw [hw]
    exact ((Fr.refl (fun k => k = b) wr).setCell (p := ⟨b, i, none⟩) (fun _ => rfl) _).setCell (p := ⟨b, j, none⟩) (fun _ => rfl) _
  refine ⟨h.fd.fr hF (fun e => h.bne e.symm), ?_, by rw [swapL_len]; exact h.lb, by rw [swapL_len]; exact h.lr, fun r hr => h.all r (swapL_perm _ _ _ _ _ r hr), fun k k1 k2 => ?_, swapL_nodup bs h.nodup i j hi hj, fun x hx => h.apart x (swapL_perm _ _ _ _ _ x hx), h.bge, h.bne, h.fr.own hF h.bge⟩
  · rw [hw, heap_setCell_same (heap_setCell_same h.arr _) _, List.setIfInBounds_toArray, List.setIfInBounds_toArray]
    unfold swapL
    rw [List.map_set, List.map_set]
  · have kb : k < bs.length := by rw [swapL_len] at k1; exact k1
    have kr : k < rows.length := by rw [swapL_len] at k2; exact k2
    have h1 := swapL_get bs i j hi hj k kb
    have h2 := swapL_get rows i j hi2 hj2 k kr
    rw [List.getElem?_eq_getElem k1] at h1
    rw [List.getElem?_eq_getElem k2] at h2
    rw [Option.some.inj h1, Option.some.inj h2]
    by_cases e1 : k = j
    · rw [if_pos e1, if_pos e1]
      exact hF.heap (h.each i hi hi2) (h.apart _ (List.getElem_mem hi)).1
    · rw [if_neg e1, if_neg e1]
      by_cases e2 : k = i
      · rw [if_pos e2, if_pos e2]
        exact hF.heap (h.each j hj hj2) (h.apart _ (List.getElem_mem hj)).1
      · rw [if_neg e2, if_neg e2]
        exact hF.heap (h.each k kb kr) (h.apart _ (List.getElem_mem kb)).1
end Go.Proofs.Ytdkjmnhblepkaaa
namespace Go.Proofs.Ytdkjmnhblepkaaa
open Go.RowKit
set_option linter.unusedVariables false
set_option linter.unusedSimpArgs false
set_option maxRecDepth 100000

/-! rs.invert, plain. -/
def pivF (rows : List (List UInt8)) (j n : Nat) : Nat := ((List.range n).find? (fun t => decide (j ≤ t) && (((rows.getD t []).getD j 0) != 0))).getD n
def swapT (l : List (List UInt8)) (i j : Nat) : List (List UInt8) := (l.set i (l.getD j [])).set j (l.getD i [])
def elimF (rows : List (List UInt8)) (j : Nat) : Nat → List (List UInt8)
  | 0 => rows
  | i + 1 => if i = j then elimF rows j i else (elimF rows j i).set i (takeF ((elimF rows j i).getD i []) ((elimF rows j i).getD j []) (((elimF rows j i).getD i []).getD j 0))
def pivR (rows : List (List UInt8)) (j n : Nat) : List (List UInt8) := swapT rows j (pivF rows j n)
def scalR (rows : List (List UInt8)) (j n : Nat) : List (List UInt8) := (pivR rows j n).set j (scaleF ((pivR rows j n).getD j []) (ginv (((pivR rows j n).getD j []).getD j 0)))
def gauss1 (rows : List (List UInt8)) (j n : Nat) : List (List UInt8) := elimF (scalR rows j n) j n
def gaussN (rows : List (List UInt8)) (n : Nat) : Nat → List (List UInt8)
  | 0 => rows
  | j + 1 => gauss1 (gaussN rows n j) j n
def augF (m : List (List UInt8)) (n : Nat) : List (List UInt8) := (List.range n).map (fun i => m.getD i [] ++ unitF n i)
def invF (m : List (List UInt8)) (n : Nat) : List (List UInt8) := (gaussN (augF m n) n n).map (List.drop n)
/-- the pivot is there -/
def pivOk (m : List (List UInt8)) (n : Nat) : Prop := ∀ j, j < n → pivF (gaussN (augF m n) n j) j n < n
/-- of 'some bytes' in two parts and one of parity, without the first part -/
def someB : List UInt8 := [115, 111, 109, 101, 32, 98, 121, 116, 101, 115]
theorem some_back : dataF 2 [(encodeF 2 1 (splitF 2 someB) 5).getD 1 [], (encodeF 2 1 (splitF 2 someB) 5).getD 2 []] (invF [rowF 2 1, rowF 2 2] 2) 5 = splitF 2 someB := by decide +kernel
theorem some_piv : pivF (gaussN (augF [rowF 2 1, rowF 2 2] 2) 2 0) 0 2 = 1 ∧ pivF (gaussN (augF [rowF 2 1, rowF 2 2] 2) 2 1) 1 2 = 1 := by decide +kernel
end Go.Proofs.Ytdkjmnhblepkaaa
namespace Go.Proofs.Ytdkjmnhblepkaaa
open Go.RowKit
set_option linter.unusedVariables false
set_option linter.unusedSimpArgs false
set_option maxRecDepth 100000

/-! rs.invert: its rows are made, one behind the other. -/
structure AugS (w wr : World) (g b n : Nat) (bs : List Nat) (rows : List (List UInt8)) : Prop where
  fd : FieldAt wr g
  arr : wr.heap[b]? = some (.cells (bs.map (rowV n) ++ List.replicate (n - bs.length) (Value.slice none 0 0)).toArray 33 (0, 0))
  lr : rows.length = bs.length
  all : ∀ r ∈ rows, r.length = 2 * n
  each : ∀ j (h1 : j < bs.length) (h2 : j < rows.length), wr.heap[bs[j]]? = some (.cells (rows[j].map byteV).toArray 5 (0, 0))
  nodup : bs.Nodup
  apart : ∀ x ∈ bs, x ≠ b ∧ x ≠ g ∧ w.heap.size ≤ x
  bge : w.heap.size ≤ b
  bne : b ≠ g
  fr : Fr (fun i => i = g) w wr
theorem AugS.start {w V : World} {g n : Nat} (hg : FieldAt w g) (hV : V = w.alloc (.cells (List.replicate n (Value.slice none 0 0)).toArray 33)) : AugS w V g w.heap.size n [] [] := by
  have hF : Fr none_ w V := by rw [hV]; exact (Fr.refl _ _).alloc _
  have hl := hg.lt
  exact ⟨hg.fr hF (fun h => h), by rw [hV]; exact heap_alloc_new _ _, rfl, fun r hr => by simp at hr, fun j hj => absurd hj (by simp), List.nodup_nil, fun x hx => by simp at hx, Nat.le_refl _, by omega, Fr.of0 hF⟩
theorem AugS.cell {w wr : World} {g b n j : Nat} {bs : List Nat} {rows : List (List UInt8)} (h : AugS w wr g b n bs rows) (hl : bs.length = j) (hk : j < n) : wr.cell? ⟨b, j, none⟩ = some (.slice none 0 0) := by
  rw [cell_of_blk h.arr, List.getElem?_toArray, List.getElem?_append_right (by rw [List.length_map]; omega), List.getElem?_replicate, if_pos (by rw [List.length_map]; omega)]
theorem AugS.fz {w wr : World} {g b n : Nat} {bs : List Nat} {rows : List (List UInt8)} (h : AugS w wr g b n bs rows) (o : Nat) : wr.frozen? ⟨b, o, none⟩ = false := frozen_of_blk h.arr o
theorem AugS.lt {w wr : World} {g b n : Nat} {bs : List Nat} {rows : List (List UInt8)} (h : AugS w wr g b n bs rows) : b < wr.heap.size := blk_lt h.arr
theorem AugS.push {w wr V : World} {g b n nb : Nat} {bs : List Nat} {rows : List (List UInt8)} {r : List UInt8} (h : AugS w wr g b n bs rows) (hk : bs.length < n) (hF : Fr none_ wr V) (hnb : wr.heap.size ≤ nb) (hr : V.heap[nb]? = some (.cells (r.map byteV).toArray 5 (0, 0))) (hl : r.length = 2 * n) :
    AugS w (V.setCell ⟨b, bs.length, none⟩ (rowV n nb)) g b n (bs ++ [nb]) (rows ++ [r]) := by
  have hlt := h.lt
  have hgl := h.fd.lt
  have hsz := h.fr.size
  have hF2 := Fr.set V b bs.length (rowV n nb)
  have hne : nb ≠ b := by omega
  have harr := hF.heap0 h.arr
  have hbsl : ∀ x ∈ bs, x < wr.heap.size := fun x hx => by
    obtain ⟨j, hj, rfl⟩ := List.getElem_of_mem hx
    exact blk_lt (h.each j hj (by rw [h.lr]; exact hj))
  refine ⟨(h.fd.fr hF (fun h => h)).fr hF2 (fun e => h.bne e.symm), ?_, by simp [h.lr], fun x hx => ?_, fun j h1 h2 => ?_, ?_, fun x hx => ?_, h.bge, h.bne, (h.fr.trans0 hF).own hF2 h.bge⟩
  · rw [heap_setCell_same harr]
    obtain ⟨q, hq⟩ : ∃ q, n - bs.length = q + 1 := ⟨n - bs.length - 1, by omega⟩
    have hq2 : n - (bs ++ [nb]).length = q := by rw [List.length_append, List.length_singleton]; omega
    rw [hq, hq2, List.replicate_succ]
    congr 2
    rw [List.setIfInBounds_toArray, List.set_append_right _ _ (by rw [List.length_map]; exact Nat.le_refl _), List.length_map, Nat.sub_self, List.set_cons_zero, List.map_append, List.append_assoc]
    rfl
  · rcases List.mem_append.1 hx with e | e
    · exact h.all x e
    · rw [List.mem_singleton.1 e]; exact hl
  · by_cases hj : j < bs.length
    · have hj2 : j < rows.length := by rw [h.lr]; exact hj
      rw [List.getElem_append_left hj, List.getElem_append_left hj2]
      exact hF2.heap (hF.heap0 (h.each j hj hj2)) (h.apart _ (List.getElem_mem hj)).1
    · have hj2 : j = bs.length := by rw [List.length_append, List.length_singleton] at h1; omega
      subst hj2
      rw [List.getElem_append_right (Nat.le_refl _), List.getElem_append_right (by rw [h.lr]; exact Nat.le_refl _)]
      simp only [Nat.sub_self, List.getElem_cons_zero, h.lr]
      exact hF2.heap hr hne
  · rw [List.nodup_append]
    refine ⟨h.nodup, by simp, fun a ha c hc => ?_⟩
    rw [List.mem_singleton.1 hc]
    have := hbsl a ha
    omega
  · rcases List.mem_append.1 hx with e | e
    · exact h.apart x e
    · rw [List.mem_singleton.1 e]; exact ⟨hne, by omega, by omega⟩
/-- the last row is turned -/
theorem AugS.last {w wr : World} {g b n nb : Nat} {bs : List Nat} {rows : List (List UInt8)} {r r' : List UInt8} (h : AugS w wr g b n (bs ++ [nb]) (rows ++ [r])) (k : Nat) (x : UInt8) (hr : r.set k x = r') : AugS w (wr.setCell ⟨nb, k, none⟩ (byteV x)) g b n (bs ++ [nb]) (rows ++ [r']) := by
  have hlr : rows.length = bs.length := by have := h.lr; simp at this; exact this
  have ha := h.apart nb (by simp)
  have hF := Fr.set wr nb k (byteV x)
  have hn := List.nodup_append.1 h.nodup
  refine ⟨h.fd.fr hF (fun e => ha.2.1 e.symm), hF.heap h.arr (fun e => ha.1 e.symm), by simp [hlr], fun y hy => ?_, fun j h1 h2 => ?_, h.nodup, h.apart, h.bge, h.bne, h.fr.own hF ha.2.2⟩
  · rcases List.mem_append.1 hy with e | e
    · exact h.all y (List.mem_append_left _ e)
    · rw [List.mem_singleton.1 e, ← hr, List.length_set]; exact h.all r (by simp)
  · by_cases hj : j < bs.length
    · have hj2 : j < rows.length := by omega
      have he := h.each j (by simp; omega) (by simp; omega)
      rw [List.getElem_append_left hj, List.getElem_append_left hj2] at he
      rw [List.getElem_append_left hj, List.getElem_append_left hj2]
      exact hF.heap he (fun e => hn.2.2 _ (List.getElem_mem hj) nb (by simp) e)
    · have hj2 : j = bs.length := by rw [List.length_append, List.length_singleton] at h1; omega
      subst hj2
      have he := h.each bs.length (by simp) (by simp [hlr])
      rw [List.getElem_append_right (Nat.le_refl _), List.getElem_append_right (by omega)] at he
      rw [List.getElem_append_right (Nat.le_refl _), List.getElem_append_right (by omega)]
      simp only [Nat.sub_self, List.getElem_cons_zero, hlr] at he ⊢
      rw [heap_setCell_same he, ← hr, List.map_set]
      simp
theorem AugS.work {w wr : World} {g b n : Nat} {bs : List Nat} {rows : List (List UInt8)} (h : AugS w wr g b n bs rows) (hl : bs.length = n) : WorkS w wr g b n bs rows :=
  ⟨h.fd, by have := h.arr; rw [hl, Nat.sub_self, List.replicate_zero, List.append_nil] at this; exact this, hl, by rw [h.lr]; exact hl, h.all, h.each, h.nodup, h.apart, h.bge, h.bne, h.fr⟩
theorem augF_take (m : List (List UInt8)) (n j : Nat) (hj : j < n) : (augF m n).take (j + 1) = (augF m n).take j ++ [m.getD j [] ++ unitF n j] := by
  unfold augF
  rw [← List.map_take, ← List.map_take, List.take_range, List.take_range, Nat.min_eq_left (by omega), Nat.min_eq_left (by omega), List.range_succ, List.map_append]
  rfl
theorem augF_len (m : List (List UInt8)) (n : Nat) : (augF m n).length = n := by simp [augF]
theorem aug_set (r : List UInt8) (n i : Nat) (hr : r.length = n) : (r ++ List.replicate n 0).set (n + i) 1 = r ++ unitF n i := by
  unfold unitF
  rw [List.set_append_right _ _ (by omega), hr, Nat.add_sub_cancel_left]
end Go.Proofs.Ytdkjmnhblepkaaa
namespace Go.Proofs.Ytdkjmnhblepkaaa
open Go.RowKit
set_option linter.unusedVariables false
set_option linter.unusedSimpArgs false
set_option maxRecDepth 100000

/-! rs.invert: a row is made: its bytes, and as many noughts behind them. -/
/-- an append at a step of a region that draws, by its run equation -/
theorem step_append_run {P : Program} {w : World} {ops : Array Oper} {o : Oper} {a : Act} {K : Act → World → Prop} {Q : Exit → Act → World → Prop} {E : Prop} (hgd : o.guard = none) (s x : Operand) (ts : Array TypeId)
    (ho : o.op = .call { callee := .builtin .append, args := #[s, x], argTypes := ts }) (v u r : Value) (w' : World) (hs : a.eval s = v) (hx : a.eval x = u)
    (hr : ∀ ty, (Builtin.append_ ts ty #[v, u]).run P w = .ok r w') (h : K (a.put o.dst r) w') :
    if Region.wanted o (yielded ops a.tmps) = true then Oper.wp P o a w K Q else E := by
  have hw : Region.wanted o (yielded ops a.tmps) = true := by simp [Region.wanted, hgd]
  rw [if_pos hw]
  unfold Oper.wp execOp
  simp only [ho, resolve, invoke, builtin, Sem.run_bind, Sem.run_pure, Result.andThen_ok, List.map_toArray, List.map_cons, List.map_nil, hs, hx, hr]
  exact h
theorem mkCap (n c : Nat) (hnc : n ≤ c) (hn : c ≤ 1000000) (w : World) : (Instr.makeSlice 33 (.int .i64 (n : Int)) (.int .i64 (c : Int))).run Try.prog w = .ok (.slice (some ⟨w.heap.size, 0, none⟩) n c) (w.alloc (.cells ((List.replicate c (0 : UInt8)).map byteV).toArray 5)) := by
  obtain ⟨i, hi, hzz⟩ := Option.map_eq_some_iff.1 info_u8R
  simp only [Prod.mk.injEq] at hzz
  obtain ⟨hz, hs, hb⟩ := hzz
  have h := run_make (P := Try.prog) w 33 5 i _ Try.underlying33 hi hz .i64 .i64 n c (by omega) (by omega) (by rw [hb]; omega) (by omega)
  rw [hs, Int.toNat_natCast, Int.toNat_natCast] at h
  have e : madeCells (Value.int .u8 0).cells (c * 1) = ((List.replicate c (0 : UInt8)).map byteV).toArray := by
    apply Array.toList_inj.1
    rw [show (Value.int .u8 0).cells = #[Value.int .u8 0] from rfl, toList_madeCells_one, Nat.mul_one, List.map_replicate]
    rfl
  rw [e] at h
  exact h
structure AugRow (w V1 V2 V3 : World) (n nb : Nat) (b o c : Nat) (r : List UInt8) : Prop where
  made : (Instr.makeSlice 33 (.int .i64 0) (.int .i64 ((2 * n : Nat) : Int))).run Try.prog w = .ok (.slice (some ⟨nb, 0, none⟩) 0 (2 * n)) V1
  app1 : ∀ ty, (Builtin.append_ #[33, 33] ty #[.slice (some ⟨nb, 0, none⟩) 0 (2 * n), .slice (some ⟨b, o, none⟩) n c]).run Try.prog V1 = .ok (.slice (some ⟨nb, 0, none⟩) n (2 * n)) V2
  app2 : ∀ ty, (Builtin.append_ #[33, 3] ty #[.slice (some ⟨nb, 0, none⟩) n (2 * n), .int .i64 (n : Int)]).run Try.prog V2 = .ok (.slice (some ⟨nb, 0, none⟩) (2 * n) (2 * n)) V3
  f1 : Fr none_ w V1
  f2 : Fr none_ w V2
  f3 : Fr none_ w V3
  out : V3.heap[nb]? = some (.cells ((r ++ List.replicate n 0).map byteV).toArray 5 (0, 0))
theorem aug_row (w : World) (n b o c : Nat) (hn : n ≤ 1000) (r : List UInt8) (hr : r.length = n) (hc : CellsAt w (some ⟨b, o, none⟩) (r.map byteV)) : ∃ V1 V2 V3, AugRow w V1 V2 V3 n w.heap.size b o c r := by
  obtain ⟨i, hi, hzz⟩ := Option.map_eq_some_iff.1 info_u8R
  simp only [Prod.mk.injEq] at hzz
  obtain ⟨hz, hs, hb⟩ := hzz
  obtain ⟨nb, hnb⟩ : ∃ nb, nb = w.heap.size := ⟨_, rfl⟩
  obtain ⟨V1, hV1⟩ : ∃ V1, V1 = w.alloc (.cells ((List.replicate (2 * n) (0 : UInt8)).map byteV).toArray 5) := ⟨_, rfl⟩
  have hmk := mkCap 0 (2 * n) (by omega) (by omega) w
  have hF1 : Fr none_ w V1 := by rw [hV1]; exact (Fr.refl _ _).alloc _
  have h1 : V1.heap[nb]? = some (.cells ((List.replicate (2 * n) (0 : UInt8)).map byteV).toArray 5 (0, 0)) := by rw [hV1, hnb]; exact heap_alloc_new _ _
  rw [← hV1] at hmk
  rw [← hnb] at hmk ⊢
  have hnews : ∀ j u, (r.map byteV)[j]? = some u → V1.cell? ((⟨b, o, none⟩ : Addr).add j) = some u := fun j u hu => by
    obtain ⟨hj, rfl⟩ := List.getElem?_eq_some_iff.1 hu
    obtain ⟨b', o', e, hcc⟩ := hc j hj
    cases e
    rw [Addr.add_lit]
    exact hF1.cell hcc (fun h => h)
  have ha1 := fun ty => run_append_room (P := Try.prog) (w := V1) 33 ty 5 i Try.underlying33 hi nb 0 (2 * n) _ h1 ⟨b, o, none⟩ n c (r.map byteV) (by rw [hs, List.length_map, hr, Nat.mul_one]) hnews (bytes_one r) (by omega) (by simp [hr]; omega)
  obtain ⟨V2, hV2⟩ : ∃ V2, V2 = V1.setRow nb ((r ++ List.replicate n 0).map byteV).toArray := ⟨_, rfl⟩
  have e2 : (List.take (0 * i.size) ((List.replicate (2 * n) (0 : UInt8)).map byteV).toArray.toList ++ r.map byteV ++ List.drop (0 * i.size + (r.map byteV).length) ((List.replicate (2 * n) (0 : UInt8)).map byteV).toArray.toList) = (r ++ List.replicate n 0).map byteV := by
    rw [Nat.zero_mul, List.take_zero, List.nil_append, Nat.zero_add, List.length_map, hr, List.map_append, ← List.map_drop, List.drop_replicate, show 2 * n - n = n by omega]
  rw [e2, ← hV2, Nat.zero_add] at ha1
  have hF2 : Fr (fun k => k = nb) V1 V2 := by rw [hV2]; exact ⟨rfl, rfl, rfl, by simp [World.setRow], fun k _ hk => setRow_other V1 nb k _ hk⟩
  have h2 : V2.heap[nb]? = some (.cells ((r ++ List.replicate n 0).map byteV).toArray 5 (0, 0)) := by rw [hV2]; exact setRow_heap V1 nb _ _ _ _ h1
  have ha2 := fun ty => run_append_make (P := Try.prog) V2 33 3 ty 5 i _ Try.underlying33 Try.underlying3 hi hs hz rfl hb rfl nb n (2 * n) _ h2 n (by omega) (by omega) (by simp [hr])
  obtain ⟨V3, hV3⟩ : ∃ V3, V3 = V2.setRow nb ((r ++ List.replicate n 0).map byteV).toArray := ⟨_, rfl⟩
  have e3 : (List.take n ((r ++ List.replicate n (0 : UInt8)).map byteV).toArray.toList ++ List.replicate n (Value.int .u8 0) ++ List.drop (n + n) ((r ++ List.replicate n (0 : UInt8)).map byteV).toArray.toList) = (r ++ List.replicate n 0).map byteV := by
    rw [← List.map_take, ← List.map_drop, List.take_append_of_le_length (by omega), List.take_of_length_le (by omega), List.drop_eq_nil_of_le (by simp; omega), List.map_nil, List.append_nil, List.map_append, List.map_replicate]
    rfl
  rw [e3, ← hV3, show n + n = 2 * n by omega] at ha2
  have hF3 : Fr (fun k => k = nb) V2 V3 := by rw [hV3]; exact ⟨rfl, rfl, rfl, by simp [World.setRow], fun k _ hk => setRow_other V2 nb k _ hk⟩
  have h3 : V3.heap[nb]? = some (.cells ((r ++ List.replicate n 0).map byteV).toArray 5 (0, 0)) := by rw [hV3]; exact setRow_heap V2 nb _ _ _ _ h2
  have g2 := hF1.own hF2 (by omega)
  exact ⟨V1, V2, V3, hmk, ha1, ha2, hF1, g2, g2.own hF3 (by omega), h3⟩
end Go.Proofs.Ytdkjmnhblepkaaa

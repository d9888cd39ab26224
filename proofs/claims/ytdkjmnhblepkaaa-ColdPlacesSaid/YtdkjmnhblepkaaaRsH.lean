import Derived.Test.YtdkjmnhblepkaaaRsG
namespace Go.Proofs.Ytdkjmnhblepkaaa
open Go.RowKit
set_option linter.unusedVariables false
set_option linter.unusedSimpArgs false
set_option maxRecDepth 100000

/-! rs.invert: contracts in the walk's own words; rows that were appended onto nil. -/
theorem gfinv_u {w : World} {g : Nat} (h : FieldAt w g) (a : UInt8) (h0 : ¬ a = 0) :
    Calls Try.prog 49 #[ptr g, .int .u8 (a.toNat : Int)] w fun e w' => e = .returned (.tuple #[.int .u8 ((ginv a).toNat : Int), .nilIface]) ∧ FieldM w' g ∧ Fr (fun i => i = g) w w' := by
  have h1 := gfinv_any h a
  have hz : ¬ a.toNat = 0 := fun e => h0 (UInt8.toNat_inj.1 (by simpa using e))
  unfold ginvV at h1
  rw [if_neg hz] at h1
  exact h1
theorem scale_u {w wr : World} {g b n : Nat} {bs : List Nat} {rows : List (List UInt8)} (h : WorkS w wr g b n bs rows) (j : Nat) (h1 : j < bs.length) (h2 : j < rows.length) (hn : n ≤ 100) (bj : Nat) (hbj : bj = bs[j]) (x : UInt8) :
    Calls Try.prog 51 #[ptr g, .slice (some ⟨bj, 0, none⟩) (2 * n) (2 * n), .int .u8 (x.toNat : Int)] wr fun e w' => e = .returned (.tuple #[]) ∧ WorkS w w' g b n bs (rows.set j (scaleF (rows.getD j []) x)) := by
  have hl : rows[j].length = 2 * n := h.all _ (List.getElem_mem _)
  subst hbj
  have hk := scale_any (h.row j h1 h2) (2 * n) x (by omega)
  rw [hl] at hk
  refine hk.mono ?_
  rintro e w' ⟨rfl, hR⟩
  rw [getD_of rows j [] h2]
  exact ⟨rfl, h.turn j h1 h2 hR (by rw [scaleF_len]; exact hl)⟩
theorem take_u {w wr : World} {g b n : Nat} {bs : List Nat} {rows : List (List UInt8)} (h : WorkS w wr g b n bs rows) (i j : Nat) (h1 : i < bs.length) (h2 : i < rows.length) (k1 : j < bs.length) (k2 : j < rows.length) (hij : ¬ i = j) (hn : n ≤ 100) (bi bj : Nat) (hbi : bi = bs[i]) (hbj : bj = bs[j]) (x : UInt8) :
    Calls Try.prog 52 #[ptr g, .slice (some ⟨bi, 0, none⟩) (2 * n) (2 * n), .slice (some ⟨bj, 0, none⟩) (2 * n) (2 * n), .int .u8 (x.toNat : Int)] wr fun e w' => e = .returned (.tuple #[]) ∧ WorkS w w' g b n bs (rows.set i (takeF (rows.getD i []) (rows.getD j []) x)) := by
  have hl : rows[i].length = 2 * n := h.all _ (List.getElem_mem _)
  have hl2 : rows[j].length = 2 * n := h.all _ (List.getElem_mem _)
  subst hbi hbj
  have hk := take_any (h.row i h1 h2) (h.each j k1 k2) ⟨fun e => hij (nodup_inj h.nodup k1 h1 e).symm, (h.apart _ (List.getElem_mem k1)).2.1⟩ (by omega) (2 * n) (2 * n) x (by omega)
  rw [hl] at hk
  refine hk.mono ?_
  rintro e w' ⟨rfl, hR⟩
  rw [getD_of rows i [] h2, getD_of rows j [] k2]
  exact ⟨rfl, h.turn i h1 h2 hR (by rw [takeF_len]; exact hl)⟩
/-- rows that were made by an append onto nil, of which the first are made -/
structure OwnC (w wr : World) (b : Nat) (v : Value) (r : List UInt8) : Prop where
  at_ : ∃ bj cj, v = .slice (some ⟨bj, 0, none⟩) r.length cj ∧ CellsAt wr (some ⟨bj, 0, none⟩) (r.map byteV) ∧ w.heap.size ≤ bj ∧ bj < wr.heap.size ∧ bj ≠ b
structure OutC (w wr : World) (b n : Nat) (rows : List (List UInt8)) : Prop where
  ge : w.heap.size ≤ b
  fr : Fr none_ w wr
  blk : ∃ vs : List Value, vs.length = rows.length ∧ wr.heap[b]? = some (.cells (vs ++ List.replicate (n - rows.length) (Value.slice none 0 0)).toArray 33 (0, 0)) ∧ ∀ j (hj : j < rows.length), ∃ v, vs[j]? = some v ∧ OwnC w wr b v rows[j]
theorem OwnC.fr {w wr w' : World} {b : Nat} {v : Value} {r : List UInt8} (h : OwnC w wr b v r) {S : Nat → Prop} (hF : Fr S wr w') (hS : ∀ i, i < wr.heap.size → S i → i = b) : OwnC w w' b v r := by
  obtain ⟨bj, cj, h1, h2, h3, h4, h5⟩ := h
  refine ⟨bj, cj, h1, h2.fr hF (fun i hi e => ?_), h3, Nat.lt_of_lt_of_le h4 hF.size, h5⟩
  obtain ⟨o, e2⟩ := hi
  cases e2
  exact h5 (hS _ h4 e)
theorem OutC.start {w V : World} {n : Nat} (hV : V = w.alloc (.cells (List.replicate n (Value.slice none 0 0)).toArray 33)) : OutC w V w.heap.size n [] :=
  ⟨Nat.le_refl _, by rw [hV]; exact (Fr.refl _ _).alloc _, [], rfl, by rw [hV]; exact heap_alloc_new _ _, fun j hj => absurd hj (by simp)⟩
theorem OutC.cell {w wr : World} {b n j : Nat} {rows : List (List UInt8)} (h : OutC w wr b n rows) (hl : rows.length = j) (hk : j < n) : wr.cell? ⟨b, j, none⟩ = some (.slice none 0 0) := by
  obtain ⟨vs, h1, h2, h3⟩ := h.blk
  rw [cell_of_blk h2, List.getElem?_toArray, List.getElem?_append_right (by omega), List.getElem?_replicate, if_pos (by omega)]
theorem OutC.fz {w wr : World} {b n : Nat} {rows : List (List UInt8)} (h : OutC w wr b n rows) (o : Nat) : wr.frozen? ⟨b, o, none⟩ = false := by
  obtain ⟨vs, h1, h2, h3⟩ := h.blk
  exact frozen_of_blk h2 o
theorem OutC.lt {w wr : World} {b n : Nat} {rows : List (List UInt8)} (h : OutC w wr b n rows) : b < wr.heap.size := by
  obtain ⟨vs, h1, h2, h3⟩ := h.blk
  exact blk_lt h2
/-- new blocks are laid -/
theorem OutC.more {w wr w' : World} {b n : Nat} {rows : List (List UInt8)} (h : OutC w wr b n rows) (hF : Fr none_ wr w') : OutC w w' b n rows := by
  obtain ⟨vs, h1, h2, h3⟩ := h.blk
  exact ⟨h.ge, h.fr.trans hF, vs, h1, hF.heap0 h2, fun j hj => by
    obtain ⟨v, e1, e2⟩ := h3 j hj
    exact ⟨v, e1, e2.fr hF (fun i _ e => e.elim)⟩⟩
theorem OutC.push {w wr : World} {b n bj cj j : Nat} {rows : List (List UInt8)} {r : List UInt8} (h : OutC w wr b n rows) (hj : rows.length = j) (hk : j < n) (hr : CellsAt wr (some ⟨bj, 0, none⟩) (r.map byteV)) (h1 : w.heap.size ≤ bj) (h2 : bj < wr.heap.size) (h3 : bj ≠ b) : OutC w (wr.setCell ⟨b, j, none⟩ (.slice (some ⟨bj, 0, none⟩) r.length cj)) b n (rows ++ [r]) := by
  subst hj
  obtain ⟨vs, e1, e2, e3⟩ := h.blk
  have hF := Fr.set wr b rows.length (.slice (some ⟨bj, 0, none⟩) r.length cj)
  refine ⟨h.ge, h.fr.own hF h.ge, vs ++ [.slice (some ⟨bj, 0, none⟩) r.length cj], by simp [e1], ?_, fun j hj => ?_⟩
  · rw [heap_setCell_same e2]
    obtain ⟨q, hq⟩ : ∃ q, n - rows.length = q + 1 := ⟨n - rows.length - 1, by omega⟩
    have hq2 : n - (rows ++ [r]).length = q := by rw [List.length_append, List.length_singleton]; omega
    rw [hq, hq2, List.replicate_succ]
    congr 2
    rw [List.setIfInBounds_toArray, ← e1, List.set_append_right _ _ (Nat.le_refl _), Nat.sub_self, List.set_cons_zero, List.append_assoc]
    rfl
  · by_cases hlt : j < rows.length
    · obtain ⟨v, g1, g2⟩ := e3 j hlt
      refine ⟨v, by rw [List.getElem?_append_left (by omega)]; exact g1, ?_⟩
      rw [List.getElem_append_left hlt]
      exact g2.fr hF (fun i _ e => e)
    · have hj2 : j = rows.length := by rw [List.length_append, List.length_singleton] at hj; omega
      subst hj2
      refine ⟨_, by rw [List.getElem?_append_right (by omega), e1, Nat.sub_self]; rfl, ?_⟩
      rw [List.getElem_append_right (by omega)]
      simp only [Nat.sub_self, List.getElem_cons_zero]
      exact ⟨bj, cj, rfl, hr.fr hF (fun i hi e => by obtain ⟨o, e2⟩ := hi; cases e2; exact h3 e), h1, Nat.lt_of_lt_of_le h2 hF.size, h3⟩
/-- a row is appended onto nil and laid -/
theorem OutC.app {w wr w4 : World} {b n j m q : Nat} {rows : List (List UInt8)} {r : List UInt8} {v' : Value} (h : OutC w wr b n rows) (hj : rows.length = j) (hk : j < n) (hown : w4.ownsRow wr.heap.size 5 1 v' (0 + m) ([] ++ r.map byteV)) (hg : wr.grownBy w4 (Value.slice none 0 0).ownBlock) (hq : r.length = q) (hm : 0 + m = q) (h0 : 0 < q) :
    ∃ g' cap', v' = .slice (some ⟨g', 0, none⟩) q cap' ∧ w4.cell? ⟨b, j, none⟩ = some (.slice none 0 0) ∧ w4.frozen? ⟨b, j, none⟩ = false ∧ Hid (OutC w (w4.setCell ⟨b, j, none⟩ (.slice (some ⟨g', 0, none⟩) q cap')) b n (rows ++ [r])) := by
  rw [hm, List.nil_append] at hown
  obtain ⟨g', cap', rfl, hg1, hg2⟩ : ∃ g' cap', v' = .slice (some ⟨g', 0, none⟩) q cap' ∧ wr.heap.size ≤ g' ∧ g' < w4.heap.size := by
    rcases hown.2 with ⟨_, e0⟩ | ⟨g, cap, cur, hv, hb, hh, _⟩
    · omega
    · exact ⟨g, cap, hv, hb, blk_lt hh⟩
  have hgr : Fr none_ wr w4 := (Fr.of_grown hg).mono (fun _ _ e => by cases e)
  have hO4 := h.more hgr
  have hcl : CellsAt w4 (some ⟨g', 0, none⟩) (r.map byteV) := by
    obtain ⟨A9, c9, h9, h8, _⟩ := ownsRow_read hown
    cases h9
    exact h8
  have hbol := h.lt
  have hsz := h.fr.size
  have hO5 := hO4.push (cj := cap') hj hk hcl (by omega) hg2 (by omega)
  rw [hq] at hO5
  exact ⟨g', cap', rfl, hO4.cell hj hk, hO4.fz j, Lib.hid hO5⟩
/-- all are made: rows to read -/
theorem OutC.rows {w wr : World} {b n g : Nat} {rows : List (List UInt8)} (h : OutC w wr b n rows) (hg : g < w.heap.size) : RowsV wr g (some ⟨b, 0, none⟩) rows := by
  obtain ⟨vs, e1, e2, e3⟩ := h.blk
  have hge := h.ge
  refine ⟨⟨vs, e1, fun k hk => ⟨b, 0, rfl, ?_⟩, fun j hj => ?_⟩, fun b' hb' _ => by have := blkOf_some hb'; omega⟩
  · rw [cell_of_blk e2, List.getElem?_toArray, Nat.zero_add, List.getElem?_append_left hk, List.getElem?_eq_getElem hk]
  · obtain ⟨v, g1, bj, cj, rfl, g2, g3, g4, g5⟩ := e3 j hj
    exact ⟨some ⟨bj, 0, none⟩, cj, g1, g2, (fun h => by cases h), fun b' hb' _ => by have := blkOf_some hb'; omega⟩
/-- what invert returns -/
def InvPost (w : World) (g n : Nat) (rows : List (List UInt8)) (e : Ending) (w' : World) : Prop := ∃ b, e = .returned (.tuple #[.slice (some ⟨b, 0, none⟩) n n, .nilIface]) ∧ RowsV w' g (some ⟨b, 0, none⟩) rows ∧ FieldAt w' g ∧ Fr (fun i => i = g) w w' ∧ rows.length = n ∧ ∀ r ∈ rows, r.length = n
theorem elimF_len (rows : List (List UInt8)) (j : Nat) : ∀ i, (elimF rows j i).length = rows.length
  | 0 => rfl
  | i + 1 => by
    by_cases h : i = j
    · subst h; rw [elimF_succ_eq]; exact elimF_len rows i i
    · rw [elimF_succ_ne rows j i h, List.length_set]; exact elimF_len rows j i
theorem invF_len {m : List (List UInt8)} {n : Nat} {rows : List (List UInt8)} (h : gaussN (augF m n) n n = rows) (hl : rows.length = n) : (invF m n).length = n := by
  unfold invF
  rw [h, List.length_map, hl]
theorem invF_take {m : List (List UInt8)} {n j : Nat} {rows : List (List UInt8)} (h : gaussN (augF m n) n n = rows) (hj : j < rows.length) : (invF m n).take (j + 1) = (invF m n).take j ++ [(rows[j]).drop n] := by
  unfold invF
  rw [h, List.take_add_one, List.getElem?_map, List.getElem?_eq_getElem hj]
  rfl
end Go.Proofs.Ytdkjmnhblepkaaa

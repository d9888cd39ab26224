import Derived.Test.YtdkjmnhblepkaaaCold18
namespace Go.Proofs.Ytdkjmnhblepkaaa
open Go.RowKit
set_option linter.unusedVariables false
set_option linter.unusedSimpArgs false
set_option maxRecDepth 100000

/-! ColdPlaces: the law's own list of states is the places' states. -/
def stv (C : ColdS) (i : Nat) : Nat := (C.places.getD i ⟨0, 0, []⟩).st
def setl (s : Nat) : Nat := if s = 2 then 0 else s
def sts (C : ColdS) (j : Nat) : List Value := (List.range 4).map (fun i => Value.int .i64 ((if i < j then setl (stv C i) else stv C i : Nat) : Int))
theorem sts_len (C : ColdS) (j : Nat) : (sts C j).length = 4 := by simp [sts]
theorem sts_get (C : ColdS) (j i : Nat) (hi : i < 4) : (sts C j)[i]? = some (.int .i64 ((if i < j then setl (stv C i) else stv C i : Nat) : Int)) := by
  unfold sts
  rw [List.getElem?_map, List.getElem?_range hi]
  rfl
theorem sts_next (C : ColdS) (j : Nat) (hj : j < 4) : (sts C j).set j (.int .i64 ((setl (stv C j) : Nat) : Int)) = sts C (j + 1) := by
  apply List.ext_getElem?
  intro i
  by_cases hi : i < 4
  · rw [List.getElem?_set, sts_get C j i hi, sts_get C (j + 1) i hi, sts_len]
    by_cases e : j = i
    · subst e
      rw [if_pos rfl, if_pos hj, if_pos (by omega)]
    · rw [if_neg e]
      by_cases hlt : i < j
      · rw [if_pos hlt, if_pos (by omega)]
      · rw [if_neg hlt, if_neg (by omega)]
  · rw [List.getElem?_eq_none (by rw [List.length_set, sts_len]; omega), List.getElem?_eq_none (by rw [sts_len]; omega)]
theorem sts_same (C : ColdS) (j : Nat) (h2 : stv C j ≠ 2) : sts C (j + 1) = sts C j := by
  unfold sts
  apply List.map_congr_left
  intro i _
  by_cases e : i = j
  · subst e
    rw [if_pos (by omega), if_neg (by omega), show setl (stv C i) = stv C i from if_neg h2]
  · by_cases hlt : i < j
    · rw [if_pos hlt, if_pos (by omega)]
    · rw [if_neg hlt, if_neg (by omega)]
theorem stv_settle (C : ColdS) (hl : C.places.length = 4) (i : Nat) (hi : i < 4) : stv C.settle i = setl (stv C i) := by
  unfold stv ColdS.settle setl
  rw [List.getD_eq_getElem?_getD, List.getD_eq_getElem?_getD, List.getElem?_map, List.getElem?_eq_getElem (by omega)]
  simp only [Option.map_some, Option.getD_some]
  split <;> rfl
theorem sts_settle (C : ColdS) (hl : C.places.length = 4) : sts C.settle 0 = sts C 4 := by
  unfold sts
  apply List.map_congr_left
  intro i hi
  have hi4 := List.mem_range.1 hi
  rw [if_neg (by omega), if_pos hi4, stv_settle C hl i hi4]
theorem stv_put (C : ColdS) (k : Nat) (p : PlaceS) (hk : k < C.places.length) (i : Nat) : stv (C.putP k p) i = if i = k then p.st else stv C i := by
  unfold stv ColdS.putP
  rw [List.getD_eq_getElem?_getD, List.getD_eq_getElem?_getD, List.getElem?_set]
  by_cases e : k = i
  · subst e
    rw [if_pos rfl, if_pos rfl, if_pos hk]
    rfl
  · rw [if_neg e, if_neg (fun h => e h.symm)]
theorem sts_put (C : ColdS) (k : Nat) (p : PlaceS) (hk : k < C.places.length) (hk4 : k < 4) : (sts C 0).set k (.int .i64 (p.st : Int)) = sts (C.putP k p) 0 := by
  apply List.ext_getElem?
  intro i
  by_cases hi : i < 4
  · rw [List.getElem?_set, sts_get C 0 i hi, sts_get _ 0 i hi, sts_len, if_neg (Nat.not_lt_zero i), if_neg (Nat.not_lt_zero i), stv_put C k p hk i]
    by_cases e : k = i
    · subst e
      rw [if_pos rfl, if_pos hk4, if_pos rfl]
    · rw [if_neg e, if_neg (fun h => e h.symm)]
  · rw [List.getElem?_eq_none (by rw [List.length_set, sts_len]; omega), List.getElem?_eq_none (by rw [sts_len]; omega)]
/-- the least of the last t places that is free -/
def lfN (C : ColdS) : Nat → Int
  | 0 => -1
  | t + 1 => if stv C (3 - t) = 0 then ((3 - t : Nat) : Int) else lfN C t
theorem stv_at (C : ColdS) (k : Nat) (hk : k < C.places.length) : stv C k = (C.places[k]).st := by
  unfold stv
  rw [List.getD_eq_getElem?_getD, List.getElem?_eq_getElem hk]
  rfl
theorem lfN_all (C : ColdS) (hl : C.places.length = 4) : lfN C 4 = firstFree C.places := by
  have h0 := stv_at C 0 (by omega)
  have h1 := stv_at C 1 (by omega)
  have h2 := stv_at C 2 (by omega)
  have h3 := stv_at C 3 (by omega)
  by_cases e0 : stv C 0 = 0
  · rw [firstFree_some (k := 0) (by omega) (by rw [← h0]; exact e0) (fun j h => absurd h (by omega))]
    show (if stv C 0 = 0 then _ else _) = _
    rw [if_pos e0]
  · have l4 : lfN C 4 = lfN C 3 := by show (if stv C 0 = 0 then _ else _) = _; rw [if_neg e0]
    rw [l4]
    by_cases e1 : stv C 1 = 0
    · rw [firstFree_some (k := 1) (by omega) (by rw [← h1]; exact e1) (fun j h => by obtain rfl : j = 0 := by omega
                                                                                     rw [← h0]; exact e0)]
      show (if stv C 1 = 0 then _ else _) = _
      rw [if_pos e1]
    · have l3 : lfN C 3 = lfN C 2 := by show (if stv C 1 = 0 then _ else _) = _; rw [if_neg e1]
      rw [l3]
      by_cases e2 : stv C 2 = 0
      · rw [firstFree_some (k := 2) (by omega) (by rw [← h2]; exact e2) (fun j h => by
          obtain rfl | rfl : j = 0 ∨ j = 1 := by omega
          · rw [← h0]; exact e0
          · rw [← h1]; exact e1)]
        show (if stv C 2 = 0 then _ else _) = _
        rw [if_pos e2]
      · have l2 : lfN C 2 = lfN C 1 := by show (if stv C 2 = 0 then _ else _) = _; rw [if_neg e2]
        rw [l2]
        by_cases e3 : stv C 3 = 0
        · rw [firstFree_some (k := 3) (by omega) (by rw [← h3]; exact e3) (fun j h => by
            obtain rfl | rfl | rfl : j = 0 ∨ j = 1 ∨ j = 2 := by omega
            · rw [← h0]; exact e0
            · rw [← h1]; exact e1
            · rw [← h2]; exact e2)]
          show (if stv C 3 = 0 then _ else _) = _
          rw [if_pos e3]
        · have l1 : lfN C 1 = -1 := by show (if stv C 3 = 0 then _ else lfN C 0) = _; rw [if_neg e3]; rfl
          rw [l1, firstFree_none (fun j h => by
            obtain rfl | rfl | rfl | rfl : j = 0 ∨ j = 1 ∨ j = 2 ∨ j = 3 := by omega
            · rw [← h0]; exact e0
            · rw [← h1]; exact e1
            · rw [← h2]; exact e2
            · rw [← h3]; exact e3)]
/-- between two acts -/
structure PW (w wr : World) (x lb pb c g s6 : Nat) (ds : List (Nat × Nat × Nat)) (Ds : List DevS) (C : ColdS) (l : List (PlaceS × Value)) : Prop where
  cl : CL w wr x lb pb c g ds Ds C l
  st : wr.heap[s6]? = some (.cells (sts C 0).toArray 3 (0, 0))
  ge : w.heap.size ≤ s6
  cfg : C.d = 2 ∧ C.m = 1 ∧ C.first = 0 ∧ C.size = 100 ∧ C.places.length = 4
  calm : ∀ D ∈ Ds, Calm D
  sec : ∀ D ∈ Ds, D.sectors = 12
  dl : Ds.length = 3
theorem PW.step0 {w wr w' : World} {x lb pb c g s6 : Nat} {ds : List (Nat × Nat × Nat)} {Ds : List DevS} {C : ColdS} {l : List (PlaceS × Value)} (h : PW w wr x lb pb c g s6 ds Ds C l) (hF : Fr none_ wr w') : PW w w' x lb pb c g s6 ds Ds C l :=
  ⟨h.cl.step0 hF, hF.heap0 h.st, h.ge, h.cfg, h.calm, h.sec, h.dl⟩
theorem PW.ll {w wr : World} {x lb pb c g s6 : Nat} {ds : List (Nat × Nat × Nat)} {Ds : List DevS} {C : ColdS} {l : List (PlaceS × Value)} (h : PW w wr x lb pb c g s6 ds Ds C l) : l.length = 4 := by rw [h.cl.col.len, h.cfg.2.2.2.2]
theorem PW.lst {w wr : World} {x lb pb c g s6 : Nat} {ds : List (Nat × Nat × Nat)} {Ds : List DevS} {C : ColdS} {l : List (PlaceS × Value)} (h : PW w wr x lb pb c g s6 ds Ds C l) (k : Nat) (hk : k < l.length) : l[k].1.st = stv C k := by
  have hl := h.cl.col.len
  rw [stv_at C k (by omega)]
  have := h.cl.col.isl
  simp only [← this, List.getElem_map]
theorem PW.cell {w wr : World} {x lb pb c g s6 : Nat} {ds : List (Nat × Nat × Nat)} {Ds : List DevS} {C : ColdS} {l : List (PlaceS × Value)} (h : PW w wr x lb pb c g s6 ds Ds C l) (k : Nat) (hk : k < 4) : wr.cell? ⟨s6, k, none⟩ = some (.int .i64 (stv C k : Int)) := by
  rw [cell_of_blk h.st, List.getElem?_toArray, sts_get C 0 k hk, if_neg (by omega)]
/-- the list of states is not touched by the cold -/
theorem PW.far {w wr : World} {x lb pb c g s6 : Nat} {ds : List (Nat × Nat × Nat)} {Ds : List DevS} {C : ColdS} {l : List (PlaceS × Value)} (h : PW w wr x lb pb c g s6 ds Ds C l) : ¬ coldB ds g pb s6 := fun e => by
  rcases e with e | e | e
  · exact devsB_cells h.cl.dev h.st (by decide) e
  · subst e
    obtain ⟨cg, hg⟩ := fieldAt_blk h.cl.col.code.fd
    have := h.st
    rw [hg] at this
    exact absurd (Obj.cells.inj (Option.some.inj this)).2.1 (by decide)
  · subst e
    have := h.st
    rw [h.cl.col.pls.blk] at this
    exact absurd (Obj.cells.inj (Option.some.inj this)).2.1 (by decide)
theorem CL.s6 {w wr w' : World} {x lb pb c g s6 : Nat} {ds : List (Nat × Nat × Nat)} {Ds : List DevS} {C : ColdS} {l : List (PlaceS × Value)} (h : CL w wr x lb pb c g ds Ds C l) {vs : Array Value} (hb : wr.heap[s6]? = some (.cells vs 3 (0, 0))) (hge : w.heap.size ≤ s6) (hF : Fr (fun i => i = s6) wr w') : CL w w' x lb pb c g ds Ds C l := by
  refine ⟨h.col.fr hF (fun b c T hbc hT e => ?_), h.dev.fr hF (fun i hi b hb2 e => ?_), h.fr.trans' hF (fun i hi e => by omega), h.ge⟩
  · subst e
    rw [hb] at hbc
    have e2 := (Obj.cells.inj (Option.some.inj hbc)).2.1
    rcases hT with e | e | e | e | e | e <;> exact absurd (e2.trans e) (by decide)
  · subst e
    exact dev_cellsC (h.dev.at_ i hi (by rw [← h.dev.len]; exact hi)) hb (by decide) hb2
theorem PW.fit {w wr : World} {x lb pb c g s6 : Nat} {ds : List (Nat × Nat × Nat)} {Ds : List DevS} {C : ColdS} {l : List (PlaceS × Value)} (h : PW w wr x lb pb c g s6 ds Ds C l) : ∀ D ∈ Ds, ((C.first + C.places.length * sectC C.d C.size : Nat) : Int) ≤ D.sectors := fun D hD => by
  obtain ⟨e1, e2, e3, e4, e5⟩ := h.cfg
  rw [h.sec D hD, e1, e3, e4, e5]
  decide
/-- a place is taken, and so told in the list -/
theorem PW.putOk {w wr w1 : World} {x lb pb c g s6 : Nat} {ds : List (Nat × Nat × Nat)} {Ds : List DevS} {C : ColdS} {l : List (PlaceS × Value)} (h : PW w wr x lb pb c g s6 ds Ds C l) {k : Nat} (hk : k < 4) {txt : List UInt8} {e : Ending} (hp : PutOk wr x lb pb c g ds Ds C l k txt e w1) :
    e = .returned (.tuple #[.int .i64 (k : Int), .nilIface]) ∧ Fr (coldB ds g pb) wr w1 ∧ w1.heap[s6]? = some (.cells (sts C 0).toArray 3 (0, 0)) ∧ ∃ Ds' C' l', PW w (w1.setCell ⟨s6, k, none⟩ (.int .i64 1)) x lb pb c g s6 ds Ds' C' l' := by
  obtain ⟨h1, h2, sv, h3⟩ := h.cl.put hp
  obtain ⟨e1, e2, e3, e4, e5⟩ := h.cfg
  have hs := h2.heap h.st h.far
  have hz : ((C.first + k * sectC C.d C.size : Nat) : Int) + ((sectC C.d C.size : Nat) : Int) ≤ 12 := by
    rw [e1, e3, e4]
    have : sectC 2 100 = 1 := by decide
    rw [this]
    omega
  refine ⟨h1, h2, hs, _, _, _, h3.s6 hs h.ge (Fr.set w1 s6 k _), ?_, h.ge, ⟨e1, e2, e3, e4, by show (C.places.set _ _).length = 4; rw [List.length_set]; exact e5⟩, putDs_calm (by omega) h.calm (fun D hD => by rw [h.sec D hD]; exact hz), fun D hD => ?_, by rw [putDs_len]; exact h.dl⟩
  · rw [heap_setCell_same hs, List.setIfInBounds_toArray]
    have := sts_put C k ⟨1, txt.length, (partsP C txt).map sumF⟩ (by omega) hk
    rw [← this]
    rfl
  · obtain ⟨i, hi, rfl⟩ := List.getElem_of_mem hD
    rw [putDs_len] at hi
    rw [putDs_sectors hi]
    exact h.sec _ (List.getElem_mem hi)
theorem PW.releaseOk {w wr w1 : World} {x lb pb c g s6 : Nat} {ds : List (Nat × Nat × Nat)} {Ds : List DevS} {C : ColdS} {l : List (PlaceS × Value)} (h : PW w wr x lb pb c g s6 ds Ds C l) {k : Nat} (hk : k < 4) (hF : Fr (fun i => i = pb) wr w1) (hC : ColdAt w1 x lb pb c g (ds.map (·.1)) (C.putP k ⟨2, 0, []⟩) (l.set k limboP)) :
    w1.heap[s6]? = some (.cells (sts C 0).toArray 3 (0, 0)) ∧ PW w (w1.setCell ⟨s6, k, none⟩ (.int .i64 2)) x lb pb c g s6 ds Ds (C.putP k ⟨2, 0, []⟩) (l.set k limboP) := by
  have h3 := h.cl.turn hF hC
  obtain ⟨e1, e2, e3, e4, e5⟩ := h.cfg
  have hs := hF.heap h.st (fun e => h.far (.inr (.inr e)))
  refine ⟨hs, h3.s6 hs h.ge (Fr.set w1 s6 k _), ?_, h.ge, ⟨e1, e2, e3, e4, by show (C.places.set _ _).length = 4; rw [List.length_set]; exact e5⟩, h.calm, h.sec, h.dl⟩
  rw [heap_setCell_same hs, List.setIfInBounds_toArray]
  have := sts_put C k ⟨2, 0, []⟩ (by omega) hk
  rw [← this]
  rfl
/-- while the list of states is settled -/
structure SW (w wr : World) (x lb pb c g s6 j : Nat) (ds : List (Nat × Nat × Nat)) (Ds : List DevS) (C : ColdS) (l : List (PlaceS × Value)) : Prop where
  cl : CL w wr x lb pb c g ds Ds C.settle (settleL l l.length)
  st : wr.heap[s6]? = some (.cells (sts C j).toArray 3 (0, 0))
theorem PW.settled {w wr w1 : World} {x lb pb c g s6 : Nat} {ds : List (Nat × Nat × Nat)} {Ds : List DevS} {C : ColdS} {l : List (PlaceS × Value)} (h : PW w wr x lb pb c g s6 ds Ds C l) (hF : Fr (fun i => i = pb) wr w1) (hC : ColdAt w1 x lb pb c g (ds.map (·.1)) C.settle (settleL l l.length)) : SW w w1 x lb pb c g s6 0 ds Ds C l :=
  ⟨h.cl.turn hF hC, hF.heap h.st (fun e => h.far (.inr (.inr e)))⟩
theorem SW.cell {w wr : World} {x lb pb c g s6 j : Nat} {ds : List (Nat × Nat × Nat)} {Ds : List DevS} {C : ColdS} {l : List (PlaceS × Value)} (h : SW w wr x lb pb c g s6 j ds Ds C l) (hj : j < 4) : wr.cell? ⟨s6, j, none⟩ = some (.int .i64 (stv C j : Int)) := by
  rw [cell_of_blk h.st, List.getElem?_toArray, sts_get C j j hj, if_neg (by omega)]
theorem SW.next {w wr : World} {x lb pb c g s6 j : Nat} {ds : List (Nat × Nat × Nat)} {Ds : List DevS} {C : ColdS} {l : List (PlaceS × Value)} (h : SW w wr x lb pb c g s6 j ds Ds C l) (hge : w.heap.size ≤ s6) (hj : j < 4) (h2 : stv C j = 2) : SW w (wr.setCell ⟨s6, j, none⟩ (.int .i64 0)) x lb pb c g s6 (j + 1) ds Ds C l := by
  refine ⟨h.cl.s6 h.st hge (Fr.set wr s6 j _), ?_⟩
  rw [heap_setCell_same h.st, List.setIfInBounds_toArray]
  have := sts_next C j hj
  rw [show setl (stv C j) = 0 from if_pos h2] at this
  rw [← this]
  rfl
theorem SW.same {w wr : World} {x lb pb c g s6 j : Nat} {ds : List (Nat × Nat × Nat)} {Ds : List DevS} {C : ColdS} {l : List (PlaceS × Value)} (h : SW w wr x lb pb c g s6 j ds Ds C l) (h2 : stv C j ≠ 2) : SW w wr x lb pb c g s6 (j + 1) ds Ds C l :=
  ⟨h.cl, by rw [sts_same C j h2]; exact h.st⟩
theorem SW.all {w wr w0 : World} {x lb pb c g s6 : Nat} {ds : List (Nat × Nat × Nat)} {Ds : List DevS} {C : ColdS} {l : List (PlaceS × Value)} (h : SW w wr x lb pb c g s6 4 ds Ds C l) (h0 : PW w w0 x lb pb c g s6 ds Ds C l) : PW w wr x lb pb c g s6 ds Ds C.settle (settleL l l.length) := by
  obtain ⟨e1, e2, e3, e4, e5⟩ := h0.cfg
  exact ⟨h.cl, by rw [sts_settle C e5]; exact h.st, h0.ge, ⟨e1, e2, e3, e4, by show (C.places.map _).length = 4; rw [List.length_map]; exact e5⟩, h0.calm, h0.sec, h0.dl⟩
theorem has_iff (C : ColdS) (hl : C.places.length = 4) (k : Nat) (hk : k < 4) : C.has (k : Int) ↔ stv C k = 1 := by
  unfold ColdS.has
  rw [stv_at C k (by omega), Int.toNat_natCast, List.getElem?_eq_getElem (by omega)]
  simp only [Option.map_some, Option.some.injEq]
  exact ⟨fun h => h.2.2, fun h => ⟨by omega, by omega, h⟩⟩
end Go.Proofs.Ytdkjmnhblepkaaa

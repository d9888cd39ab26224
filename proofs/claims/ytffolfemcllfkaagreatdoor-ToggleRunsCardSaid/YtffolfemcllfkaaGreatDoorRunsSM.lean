import Derived.Test.YtffolfemcllfkaaGreatDoorRefDevP
import Derived.Test.YtffolfemcllfkaaGreatDoorStartM
import Derived.Test.YtffolfemcllfkaaGreatDoorRunsM
namespace Go.Proofs.YtffolfemcllfkaaGreatDoor
open Go.RowKit
set_option linter.unusedVariables false
set_option linter.unusedSimpArgs false
set_option maxRecDepth 100000

/-! The document's device, plain: Start. -/
def looseI (D : DevS) (t : Nat) : List Int := ((List.range t).filter (fun i : Nat => (mget D.loose (i : Int)).isSome)).map (fun i : Nat => (i : Int))
theorem looseI_succ (D : DevS) (t : Nat) : looseI D (t + 1) = looseI D t ++ (if (mget D.loose (t : Int)).isSome = true then [(t : Int)] else []) := by
  unfold looseI
  rw [List.range_succ, List.filter_append, List.map_append]
  congr 1
  by_cases h : (mget D.loose (t : Int)).isSome = true
  · rw [if_pos h]; simp [h]
  · rw [if_neg h]; simp [h]
theorem mget_of_keyR {α : Type} {m : List (Int × α)} {j : Int} (h : j ∈ m.map (·.1)) : ∃ x, mget m j = some x := by
  obtain ⟨y, hy, rfl⟩ := List.mem_map.1 h
  have : (m.find? (fun x => x.1 == y.1)).isSome := List.find?_isSome.2 ⟨y, hy, by simp⟩
  obtain ⟨z, hz⟩ := Option.isSome_iff_exists.1 this
  exact ⟨z.2, by simp [mget, hz]⟩
theorem key_of_mget {α : Type} {m : List (Int × α)} {j : Int} (h : (mget m j).isSome = true) : j ∈ m.map (·.1) := by
  obtain ⟨x, hx⟩ := Option.isSome_iff_exists.1 h
  unfold mget at hx
  cases hf : m.find? (fun x => x.1 == j) with
  | none => rw [hf] at hx; cases hx
  | some y =>
    have h1 := List.mem_of_find?_eq_some hf
    have h2 := List.find?_some hf
    exact List.mem_map.2 ⟨y, h1, by simpa using h2⟩
theorem sortedKeys_eq (D : DevS) (n : Nat) (hnd : (D.loose.map (·.1)).Nodup) (hk : ∀ x ∈ D.loose, 0 ≤ x.1 ∧ x.1 < (n : Int)) : sortedKeys D.loose = looseI D n := by
  have hpw : List.Pairwise (fun a b : Int => a < b) (looseI D n) := by
    unfold looseI
    rw [List.pairwise_map]
    exact (List.pairwise_lt_range.filter _).imp (fun h => by omega)
  have hnd2 : (looseI D n).Nodup := hpw.imp (fun h => by omega)
  have hp : (D.loose.map (·.1)).Perm (looseI D n) := (List.perm_ext_iff_of_nodup hnd hnd2).2 (fun a => by
    constructor
    · intro ha
      obtain ⟨y, hy, rfl⟩ := List.mem_map.1 ha
      obtain ⟨x, hx⟩ := mget_of_keyR ha
      have hr := hk y hy
      unfold looseI
      refine List.mem_map.2 ⟨y.1.toNat, List.mem_filter.2 ⟨List.mem_range.2 (by omega), ?_⟩, by omega⟩
      rw [Int.toNat_of_nonneg hr.1, hx]; rfl
    · intro ha
      unfold looseI at ha
      obtain ⟨i, hi, rfl⟩ := List.mem_map.1 ha
      exact key_of_mget (by simpa using (List.mem_filter.1 hi).2))
  unfold sortedKeys
  rw [sort_perm hp]
  apply List.mergeSort_of_pairwise
  exact hpw.imp (fun h => by simp; omega)
theorem startTo_take (D : DevS) (kept : List Bool) (ks : List Int) (t n : Nat) (hks : ks = looseI D n) (ht : t ≤ n) (j : Nat) :
    mget (startTo D kept ks (looseI D t).length) (j : Int) = if j < t ∧ (mget D.loose (j : Int)).isSome = true ∧ ¬ kept[(looseI D j).length]? = some true then some ((mget D.loose (j : Int)).getD zeroB) else mget D.now (j : Int) := by
  induction t with
  | zero => rw [if_neg (by omega)]; rfl
  | succ t ih =>
    have ih := ih (by omega)
    rw [looseI_succ]
    by_cases h : (mget D.loose (t : Int)).isSome = true
    · rw [if_pos h, List.length_append, List.length_singleton]
      have hget : ks.getD (looseI D t).length 0 = (t : Int) := by
        obtain ⟨q, hq⟩ : ∃ q, n = t + 1 + q := ⟨n - (t + 1), by omega⟩
        have hpre : ∃ tl, looseI D n = looseI D (t + 1) ++ tl := by
          rw [hq]
          clear hq hks ih
          induction q with
          | zero => exact ⟨[], by simp⟩
          | succ q ihq =>
            obtain ⟨tl, htl⟩ := ihq
            refine ⟨tl ++ (if (mget D.loose ((t + 1 + q : Nat) : Int)).isSome = true then [((t + 1 + q : Nat) : Int)] else []), ?_⟩
            rw [show t + 1 + (q + 1) = t + 1 + q + 1 by omega, looseI_succ, htl, List.append_assoc]
        obtain ⟨tl, htl⟩ := hpre
        rw [hks, htl, looseI_succ, if_pos h, List.getD_eq_getElem?_getD, List.append_assoc, List.getElem?_append_right (Nat.le_refl _), Nat.sub_self]
        rfl
      simp only [startTo]
      by_cases hkp : kept[(looseI D t).length]? = some true
      · rw [if_pos hkp, ih]
        by_cases hj : j = t
        · subst hj
          rw [if_neg (by omega), if_neg (fun hc => hc.2.2 hkp)]
        · by_cases hc : j < t ∧ (mget D.loose (j : Int)).isSome = true ∧ ¬ kept[(looseI D j).length]? = some true
          · rw [if_pos hc, if_pos ⟨by omega, hc.2⟩]
          · rw [if_neg hc, if_neg (fun hd => hc ⟨by omega, hd.2⟩)]
      · rw [if_neg hkp, mget_mset, hget, ih]
        by_cases hj : j = t
        · subst hj
          rw [if_pos rfl, if_pos ⟨by omega, h, hkp⟩]
        · rw [if_neg (by omega)]
          by_cases hc : j < t ∧ (mget D.loose (j : Int)).isSome = true ∧ ¬ kept[(looseI D j).length]? = some true
          · rw [if_pos hc, if_pos ⟨by omega, hc.2⟩]
          · rw [if_neg hc, if_neg (fun hd => hc ⟨by omega, hd.2⟩)]
    · rw [if_neg h, List.append_nil, ih]
      by_cases hc : j < t ∧ (mget D.loose (j : Int)).isSome = true ∧ ¬ kept[(looseI D j).length]? = some true
      · rw [if_pos hc, if_pos ⟨by omega, hc.2⟩]
      · rw [if_neg hc, if_neg (fun hd => hc ⟨by
          rcases Nat.lt_or_ge j t with h1 | h1
          · exact h1
          · have : j = t := by omega
            subst this
            exact absurd hd.2.1 h, hd.2⟩)]
theorem RD.rank {D : DevS} {R : RefD} (h : RD D R) (j : Nat) (hj : j ≤ R.now.length) : R.rank j = (looseI D j).length := by
  unfold RefD.rank looseI
  rw [List.length_map]
  congr 1
  apply List.filter_congr
  intro i hi
  have hi2 := List.mem_range.1 hi
  rw [h.loose i (by omega)]
  cases (mget D.loose (i : Int)).isSome <;> rfl
theorem RD.start {D : DevS} {R : RefD} (h : RD D R) (hnd : (D.loose.map (·.1)).Nodup) (hk : ∀ x ∈ D.loose, 0 ≤ x.1 ∧ x.1 < D.sectors) (kept : List Bool) : RD (D.start kept) (R.start kept) := by
  unfold RefD.start DevS.start
  rw [h.gone]
  cases hl : D.lost with
  | true => exact h
  | false =>
    rw [if_neg (by simp), if_neg (by simp)]
    have hsk := sortedKeys_eq D R.now.length hnd (fun x hx => by have := hk x hx; have := h.len; omega)
    have hnow : ∀ i : Nat, i < R.now.length → (R.startL kept)[i]? = some ((mget (startTo D kept (sortedKeys D.loose) (sortedKeys D.loose).length) (i : Int)).getD zeroB) := fun i hi => by
      have hst := startTo_take D kept (sortedKeys D.loose) R.now.length R.now.length hsk (Nat.le_refl _) i
      rw [← hsk] at hst
      rw [hst]
      unfold RefD.startL
      rw [List.getElem?_map, List.getElem?_range hi]
      show some (R.startB kept i) = _
      unfold RefD.startB
      rw [h.rank i (by omega), h.loose i hi, h.safe i hi, h.now i hi]
      by_cases hc : (mget D.loose (i : Int)).isSome = true
      · obtain ⟨x, hx⟩ := Option.isSome_iff_exists.1 hc
        rw [hx]
        by_cases hkp : kept[(looseI D i).length]? = some true
        · rw [if_neg (by simp [hkp]), if_neg (by simp [hkp])]; rfl
        · rw [if_pos ⟨rfl, hkp⟩, if_pos ⟨hi, rfl, hkp⟩]; rfl
      · rw [if_neg (fun e => hc (Option.some.inj e.1)), if_neg (fun e => hc e.2.1)]; rfl
    have hll : (R.startL kept).length = R.now.length := by unfold RefD.startL; simp
    refine ⟨by rw [hll]; exact h.len, rfl, by rw [hll]; simpa using h.len3, fun i hi => ?_, fun i hi => ?_, fun i hi => ?_, h.writes, rfl, (fun ha => by cases ha), rfl, by first | rfl | exact h.gone | simp [h.gone, hl]⟩
    · rw [hll] at hi; exact hnow i hi
    · rw [hll] at hi; exact hnow i hi
    · rw [hll] at hi
      show (R.loose.map (fun _ => false))[i]? = _
      rw [List.getElem?_map, h.loose i hi]; rfl
end Go.Proofs.YtffolfemcllfkaaGreatDoor
namespace Go.Proofs.YtffolfemcllfkaaGreatDoor
open Go.RowKit
set_option linter.unusedVariables false
set_option linter.unusedSimpArgs false
/-! Arm, Lose. -/
def DevS.lose (D : DevS) : DevS := { D with lost := true, loose := [] }
theorem lose_any {w : World} {p m1 m2 : Nat} {D : DevS} (h : DevAt w p m1 m2 D) : Calls Tryz.prog 14 #[ptr p] w fun e w' => e = .returned (.tuple #[]) ∧ Fr (devBlks p m1 m2) w w' ∧ DevAt w' p m1 m2 D.lose := by
  obtain ⟨c0, c1, c2, c3, c4, c5, c6, c7⟩ := h.cellsAll
  have f7 := h.frozen 7
  have h7 := h.setCell (D' := { D with lost := true }) 7 (.bool true) rfl rfl rfl rfl
  go_enter Tryz.func14, Tryz.ntmps14
  go_wp2_with ((with_reducible refine at_clear (.tmp 10) (b := m2) (m := mapV blkV D.loose) Tryz.underlying107 ?_ ?_ ?_); (focus rfl); (focus exact h7.loose); intro w1 hF1 hM1)
  go_end0
  have h8 := h7.cleared (D' := D.lose) hF1 hM1 rfl rfl rfl rfl
  exact ⟨rfl, (((Fr.set w p 7 _).mono (fun i _ e => .inl e)).trans h8.1), h8.2⟩
theorem DevAt.wiped {w w' : World} {p m1 m2 : Nat} {D D' : DevS} (h : DevAt w p m1 m2 D) (hF : Fr (fun i => i = m1) w w') (hM : IMap w' m1 []) (hc : D'.cells m1 m2 = D.cells m1 m2) (h1 : D'.now = []) (h2 : D'.loose = D.loose) (h3 : D'.sectors = D.sectors) :
    Fr (devBlks p m1 m2) w w' ∧ DevAt w' p m1 m2 D' := by
  refine ⟨hF.mono (fun i _ e => .inr (.inl e)), hc ▸ hF.heap h.blk h.pne.1, ?_, ?_, h.ne, ?_, ?_, ?_, ?_⟩
  · rw [h1]; exact hM
  · rw [h2]; exact h.loose.fr hF (fun e => h.ne e.symm)
  · rw [h1]; intro x hx; cases hx
  · rw [h2]; exact h.len2
  · rw [h2, h3]; exact h.keys
  · rw [h3]; exact h.most
def DevS.replace (D : DevS) : DevS := if D.lost then { D with now := [], lost := false, crashed := false, armed := false } else D
theorem replace_any {w : World} {p m1 m2 : Nat} {D : DevS} (h : DevAt w p m1 m2 D) : Calls Tryz.prog 16 #[ptr p] w fun e w' => e = .returned (.tuple #[]) ∧ Fr (devBlks p m1 m2) w w' ∧ DevAt w' p m1 m2 D.replace := by
  obtain ⟨c0, c1, c2, c3, c4, c5, c6, c7⟩ := h.cellsAll
  cases hl : D.lost <;> rw [hl] at c7
  · go_enter Tryz.func16, Tryz.ntmps16
    go_wp2
    first
      | (go_end0; exact ⟨rfl, Fr.refl _ _, by unfold DevS.replace; rw [hl]; exact h⟩)
      | exact bodyPost_ret (results_none rfl _ _ _) rfl ⟨rfl, Fr.refl _ _, by unfold DevS.replace; rw [hl]; exact h⟩
  · have he : D.replace = { D with now := [], lost := false, crashed := false, armed := false } := by unfold DevS.replace; rw [hl]; rfl
    go_enter Tryz.func16, Tryz.ntmps16
    go_wp2_with ((with_reducible refine at_clear (.tmp 13) (b := m1) (m := mapV blkV D.now) Tryz.underlying107 ?_ ?_ ?_); (focus rfl); (focus exact h.now); intro w1 hF1 hM1; have h1 := h.wiped (D' := { D with now := [] }) hF1 hM1 rfl rfl rfl rfl; have h2 := h1.2.setCell (D' := { D with now := [], lost := false }) 7 (.bool false) rfl rfl rfl rfl; have h3 := h2.setCell (D' := { D with now := [], lost := false, crashed := false }) 6 (.bool false) rfl rfl rfl rfl; have h4 := h3.setCell (D' := { D with now := [], lost := false, crashed := false, armed := false }) 4 (.bool false) rfl rfl rfl rfl; have g0 := h1.2.cellsAll; obtain ⟨d0, d1, d2, d3, d4, d5, d6, d7⟩ := g0; have f7 := h1.2.frozen 7; have f6 := h1.2.frozen 6; have f4 := h1.2.frozen 4)
    go_end0
    exact ⟨rfl, ((h1.1.trans ((Fr.set _ p 7 _).mono (fun i _ e => .inl e))).trans ((Fr.set _ p 6 _).mono (fun i _ e => .inl e))).trans ((Fr.set _ p 4 _).mono (fun i _ e => .inl e)), he ▸ h4⟩
end Go.Proofs.YtffolfemcllfkaaGreatDoor
namespace Go.Proofs.YtffolfemcllfkaaGreatDoor
open Go.RowKit
set_option linter.unusedVariables false
set_option linter.unusedSimpArgs false

/-! ToggleRuns, plain: lost, replaced; a lost device has no loose sectors. -/
theorem RD.lose {D : DevS} {R : RefD} (h : RD D R) : RD D.lose R.lose := by
  refine ⟨h.len, rfl, by show (R.loose.map (fun _ => false)).length = R.now.length; simpa using h.len3, h.now, fun i hi => ?_, fun i hi => ?_, h.writes, h.armed, h.left, h.crashed, rfl⟩
  · show R.now[i]? = some _
    rw [h.now i hi]; rfl
  · show (R.loose.map (fun _ => false))[i]? = _
    rw [List.getElem?_map, h.loose i hi]; rfl
def Fine (D : DevS) : Prop := D.lost = true → D.loose = []
theorem RD.replace {D : DevS} {R : RefD} (h : RD D R) (hf : Fine D) : RD D.replace R.replace := by
  unfold RefD.replace DevS.replace
  rw [h.gone]
  cases hl : D.lost with
  | false => rw [if_neg (by simp), if_neg (by simp)]; exact h
  | true =>
    rw [if_pos rfl, if_pos rfl]
    have hlo := hf hl
    have hn : (newRef R.now.length).now.length = R.now.length := by simp [newRef]
    refine ⟨by show ((newRef R.now.length).now.length : Int) = _; rw [hn]; exact h.len, by simp [newRef], by simp [newRef], fun i hi => ?_, fun i hi => ?_, fun i hi => ?_, h.writes, rfl, (fun ha => by cases ha), rfl, rfl⟩
    · have : i < R.now.length := by rw [← hn]; exact hi
      show (List.replicate _ zeroB)[i]? = _
      rw [List.getElem?_replicate, if_pos this]; rfl
    · have : i < R.now.length := by rw [← hn]; exact hi
      show (List.replicate _ zeroB)[i]? = some ((mget D.loose i).getD zeroB)
      rw [List.getElem?_replicate, if_pos this, hlo]; rfl
    · have : i < R.now.length := by rw [← hn]; exact hi
      show (List.replicate _ false)[i]? = some (mget D.loose i).isSome
      rw [List.getElem?_replicate, if_pos this, hlo]; rfl
theorem RD.arm' {D : DevS} {R : RefD} (h : RD D R) (n : Int) (hn : 0 ≤ n) : RD (D.arm n) (if R.crashed = true ∨ R.gone = true then R else { R with armed := true, left := n }) := by
  unfold DevS.arm
  have hd : (R.crashed = true ∨ R.gone = true) ↔ D.down = true := by
    unfold DevS.down; rw [h.crashed, h.gone]; simp
  by_cases h1 : D.down = true
  · rw [if_pos (.inr h1), if_pos (hd.2 h1)]; exact h
  · rw [if_neg (by rintro (e | e); omega; exact h1 e), if_neg (fun e => h1 (hd.1 e))]
    exact h.arm n
theorem Fine.new (n : Int) : Fine (newD n) := fun h => by cases h
theorem Fine.write {D : DevS} (h : Fine D) (s : Int) (b : List UInt8) : Fine (D.write s b) := by
  unfold DevS.write
  split
  · exact h
  · rename_i h1
    split
    · exact h
    · intro hl
      exfalso
      apply h1
      left
      have hl2 : D.lost = true := hl
      unfold DevS.atE DevS.down
      rw [hl2]
      simp
theorem Fine.flush {D : DevS} (h : Fine D) : Fine D.flush := by
  unfold DevS.flush
  split
  · exact h
  · exact fun _ => rfl
theorem Fine.wrN {D : DevS} (h : Fine D) (a : Int) (l : List UInt8) : ∀ k, Fine (wrN D a l k)
  | 0 => h
  | k + 1 => (Fine.wrN h a l k).write _ _
theorem Fine.saveA {D : DevS} (h : Fine D) (f s : Int) (l : List UInt8) : Fine (saveA D f s l) := by
  unfold Go.Proofs.YtffolfemcllfkaaGreatDoor.saveA
  split
  · exact h
  · unfold saveD wrote
    exact (((h.wrN _ l _).flush).write _ _).flush
theorem Fine.arm {D : DevS} (h : Fine D) (n : Int) : Fine (D.arm n) := by
  unfold DevS.arm
  split
  · exact h
  · exact h
theorem Fine.lose (D : DevS) : Fine D.lose := fun _ => rfl
theorem Fine.replace {D : DevS} (h : Fine D) : Fine D.replace := by
  unfold DevS.replace
  cases hl : D.lost with
  | false => rw [if_neg (by simp)]; exact h
  | true => rw [if_pos rfl]; exact fun e => by cases e
theorem Fine.start {D : DevS} (h : Fine D) (kept : List Bool) : Fine (D.start kept) := by
  unfold DevS.start
  cases hl : D.lost with
  | true => rw [if_pos rfl]; exact h
  | false => rw [if_neg (by simp)]; exact fun _ => rfl
theorem RD.sec64 {D : DevS} {R : RefD} (h : RD D R) (hg : ∀ s, (D.get s).length = 64) : ∀ x ∈ R.now, x.length = 64 := by
  intro x hx
  obtain ⟨i, hi, rfl⟩ := List.mem_iff_getElem.1 hx
  have := h.now i hi
  rw [List.getElem?_eq_getElem hi] at this
  rw [Option.some.inj this]
  exact hg _
end Go.Proofs.YtffolfemcllfkaaGreatDoor

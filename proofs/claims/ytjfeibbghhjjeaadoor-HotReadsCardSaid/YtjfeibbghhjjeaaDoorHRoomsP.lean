import Derived.Test.YtjfeibbghhjjeaaDoorHotSure
namespace Go.Proofs.YtjfeibbghhjjeaaDoor
open Go.RowKit
set_option linter.unusedVariables false
set_option linter.unusedSimpArgs false

/-! HotRooms, plainly. -/
structure LocS where
  box : Nat
  fr : Nat
  n : Nat
  sum : Nat
def locC (x : LocS) : List Value := [.int .i64 (x.box : Int), .int .i64 (x.fr : Int), .int .i64 (x.n : Int), .int .u32 (x.sum : Int)]
theorem bx_out {H : HotS} {i : Nat} (hi : H.boxes.length ≤ i) : H.bx i = freeB := by simp [HotS.bx, List.getD_eq_getElem?_getD, List.getElem?_eq_none hi]
theorem inO_some {H : HotS} {s : Int} {i : Nat} (h : H.inO s = some i) : i < H.boxes.length ∧ (H.bx i).state = s := by
  obtain ⟨hi, hs⟩ := inO_lt h
  exact ⟨hi, by rw [bx_eq hi]; exact hs⟩
theorem inO_none {H : HotS} {s : Int} (h : H.inO s = none) (i : Nat) (hi : i < H.boxes.length) : (H.bx i).state ≠ s := by
  unfold HotS.inO at h
  rw [List.findIdx?_eq_none_iff] at h
  rw [bx_eq hi]
  have := h _ (List.getElem_mem hi)
  simpa using this
theorem seal_bx (H : HotS) (j : Nat) : (H.seal.bx j).used = (H.bx j).used ∧ (H.seal.bx j).live = (H.bx j).live ∧ ((H.seal.bx j).state = (H.bx j).state ∧ H.inO 1 ≠ some j ∨ (H.seal.bx j).state = 2 ∧ H.inO 1 = some j) := by
  unfold HotS.seal
  cases h : H.inO 1 with
  | none => exact ⟨rfl, rfl, .inl ⟨rfl, fun h => by cases h⟩⟩
  | some k =>
    obtain ⟨hk, _⟩ := inO_lt h
    simp only
    by_cases hj : j = k
    · subst hj
      rw [putB_bx hk]
      exact ⟨rfl, rfl, .inr ⟨rfl, rfl⟩⟩
    · rw [putB_bx_ne hj]
      exact ⟨rfl, rfl, .inl ⟨rfl, fun e => hj (Option.some.inj e).symm⟩⟩
theorem prep_cases {H : HotS} {n : Nat} {H1 : HotS} {i : Nat} (hp : H.prep n = some (H1, i)) : i < H.boxes.length ∧ ((H1 = H ∧ (H.bx i).state = 1) ∨ (H1 = H.seal.putB i ⟨1, 0, 0⟩ ∧ (H.bx i).state = 0)) := by
  unfold HotS.prep at hp
  split at hp
  · rename_i j hr
    cases hp
    unfold HotS.roomO at hr
    split at hr
    · rename_i k hk
      split at hr
      · cases hr
        have := inO_some hk
        exact ⟨this.1, .inl ⟨rfl, this.2⟩⟩
      · cases hr
    · cases hr
  · split at hp
    · rename_i k hk
      cases hp
      have := inO_some hk
      exact ⟨this.1, .inr ⟨rfl, this.2⟩⟩
    · cases hp
/-- at most one box is open; free ones have no bytes -/
structure Tidy (H : HotS) : Prop where
  one : ∀ i j, (H.bx i).state = 1 → (H.bx j).state = 1 → i = j
  free : ∀ i, (H.bx i).state = 0 → (H.bx i).used = 0
theorem inO_first {H : HotS} {s : Int} {i : Nat} (hi : i < H.boxes.length) (hs : (H.bx i).state = s) : ∃ j, H.inO s = some j := by
  cases h : H.inO s with
  | some j => exact ⟨j, rfl⟩
  | none => exact absurd hs (inO_none h i hi)
theorem tidy_in {H : HotS} {i : Nat} (h : (H.bx i).state = 1) : i < H.boxes.length := by
  apply Nat.lt_of_not_le
  intro hle
  rw [bx_out hle] at h
  cases h
theorem Tidy.sealed {H : HotS} (h : Tidy H) (j : Nat) : (H.seal.bx j).state ≠ 1 := by
  intro e
  obtain ⟨_, _, h3⟩ := seal_bx H j
  rcases h3 with ⟨h3, h4⟩ | ⟨h3, h4⟩
  · rw [h3] at e
    obtain ⟨k, hk⟩ := inO_first (tidy_in e) e
    have := h.one j k e (inO_some hk).2
    subst this
    exact h4 hk
  · rw [h3] at e; cases e
/-- what Put makes of the boxes -/
structure PutB (H : HotS) (H1 : HotS) (i n : Nat) : Prop where
  lt : i < H.boxes.length
  len : (H1.after i n).boxes.length = H.boxes.length
  first : (H1.after i n).first = H.first
  sectors : (H1.after i n).sectors = H.sectors
  used : (H1.bx i).used = (H.bx i).used
  at_ : (H1.after i n).bx i = ⟨1, (H1.bx i).used + n, (H1.bx i).live + n⟩
  live : (H1.bx i).live = (H.bx i).live ∨ (H.bx i).state = 0 ∧ (H1.bx i).live = 0
  other : ∀ j, j ≠ i → ((H1.after i n).bx j).used = (H.bx j).used ∧ ((H1.after i n).bx j).live = (H.bx j).live
  states : ∀ j, j ≠ i → (((H1.after i n).bx j).state = (H.bx j).state ∨ ((H1.after i n).bx j).state = 2 ∧ (H.bx j).state = 1) ∧ ((H1.after i n).bx j).state ≠ 1
  was : (H.bx i).state = 1 ∨ (H.bx i).state = 0
theorem putB_of {H : HotS} (h : Tidy H) {n : Nat} {H1 : HotS} {i : Nat} (hp : H.prep n = some (H1, i)) : PutB H H1 i n := by
  obtain ⟨hi, hc⟩ := prep_cases hp
  rcases hc with ⟨rfl, hs⟩ | ⟨rfl, hs⟩
  · refine ⟨hi, putB_len _ _ _, rfl, rfl, rfl, ?_, .inl rfl, fun j hj => ?_, fun j hj => ?_, .inl hs⟩
    · unfold HotS.after; rw [putB_bx hi, hs]
    · unfold HotS.after; rw [putB_bx_ne hj]; exact ⟨rfl, rfl⟩
    · unfold HotS.after; rw [putB_bx_ne hj]; exact ⟨.inl rfl, fun e => hj (h.one j i e hs)⟩
  · have hi2 : i < H.seal.boxes.length := by rw [seal_len]; exact hi
    have hi3 : i < (H.seal.putB i ⟨1, 0, 0⟩).boxes.length := by rw [putB_len]; exact hi2
    have hb := putB_bx hi2 ⟨1, 0, 0⟩
    have hu := h.free i hs
    refine ⟨hi, ?_, ?_, ?_, ?_, ?_, ?_, fun j hj => ?_, fun j hj => ?_, .inr hs⟩
    · unfold HotS.after; rw [putB_len, putB_len, seal_len]
    · exact (seal_first H).1
    · exact (seal_first H).2
    · rw [hb, hu]
    · unfold HotS.after; rw [putB_bx hi3, hb]
    · right; exact ⟨hs, by rw [hb]⟩
    · unfold HotS.after; rw [putB_bx_ne hj, putB_bx_ne hj]; exact ⟨(seal_bx H j).1, (seal_bx H j).2.1⟩
    · unfold HotS.after; rw [putB_bx_ne hj, putB_bx_ne hj]
      refine ⟨?_, h.sealed j⟩
      rcases (seal_bx H j).2.2 with ⟨h1, _⟩ | ⟨h1, h2⟩
      · exact .inl h1
      · exact .inr ⟨h1, (inO_some h2).2⟩
theorem tidy_put {H : HotS} (h : Tidy H) {n : Nat} {H1 : HotS} {i : Nat} (hp : H.prep n = some (H1, i)) : Tidy (H1.after i n) := by
  have P := putB_of h hp
  refine ⟨fun a b ha hb => ?_, fun a ha => ?_⟩
  · have key : ∀ c, ((H1.after i n).bx c).state = 1 → c = i := fun c hc => by
      apply Classical.byContradiction
      intro hci
      exact (P.states c hci).2 hc
    rw [key a ha, key b hb]
  · by_cases hai : a = i
    · subst hai; rw [P.at_] at ha; cases ha
    · rw [(P.other a hai).1]
      rcases (P.states a hai).1 with h1 | ⟨h1, _⟩
      · exact h.free a (h1 ▸ ha)
      · rw [h1] at ha; cases ha
structure RmInv (H : HotS) (ls : List LocS) : Prop where
  first : H.first = 2
  sectors : H.sectors = 2
  len : H.boxes.length = 5
  live : ∀ i, (H.bx i).live = (H.bx i).used
  tidy : Tidy H
  locs : ∀ y, y ∈ ls → 1 ≤ y.n ∧ y.fr + y.n ≤ (H.bx y.box).used
theorem RmInv.put {H : HotS} {ls : List LocS} (I : RmInv H ls) {n : Nat} (hn : 0 < n) {H1 : HotS} {i : Nat} (hp : H.prep n = some (H1, i)) (s : Nat) : RmInv (H1.after i n) (ls ++ [⟨i, (H1.bx i).used, n, s⟩]) := by
  have P := putB_of I.tidy hp
  have hlv : (H1.bx i).live = (H1.bx i).used := by
    rcases P.live with h | ⟨h1, h2⟩
    · rw [h, I.live, P.used]
    · rw [h2, P.used, I.tidy.free i h1]
  refine ⟨P.first.trans I.first, P.sectors.trans I.sectors, P.len.trans I.len, fun j => ?_, tidy_put I.tidy hp, fun y hy => ?_⟩
  · by_cases hj : j = i
    · subst hj; rw [P.at_]; show _ + n = _ + n; rw [hlv]
    · rw [(P.other j hj).1, (P.other j hj).2, I.live]
  · rcases List.mem_append.1 hy with hy | hy
    · have := I.locs y hy
      refine ⟨this.1, Nat.le_trans this.2 ?_⟩
      by_cases hj : y.box = i
      · rw [hj, P.at_, ← P.used]; exact Nat.le_add_right _ _
      · rw [(P.other _ hj).1]; exact Nat.le_refl _
    · simp at hy; subst hy
      exact ⟨hn, by rw [P.at_]; exact Nat.le_refl _⟩
/-- none lies within another one's -/
theorem RmInv.apart {H : HotS} {ls : List LocS} (I : RmInv H ls) {n : Nat} {H1 : HotS} {i : Nat} (hp : H.prep n = some (H1, i)) (y : LocS) (hy : y ∈ ls) (hb : y.box = i) : y.fr + y.n ≤ (H1.bx i).used := by
  rw [(putB_of I.tidy hp).used, ← hb]
  exact (I.locs y hy).2
theorem fold_zero (z : Nat) : ∀ (l : List BoxS) (s : Nat), (∀ b ∈ l, b.state ≠ 1 ∧ b.state ≠ 0) → l.foldl (roomStep z) s = s := by
  intro l
  induction l with
  | nil => intro s _; rfl
  | cons b l ih =>
    intro s h
    have h1 := h b (by simp)
    rw [List.foldl_cons, ih _ (fun c hc => h c (by simp [hc]))]
    unfold roomStep
    rw [if_neg (by rintro (e | e); exact h1.1 e; exact h1.2 e)]
    rfl
theorem fold_one (z : Nat) : ∀ (l : List BoxS) (s : Nat), (∀ b ∈ l, b.state ≠ 0) → (∀ (i j : Nat) (hi : i < l.length) (hj : j < l.length), l[i].state = 1 → l[j].state = 1 → i = j) → l.foldl (roomStep z) s ≤ s + z := by
  intro l
  induction l with
  | nil => intro s _ _; simp
  | cons b l ih =>
    intro s h0 h1
    rw [List.foldl_cons]
    by_cases hb : b.state = 1
    · rw [fold_zero z l _ (fun c hc => ⟨fun e => ?_, h0 c (by simp [hc])⟩)]
      · unfold roomStep; split <;> omega
      · obtain ⟨j, hj, rfl⟩ := List.getElem_of_mem hc
        have := h1 0 (j + 1) (by simp) (by simpa using hj) hb (by simpa using e)
        omega
    · have : roomStep z s b = s := by
        unfold roomStep
        rw [if_neg (by rintro (e | e); exact hb e; exact h0 b (by simp) e)]
        rfl
      rw [this]
      exact ih s (fun c hc => h0 c (by simp [hc])) (fun i j hi hj ha hb2 => by
        have := h1 (i + 1) (j + 1) (by simpa using hi) (by simpa using hj) (by simpa using ha) (by simpa using hb2)
        omega)
theorem RmInv.full {H : HotS} {ls : List LocS} (I : RmInv H ls) {n : Nat} (hp : H.prep n = none) : H.roomN < 256 := by
  have h0 : H.inO 0 = none := by
    unfold HotS.prep at hp
    split at hp
    · cases hp
    · split at hp
      · cases hp
      · assumption
  unfold HotS.roomN
  rw [I.sectors]
  refine Nat.lt_of_le_of_lt (fold_one 128 H.boxes 0 (fun b hb => ?_) (fun i j hi hj ha hb => I.tidy.one i j (by rw [bx_eq hi]; exact ha) (by rw [bx_eq hj]; exact hb))) (by decide)
  obtain ⟨j, hj, rfl⟩ := List.getElem_of_mem hb
  have := inO_none h0 j hj
  rwa [bx_eq hj] at this
theorem newH_bx (f : Int) (n s i : Nat) : (newH f n s).bx i = freeB := by
  by_cases hi : i < (newH f n s).boxes.length
  · rw [bx_eq hi]; simp [newH]
  · exact bx_out (by omega)
theorem tidy_new (f : Int) (n s : Nat) : Tidy (newH f n s) := ⟨(fun i j h => by rw [newH_bx] at h; cases h), (fun i _ => by rw [newH_bx]; rfl)⟩
theorem rm_new : RmInv (newH 2 5 2) [] := ⟨rfl, rfl, rfl, (fun i => by rw [newH_bx]; rfl), tidy_new _ _ _, (fun y hy => by cases hy)⟩
end Go.Proofs.YtjfeibbghhjjeaaDoor

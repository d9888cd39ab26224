import Derived.Test.YthkcmafflbpfoaaLogQ
import Derived.Test.YthkcmafflbpfoaaStartAll
namespace Go.Proofs.Ythkcmafflbpfoaa
open Go.RowKit
set_option linter.unusedVariables false
set_option linter.unusedSimpArgs false
set_option maxRecDepth 100000

/-! LogSafe, plain: what lies on a ring behind crashes. -/
/-- a tag below a number -/
def lowT (f : Nat) (x : List UInt8) : Prop := ∃ t, t < f ∧ x.take 8 = tagL t
/-- what a sector holds by the plan -/
def planS : Nat → List (List UInt8) → Nat → Option (List UInt8)
  | _, [], _ => none
  | seq, d :: ds, i => if i < recN d seq then some (padB (secB seq (seaB d seq) i)) else planS (seq + 1) ds (i - recN d seq)
theorem planS_none (seq : Nat) (ds : List (List UInt8)) (i : Nat) (h : sumN (szs seq ds) ≤ i) : planS seq ds i = none := by
  induction ds generalizing seq i with
  | nil => rfl
  | cons d ds ih =>
    rw [szs, sumN_cons] at h
    rw [planS, if_neg (by omega)]
    exact ih (seq + 1) _ (by omega)
theorem planS_some (seq : Nat) (ds : List (List UInt8)) (i : Nat) (h : i < sumN (szs seq ds)) : ∃ x, planS seq ds i = some x := by
  induction ds generalizing seq i with
  | nil => exact absurd h (by simp [szs, sumN])
  | cons d ds ih =>
    rw [szs, sumN_cons] at h
    rw [planS]
    by_cases hi : i < recN d seq
    · rw [if_pos hi]; exact ⟨_, rfl⟩
    · rw [if_neg hi]; exact ih (seq + 1) _ (by omega)
theorem planS_append (seq : Nat) (ds es : List (List UInt8)) (i : Nat) : planS seq (ds ++ es) i = if i < sumN (szs seq ds) then planS seq ds i else planS (seq + ds.length) es (i - sumN (szs seq ds)) := by
  induction ds generalizing seq i with
  | nil => rw [if_neg (by simp [szs, sumN])]; rfl
  | cons d ds ih =>
    rw [List.cons_append, planS, planS, szs, sumN_cons]
    by_cases hi : i < recN d seq
    · rw [if_pos hi, if_pos (by omega), if_pos hi]
    · rw [if_neg hi, if_neg hi, ih]
      by_cases h2 : i - recN d seq < sumN (szs (seq + 1) ds)
      · rw [if_pos h2, if_pos (by omega)]
      · rw [if_neg h2, if_neg (by omega), List.length_cons, show seq + 1 + ds.length = seq + (ds.length + 1) by omega, show i - recN d seq - sumN (szs (seq + 1) ds) = i - (recN d seq + sumN (szs (seq + 1) ds)) by omega]
theorem planS_take (seq : Nat) (ds : List (List UInt8)) (k i : Nat) (h : i < sumN (szs seq (ds.take k))) : planS seq (ds.take k) i = planS seq ds i := by
  have := planS_append seq (ds.take k) (ds.drop k) i
  rw [List.take_append_drop, if_pos h] at this
  exact this.symm
theorem planS_drop (seq : Nat) (ds : List (List UInt8)) (k i : Nat) (hk : k ≤ ds.length) : planS (seq + k) (ds.drop k) i = planS seq ds (sumN (szs seq (ds.take k)) + i) := by
  have := planS_append seq (ds.take k) (ds.drop k) (sumN (szs seq (ds.take k)) + i)
  rw [List.take_append_drop, if_neg (by omega), Nat.add_sub_cancel_left, List.length_take, Nat.min_eq_left hk] at this
  exact this.symm
theorem planS_tag (seq : Nat) (ds : List (List UInt8)) (i : Nat) (x : List UInt8) (h : planS seq ds i = some x) : ∃ r, r < ds.length ∧ x.take 8 = tagL (seq + r) := by
  induction ds generalizing seq i with
  | nil => cases h
  | cons d ds ih =>
    rw [planS] at h
    by_cases hi : i < recN d seq
    · rw [if_pos hi] at h
      cases h
      exact ⟨0, by simp, (padS seq _ i).1⟩
    · rw [if_neg hi] at h
      obtain ⟨r, h1, h2⟩ := ih (seq + 1) _ h
      exact ⟨r + 1, by simp; omega, by rw [h2, show seq + 1 + r = seq + (r + 1) by omega]⟩
theorem planS_len (seq : Nat) (ds : List (List UInt8)) (i : Nat) (x : List UInt8) (h : planS seq ds i = some x) : x.length = 64 := by
  induction ds generalizing seq i with
  | nil => cases h
  | cons d ds ih =>
    rw [planS] at h
    by_cases hi : i < recN d seq
    · rw [if_pos hi] at h
      cases h
      have := secB_len seq (seaB d seq) i
      unfold padB
      rw [List.length_append, List.length_replicate]
      omega
    · rw [if_neg hi] at h; exact ih (seq + 1) _ h
theorem lies_plan (g : Nat → List UInt8) (u seq : Nat) (ds : List (List UInt8)) (h : ∀ i x, planS seq ds i = some x → g (u + i) = x) : Lies g u seq ds := by
  induction ds generalizing u seq with
  | nil => trivial
  | cons d ds ih =>
    refine ⟨fun j hj => h j _ (by rw [planS, if_pos hj]), ih (u + recN d seq) (seq + 1) (fun i x hx => ?_)⟩
    rw [Nat.add_assoc]
    exact h (recN d seq + i) x (by rw [planS, if_neg (by omega), Nat.add_sub_cancel_left]; exact hx)
/-- a record that is cut is none -/
theorem oneF_cut (d : List UInt8) (seq m : Nat) (hd : d.length ≤ 65536) (hm : m < (seaB d seq).length) : oneF ((seaB d seq).take m) seq = none := by
  unfold oneF
  rw [if_neg]
  rintro ⟨-, -, -, h4⟩
  obtain ⟨d', hd'⟩ : ∃ d', d' = oneD ((seaB d seq).take m) := ⟨_, rfl⟩
  obtain ⟨r, hr⟩ : ∃ r, r = oneR ((seaB d seq).take m) := ⟨_, rfl⟩
  rw [← hd', ← hr] at h4
  have hd2 : d'.length ≤ 65536 := by rw [hd']; exact bytD_len _ _
  rw [List.take_take] at h4
  have hlen := congrArg List.length h4
  rw [List.length_take] at hlen
  have hcut : seaB d seq = seaB d' seq ++ (seaB d seq).drop (min r m) := by rw [← h4, List.take_append_drop]
  obtain ⟨tl, htl⟩ : ∃ tl, tl = (seaB d seq).drop (min r m) := ⟨_, rfl⟩
  rw [← htl] at hcut
  have e1 : seaB d seq = encF seq ++ (encF d.length ++ (d ++ lastB (sumF (recB d seq)))) := by unfold seaB sealB recB; simp only [List.append_assoc]
  have e2 : seaB d' seq ++ tl = encF seq ++ (encF d'.length ++ (d' ++ (lastB (sumF (recB d' seq)) ++ tl))) := by unfold seaB sealB recB; simp only [List.append_assoc]
  rw [e2] at hcut
  rw [e1] at hcut
  have h5 := List.append_cancel_left hcut
  have n1 := numberF_enc d.length (by omega) (d ++ lastB (sumF (recB d seq)))
  have n2 := numberF_enc d'.length (by omega) (d' ++ (lastB (sumF (recB d' seq)) ++ tl))
  rw [h5, n2] at n1
  have hl : d'.length = d.length := congrArg Prod.fst n1
  have h6 := congrArg List.length h5
  rw [hl] at h6
  simp only [List.length_append] at h6
  have l1 : (lastB (sumF (recB d seq))).length = 4 := rfl
  have l2 : (lastB (sumF (recB d' seq))).length = 4 := rfl
  have ht0 : tl.length = 0 := by omega
  rw [htl, List.length_drop] at ht0
  have := Nat.min_le_right r m
  omega
/-- what is read, where some sectors of the last records may be missing -/
theorem scan_part {g : Nat → List UInt8} (hg : ∀ i, (g i).length = 64) (se f : Nat) (ds : List (List UInt8)) : ∀ (u seq s : Nat), (∀ d ∈ ds, d.length ≤ 65536) → f ≤ seq → seq + ds.length ≤ 1099511627776 → s ≤ ds.length → u + sumN (szs seq ds) < se →
    (∀ i, u + i < se → planS seq ds i = some (g (u + i)) ∨ (lowT f (g (u + i)) ∧ sumN (szs seq (ds.take s)) ≤ i)) →
    ∃ c, s ≤ c ∧ c ≤ ds.length ∧ Scan ((ringG g se).drop (u * 64)) seq ((ds.take c).zip (szs seq (ds.take c))) ∧ ∀ i x, planS seq (ds.take c) i = some x → g (u + i) = x := by
  have hrl := ringG_len g hg se
  induction ds with
  | nil =>
    intro u seq s hd hf hs hsl hu hH
    rw [show sumN (szs seq []) = 0 from rfl, Nat.add_zero] at hu
    refine ⟨0, by simpa using hsl, Nat.le_refl _, ?_, fun i x hx => by cases hx⟩
    have hT : TagK ((ringG g se).drop (u * 64)) seq 0 := by
      refine ⟨by omega, fun i hi => by omega, .inr ?_⟩
      rw [Nat.zero_mul, List.drop_zero]
      have := ringG_at g hg se u 0 8 hu (by omega)
      rw [Nat.add_zero, List.drop_zero] at this
      rw [this]
      rcases hH 0 (by omega) with h | ⟨⟨t, h1, h2⟩, _⟩
      · cases h
      · rw [Nat.add_zero] at h2
        rw [h2]; intro e; simp at hs; have := tagL_inj (by omega) (by omega) e; omega
    refine Scan.none hT ?_
    show oneF [] seq = none
    unfold oneF
    rw [if_neg]
    rintro ⟨-, h2, -⟩
    unfold oneR at h2
    simp at h2
  | cons d ds ih =>
    intro u seq s hd hf hs hsl hu hH
    rw [szs, sumN_cons] at hu
    rw [List.length_cons] at hs hsl
    have hp := recN_pos d seq
    have hdl := hd d (by simp)
    have hG : ∀ i o n, u + i < se → o + n ≤ 64 → (((ringG g se).drop (u * 64)).drop (i * 64 + o)).take n = ((g (u + i)).drop o).take n := fun i o n hi ho => by
      have := ringG_at g hg se (u + i) o n hi ho
      rw [List.drop_drop, show u * 64 + (i * 64 + o) = (u + i) * 64 + o by omega]
      exact this
    have hG8 : ∀ i, u + i < se → (((ringG g se).drop (u * 64)).drop (i * 64)).take 8 = (g (u + i)).take 8 := fun i hi => by
      have := hG i 0 8 hi (by omega)
      rw [Nat.add_zero, List.drop_zero] at this
      exact this
    have hpre : ∀ k, k ≤ recN d seq → (∀ j, j < k → g (u + j) = padB (secB seq (seaB d seq) j)) → preB ((ringG g se).drop (u * 64)) k = (List.range k).flatMap (fun i => (padB (secB seq (seaB d seq) i)).drop 8) := fun k hk hj => by
      unfold preB
      rw [List.flatMap_def, List.flatMap_def]
      congr 1
      apply List.map_congr_left
      intro i hi
      have hi2 := List.mem_range.1 hi
      rw [hG i 8 56 (by omega) (by omega), hj i hi2, List.take_of_length_le (by rw [padS_len]; omega)]
    by_cases hall : ∀ j, j < recN d seq → g (u + j) = padB (secB seq (seaB d seq) j)
    · have hT : TagK ((ringG g se).drop (u * 64)) seq (recN d seq) := by
        refine ⟨by rw [List.length_drop, hrl]; omega, fun i hi => ?_, .inr ?_⟩
        · rw [hG8 i (by omega), hall i hi]; exact (padS seq _ i).1
        · rw [hG8 (recN d seq) (by omega)]
          rcases hH (recN d seq) (by omega) with h | ⟨⟨t, h1, h2⟩, _⟩
          · rw [planS, if_neg (by omega)] at h
            obtain ⟨r, h3, h4⟩ := planS_tag _ _ _ _ h
            rw [h4]; intro e; have := tagL_inj (by omega) (by omega) e; omega
          · rw [h2]; intro e; have := tagL_inj (by omega) (by omega) e; omega
      obtain ⟨pad, hp2⟩ := joinS_all seq (seaB d seq)
      have h1 : oneF (preB ((ringG g se).drop (u * 64)) (recN d seq)) seq = some (d, recN d seq) := by
        rw [hpre _ (Nat.le_refl _) hall]
        show oneF ((List.range (secN (seaB d seq).length)).flatMap _) seq = _
        rw [hp2]
        exact oneF_rec d seq hdl (by omega) pad
      obtain ⟨c, c1, c2, c3, c4⟩ := ih (u + recN d seq) (seq + 1) (s - 1) (fun x hx => hd x (by simp [hx])) (by omega) (by omega) (by omega) (by omega) (fun i hi => by
        rw [Nat.add_assoc]
        rcases hH (recN d seq + i) (by omega) with h | ⟨h, h2⟩
        · rw [planS, if_neg (by omega), Nat.add_sub_cancel_left] at h
          exact .inl h
        · refine .inr ⟨h, ?_⟩
          cases s with
          | zero => rw [Nat.zero_sub, List.take_zero]; exact Nat.zero_le _
          | succ s =>
            rw [List.take_succ_cons, szs, sumN_cons] at h2
            rw [Nat.add_sub_cancel]
            omega)
      refine ⟨c + 1, by omega, by rw [List.length_cons]; omega, ?_, fun i x hx => ?_⟩
      · rw [List.take_succ_cons, show szs seq (d :: ds.take c) = recN d seq :: szs (seq + 1) (ds.take c) from rfl, List.zip_cons_cons]
        refine Scan.step (by omega) hT h1 ?_
        rw [List.drop_drop, show u * 64 + recN d seq * 64 = (u + recN d seq) * 64 by omega]
        exact c3
      · rw [List.take_succ_cons, planS] at hx
        by_cases hi : i < recN d seq
        · rw [if_pos hi] at hx; cases hx; exact hall i hi
        · rw [if_neg hi] at hx
          have := c4 _ x hx
          rw [show u + recN d seq + (i - recN d seq) = u + i by omega] at this
          exact this
    · obtain ⟨j0, hj0, hmin⟩ : ∃ j0, (j0 < recN d seq ∧ g (u + j0) ≠ padB (secB seq (seaB d seq) j0)) ∧ ∀ j, j < j0 → g (u + j) = padB (secB seq (seaB d seq) j) := by
        have hex : ∃ j0, j0 < recN d seq ∧ g (u + j0) ≠ padB (secB seq (seaB d seq) j0) := Classical.byContradiction (fun hn => hall (fun j hj => Classical.byContradiction (fun h => hn ⟨j, hj, h⟩)))
        have key : ∀ b, (∃ j0, j0 < b ∧ j0 < recN d seq ∧ g (u + j0) ≠ padB (secB seq (seaB d seq) j0)) → ∃ j0, (j0 < recN d seq ∧ g (u + j0) ≠ padB (secB seq (seaB d seq) j0)) ∧ ∀ j, j < j0 → g (u + j) = padB (secB seq (seaB d seq) j) := by
          intro b
          induction b with
          | zero => rintro ⟨j0, h, _⟩; omega
          | succ b ih2 =>
            rintro ⟨j0, h1, h2, h3⟩
            by_cases hb : ∃ j1, j1 < b ∧ j1 < recN d seq ∧ g (u + j1) ≠ padB (secB seq (seaB d seq) j1)
            · exact ih2 hb
            · exact ⟨j0, ⟨h2, h3⟩, fun j hj => Classical.byContradiction (fun h => hb ⟨j, by omega, by omega, h⟩)⟩
        obtain ⟨j0, h1, h2⟩ := hex
        exact key (j0 + 1) ⟨j0, by omega, h1, h2⟩
      have hlow : lowT f (g (u + j0)) ∧ s = 0 := by
        rcases hH j0 (by omega) with h | ⟨h, h2⟩
        · rw [planS, if_pos hj0.1] at h
          exact absurd (Option.some.inj h).symm hj0.2
        · refine ⟨h, ?_⟩
          cases s with
          | zero => rfl
          | succ s =>
            rw [List.take_succ_cons, szs, sumN_cons] at h2
            omega
      obtain ⟨⟨t, t1, t2⟩, hs0⟩ := hlow
      refine ⟨0, by omega, Nat.zero_le _, ?_, fun i x hx => by cases hx⟩
      have hT : TagK ((ringG g se).drop (u * 64)) seq j0 := by
        refine ⟨by rw [List.length_drop, hrl]; omega, fun i hi => ?_, .inr ?_⟩
        · rw [hG8 i (by omega), hmin i hi]; exact (padS seq _ i).1
        · rw [hG8 j0 (by omega), t2]; intro e; have := tagL_inj (by omega) (by omega) e; omega
      refine Scan.none hT ?_
      rw [hpre j0 (by omega) hmin]
      obtain ⟨pad, h3, h4⟩ := joinS seq (seaB d seq) j0 (by have := hj0.1; unfold recN at this; omega)
      rw [h3, h4 (by have := hj0.1; unfold recN at this; omega), List.append_nil]
      refine oneF_cut d seq _ hdl ?_
      have := hj0.1
      unfold recN secN at this
      omega
end Go.Proofs.Ythkcmafflbpfoaa
namespace Go.Proofs.Ythkcmafflbpfoaa
open Go.RowKit
set_option linter.unusedVariables false
set_option linter.unusedSimpArgs false
set_option maxRecDepth 100000

/-! LogSafe, plain: what each act does to the sectors. -/
structure AllowD (P : Int → List UInt8 → Prop) (D : DevS) : Prop where
  now : ∀ j, P j (D.get j)
  old : ∀ j x, mget D.loose j = some x → P j x
theorem AllowD.write {P : Int → List UInt8 → Prop} {D : DevS} (h : AllowD P D) (s : Int) (b : List UInt8) (hp : P s (padB b)) : AllowD P (D.write s b) := by
  unfold DevS.write
  split
  · exact h
  · split
    · exact ⟨h.now, h.old⟩
    · refine ⟨fun j => ?_, fun j x hx => ?_⟩
      · rw [get_put]
        split
        · rename_i e; subst e; exact hp
        · exact h.now j
      · unfold DevS.put at hx
        simp only at hx
        split at hx
        · exact h.old j x hx
        · rw [mget_mset] at hx
          split at hx
          · rename_i e; cases hx; subst e; exact h.now _
          · exact h.old j x hx
theorem AllowD.start {P : Int → List UInt8 → Prop} {D : DevS} (h : AllowD P D) (hl : D.lost = false) (kept : List Bool) : AllowD P (D.start kept) := by
  refine ⟨fun j => ?_, fun j x hx => ?_⟩
  · rcases start_get D hl kept j with e | ⟨x, e1, e2⟩
    · rw [e]; exact h.now j
    · rw [e2]; exact h.old j x e1
  · rw [start_loose hl kept] at hx; cases hx
theorem AllowD.flush {P : Int → List UInt8 → Prop} {D : DevS} (h : AllowD P D) : AllowD P D.flush := by
  unfold DevS.flush
  split
  · exact h
  · exact ⟨h.now, fun j x hx => by cases hx⟩
theorem AllowD.imp {P Q : Int → List UInt8 → Prop} {D : DevS} (h : AllowD P D) (hpq : ∀ j x, P j x → Q j x) : AllowD Q D := ⟨fun j => hpq _ _ (h.now j), fun j x hx => hpq _ _ (h.old j x hx)⟩
theorem AllowD.apN {P : Int → List UInt8 → Prop} {D : DevS} (h : AllowD P D) (l : LogS) (u seq : Nat) (B : List UInt8) (k : Nat) (hp : ∀ j, j < k → P (l.sec (u + j) : Nat) (padB (secB seq B j))) : AllowD P (apN D l u seq B k) := by
  induction k with
  | zero => exact h
  | succ k ih => exact (ih (fun j hj => hp j (by omega))).write _ _ (hp k (by omega))
theorem AllowD.clN {P : Int → List UInt8 → Prop} {D : DevS} (h : AllowD P D) (l : LogS) (u : Nat) (rest : List UInt8) (k : Nat) (hp : ∀ j, j < k → P (l.sec (u + j) : Nat) zeroB) : AllowD P (clN D l u rest k) := by
  induction k with
  | zero => exact h
  | succ k ih =>
    unfold Go.Proofs.Ythkcmafflbpfoaa.clN
    split
    · exact (ih (fun j hj => hp j (by omega))).write _ _ (hp k (by omega))
    · exact ih (fun j hj => hp j (by omega))
theorem AllowD.cleanF {P : Int → List UInt8 → Prop} {D : DevS} (h : AllowD P D) (l : LogS) (u : Nat) (rest : List UInt8) (K : Nat) (hp : ∀ j, j < K → P (l.sec (u + j) : Nat) zeroB) : AllowD P (cleanF D l u rest K) := by
  unfold Go.Proofs.Ythkcmafflbpfoaa.cleanF
  split
  · exact (h.clN l u rest K hp).flush
  · exact h.clN l u rest K hp
theorem apN_lost (D : DevS) (l : LogS) (u seq : Nat) (B : List UInt8) (k : Nat) : (apN D l u seq B k).lost = D.lost := by
  induction k with
  | zero => rfl
  | succ k ih => exact (write_lost _ _ _).trans ih
theorem clN_lost (D : DevS) (l : LogS) (u : Nat) (rest : List UInt8) (k : Nat) : (clN D l u rest k).lost = D.lost := by
  induction k with
  | zero => rfl
  | succ k ih =>
    unfold clN
    split
    · exact (write_lost _ _ _).trans ih
    · exact ih
theorem cleanF_lost (D : DevS) (l : LogS) (u : Nat) (rest : List UInt8) (K : Nat) : (cleanF D l u rest K).lost = D.lost := by
  unfold cleanF
  split
  · exact (flush_lost _).trans (clN_lost _ _ _ _ _)
  · exact clN_lost _ _ _ _ _
/-- what a sector may hold -/
def PS (n at_ seq : Nat) (ds : List (List UInt8)) (s : Nat) (j : Int) (x : List UInt8) : Prop :=
  ∀ i, i < n → ((secA 0 n at_ i : Nat) : Int) = j → planS seq ds i = some x ∨ (lowT seq x ∧ sumN (szs seq (ds.take s)) ≤ i)
structure Fits (n at_ seq : Nat) (ds : List (List UInt8)) (s : Nat) : Prop where
  at_lt : at_ < n
  n3 : 3 ≤ n
  n16 : n ≤ 16384
  len : ∀ d ∈ ds, d.length ≤ 65536
  room : sumN (szs seq ds) < n
  s_le : s ≤ ds.length
  seq1 : 1 ≤ seq
  many : seq + ds.length ≤ 1000000
structure Sub (D : DevS) (n at_ seq : Nat) (ds : List (List UInt8)) (s : Nat) : Prop where
  fits : Fits n at_ seq ds s
  secs : D.sectors = (n : Int)
  lost : D.lost = false
  al : AllowD (PS n at_ seq ds s) D
def Full (D : DevS) (n at_ seq : Nat) (ds : List (List UInt8)) : Prop := ∀ i x, planS seq ds i = some x → ringV D 0 n at_ i = x
theorem Sub.start {D : DevS} {n at_ seq : Nat} {ds : List (List UInt8)} {s : Nat} (h : Sub D n at_ seq ds s) (kept : List Bool) : Sub (D.start kept) n at_ seq ds s ∧ (D.start kept).down = false ∧ (D.start kept).loose = [] := by
  obtain ⟨h1, h2, h3⟩ := start_up D h.lost kept
  refine ⟨⟨h.fits, h3.trans h.secs, ?_, h.al.start h.lost kept⟩, h1, h2⟩
  exact up_lost h1
theorem szs_take_le (seq : Nat) (ds : List (List UInt8)) (a b : Nat) (h : a ≤ b) : sumN (szs seq (ds.take a)) ≤ sumN (szs seq (ds.take b)) := by
  have : ds.take b = ds.take a ++ (ds.take b).drop a := by
    have := List.take_append_drop a (ds.take b)
    rw [List.take_take, Nat.min_eq_left h] at this
    exact this.symm
  rw [this, szs_append, sumN_append]
  omega
theorem szs_take_all (seq : Nat) (ds : List (List UInt8)) (a : Nat) : sumN (szs seq (ds.take a)) ≤ sumN (szs seq ds) := by
  have h1 := szs_append seq (ds.take a) (ds.drop a)
  rw [List.take_append_drop] at h1
  rw [h1, sumN_append]
  omega
theorem Sub.scan {D : DevS} {n at_ seq : Nat} {ds : List (List UInt8)} {s : Nat} (h : Sub D n at_ seq ds s) (hl : ∀ i, (D.get i).length = 64) :
    ∃ c, s ≤ c ∧ c ≤ ds.length ∧ Scan (ringB D 0 n at_ n) seq ((ds.take c).zip (szs seq (ds.take c))) ∧ Full D n at_ seq (ds.take c) := by
  obtain ⟨c, c1, c2, c3, c4⟩ := scan_part (g := ringV D 0 n at_) (fun i => hl _) n seq ds 0 seq s h.fits.len (Nat.le_refl _) (by have := h.fits.many; omega) h.fits.s_le (by have := h.fits.room; omega) (fun i hi => by
    rw [Nat.zero_add] at hi ⊢
    exact h.al.now _ i hi rfl)
  rw [Nat.zero_mul, List.drop_zero] at c3
  exact ⟨c, c1, c2, c3, fun i x hx => by have := c4 i x hx; rw [Nat.zero_add] at this; exact this⟩
theorem zero_low {f : Nat} (hf : 1 ≤ f) : lowT f zeroB := ⟨0, by omega, zero_tag⟩
theorem ps_zero {n at_ seq : Nat} {ds : List (List UInt8)} {s u : Nat} (hf : Fits n at_ seq ds s) (hu : sumN (szs seq (ds.take s)) ≤ u) (j : Nat) (hj : u + j < n) : PS n at_ seq ds s (secA 0 n at_ (u + j) : Nat) zeroB := by
  intro i hi he
  have : i = u + j := secA_inj hf.at_lt hi hj (Int.ofNat.inj he)
  exact .inr ⟨zero_low hf.seq1, by omega⟩
theorem Sub.clean {D : DevS} {n at_ seq : Nat} {ds : List (List UInt8)} {s : Nat} (h : Sub D n at_ seq ds s) (l : LogS) (hl1 : l.first = 0) (hl2 : l.secs = n) (hl3 : l.at_ = at_) (u : Nat) (hu : sumN (szs seq (ds.take s)) ≤ u) (hun : u ≤ n) (rest : List UInt8) : Sub (cleanF D l u rest (n - u)) n at_ seq ds s := by
  refine ⟨h.fits, (cleanF_sectors _ _ _ _ _).trans h.secs, (cleanF_lost _ _ _ _ _).trans h.lost, h.al.cleanF l u rest _ (fun j hj => ?_)⟩
  have := ps_zero h.fits hu j (by omega)
  show PS _ _ _ _ _ ((l.first + (l.at_ + (u + j)) % l.secs : Nat) : Int) _
  rw [hl1, hl2, hl3]
  exact this
theorem Sub.flushed {D : DevS} {n at_ seq : Nat} {ds : List (List UInt8)} {s : Nat} (h : Sub D n at_ seq ds s) (hF : Full D n at_ seq ds) : Sub { D with loose := [] } n at_ seq ds ds.length ∧ Full { D with loose := [] } n at_ seq ds := by
  refine ⟨⟨⟨h.fits.at_lt, h.fits.n3, h.fits.n16, h.fits.len, h.fits.room, Nat.le_refl _, h.fits.seq1, h.fits.many⟩, h.secs, h.lost, ⟨fun j i hi he => ?_, fun j x hx => by cases hx⟩⟩, hF⟩
  subst he
  rw [List.take_length]
  by_cases hlt : i < sumN (szs seq ds)
  · obtain ⟨x, hx⟩ := planS_some seq ds i hlt
    left
    rw [hx]
    exact congrArg some (hF i x hx).symm
  · right
    rcases h.al.now _ i hi rfl with e | ⟨e, _⟩
    · rw [planS_none seq ds i (by omega)] at e; cases e
    · exact ⟨e, by omega⟩
theorem sec_eq {l : LogS} {n at_ : Nat} (hl1 : l.first = 0) (hl2 : l.secs = n) (hl3 : l.at_ = at_) (i : Nat) : l.sec i = secA 0 n at_ i := by
  show l.first + (l.at_ + i) % l.secs = _
  rw [hl1, hl2, hl3]; rfl
theorem Sub.append {D : DevS} {n at_ seq : Nat} {ds : List (List UInt8)} {s : Nat} (h : Sub D n at_ seq ds s) (d : List UInt8) (hd : d.length ≤ 65536) (l : LogS) (hl1 : l.first = 0) (hl2 : l.secs = n) (hl3 : l.at_ = at_) (hroom : recN d (seq + ds.length) + sumN (szs seq ds) + 1 ≤ n) (hm : seq + ds.length + 1 ≤ 1000000) :
    Sub (apN D l (sumN (szs seq ds)) (seq + ds.length) (seaB d (seq + ds.length)) (recN d (seq + ds.length))) n at_ seq (ds ++ [d]) s := by
  have hs : szs seq (ds ++ [d]) = szs seq ds ++ [recN d (seq + ds.length)] := by rw [szs_append]; rfl
  have hsum : sumN (szs seq (ds ++ [d])) = sumN (szs seq ds) + recN d (seq + ds.length) := by rw [hs, sumN_append]; simp [sumN]
  have htk : (ds ++ [d]).take s = ds.take s := by rw [List.take_append_of_le_length h.fits.s_le]
  refine ⟨⟨h.fits.at_lt, h.fits.n3, h.fits.n16, ?_, by rw [hsum]; omega, by rw [List.length_append]; have := h.fits.s_le; omega, h.fits.seq1, by rw [List.length_append, List.length_singleton]; omega⟩, (apN_sectors _ _ _ _ _ _).trans h.secs, (apN_lost _ _ _ _ _ _).trans h.lost, ?_⟩
  · intro x hx
    rcases List.mem_append.1 hx with hx | hx
    · exact h.fits.len x hx
    · rw [List.mem_singleton.1 hx]; exact hd
  · refine (h.al.imp (fun j x hP i hi he => ?_)).apN l _ _ _ _ (fun j hj i hi he => ?_)
    · rcases hP i hi he with e | ⟨e1, e2⟩
      · left
        rw [planS_append]
        by_cases hlt : i < sumN (szs seq ds)
        · rw [if_pos hlt]; exact e
        · rw [planS_none seq ds i (by omega)] at e; cases e
      · rw [htk]; exact .inr ⟨e1, e2⟩
    · rw [sec_eq hl1 hl2 hl3] at he
      have hij : i = sumN (szs seq ds) + j := secA_inj h.fits.at_lt hi (by omega) (Int.ofNat.inj he)
      left
      rw [hij, planS_append, if_neg (by omega), Nat.add_sub_cancel_left, planS, if_pos hj]
theorem apN_up_get {D : DevS} (l : LogS) (h2 : 2 ≤ l.secs) (hat : l.at_ < l.secs) (hfit : ((l.first + l.secs : Nat) : Int) ≤ D.sectors) (u seq : Nat) (B : List UInt8) (k : Nat) (hk : u + k ≤ l.secs) (hdn : (apN D l u seq B k).down = false) (i : Nat) (hi : i < l.secs) :
    ringV (apN D l u seq B k) l.first l.secs l.at_ i = if u ≤ i ∧ i < u + k then padB (secB seq B (i - u)) else ringV D l.first l.secs l.at_ i := by
  induction k with
  | zero => rw [if_neg (by omega)]; rfl
  | succ k ih =>
    have hs := sec_lt l (u + k) h2
    obtain ⟨hu, hw⟩ := write_up (D := apN D l u seq B k) (s := (l.sec (u + k) : Nat)) (by omega) (by rw [apN_sectors]; omega) (l := secB seq B k) (by rw [secB_len]; omega) hdn
    show ((apN D l u seq B k).write _ _).get _ = _
    rw [hw, get_put]
    by_cases he : i = u + k
    · subst he
      rw [if_pos (show ((secA l.first l.secs l.at_ (u + k) : Nat) : Int) = ((l.sec (u + k) : Nat) : Int) from rfl), if_pos (by omega), Nat.add_sub_cancel_left]
    · rw [if_neg (fun h => he (secA_inj hat hi (by omega) (by have : (secA l.first l.secs l.at_ i : Int) = (l.sec (u + k) : Nat) := h; exact Int.ofNat.inj this)))]
      have := ih (by omega) hu
      unfold ringV at this
      rw [this]
      by_cases hb : u ≤ i ∧ i < u + k
      · rw [if_pos hb, if_pos (by omega)]
      · rw [if_neg hb, if_neg (by omega)]; rfl
theorem Full.append {D : DevS} {n at_ seq : Nat} {ds : List (List UInt8)} (hF : Full D n at_ seq ds) (hn : D.sectors = (n : Int)) (h2 : 2 ≤ n) (hat : at_ < n) (d : List UInt8) (l : LogS) (hl1 : l.first = 0) (hl2 : l.secs = n) (hl3 : l.at_ = at_) (hroom : recN d (seq + ds.length) + sumN (szs seq ds) + 1 ≤ n)
    (hdn : (apN D l (sumN (szs seq ds)) (seq + ds.length) (seaB d (seq + ds.length)) (recN d (seq + ds.length))).down = false) :
    Full (apN D l (sumN (szs seq ds)) (seq + ds.length) (seaB d (seq + ds.length)) (recN d (seq + ds.length))) n at_ seq (ds ++ [d]) := by
  intro i x hx
  have hs : szs seq (ds ++ [d]) = szs seq ds ++ [recN d (seq + ds.length)] := by rw [szs_append]; rfl
  have hsum : sumN (szs seq (ds ++ [d])) = sumN (szs seq ds) + recN d (seq + ds.length) := by rw [hs, sumN_append]; simp [sumN]
  have hil : i < sumN (szs seq ds) + recN d (seq + ds.length) := by
    rcases Nat.lt_or_ge i (sumN (szs seq (ds ++ [d]))) with h | h
    · omega
    · rw [planS_none _ _ _ h] at hx; cases hx
  have hg := apN_up_get l (by omega) (by omega) (by rw [hl1, hl2, hn]; omega) (sumN (szs seq ds)) (seq + ds.length) (seaB d (seq + ds.length)) (recN d (seq + ds.length)) (by omega) hdn i (by omega)
  rw [hl1, hl2, hl3] at hg
  rw [hg]
  rw [planS_append] at hx
  by_cases hlt : i < sumN (szs seq ds)
  · rw [if_pos hlt] at hx
    rw [if_neg (by omega)]
    exact hF i x hx
  · rw [if_neg hlt, planS, if_pos (by omega)] at hx
    rw [if_pos (by omega)]
    exact Option.some.inj hx
theorem ringV_wrap (D : DevS) (n at_ i : Nat) : ringV D 0 n at_ (i + n) = ringV D 0 n at_ i := by
  unfold ringV secA
  rw [← Nat.add_assoc, Nat.add_mod_right]
theorem Sub.trim {D : DevS} {n at_ seq : Nat} {ds : List (List UInt8)} {s : Nat} (h : Sub D n at_ seq ds s) (k : Nat) (hk : k ≤ s) : Sub D n ((at_ + sumN (szs seq (ds.take k))) % n) (seq + k) (ds.drop k) (s - k) := by
  have hkl : k ≤ ds.length := Nat.le_trans hk h.fits.s_le
  have hsp : sumN (szs seq (ds.take k)) + sumN (szs (seq + k) (ds.drop k)) = sumN (szs seq ds) := by
    have := szs_append seq (ds.take k) (ds.drop k)
    rw [List.take_append_drop, List.length_take, Nat.min_eq_left hkl] at this
    rw [this, sumN_append]
  have hsp2 : sumN (szs seq (ds.take k)) + sumN (szs (seq + k) ((ds.drop k).take (s - k))) = sumN (szs seq (ds.take s)) := by
    have h1 : ds.take s = ds.take k ++ (ds.drop k).take (s - k) := by
      rw [← List.take_append_drop k (ds.take s), List.take_take, Nat.min_eq_left hk, List.drop_take]
    rw [h1, szs_append, List.length_take, Nat.min_eq_left hkl, sumN_append]
  have hr := h.fits.room
  obtain ⟨S, hS⟩ : ∃ S, S = sumN (szs seq (ds.take k)) := ⟨_, rfl⟩
  rw [← hS] at hsp hsp2 ⊢
  refine ⟨⟨Nat.mod_lt _ (by have := h.fits.n3; omega), h.fits.n3, h.fits.n16, fun d hd => h.fits.len d (List.mem_of_mem_drop hd), by omega, by rw [List.length_drop]; have := h.fits.s_le; omega, by have := h.fits.seq1; omega, by rw [List.length_drop]; have := h.fits.many; omega⟩, h.secs, h.lost, h.al.imp (fun j x hP i hi he => ?_)⟩
  rw [secA_shift] at he
  by_cases hw : S + i < n
  · rcases hP (S + i) hw he with e | ⟨⟨t, t1, t2⟩, e2⟩
    · left
      rw [planS_drop seq ds k i hkl, ← hS]
      exact e
    · exact .inr ⟨⟨t, by omega, t2⟩, by omega⟩
  · have hw2 : secA 0 n at_ (S + i) = secA 0 n at_ (S + i - n) := by
      unfold secA
      rw [show at_ + (S + i) = at_ + (S + i - n) + n by omega, Nat.add_mod_right]
    rw [hw2] at he
    have hlow : lowT (seq + k) x := by
      rcases hP (S + i - n) (by omega) he with e | ⟨e1, e2⟩
      · obtain ⟨r, r1, r2⟩ := planS_tag seq (ds.take k) (S + i - n) x (by rw [planS_take seq ds k _ (by rw [← hS]; omega)]; exact e)
        rw [List.length_take] at r1
        exact ⟨seq + r, by omega, r2⟩
      · have := szs_take_le seq ds k s hk
        rw [← hS] at this
        omega
    have hall := szs_take_all seq ds s
    exact .inr ⟨hlow, by omega⟩
theorem Full.trim {D : DevS} {n at_ seq : Nat} {ds : List (List UInt8)} (hF : Full D n at_ seq ds) (k : Nat) (hk : k ≤ ds.length) : Full D n ((at_ + sumN (szs seq (ds.take k))) % n) (seq + k) (ds.drop k) := by
  intro i x hx
  rw [ringV_shift]
  rw [planS_drop seq ds k i hk] at hx
  exact hF _ x hx
end Go.Proofs.Ythkcmafflbpfoaa
namespace Go.Proofs.Ythkcmafflbpfoaa
open Go.RowKit
set_option linter.unusedVariables false
set_option linter.unusedSimpArgs false
set_option maxRecDepth 100000

/-! LogSafe, plain: the sectors behind a cleaning that came to its end. -/
theorem flush_dn (D : DevS) : D.flush.down = D.down := by unfold DevS.flush; split <;> rfl
theorem clean_dn (D : DevS) (l : LogS) (u : Nat) (rest : List UInt8) (K : Nat) : (cleanF D l u rest K).down = (clN D l u rest K).down := by
  unfold cleanF; split
  · rw [flush_dn]
  · rfl
theorem clN_same (D : DevS) (l : LogS) (u : Nat) (rest : List UInt8) (k : Nat) (h : anyD rest k = false) : clN D l u rest k = D := by
  induction k with
  | zero => rfl
  | succ k ih =>
    unfold anyD at h
    simp only [Bool.or_eq_false_iff] at h
    unfold clN
    rw [if_neg (by rw [h.1]; simp)]
    exact ih h.2
theorem clean_loose {D : DevS} (hlo : D.loose = []) (l : LogS) (u : Nat) (rest : List UInt8) (K : Nat) (hdn : (clN D l u rest K).down = false) : (cleanF D l u rest K).loose = [] := by
  unfold cleanF
  split
  · unfold DevS.flush
    rw [if_neg (by rw [hdn]; simp)]
  · rename_i h
    rw [clN_same D l u rest K (by simpa using h)]
    exact hlo
theorem clean_prop {D : DevS} {P : Bool → Prop} (l : LogS) (u : Nat) (rest : List UInt8) (K : Nat) : (cleanF D l u rest K).get = (clN D l u rest K).get := by
  funext s
  unfold cleanF; split
  · exact flush_getD _ s
  · rfl
theorem zero_of_clean {b : List UInt8} (hl : b.length = 64) (h : dirtyB b = false) : b = zeroB := by
  unfold zeroB
  rw [List.eq_replicate_iff]
  refine ⟨hl, fun x hx => ?_⟩
  unfold dirtyB at h
  rw [List.any_eq_false] at h
  have := h x hx
  simpa using this
theorem clN_up_get {D : DevS} (l : LogS) (h2 : 2 ≤ l.secs) (hat : l.at_ < l.secs) (hfit : ((l.first + l.secs : Nat) : Int) ≤ D.sectors) (u : Nat) (rest : List UInt8) (k : Nat) (hk : u + k ≤ l.secs) (hdn : (clN D l u rest k).down = false) (i : Nat) (hi : i < l.secs) :
    ringV (clN D l u rest k) l.first l.secs l.at_ i = if u ≤ i ∧ i < u + k ∧ dirtyB (chunk rest (i - u)) = true then zeroB else ringV D l.first l.secs l.at_ i := by
  induction k with
  | zero => rw [if_neg (by omega)]; rfl
  | succ k ih =>
    have hs := sec_lt l (u + k) h2
    unfold clN at hdn ⊢
    by_cases hd : dirtyB (chunk rest k) = true
    · rw [if_pos hd] at hdn ⊢
      obtain ⟨hu, hw⟩ := write_up (D := clN D l u rest k) (s := (l.sec (u + k) : Nat)) (by omega) (by rw [clN_sectors]; omega) (l := []) (by simp) hdn
      rw [hw]
      show ((clN D l u rest k).put _ _).get _ = _
      rw [get_put]
      by_cases he : i = u + k
      · subst he
        rw [if_pos (show ((secA l.first l.secs l.at_ (u + k) : Nat) : Int) = ((l.sec (u + k) : Nat) : Int) from rfl), if_pos ⟨by omega, by omega, by rw [Nat.add_sub_cancel_left]; exact hd⟩]
        rfl
      · rw [if_neg (fun h => he (secA_inj hat hi (by omega) (by have : (secA l.first l.secs l.at_ i : Int) = (l.sec (u + k) : Nat) := h; exact Int.ofNat.inj this)))]
        have := ih (by omega) hu
        unfold ringV at this
        rw [this]
        by_cases hb : u ≤ i ∧ i < u + k ∧ dirtyB (chunk rest (i - u)) = true
        · rw [if_pos hb, if_pos ⟨hb.1, by omega, hb.2.2⟩]
        · rw [if_neg hb, if_neg (fun h => hb ⟨h.1, by omega, h.2.2⟩)]; rfl
    · rw [if_neg hd] at hdn ⊢
      rw [ih (by omega) hdn]
      by_cases hb : u ≤ i ∧ i < u + k ∧ dirtyB (chunk rest (i - u)) = true
      · rw [if_pos hb, if_pos ⟨hb.1, by omega, hb.2.2⟩]
      · rw [if_neg hb, if_neg (fun h => hb ⟨h.1, by
          rcases Nat.lt_or_ge i (u + k) with h3 | h3
          · exact h3
          · have : i - u = k := by omega
            rw [this] at h
            exact absurd h.2.2 hd, h.2.2⟩)]
theorem chunk_ring (D : DevS) (hl : ∀ i, (D.get i).length = 64) (n at_ u j : Nat) (hj : u + j < n) : chunk ((ringB D 0 n at_ n).drop (u * 64)) j = ringV D 0 n at_ (u + j) := by
  have := ringG_at (ringV D 0 n at_) (fun i => hl _) n (u + j) 0 64 hj (by omega)
  unfold chunk
  rw [List.drop_drop, show u * 64 + 64 * j = (u + j) * 64 + 0 by omega]
  rw [List.drop_zero] at this
  exact this.trans (List.take_of_length_le (by rw [show (ringV D 0 n at_ (u + j)).length = 64 from hl _]; omega))
theorem clean_zero {D : DevS} (hl : ∀ i, (D.get i).length = 64) (l : LogS) (n at_ : Nat) (hl1 : l.first = 0) (hl2 : l.secs = n) (hl3 : l.at_ = at_) (h2 : 2 ≤ n) (hat : at_ < n) (hn : D.sectors = (n : Int)) (u : Nat) (hu : u ≤ n) (hdn : (clN D l u ((ringB D 0 n at_ n).drop (u * 64)) (n - u)).down = false) (i : Nat) (hi : i < n) :
    ringV (cleanF D l u ((ringB D 0 n at_ n).drop (u * 64)) (n - u)) 0 n at_ i = if i < u then ringV D 0 n at_ i else zeroB := by
  have hg := clN_up_get l (by omega) (by omega) (by rw [hl1, hl2, hn]; omega) u ((ringB D 0 n at_ n).drop (u * 64)) (n - u) (by omega) hdn i (by omega)
  rw [hl1, hl2, hl3] at hg
  have he : ringV (cleanF D l u ((ringB D 0 n at_ n).drop (u * 64)) (n - u)) 0 n at_ i = ringV (clN D l u ((ringB D 0 n at_ n).drop (u * 64)) (n - u)) 0 n at_ i := by
    unfold ringV
    rw [clean_prop (P := fun _ => True)]
  rw [he, hg]
  by_cases hiu : i < u
  · rw [if_neg (by omega), if_pos hiu]
  · rw [if_neg hiu]
    have hc := chunk_ring D hl n at_ u (i - u) (by omega)
    rw [show u + (i - u) = i by omega] at hc
    by_cases hd : dirtyB (chunk ((ringB D 0 n at_ n).drop (u * 64)) (i - u)) = true
    · rw [if_pos ⟨by omega, by omega, hd⟩]
    · rw [if_neg (fun h => hd h.2.2)]
      rw [hc] at hd
      exact zero_of_clean (hl _) (by simpa using hd)
/-- what is there behind an opening that came to its end -/
theorem Sub.opened {D : DevS} {n at_ seq : Nat} {ds : List (List UInt8)} {s c : Nat} (h : Sub D n at_ seq ds s) (hl : ∀ i, (D.get i).length = 64) (hlo : D.loose = []) (hc : c ≤ ds.length) (hF : Full D n at_ seq (ds.take c)) (l : LogS) (hl1 : l.first = 0) (hl2 : l.secs = n) (hl3 : l.at_ = at_)
    (hdn : (clN D l (sumN (szs seq (ds.take c))) ((ringB D 0 n at_ n).drop (sumN (szs seq (ds.take c)) * 64)) (n - sumN (szs seq (ds.take c)))).down = false) :
    Sub (cleanF D l (sumN (szs seq (ds.take c))) ((ringB D 0 n at_ n).drop (sumN (szs seq (ds.take c)) * 64)) (n - sumN (szs seq (ds.take c)))) n at_ seq (ds.take c) c ∧ Full (cleanF D l (sumN (szs seq (ds.take c))) ((ringB D 0 n at_ n).drop (sumN (szs seq (ds.take c)) * 64)) (n - sumN (szs seq (ds.take c)))) n at_ seq (ds.take c) := by
  have hle := szs_take_all seq ds c
  have hr := h.fits.room
  have hz := fun i hi => clean_zero hl l n at_ hl1 hl2 hl3 (by have := h.fits.n3; omega) h.fits.at_lt h.secs (sumN (szs seq (ds.take c))) (by omega) hdn i hi
  have hlo2 := clean_loose hlo l (sumN (szs seq (ds.take c))) ((ringB D 0 n at_ n).drop (sumN (szs seq (ds.take c)) * 64)) (n - sumN (szs seq (ds.take c))) hdn
  have hfull : Full (cleanF D l (sumN (szs seq (ds.take c))) ((ringB D 0 n at_ n).drop (sumN (szs seq (ds.take c)) * 64)) (n - sumN (szs seq (ds.take c)))) n at_ seq (ds.take c) := by
    intro i x hx
    have hi : i < sumN (szs seq (ds.take c)) := by
      rcases Nat.lt_or_ge i (sumN (szs seq (ds.take c))) with h | h
      · exact h
      · rw [planS_none _ _ _ h] at hx; cases hx
    rw [hz i (by omega), if_pos hi]
    exact hF i x hx
  refine ⟨⟨⟨h.fits.at_lt, h.fits.n3, h.fits.n16, fun d hd => h.fits.len d (List.mem_of_mem_take hd), by omega, by rw [List.length_take]; omega, h.fits.seq1, by rw [List.length_take]; have := h.fits.many; omega⟩, (cleanF_sectors _ _ _ _ _).trans h.secs, (cleanF_lost _ _ _ _ _).trans h.lost, ⟨fun j i hi he => ?_, fun j x hx => by rw [hlo2] at hx; cases hx⟩⟩, hfull⟩
  subst he
  by_cases hlt : i < sumN (szs seq (ds.take c))
  · obtain ⟨x, hx⟩ := planS_some seq (ds.take c) i hlt
    left
    rw [hx]
    exact congrArg some (hfull i x hx).symm
  · right
    have := hz i hi
    rw [if_neg hlt] at this
    unfold ringV at this
    rw [this]
    refine ⟨zero_low h.fits.seq1, ?_⟩
    rw [List.take_take, Nat.min_self]
    omega
theorem start_nil {D : DevS} (hl : D.lost = false) (hlo : D.loose = []) (kept : List Bool) (j : Int) : (D.start kept).get j = D.get j := start_keep D hl kept j (by rw [hlo]; rfl)
end Go.Proofs.Ythkcmafflbpfoaa

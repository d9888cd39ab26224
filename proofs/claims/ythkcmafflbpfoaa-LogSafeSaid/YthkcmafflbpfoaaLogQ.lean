import Derived.Test.YthkcmafflbpfoaaLogMore
namespace Go.Proofs.Ythkcmafflbpfoaa
open Go.RowKit
set_option linter.unusedVariables false
set_option linter.unusedSimpArgs false
set_option maxRecDepth 100000

/-! log: what a ring holds behind Append, Open, Trim (plain; a device that is neither down nor armed). -/
def ringV (D : DevS) (fi se at_ : Nat) (i : Nat) : List UInt8 := D.get (secA fi se at_ i : Nat)
theorem ringV_eq (D : DevS) (fi se at_ k : Nat) : ringB D fi se at_ k = ringG (ringV D fi se at_) k := rfl
theorem add_mod_cases (a i n : Nat) (ha : a < n) (hi : i < n) : (a + i) % n = a + i ∧ a + i < n ∨ (a + i) % n = a + i - n ∧ n ≤ a + i := by
  by_cases h : a + i < n
  · exact .inl ⟨Nat.mod_eq_of_lt h, h⟩
  · refine .inr ⟨?_, by omega⟩
    rw [Nat.mod_eq_sub_mod (by omega), Nat.mod_eq_of_lt (by omega)]
theorem secA_inj {fi se at_ i j : Nat} (ha : at_ < se) (hi : i < se) (hj : j < se) (h : secA fi se at_ i = secA fi se at_ j) : i = j := by
  unfold secA at h
  rcases add_mod_cases at_ i se ha hi with ⟨h1, h2⟩ | ⟨h1, h2⟩ <;> rcases add_mod_cases at_ j se ha hj with ⟨h3, h4⟩ | ⟨h3, h4⟩ <;> omega
theorem secA_shift (fi se at_ s i : Nat) : secA fi se ((at_ + s) % se) i = secA fi se at_ (s + i) := by
  unfold secA; rw [Nat.mod_add_mod, Nat.add_assoc]
theorem ringV_shift (D : DevS) (fi se at_ s : Nat) : ringV D fi se ((at_ + s) % se) = fun i => ringV D fi se at_ (s + i) := by
  funext i; unfold ringV; rw [secA_shift]
theorem apN_calm {D : DevS} (hc : Calm D) (l : LogS) (h2 : 2 ≤ l.secs) (hfit : ((l.first + l.secs : Nat) : Int) ≤ D.sectors) (u seq : Nat) (B : List UInt8) (k : Nat) : Calm (apN D l u seq B k) := by
  induction k with
  | zero => exact hc
  | succ k ih =>
    have hs := sec_lt l (u + k) h2
    show Calm ((apN D l u seq B k).write _ _)
    rw [ih.write (by omega) (by rw [apN_sectors]; omega) (by rw [secB_len]; omega)]
    exact ih.put _ _
theorem apN_get {D : DevS} (hc : Calm D) (l : LogS) (h2 : 2 ≤ l.secs) (hat : l.at_ < l.secs) (hfit : ((l.first + l.secs : Nat) : Int) ≤ D.sectors) (u seq : Nat) (B : List UInt8) (k : Nat) (hk : u + k ≤ l.secs) (i : Nat) (hi : i < l.secs) :
    ringV (apN D l u seq B k) l.first l.secs l.at_ i = if u ≤ i ∧ i < u + k then padB (secB seq B (i - u)) else ringV D l.first l.secs l.at_ i := by
  induction k with
  | zero => rw [if_neg (by omega)]; rfl
  | succ k ih =>
    have hs := sec_lt l (u + k) h2
    have hcal := apN_calm hc l h2 hfit u seq B k
    show ((apN D l u seq B k).write _ _).get _ = _
    rw [hcal.write (by omega) (by rw [apN_sectors]; omega) (by rw [secB_len]; omega), get_put]
    by_cases he : i = u + k
    · subst he
      rw [if_pos (show ((secA l.first l.secs l.at_ (u + k) : Nat) : Int) = ((l.sec (u + k) : Nat) : Int) from rfl), if_pos (by omega), Nat.add_sub_cancel_left]
    · rw [if_neg (fun h => he (secA_inj hat hi (by omega) (by have : (secA l.first l.secs l.at_ i : Int) = (l.sec (u + k) : Nat) := h; exact Int.ofNat.inj this)))]
      have := ih (by omega)
      unfold ringV at this
      rw [this]
      by_cases hb : u ≤ i ∧ i < u + k
      · rw [if_pos hb, if_pos (by omega)]
      · rw [if_neg hb, if_neg (by omega)]; rfl
theorem clN_calm {D : DevS} (hc : Calm D) (l : LogS) (h2 : 2 ≤ l.secs) (hfit : ((l.first + l.secs : Nat) : Int) ≤ D.sectors) (u : Nat) (rest : List UInt8) (k : Nat) : Calm (clN D l u rest k) := by
  induction k with
  | zero => exact hc
  | succ k ih =>
    have hs := sec_lt l (u + k) h2
    unfold clN
    split
    · rw [ih.write (by omega) (by rw [clN_sectors]; omega) (by simp)]
      exact ih.put _ _
    · exact ih
theorem clN_get {D : DevS} (hc : Calm D) (l : LogS) (h2 : 2 ≤ l.secs) (hfit : ((l.first + l.secs : Nat) : Int) ≤ D.sectors) (u : Nat) (rest : List UInt8) (k : Nat) (s : Int) : (clN D l u rest k).get s = D.get s ∨ (clN D l u rest k).get s = zeroB := by
  induction k with
  | zero => exact .inl rfl
  | succ k ih =>
    have hs := sec_lt l (u + k) h2
    unfold clN
    split
    · rw [(clN_calm hc l h2 hfit u rest k).write (by omega) (by rw [clN_sectors]; omega) (by simp), get_put]
      split
      · exact .inr rfl
      · exact ih
    · exact ih
theorem Calm.flushD {D : DevS} (h : Calm D) : Calm D.flush := by
  unfold DevS.flush
  split
  · exact h
  · exact ⟨h.up, h.armed⟩
theorem flush_getD (D : DevS) (s : Int) : D.flush.get s = D.get s := by unfold DevS.flush; split <;> rfl
theorem flush_secs (D : DevS) : D.flush.sectors = D.sectors := by unfold DevS.flush; split <;> rfl
theorem cleanF_sectors (D : DevS) (l : LogS) (u : Nat) (rest : List UInt8) (K : Nat) : (cleanF D l u rest K).sectors = D.sectors := by
  unfold cleanF; split
  · rw [flush_secs, clN_sectors]
  · rw [clN_sectors]
theorem cleanF_calm {D : DevS} (hc : Calm D) (l : LogS) (h2 : 2 ≤ l.secs) (hfit : ((l.first + l.secs : Nat) : Int) ≤ D.sectors) (u : Nat) (rest : List UInt8) (K : Nat) : Calm (cleanF D l u rest K) := by
  unfold cleanF; split
  · exact (clN_calm hc l h2 hfit u rest K).flushD
  · exact clN_calm hc l h2 hfit u rest K
theorem cleanF_get {D : DevS} (hc : Calm D) (l : LogS) (h2 : 2 ≤ l.secs) (hfit : ((l.first + l.secs : Nat) : Int) ≤ D.sectors) (u : Nat) (rest : List UInt8) (K : Nat) (s : Int) : (cleanF D l u rest K).get s = D.get s ∨ (cleanF D l u rest K).get s = zeroB := by
  unfold cleanF; split
  · rw [flush_getD]; exact clN_get hc l h2 hfit u rest K s
  · exact clN_get hc l h2 hfit u rest K s
theorem zero_tag : zeroB.take 8 = tagL 0 := by decide +kernel
theorem needF_rec (d : List UInt8) (seq : Nat) (hd : d.length ≤ 65536) (h1 : 1 ≤ seq) (h2 : seq ≤ 1099511627776) : needF (d.length : Int) (seq : Int) = recN d seq := by
  unfold needF recN
  rw [if_neg (by omega), Int.toNat_natCast, Int.toNat_natCast]
  rw [seaB_len, seaB_len]
  unfold recB
  simp
theorem recN_le (d : List UInt8) (seq : Nat) (hd : d.length ≤ 65536) : recN d seq ≤ 16384 := by
  have := recB_len d seq
  unfold recN secN
  rw [seaB_len]
  omega
theorem szs_le (seq : Nat) (ds : List (List UInt8)) (hd : ∀ d ∈ ds, d.length ≤ 65536) : ∀ x ∈ szs seq ds, x ≤ 16384 := by
  induction ds generalizing seq with
  | nil => intro x hx; cases hx
  | cons d ds ih =>
    intro x hx
    rcases List.mem_cons.1 hx with rfl | hx
    · exact recN_le d seq (hd d (by simp))
    · exact ih (seq + 1) (fun y hy => hd y (by simp [hy])) x hx
theorem sizesOf_zip (seq : Nat) (ds : List (List UInt8)) : sizesOf (ds.zip (szs seq ds)) = szs seq ds := by
  unfold sizesOf
  rw [List.map_snd_zip]
  rw [szs_len]; exact Nat.le_refl _
theorem zip_szs_len (seq : Nat) (ds : List (List UInt8)) : (ds.zip (szs seq ds)).length = ds.length := by rw [List.length_zip, szs_len, Nat.min_self]
theorem zip_szs_get (seq : Nat) (ds : List (List UInt8)) (i : Nat) (hi : i < ds.length) (h : i < (ds.zip (szs seq ds)).length) : (ds.zip (szs seq ds))[i].1 = ds[i] := by
  rw [List.getElem_zip]
theorem apN_any {D : DevS} (hc : Calm D) (l : LogS) (h2 : 2 ≤ l.secs) (hfit : ((l.first + l.secs : Nat) : Int) ≤ D.sectors) (u seq : Nat) (B : List UInt8) (k : Nat) (s : Int) : (apN D l u seq B k).get s = D.get s ∨ ∃ j, (apN D l u seq B k).get s = padB (secB seq B j) := by
  induction k with
  | zero => exact .inl rfl
  | succ k ih =>
    have hs := sec_lt l (u + k) h2
    show ((apN D l u seq B k).write _ _).get s = _ ∨ ∃ j, ((apN D l u seq B k).write _ _).get s = _
    rw [(apN_calm hc l h2 hfit u seq B k).write (by omega) (by rw [apN_sectors]; omega) (by rw [secB_len]; omega), get_put]
    split
    · exact .inr ⟨k, rfl⟩
    · exact ih
/-- all sectors have tags up to a number -/
def Tags (D : DevS) (k : Nat) : Prop := ∀ s : Int, ∃ t, t ≤ k ∧ (D.get s).take 8 = tagL t
theorem Tags.append {D : DevS} {k : Nat} (h : Tags D k) (hc : Calm D) (l : LogS) (h2 : 2 ≤ l.secs) (hfit : ((l.first + l.secs : Nat) : Int) ≤ D.sectors) (u : Nat) (B : List UInt8) (N : Nat) : Tags (apN D l u (k + 1) B N) (k + 1) := by
  intro s
  rcases apN_any hc l h2 hfit u (k + 1) B N s with e | ⟨j, e⟩
  · obtain ⟨t, h1, h2⟩ := h s
    exact ⟨t, by omega, by rw [e]; exact h2⟩
  · exact ⟨k + 1, Nat.le_refl _, by rw [e]; exact (padS _ _ _).1⟩
theorem Tags.clean {D : DevS} {k : Nat} (h : Tags D k) (hc : Calm D) (l : LogS) (h2 : 2 ≤ l.secs) (hfit : ((l.first + l.secs : Nat) : Int) ≤ D.sectors) (u : Nat) (rest : List UInt8) (K : Nat) : Tags (cleanF D l u rest K) k := by
  intro s
  rcases cleanF_get hc l h2 hfit u rest K s with e | e
  · rw [e]; exact h s
  · exact ⟨0, Nat.zero_le _, by rw [e]; exact zero_tag⟩
/-- one record, on a ring of elder ones, is read -/
theorem scan_one {D : DevS} (hl : ∀ i, (D.get i).length = 64) (hc : Calm D) {k : Nat} (hT : Tags D k) (l : LogS) (h2 : 2 ≤ l.secs) (hat : l.at_ < l.secs) (hfit : ((l.first + l.secs : Nat) : Int) ≤ D.sectors) (d : List UInt8) (hd : d.length ≤ 65536) (hk : k ≤ 1000000) (hN : recN d (k + 1) + 1 ≤ l.secs) (hl2 : ∀ i, ((apN D l 0 (k + 1) (seaB d (k + 1)) (recN d (k + 1))).get i).length = 64) :
    Scan (ringB (apN D l 0 (k + 1) (seaB d (k + 1)) (recN d (k + 1))) l.first l.secs l.at_ l.secs) (k + 1) [(d, recN d (k + 1))] := by
  have hg := fun i hi => apN_get hc l h2 hat hfit 0 (k + 1) (seaB d (k + 1)) (recN d (k + 1)) (by omega) i hi
  have := scan_lies (g := ringV (apN D l 0 (k + 1) (seaB d (k + 1)) (recN d (k + 1))) l.first l.secs l.at_) (fun i => hl2 _) l.secs [d] (fun x hx => by rw [List.mem_singleton.1 hx]; exact hd) 0 (k + 1) (by simp; omega)
    ⟨fun j hj => by rw [hg (0 + j) (by omega), if_pos (by omega)]; simp, trivial⟩ (by show 0 + sumN [recN d (k + 1)] ≤ _; simp [sumN]; omega) (fun hlt => by
      have hs : sumN (szs (k + 1) [d]) = recN d (k + 1) := by show sumN [recN d (k + 1)] = _; simp [sumN]
      rw [hs, Nat.zero_add, hg _ (by omega), if_neg (by omega)]
      obtain ⟨t, h1, h3⟩ := hT (secA l.first l.secs l.at_ (recN d (k + 1)) : Nat)
      exact ⟨t, by omega, h3⟩)
  rw [Nat.zero_mul, List.drop_zero] at this
  exact this
theorem tags_new (n : Int) : Tags (newD n) 0 := fun s => ⟨0, Nat.le_refl _, zero_tag⟩
theorem calm_new (n : Int) : Calm (newD n) := ⟨rfl, rfl⟩
theorem get_new (n s : Int) : (newD n).get s = zeroB := rfl
/-- nothing is read on a ring of elder ones -/
theorem scan_none {D : DevS} (hl : ∀ i, (D.get i).length = 64) (fi se at_ seq k : Nat) (hT : Tags D k) (hk : k < seq) (hs : seq ≤ 1099511627776) (hse : 0 < se) : Scan (ringB D fi se at_ se) seq [] := by
  have := scan_lies (g := ringV D fi se at_) (fun i => hl _) se [] (fun x hx => by cases hx) 0 seq (by simpa using hs) trivial (Nat.zero_le _) (fun hlt => by
    obtain ⟨t, h1, h3⟩ := hT (secA fi se at_ (0 + sumN (szs seq [])) : Nat)
    exact ⟨t, by omega, h3⟩)
  rw [Nat.zero_mul, List.drop_zero] at this
  exact this
end Go.Proofs.Ythkcmafflbpfoaa

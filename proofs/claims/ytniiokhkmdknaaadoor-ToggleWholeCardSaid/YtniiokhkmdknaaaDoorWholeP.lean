import Derived.Test.YtniiokhkmdknaaaDoorNewP
import Derived.Test.YtniiokhkmdknaaaDoorDevAll2
namespace Go.Proofs.YtniiokhkmdknaaaDoor
open Go.RowKit
set_option linter.unusedVariables false
set_option linter.unusedSimpArgs false

/-! ToggleWhole, the plain part: a save that is cut short leaves the older text. -/
theorem mget_key {α : Type} {m : List (Int × α)} {j : Int} (h : j ∈ m.map (·.1)) : mget m j ≠ none := by
  obtain ⟨y, hy, rfl⟩ := List.mem_map.1 h
  have : (m.find? (fun x => x.1 == y.1)).isSome := List.find?_isSome.2 ⟨y, hy, by simp⟩
  obtain ⟨z, hz⟩ := Option.isSome_iff_exists.1 this
  simp [mget, hz]
theorem startTo_keep (D : DevS) (kept : List Bool) (ks : List Int) (j : Int) (i : Nat) (h : ∀ n, n < i → ks.getD n 0 ≠ j) : mget (startTo D kept ks i) j = mget D.now j := by
  induction i with
  | zero => rfl
  | succ i ih =>
    simp only [startTo]
    split
    · exact ih (fun n hn => h n (by omega))
    · rw [mget_mset, if_neg (fun e => h i (by omega) e.symm), ih (fun n hn => h n (by omega))]
theorem start_keep (D : DevS) (hl : D.lost = false) (kept : List Bool) (j : Int) (hj : mget D.loose j = none) : (D.start kept).get j = D.get j := by
  unfold DevS.start
  rw [hl, if_neg (by simp)]
  unfold DevS.get
  simp only
  rw [startTo_keep D kept _ j]
  intro n hn he
  have hm : j ∈ sortedKeys D.loose := by
    rw [← he, List.getD_eq_getElem?_getD, List.getElem?_eq_getElem hn]
    exact List.getElem_mem _
  have hm2 : j ∈ D.loose.map (·.1) := by
    unfold sortedKeys at hm
    exact (List.mergeSort_perm _ _).mem_iff.1 hm
  exact mget_key hm2 hj
theorem start_up (D : DevS) (hl : D.lost = false) (kept : List Bool) : (D.start kept).down = false ∧ (D.start kept).loose = [] ∧ (D.start kept).sectors = D.sectors := by
  unfold DevS.start
  rw [hl, if_neg (by simp)]
  exact ⟨rfl, rfl, rfl⟩
theorem write_keep (D : DevS) (s : Int) (l : List UInt8) (j : Int) (hj : j ≠ s) : (D.write s l).get j = D.get j ∧ mget (D.write s l).loose j = mget D.loose j := by
  unfold DevS.write
  split
  · exact ⟨rfl, rfl⟩
  · split
    · exact ⟨rfl, rfl⟩
    · refine ⟨by rw [get_put, if_neg hj], ?_⟩
      unfold DevS.put
      simp only
      split
      · rfl
      · rw [mget_mset, if_neg hj]
theorem write_lost (D : DevS) (s : Int) (l : List UInt8) : (D.write s l).lost = D.lost := by unfold DevS.write; (repeat' split) <;> rfl
theorem flush_lost (D : DevS) : D.flush.lost = D.lost := by unfold DevS.flush; split <;> rfl
theorem wrN_keep (D : DevS) (s : Int) (l : List UInt8) (k : Nat) (j : Int) (hj : j < s ∨ s + k ≤ j) : (wrN D s l k).get j = D.get j ∧ mget (wrN D s l k).loose j = mget D.loose j := by
  induction k with
  | zero => exact ⟨rfl, rfl⟩
  | succ k ih =>
    obtain ⟨i1, i2⟩ := ih (by omega)
    obtain ⟨w1, w2⟩ := write_keep (wrN D s l k) (s + k) (chunk l k) j (by omega)
    exact ⟨w1.trans i1, w2.trans i2⟩
theorem wrN_lost (D : DevS) (s : Int) (l : List UInt8) (k : Nat) : (wrN D s l k).lost = D.lost := by
  induction k with
  | zero => rfl
  | succ k ih => exact (write_lost _ _ _).trans ih
theorem up_lost {D : DevS} (h : D.down = false) : D.lost = false := by
  unfold DevS.down at h
  cases hl : D.lost
  · rfl
  · rw [hl] at h; simp at h
theorem flush_up {D : DevS} (h : D.flush.down = false) : D.flush.loose = [] := by
  rw [flush_downE] at h
  unfold DevS.flush; rw [h]; rfl
theorem crash_keep {D : DevS} (hu : D.down = false) (hlo : D.loose = []) {s f : Int} (l tl : List UInt8) (h0 : 0 ≤ s) (h1 : s + cnt l.length ≤ D.sectors) (hf : 0 ≤ f ∧ f < D.sectors) (ht : tl.length ≤ 64) (hd : (saveD D s f l tl).down = true)
    (j : Int) (hj : j < s ∨ s + cnt l.length ≤ j) : (saveD D s f l tl).get j = D.get j ∧ mget (saveD D s f l tl).loose j = none := by
  obtain ⟨k1, k2⟩ := wrN_keep D s l (cnt l.length) j hj
  by_cases hw : (wrN D s l (cnt l.length)).down = true
  · rw [saveD_down1 D s f l tl _ (Nat.le_refl _) hw]
    exact ⟨k1, by rw [k2, hlo]; rfl⟩
  · have hwu : (wrote D s l).down = false := by unfold wrote; rw [flush_downE]; simpa using hw
    have hwl : (wrote D s l).loose = [] := flush_up hwu
    have hwg : (wrote D s l).get j = D.get j := by unfold wrote; rw [flush_get]; exact k1
    have ha := atE_up hwu hf.1 (by rw [wrote_sectors]; exact hf.2)
    unfold saveD at hd ⊢
    rw [flush_downE] at hd
    have e : (wrote D s l).write f tl = { wrote D s l with crashed := true } := by
      unfold DevS.write at hd ⊢
      rw [ha, if_neg (by omega)] at hd ⊢
      by_cases hc : (wrote D s l).armed = true ∧ (wrote D s l).left = 0
      · rw [if_pos hc]
      · rw [if_neg hc] at hd
        have : ((wrote D s l).put f tl).down = (wrote D s l).down := rfl
        rw [this, hwu] at hd
        cases hd
    rw [flush_down hd, e]
    exact ⟨hwg, by show mget (wrote D s l).loose j = none; rw [hwl]; rfl⟩
theorem saveD_lost (D : DevS) (s f : Int) (l tl : List UInt8) : (saveD D s f l tl).lost = D.lost := by
  unfold saveD wrote; rw [flush_lost, write_lost, flush_lost, wrN_lost]
/-- Behind a save that is cut short, and the start, the older text is there. -/
theorem cut_short {D : DevS} (hu : D.down = false) (hlo : D.loose = []) {f s : Int} (hf : 0 ≤ f) (hs : 3 ≤ s ∧ s ≤ 16384) (hfs : f + s ≤ D.sectors) {o : Option Text} (hg : Tg f s D o) (l : List UInt8) (hl : (l.length : Int) ≤ (s - 1) / 2 * 64)
    (hd : (saveT D f s (nextT o l)).down = true) (kept : List Bool) :
    ((saveT D f s (nextT o l)).start kept).down = false ∧ ((saveT D f s (nextT o l)).start kept).loose = [] ∧ ((saveT D f s (nextT o l)).start kept).sectors = D.sectors ∧ Tg f s ((saveT D f s (nextT o l)).start kept) o := by
  have hl2 : (((nextT o l).text.length : Nat) : Int) ≤ (s - 1) / 2 * 64 := by rw [nextT_text]; exact hl
  obtain ⟨b1, b2, b3⟩ := save_in hf hs hfs (nextT o l) hl2
  have hlost : (saveT D f s (nextT o l)).lost = false := (saveD_lost _ _ _ _ _).trans (up_lost hu)
  obtain ⟨u1, u2, u3⟩ := start_up _ hlost kept
  have hsec : (saveT D f s (nextT o l)).sectors = D.sectors := saveD_sectors _ _ _ _ _
  have hget : ∀ j, (j < fromF (nextT o l).second f s ∨ fromF (nextT o l).second f s + cnt (nextT o l).text.length ≤ j) → ((saveT D f s (nextT o l)).start kept).get j = D.get j := fun j hj => by
    obtain ⟨c1, c2⟩ := crash_keep hu hlo (nextT o l).text (tellB (nextT o l).n (nextT o l).second (nextT o l).text.length) (by omega) (by omega) (by omega) b3 hd j hj
    rw [start_keep _ hlost kept j c2]
    exact c1
  refine ⟨u1, u2, u3.trans hsec, ?_⟩
  cases o with
  | none =>
    show DevS.get _ f = zeroB
    rw [hget f (by omega)]
    exact hg
  | some t =>
    have hk : Kept f s D t := hg
    refine ⟨hk.n, hk.room, by rw [hget f (by omega)]; exact hk.tell, fun i hi => ?_⟩
    rw [hget _ ?_]
    · exact hk.bytes i hi
    · have hc1 := cnt_room hk.room
      have hc2 := cnt_room hl2
      show _ < fromF (!t.second) f s ∨ fromF (!t.second) f s + _ ≤ _
      unfold fromF
      cases t.second
      · left; simp; omega
      · right; simp; omega
end Go.Proofs.YtniiokhkmdknaaaDoor

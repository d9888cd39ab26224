import Derived.Test.YtffolfemcllfkaaGreatDoorRefDevM1
import Derived.Test.YtffolfemcllfkaaGreatDoorDev4
namespace Go.Proofs.YtffolfemcllfkaaGreatDoor
open Go.RowKit
set_option linter.unusedVariables false
set_option linter.unusedSimpArgs false
set_option maxRecDepth 100000

/-! The document's device (drydockref01), plain: what it holds beside the program's device. -/
/-- both hold the same -/
structure RD (D : DevS) (R : RefD) : Prop where
  len : (R.now.length : Int) = D.sectors
  len2 : R.safe.length = R.now.length
  len3 : R.loose.length = R.now.length
  now : ∀ i : Nat, i < R.now.length → R.now[i]? = some (D.get i)
  safe : ∀ i : Nat, i < R.now.length → R.safe[i]? = some ((mget D.loose i).getD (D.get i))
  loose : ∀ i : Nat, i < R.now.length → R.loose[i]? = some (mget D.loose i).isSome
  writes : R.writes = D.writes
  armed : R.armed = D.armed
  left : D.armed = true → R.left = D.left
  crashed : R.crashed = D.crashed
  gone : R.gone = D.lost
theorem RD.readE {D : DevS} {R : RefD} (h : RD D R) (s : Int) : R.readE s = D.atE s := by
  unfold RefD.readE DevS.atE DevS.down
  rw [h.crashed, h.gone, h.len]
  cases D.crashed <;> cases D.lost <;> simp
theorem RD.hit {D : DevS} {R : RefD} (h : RD D R) : (R.armed = true ∧ R.left = 0) ↔ (D.armed = true ∧ D.left = 0) := by
  rw [h.armed]
  exact ⟨fun ⟨a, b⟩ => ⟨a, by rw [← h.left a]; exact b⟩, fun ⟨a, b⟩ => ⟨a, by rw [h.left a]; exact b⟩⟩
theorem RD.writeE {D : DevS} {R : RefD} (h : RD D R) (s : Int) (n : Nat) : R.writeE s n = D.writeE s n := by
  unfold RefD.writeE DevS.writeE
  rw [h.readE]
  by_cases h2 : D.armed = true ∧ D.left = 0
  · rw [if_pos (h.hit.2 h2), if_pos h2]
  · rw [if_neg (fun e => h2 (h.hit.1 e)), if_neg h2]
theorem RD.write {D : DevS} {R : RefD} (h : RD D R) (s : Int) (b : List UInt8) : RD (D.write s b) (R.write s b) := by
  unfold RefD.write DevS.write
  rw [h.readE]
  by_cases h1 : D.atE s ≠ 0 ∨ 64 < b.length
  · rw [if_pos h1, if_pos h1]; exact h
  · rw [if_neg h1, if_neg h1]
    by_cases h2 : D.armed = true ∧ D.left = 0
    · rw [if_pos (h.hit.2 h2), if_pos h2]
      exact ⟨h.len, h.len2, h.len3, h.now, h.safe, h.loose, h.writes, h.armed, h.left, rfl, h.gone⟩
    · rw [if_neg (fun e => h2 (h.hit.1 e)), if_neg h2]
      have hs : 0 ≤ s ∧ s < D.sectors := by
        have h3 : D.atE s = 0 := Classical.byContradiction (fun e => h1 (.inl e))
        unfold DevS.atE at h3
        split at h3
        · cases h3
        · split at h3
          · cases h3
          · omega
      have hsn : ((s.toNat : Nat) : Int) = s := Int.toNat_of_nonneg hs.1
      have hlen := h.len
      have hloose : ∀ j : Int, mget (D.put s b).loose j = if j = s then some ((mget D.loose s).getD (D.get s)) else mget D.loose j := fun j => by
        unfold DevS.put
        simp only
        by_cases hi : (mget D.loose s).isSome = true
        · rw [if_pos hi]
          by_cases hj : j = s
          · rw [if_pos hj, hj]
            obtain ⟨x, hx⟩ := Option.isSome_iff_exists.1 hi
            rw [hx]; rfl
          · rw [if_neg hj]
        · rw [if_neg hi, mget_mset]
          by_cases hj : j = s
          · rw [if_pos hj, if_pos hj]
            have : mget D.loose s = none := by simpa using hi
            rw [this]; rfl
          · rw [if_neg hj, if_neg hj]
      refine ⟨by show ((R.now.set s.toNat (padB b)).length : Int) = D.sectors; simpa using h.len, by simpa using h.len2, by simpa using h.len3, fun i hi => ?_, fun i hi => ?_, fun i hi => ?_, ?_, h.armed, fun ha => ?_, h.crashed, h.gone⟩
      · have hi2 : i < R.now.length := by simpa using hi
        show (R.now.set s.toNat (padB b))[i]? = _
        rw [get_put, List.getElem?_set]
        by_cases hj : s.toNat = i
        · rw [if_pos hj, if_pos (by omega), if_pos (by omega)]
        · rw [if_neg hj, if_neg (by omega)]; exact h.now i hi2
      · have hi2 : i < R.now.length := by simpa using hi
        show R.safe[i]? = _
        rw [hloose, get_put, h.safe i hi2]
        by_cases hj : (i : Int) = s
        · rw [if_pos hj, if_pos hj, hj]; rfl
        · rw [if_neg hj, if_neg hj]
      · have hi2 : i < R.now.length := by simpa using hi
        show (R.loose.set s.toNat true)[i]? = _
        rw [hloose, List.getElem?_set]
        by_cases hj : s.toNat = i
        · rw [if_pos hj, if_pos (by rw [h.len3]; omega), if_pos (by omega)]; rfl
        · rw [if_neg hj, if_neg (by omega)]; exact h.loose i hi2
      · show wrap64 (R.writes + 1) = _
        rw [h.writes]; rfl
      · show wrap64 (R.left - 1) = wrap64 (D.left - 1)
        rw [h.left ha]
theorem RD.arm {D : DevS} {R : RefD} (h : RD D R) (n : Int) : RD { D with armed := true, left := n } { R with armed := true, left := n } :=
  ⟨h.len, h.len2, h.len3, h.now, h.safe, h.loose, h.writes, rfl, fun _ => rfl, h.crashed, h.gone⟩
theorem RD.flush {D : DevS} {R : RefD} (h : RD D R) : RD D.flush R.flush := by
  unfold RefD.flush DevS.flush DevS.down
  by_cases hd : D.crashed = true ∨ D.lost = true
  · have hr : R.crashed = true ∨ R.gone = true := by rw [h.crashed, h.gone]; exact hd
    have hd2 : (D.crashed || D.lost) = true := by rcases hd with e | e <;> simp [e]
    rw [if_pos hr, if_pos hd2]
    exact h
  · have hr : ¬ (R.crashed = true ∨ R.gone = true) := by rw [h.crashed, h.gone]; exact hd
    have hd2 : ¬ (D.crashed || D.lost) = true := by simpa using hd
    rw [if_neg hr, if_neg hd2]
    refine ⟨h.len, rfl, by simpa using h.len3, h.now, fun i hi => ?_, fun i hi => ?_, h.writes, h.armed, h.left, h.crashed, h.gone⟩
    · show R.now[i]? = some _
      rw [h.now i hi]; rfl
    · show (R.loose.map (fun _ => false))[i]? = _
      rw [List.getElem?_map, h.loose i hi]; rfl
theorem RD.new (n : Nat) : RD (newD (n : Int)) (newRef n) :=
  ⟨by simp [newRef, newD], by simp [newRef], by simp [newRef], (fun i hi => by
    have : i < n := by simpa [newRef] using hi
    show (List.replicate n zeroB)[i]? = _
    rw [List.getElem?_replicate, if_pos this]; rfl), (fun i hi => by
    have : i < n := by simpa [newRef] using hi
    show (List.replicate n zeroB)[i]? = _
    rw [List.getElem?_replicate, if_pos this]; rfl), (fun i hi => by
    have : i < n := by simpa [newRef] using hi
    show (List.replicate n false)[i]? = _
    rw [List.getElem?_replicate, if_pos this]; rfl), rfl, rfl, fun _ => rfl, rfl, rfl⟩
end Go.Proofs.YtffolfemcllfkaaGreatDoor

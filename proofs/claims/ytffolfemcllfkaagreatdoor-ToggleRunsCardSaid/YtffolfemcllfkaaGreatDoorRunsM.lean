import Derived.Test.YtffolfemcllfkaaGreatDoorRefLoad
import Derived.Test.YtffolfemcllfkaaGreatDoorTogSaveA
import Derived.Test.YtffolfemcllfkaaGreatDoorRefDevP
namespace Go.Proofs.YtffolfemcllfkaaGreatDoor
open Go.RowKit
set_option linter.unusedVariables false
set_option linter.unusedSimpArgs false
set_option maxRecDepth 100000

/-! ToggleRuns, plain: the document's toggle beside the program's. -/
def RefD.wrN (R : RefD) (a : Int) (l : List UInt8) : Nat → RefD
  | 0 => R
  | k + 1 => (R.wrN a l k).write (a + (k : Nat)) (chunk l k)
def RefD.saveBad (R : RefD) (f s : Int) (n : Nat) : Prop := ((R.look f s).err ≠ 0 ∧ (R.look f s).err ≠ 8) ∨ roomF s < (n : Int)
instance (R : RefD) (f s : Int) (n : Nat) : Decidable (R.saveBad f s n) := by unfold RefD.saveBad; exact inferInstance
def RefD.saveA (R : RefD) (f s : Int) (l : List UInt8) : RefD :=
  if R.saveBad f s l.length then R
  else (((R.wrN (fromF (nextSec (R.look f s)) f s) l (cnt l.length)).flush).write f (tellB ((R.look f s).n + 1) (nextSec (R.look f s)) l.length)).flush
def RefD.downB (R : RefD) : Bool := R.crashed || R.gone
def RefD.saveAE (R : RefD) (f s : Int) (l : List UInt8) : Int :=
  if (R.look f s).err ≠ 0 ∧ (R.look f s).err ≠ 8 then (R.look f s).err
  else if roomF s < (l.length : Int) then 2
  else if (R.saveA f s l).downB = true then 13 else 0
theorem RD.downB {D : DevS} {R : RefD} (h : RD D R) : R.downB = D.down := by
  unfold RefD.downB DevS.down; rw [h.crashed, h.gone]
theorem RD.readB {D : DevS} {R : RefD} (h : RD D R) (s : Int) (hE : D.atE s = 0) : R.readB s = D.get s := by
  unfold RefD.readB
  rw [h.readE, if_pos hE]
  have hs : 0 ≤ s ∧ s < D.sectors := by
    unfold DevS.atE at hE
    split at hE
    · cases hE
    · split at hE
      · cases hE
      · omega
  have hl := h.len
  rw [h.now s.toNat (by omega), Int.toNat_of_nonneg hs.1]
  rfl
theorem RD.look {D : DevS} {R : RefD} (h : RD D R) (f s : Int) : R.look f s = lookD D f s := by
  unfold RefD.look lookD
  rw [h.len, h.readE]
  by_cases h1 : f < 0 ∨ s < 3 ∨ D.sectors ≤ f ∨ D.sectors - f < s
  · rw [if_pos h1, if_pos h1]
  · rw [if_neg h1, if_neg h1]
    by_cases h2 : D.atE f ≠ 0
    · rw [if_pos h2, if_pos h2]
    · rw [if_neg h2, if_neg h2, h.readB f (Classical.byContradiction h2)]
theorem flatMap_congr' {α β : Type} (l : List α) (f g : α → List β) (h : ∀ x ∈ l, f x = g x) : l.flatMap f = l.flatMap g := by
  induction l with
  | nil => rfl
  | cons x l ih => rw [List.flatMap_cons, List.flatMap_cons, h x (List.mem_cons_self ..), ih (fun y hy => h y (List.mem_cons_of_mem _ hy))]
theorem RD.loadT {D : DevS} {R : RefD} (h : RD D R) (hm : D.sectors ≤ 16384) (f s : Int) : R.loadT f s = loadT D f s := by
  unfold RefD.loadT Go.Proofs.YtffolfemcllfkaaGreatDoor.loadT
  rw [h.look]
  by_cases he : (lookD D f s).err = 0
  · rw [if_neg (by rw [he]; simp), if_neg (by rw [he]; simp)]
    obtain ⟨hd, hf, hs, hfs, hn, hl⟩ := lookD_ok hm he
    have hc := cnt_room hl
    congr 1
    unfold RefD.joined joined
    apply flatMap_congr'
    intro i hi
    have hi2 : i < cnt (lookD D f s).long := List.mem_range.1 hi
    have hin : f + 1 ≤ fromF (lookD D f s).sec f s ∧ fromF (lookD D f s).sec f s + (s - 1) / 2 ≤ f + s := by unfold fromF; split <;> omega
    exact h.readB _ (atE_up hd (by omega) (by omega))
  · rw [if_pos he, if_pos he]
theorem RD.wrN {D : DevS} {R : RefD} (h : RD D R) (a : Int) (l : List UInt8) : ∀ k, RD (Go.Proofs.YtffolfemcllfkaaGreatDoor.wrN D a l k) (R.wrN a l k)
  | 0 => h
  | k + 1 => (RD.wrN h a l k).write _ _
theorem RD.saveA {D : DevS} {R : RefD} (h : RD D R) (f s : Int) (l : List UInt8) : RD (Go.Proofs.YtffolfemcllfkaaGreatDoor.saveA D f s l) (R.saveA f s l) := by
  have hb : R.saveBad f s l.length ↔ saveBad D f s l.length := by unfold RefD.saveBad saveBad; rw [h.look]
  unfold RefD.saveA Go.Proofs.YtffolfemcllfkaaGreatDoor.saveA
  by_cases hx : saveBad D f s l.length
  · rw [if_pos hx, if_pos (hb.2 hx)]; exact h
  · rw [if_neg hx, if_neg (fun hy => hx (hb.1 hy)), h.look]
    unfold saveD wrote
    exact ((((h.wrN _ l _).flush).write _ _)).flush
theorem RD.saveAE {D : DevS} {R : RefD} (h : RD D R) (f s : Int) (l : List UInt8) : R.saveAE f s l = Go.Proofs.YtffolfemcllfkaaGreatDoor.saveAE D f s l := by
  unfold RefD.saveAE Go.Proofs.YtffolfemcllfkaaGreatDoor.saveAE
  rw [h.look, (h.saveA f s l).downB]
end Go.Proofs.YtffolfemcllfkaaGreatDoor
namespace Go.Proofs.YtffolfemcllfkaaGreatDoor
open Go.RowKit
set_option linter.unusedVariables false
set_option linter.unusedSimpArgs false

/-! ToggleRuns, plain: a document's device that is down stays as it is. -/
theorem RefD.down_cases {R : RefD} (h : R.downB = true) : R.crashed = true ∨ R.gone = true := by
  unfold RefD.downB at h
  cases hx : R.crashed
  · rw [hx] at h; exact .inr (by simpa using h)
  · exact .inl rfl
theorem RefD.write_down {R : RefD} (h : R.downB = true) (s : Int) (b : List UInt8) : R.write s b = R := by
  have h1 : R.readE s = 13 := by unfold RefD.readE; rw [if_pos (RefD.down_cases h)]
  unfold RefD.write
  rw [if_pos (.inl (by rw [h1]; decide))]
theorem RefD.flush_down {R : RefD} (h : R.downB = true) : R.flush = R := by
  unfold RefD.flush
  rw [if_pos (RefD.down_cases h)]
theorem RefD.wrN_down {R : RefD} {a : Int} {l : List UInt8} {k : Nat} (h : (R.wrN a l k).downB = true) : ∀ m, R.wrN a l (k + m) = R.wrN a l k
  | 0 => rfl
  | m + 1 => by
    show (R.wrN a l (k + m)).write _ _ = _
    rw [RefD.wrN_down h m, RefD.write_down h]
end Go.Proofs.YtffolfemcllfkaaGreatDoor
namespace Go.Proofs.YtffolfemcllfkaaGreatDoor
open Go.RowKit
set_option linter.unusedVariables false
set_option linter.unusedSimpArgs false

/-! ToggleRuns, plain: how the document's Save ends. -/
theorem RefD.write_len (R : RefD) (a : Int) (b : List UInt8) : (R.write a b).now.length = R.now.length := by
  unfold RefD.write
  split
  · rfl
  · split
    · rfl
    · simp
theorem RefD.wrN_len (R : RefD) (a : Int) (l : List UInt8) : ∀ k, (R.wrN a l k).now.length = R.now.length
  | 0 => rfl
  | k + 1 => by show ((R.wrN a l k).write _ _).now.length = _; rw [RefD.write_len, RefD.wrN_len R a l k]
theorem RefD.flush_len (R : RefD) : R.flush.now.length = R.now.length := by
  unfold RefD.flush
  split <;> rfl
theorem RefD.flush_downB (R : RefD) : R.flush.downB = R.downB := by
  unfold RefD.flush
  split <;> rfl
/-- a write in range of at most a sector fails just where the device is down behind it -/
theorem RefD.writeE_in {R : RefD} {a : Int} {b : List UInt8} (ha : 0 ≤ a) (ha2 : a < (R.now.length : Int)) (hb : b.length ≤ 64) : R.writeE a b.length = if (R.write a b).downB = true then 13 else 0 := by
  by_cases hd : R.downB = true
  · have h1 : R.readE a = 13 := by unfold RefD.readE; rw [if_pos (RefD.down_cases hd)]
    rw [RefD.write_down hd, if_pos hd]
    unfold RefD.writeE
    rw [h1, if_pos (by decide)]
  · have hc : R.crashed = false ∧ R.gone = false := by
      unfold RefD.downB at hd
      cases hx : R.crashed
      · cases hy : R.gone
        · exact ⟨rfl, rfl⟩
        · rw [hx, hy] at hd; simp at hd
      · rw [hx] at hd; simp at hd
    have h0 : R.readE a = 0 := by
      unfold RefD.readE
      rw [if_neg (by rw [hc.1, hc.2]; simp), if_neg (by omega)]
    have hn : ¬ (R.readE a ≠ 0 ∨ 64 < b.length) := by rw [h0]; intro h; rcases h with h | h; exact h rfl; omega
    by_cases h3 : R.armed = true ∧ R.left = 0
    · have e1 : R.writeE a b.length = 13 := by
        unfold RefD.writeE
        rw [if_neg (by rw [h0]; simp), if_neg (by omega), if_pos h3]
      have e2 : (R.write a b).downB = true := by
        unfold RefD.write
        rw [if_neg hn, if_pos h3]
        rfl
      rw [e1, if_pos e2]
    · have e1 : R.writeE a b.length = 0 := by
        unfold RefD.writeE
        rw [if_neg (by rw [h0]; simp), if_neg (by omega), if_neg h3]
      have e2 : ¬ (R.write a b).downB = true := by
        unfold RefD.write
        rw [if_neg hn, if_neg h3]
        unfold RefD.downB
        simp [hc.1, hc.2]
      rw [e1, if_neg e2]
theorem RefD.writeE_up {R : RefD} {a : Int} {b : List UInt8} (ha : 0 ≤ a) (ha2 : a < (R.now.length : Int)) (hb : b.length ≤ 64) (h : R.writeE a b.length = 0) : (R.write a b).downB = false := by
  rw [RefD.writeE_in ha ha2 hb] at h
  cases hx : (R.write a b).downB
  · rfl
  · rw [hx] at h; cases h
theorem RefD.writeE_dn {R : RefD} {a : Int} {b : List UInt8} (ha : 0 ≤ a) (ha2 : a < (R.now.length : Int)) (hb : b.length ≤ 64) (h : R.writeE a b.length ≠ 0) : (R.write a b).downB = true ∧ R.writeE a b.length = 13 := by
  rw [RefD.writeE_in ha ha2 hb] at h ⊢
  cases hx : (R.write a b).downB
  · rw [hx] at h; exact absurd rfl h
  · exact ⟨rfl, rfl⟩
/-- the tell of what Save has done, where its loop came to its end -/
theorem RefD.save_end {R : RefD} {f s : Int} {l : List UInt8} {nx : Bool} {nn : Nat} (hbad : ¬ R.saveBad f s l.length) (hnx : nextSec (R.look f s) = nx) (hnn : (R.look f s).n = nn) : R.saveA f s l = (((R.wrN (fromF nx f s) l (cnt l.length)).flush).write f (tellB (nn + 1) nx l.length)).flush ∧ R.saveAE f s l = if (((R.wrN (fromF nx f s) l (cnt l.length)).flush).write f (tellB (nn + 1) nx l.length)).downB = true then 13 else 0 := by
  have h1 : R.saveA f s l = (((R.wrN (fromF nx f s) l (cnt l.length)).flush).write f (tellB (nn + 1) nx l.length)).flush := by
    unfold RefD.saveA
    rw [if_neg hbad, hnx, hnn]
  refine ⟨h1, ?_⟩
  unfold RefD.saveAE
  rw [h1, RefD.flush_downB, if_neg (fun h => hbad (.inl h)), if_neg (fun h => hbad (.inr h))]
theorem RefD.save_cut {R : RefD} {f s : Int} {l : List UInt8} {nx : Bool} {k : Nat} (hbad : ¬ R.saveBad f s l.length) (hnx : nextSec (R.look f s) = nx) (hk : k ≤ cnt l.length) (hd : (R.wrN (fromF nx f s) l k).downB = true) : R.saveA f s l = R.wrN (fromF nx f s) l k ∧ R.saveAE f s l = 13 := by
  obtain ⟨h1, h2⟩ := RefD.save_end hbad hnx (rfl : (R.look f s).n = (R.look f s).n)
  have h3 := RefD.wrN_down hd (cnt l.length - k)
  rw [show k + (cnt l.length - k) = cnt l.length by omega] at h3
  have h4 : (R.wrN (fromF nx f s) l k).flush = R.wrN (fromF nx f s) l k := RefD.flush_down hd
  rw [h3, h4, RefD.write_down hd] at h1 h2
  rw [RefD.flush_down hd] at h1
  rw [if_pos hd] at h2
  exact ⟨h1, h2⟩
end Go.Proofs.YtffolfemcllfkaaGreatDoor

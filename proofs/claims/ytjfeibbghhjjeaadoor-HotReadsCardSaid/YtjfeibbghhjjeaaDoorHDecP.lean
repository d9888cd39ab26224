import Derived.Test.YtjfeibbghhjjeaaDoorHotEnc
import Derived.Test.YtjfeibbghhjjeaaDoorCanon
import Derived.Test.YtjfeibbghhjjeaaDoorOpen
namespace Go.Proofs.YtjfeibbghhjjeaaDoor
open Go.RowKit
set_option linter.unusedVariables false
set_option linter.unusedSimpArgs false
set_option maxRecDepth 100000

/-! hot.Decode, plain: what any bytes tell. -/
abbrev RS := List UInt8 × Int
def rs1 (s : RS) (most : Nat) : RS := (uintL s.1 s.2 most, uintE s.1 s.2 most)
def stepS (z : Nat) (s : RS) : RS := rs1 (rs1 (rs1 s 3) z) z
def boxS (z : Nat) (s : RS) : BoxS := ⟨((uintN s.1 s.2 3 : Nat) : Int), uintN (rs1 s 3).1 (rs1 s 3).2 z, uintN (rs1 (rs1 s 3) z).1 (rs1 (rs1 s 3) z).2 z⟩
def rdS (z : Nat) : Nat → RS → RS
  | 0, s => s
  | k + 1, s => stepS z (rdS z k s)
def bxL (z n : Nat) (s : RS) : List BoxS := (List.range n).map (fun k => boxS z (rdS z k s))
def okB (b : BoxS) : Bool := decide (b.live ≤ b.used) && (decide (b.state ≠ 0) || decide (b.used = 0)) && (decide (b.state ≠ 3) || decide (b.live = 0))
def opN (l : List BoxS) : Nat := (l.filter (fun b => b.state == 1)).length
theorem bxL_succ (z k : Nat) (s : RS) : bxL z (k + 1) s = bxL z k s ++ [boxS z (rdS z k s)] := by
  unfold bxL
  rw [List.range_succ, List.map_append]
  rfl
theorem bxL_len (z n : Nat) (s : RS) : (bxL z n s).length = n := by simp [bxL]
theorem all_succ (z k : Nat) (s : RS) : (bxL z (k + 1) s).all okB = ((bxL z k s).all okB && okB (boxS z (rdS z k s))) := by
  rw [bxL_succ, List.all_append]; simp
theorem opN_succ (z k : Nat) (s : RS) : opN (bxL z (k + 1) s) = opN (bxL z k s) + if (boxS z (rdS z k s)).state = 1 then 1 else 0 := by
  rw [bxL_succ]
  unfold opN
  rw [List.filter_append, List.length_append]
  congr 1
  by_cases h : (boxS z (rdS z k s)).state = 1 <;> simp [List.filter_cons, h]
theorem opN_le (z k : Nat) (s : RS) : opN (bxL z k s) ≤ k := by
  unfold opN
  refine Nat.le_trans (List.length_filter_le _ _) ?_
  rw [bxL_len]; exact Nat.le_refl _
/-- the numbers of the device's sectors that a configuration asks for -/
def confBad (sec f n s : Int) : Prop := f < 0 ∨ n < 1 ∨ 1024 < n ∨ s < 1 ∨ 1024 < s ∨ sec - n * s < f
/-- the state behind the first number -/
def rsHead (l : List UInt8) : RS := rs1 (bodyB l, 0) 1024
def formOK (z n : Nat) (l : List UInt8) : Prop :=
  (rdS z n (rsHead l)).2 = 0 ∧ (rdS z n (rsHead l)).1 = [] ∧ uintN (bodyB l) 0 1024 = n ∧ (bxL z n (rsHead l)).all okB = true ∧ opN (bxL z n (rsHead l)) ≤ 1
theorem uintN_le (l : List UInt8) (e : Int) (most : Nat) : uintN l e most ≤ most := by
  unfold uintN
  split
  · unfold boundN
    split
    · rename_i h
      unfold boundE at h
      split at h
      · rename_i h2; exact absurd h h2
      · split at h
        · cases h
        · omega
    · exact Nat.zero_le _
  · exact Nat.zero_le _
theorem uint_split {l : List UInt8} {e : Int} {most : Nat} (h : uintE l e most = 0) : e = 0 ∧ l = encF (uintN l e most) ++ uintL l e most := by
  by_cases he : e = 0
  · subst he
    refine ⟨rfl, ?_⟩
    have h1 : boundE l most 4 0 = 0 := h
    have hn : uintN l 0 most = (numberF l).1 := by show boundN l most 4 0 = _; unfold boundN; rw [if_pos h1]
    have hl : uintL l 0 most = l.drop (numberF l).2.1 := by show boundL l most 4 0 = _; unfold boundL; rw [if_pos h1]
    rw [hn, hl]
    have h0 : (numberF l).2.2 = 0 := by
      unfold boundE at h1
      split at h1
      · rename_i h2; exact absurd h1 h2
      · rename_i h2; exact Classical.byContradiction h2
    have hnf : numberF l = ((numberF l).1, (numberF l).2.1, 0) := by rw [← h0]
    obtain ⟨_, h3, _⟩ := numberF_canon hnf
    rw [← h3, List.take_append_drop]
  · unfold uintE at h
    rw [if_neg he] at h
    exact absurd h he
theorem step_split {z : Nat} {s : RS} (h : (stepS z s).2 = 0) : s.2 = 0 ∧ s.1 = encBox (boxS z s) ++ (stepS z s).1 := by
  obtain ⟨h3, e3⟩ := uint_split (l := (rs1 (rs1 s 3) z).1) (e := (rs1 (rs1 s 3) z).2) (most := z) h
  obtain ⟨h2, e2⟩ := uint_split (l := (rs1 s 3).1) (e := (rs1 s 3).2) (most := z) h3
  obtain ⟨h1, e1⟩ := uint_split (l := s.1) (e := s.2) (most := 3) h2
  refine ⟨h1, ?_⟩
  rw [e1]
  show encF _ ++ (rs1 s 3).1 = _
  rw [e2]
  show encF _ ++ (encF _ ++ (rs1 (rs1 s 3) z).1) = _
  rw [e3]
  unfold encBox boxS stepS
  simp only [Int.toNat_natCast, List.append_assoc]
  rfl
theorem rd_split {z : Nat} : ∀ (k : Nat) {s : RS}, (rdS z k s).2 = 0 → s.2 = 0 ∧ s.1 = encBoxes (bxL z k s) ++ (rdS z k s).1
  | 0, s, h => ⟨h, by simp [bxL, encBoxes, rdS]⟩
  | k + 1, s, h => by
    obtain ⟨h1, e1⟩ := step_split (s := rdS z k s) h
    obtain ⟨h2, e2⟩ := rd_split k h1
    refine ⟨h2, ?_⟩
    rw [bxL_succ]
    unfold encBoxes at e2 ⊢
    rw [List.flatMap_append, List.append_assoc]
    conv => lhs; rw [e2]
    congr 1
    rw [e1]
    simp [rdS]
theorem open_split {l : List UInt8} (h : openE l = 0) : sealB (bodyB l) = l := by
  unfold openE at h
  split at h
  · cases h
  · split at h
    · rename_i h1 h2
      unfold sealB
      rw [h2]
      unfold bodyB
      exact List.take_append_drop _ _
    · cases h
/-- what was read is laid as it lay there -/
theorem form_split {z n : Nat} {l : List UInt8} {H : HotS} (ho : openE l = 0) (h : formOK z n l) (hH : H.boxes = bxL z n (rsHead l)) : sealB (encHot H) = l := by
  obtain ⟨h1, h2, h3, _⟩ := h
  obtain ⟨e1, e2⟩ := rd_split n h1
  obtain ⟨_, e3⟩ := uint_split (l := bodyB l) (e := 0) (most := 1024) e1
  have : encHot H = bodyB l := by
    unfold encHot
    rw [hH, bxL_len, e3]
    show _ = _ ++ (rsHead l).1
    rw [e2, h2, h3, List.append_nil]
  rw [this]
  exact open_split ho
end Go.Proofs.YtjfeibbghhjjeaaDoor

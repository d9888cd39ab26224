import Derived.Test.YtniiokhkmdknaaaSketchB
import Derived.Deep.RegionWith
namespace Go.Proofs.Ytniiokhkmdknaaa
open Go.RowKit
set_option linter.unusedVariables false
set_option linter.unusedSimpArgs false

structure Sk where
  a : Nat
  b : Nat
  c : Nat
  d : Nat
def Sk.like (x s : Sk) : Nat := likeF x.a x.b x.c x.d s.a s.b s.c s.d 4
theorem Sk.like_le (x s : Sk) : x.like s ≤ 4 := likeF_le _ _ _ _ _ _ _ _ _
/-- A slice of sketches reads l. -/
def SkAt (w : World) (A : Option Addr) (l : List Sk) : Prop := ∀ k, (h : k < l.length) → ∃ b o, A = some ⟨b, o, none⟩ ∧
  w.cell? ⟨b, o + k * 4, none⟩ = some (.int .u32 (l[k].a : Nat)) ∧ w.cell? ⟨b, o + k * 4 + 1, none⟩ = some (.int .u32 (l[k].b : Nat)) ∧
  w.cell? ⟨b, o + k * 4 + 2, none⟩ = some (.int .u32 (l[k].c : Nat)) ∧ w.cell? ⟨b, o + k * 4 + 3, none⟩ = some (.int .u32 (l[k].d : Nat))
theorem SkAt.fr {S : Nat → Prop} {w w' : World} {A : Option Addr} {l : List Sk} (h : SkAt w A l) (hf : Fr S w w') (hn : ∀ b, blkOf A b → ¬ S b) : SkAt w' A l := by
  intro k hk
  obtain ⟨b, o, hA, h0, h1, h2, h3⟩ := h k hk
  have hb := hn b ⟨o, hA⟩
  exact ⟨b, o, hA, hf.cell h0 hb, hf.cell h1 hb, hf.cell h2 hb, hf.cell h3 hb⟩
theorem SkAt.fr0 {w w' : World} {A : Option Addr} {l : List Sk} (h : SkAt w A l) (hf : Fr none_ w w') : SkAt w' A l := h.fr hf (fun _ _ h => h)
def bestTo (l : List Sk) (s : Sk) : Nat → Int × Nat
  | 0 => (-1, 0)
  | k + 1 => match l[k]? with
    | some x => if x.like s > (bestTo l s k).2 then ((k : Int), x.like s) else bestTo l s k
    | none => bestTo l s k
theorem bestTo_inv (l : List Sk) (s : Sk) (k : Nat) (hk : k ≤ l.length) : (bestTo l s k).2 ≤ 4 ∧ (∀ i, (h : i < l.length) → i < k → l[i].like s ≤ (bestTo l s k).2) ∧
    ((bestTo l s k).2 = 0 → (bestTo l s k).1 = -1) ∧ (0 < (bestTo l s k).2 → ∃ j, ∃ h : j < l.length, (bestTo l s k).1 = j ∧ l[j].like s = (bestTo l s k).2 ∧ ∀ i, (h : i < l.length) → i < j → l[i].like s < (bestTo l s k).2) := by
  induction k with
  | zero => exact ⟨by simp [bestTo], fun i h hi => by omega, fun _ => rfl, fun h => by simp [bestTo] at h⟩
  | succ k ih =>
    obtain ⟨h4, hle, h0, hp⟩ := ih (by omega)
    have hlt : k < l.length := by omega
    have hx := Sk.like_le l[k] s
    have hbt : bestTo l s (k + 1) = if l[k].like s > (bestTo l s k).2 then ((k : Int), l[k].like s) else bestTo l s k := by
      rw [bestTo]; simp [hlt]
    rw [hbt]
    by_cases hc : l[k].like s > (bestTo l s k).2
    · rw [if_pos hc]
      refine ⟨hx, fun i h hi => ?_, fun h => by simp at h; omega, fun _ => ⟨k, hlt, rfl, rfl, fun i h hi => ?_⟩⟩
      · by_cases he : i = k
        · subst he; exact Nat.le_refl _
        · have := hle i h (by omega); simp; omega
      · have := hle i h (by omega); simp; omega
    · rw [if_neg hc]
      refine ⟨h4, fun i h hi => ?_, h0, hp⟩
      by_cases he : i = k
      · subst he; omega
      · exact hle i h (by omega)
def bestF (l : List Sk) (s : Sk) : Int := (bestTo l s l.length).1
set_option maxHeartbeats 1000000 in
theorem best_any (n c : Nat) (A : Option Addr) (l : List Sk) (s : Sk) (w : World) (hn : n = l.length) (hl : l.length ≤ 281474976710656) (hA : SkAt w A l) :
    Calls Try.prog 19 #[.slice A n c, sk s.a s.b s.c s.d] w fun e w' => e = .returned (.int .i64 (bestF l s)) ∧ Fr none_ w w' := by
  subst hn
  go_enter Try.func19, Try.ntmps19
  go_wp2_with fail
  go_loopw [5, 6, 12] (fun b m i wr => ∃ k : Nat, k ≤ l.length ∧ i = .int .i64 k ∧ b = .int .i64 (bestTo l s k).1 ∧ m = .int .i64 ((bestTo l s k).2 : Nat) ∧ Fr none_ w wr ∧
    wr.heap[w.heap.size]? = some (.cells #[.int .u32 s.a, .int .u32 s.b, .int .u32 s.c, .int .u32 s.d] 27 (0, 0))) (fun _ _ i _ => l.length - (intOf i).toNat)
  case atStart => exact ⟨0, by omega, rfl, rfl, rfl, (Fr.refl _ _).alloc _, heap_alloc_new _ _⟩
  case round =>
    obtain ⟨k, hk, rfl, rfl, rfl, hF, hs⟩ := hrel
    by_cases hlt : k < l.length
    · obtain ⟨b, o, rfl, h0, h1, h2, h3⟩ := hA.fr0 hF k hlt
      have s0 : wr.cell? ⟨w.heap.size, 0, none⟩ = some (.int .u32 s.a) := by rw [cell_of_blk hs]; rfl
      have s1 : wr.cell? ⟨w.heap.size, 1, none⟩ = some (.int .u32 s.b) := by rw [cell_of_blk hs]; rfl
      have s2 : wr.cell? ⟨w.heap.size, 2, none⟩ = some (.int .u32 s.c) := by rw [cell_of_blk hs]; rfl
      have s3 : wr.cell? ⟨w.heap.size, 3, none⟩ = some (.int .u32 s.d) := by rw [cell_of_blk hs]; rfl
      have HS := Lib.hid hs
      have hz : w.heap.size < wr.heap.size := blk_lt hs
      have hbt : bestTo l s (k + 1) = if l[k].like s > (bestTo l s k).2 then ((k : Int), l[k].like s) else bestTo l s k := by
        rw [bestTo]; simp [hlt]
      have HB := Lib.hid hbt
      clear hs hbt
      go_wp2_with fail
      (with_reducible refine (like_any _ _ _ _ _ _ _ _ _).mono ?_)
      rintro e w1 ⟨rfl, hF1⟩
      have hm : (bestTo l s k).2 ≤ 4 := (bestTo_inv l s k hk).1
      have hlk := likeF_le l[k].a l[k].b l[k].c l[k].d s.a s.b s.c s.d 4
      go_wp2
      all_goals
        go_roundw
        case rel =>
          refine ⟨k + 1, by omega, by go_num, ?_, ?_, (hF.alloc _).trans hF1, hF1.heap (heap_alloc_old HS.out _) (fun h => h)⟩
          all_goals
            rw [HB.out]
            simp [Sk.like, *]
        case measure => simp [intOf]; omega
    · have hk2 : k = l.length := by omega
      subst hk2
      go_wp2
      go_ret
      exact ⟨rfl, hF⟩
theorem bestF_at (l : List Sk) (s : Sk) (n i : Nat) (hi : i < l.length) (hn : 0 < n) (he : l[i].like s = n) (hall : ∀ j, (h : j < l.length) → l[j].like s ≤ n) (hf : ∀ j, (h : j < l.length) → j < i → l[j].like s ≠ n) : bestF l s = i := by
  obtain ⟨h4, hle, h0, hp⟩ := bestTo_inv l s l.length (Nat.le_refl _)
  have h1 := hle i hi hi
  obtain ⟨j, hj, hb, hm, hlt⟩ := hp (by omega)
  have h2 := hall j hj
  have hmn : (bestTo l s l.length).2 = n := by omega
  unfold bestF
  rw [hb]
  rcases Nat.lt_trichotomy i j with h | h | h
  · have := hlt i hi h; omega
  · omega
  · exact absurd (hm.trans hmn) (hf j hj h)
theorem bestF_none (l : List Sk) (s : Sk) (hall : ∀ j, (h : j < l.length) → l[j].like s ≤ 0) : bestF l s = -1 := by
  obtain ⟨h4, hle, h0, hp⟩ := bestTo_inv l s l.length (Nat.le_refl _)
  unfold bestF
  by_cases h : (bestTo l s l.length).2 = 0
  · exact h0 h
  · obtain ⟨j, hj, hb, hm, hlt⟩ := hp (by omega)
    have := hall j hj
    omega
end Go.Proofs.Ytniiokhkmdknaaa

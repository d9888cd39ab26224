import Derived.Test.YtjfeibbghhjjeaaDoorHorner
import Derived.Test.YtjfeibbghhjjeaaDoorReader
import Derived.Deep.RegionHeld3
import Derived.Deep.AppendLies
namespace Go.Proofs.YtjfeibbghhjjeaaDoor
open Go.RowKit
set_option linter.unusedVariables false
set_option linter.unusedSimpArgs false
set_option maxRecDepth 100000

/-! horner.last, Seal. -/
def lastI (s i : Nat) : UInt8 := UInt8.ofNat (s / 2 ^ (8 * i))
def lastB (s : Nat) : List UInt8 := [lastI s 0, lastI s 1, lastI s 2, lastI s 3]
def lastK (s k : Nat) : List UInt8 := (lastB s).take k ++ List.replicate (4 - k) 0
theorem lastV (s k : Nat) : Value.int .u8 ((s : Int) / 2 ^ (8 * k) % 256) = byteV (lastI s k) := by
  unfold byteV lastI
  congr 1
theorem lastK_set (s k : Nat) (hk : k < 4) : (lastK s k).set k (lastI s k) = lastK s (k + 1) := by
  have : k = 0 ∨ k = 1 ∨ k = 2 ∨ k = 3 := by omega
  rcases this with rfl | rfl | rfl | rfl <;> rfl
theorem lastK_four (s : Nat) : lastK s 4 = lastB s := rfl
def st4b (w : World) (b : Nat) (v0 v1 v2 v3 : UInt8) : World := (((w.setCell ⟨b, 0, none⟩ (.int .u8 (v0.toNat : Int))).setCell ⟨b, 1, none⟩ (.int .u8 (v1.toNat : Int))).setCell ⟨b, 2, none⟩ (.int .u8 (v2.toNat : Int))).setCell ⟨b, 3, none⟩ (.int .u8 (v3.toNat : Int))
theorem st4b_blk {w : World} {b : Nat} {T : TypeId} (h : w.heap[b]? = some (.cells ((List.replicate 4 (0 : UInt8)).map byteV).toArray T (0, 0))) (v0 v1 v2 v3 : UInt8) : (st4b w b v0 v1 v2 v3).heap[b]? = some (.cells (([v0, v1, v2, v3]).map byteV).toArray T (0, 0)) :=
  heap_setCell_same (heap_setCell_same (heap_setCell_same (heap_setCell_same h _) _) _) _
theorem st4b_fr (w : World) (b : Nat) (v0 v1 v2 v3 : UInt8) : Fr (fun i => i = b) w (st4b w b v0 v1 v2 v3) :=
  (((Fr.set w b 0 _).trans (Fr.set _ b 1 _)).trans (Fr.set _ b 2 _)).trans (Fr.set _ b 3 _)
theorem res_last {W : World} {b : Nat} {v0 v1 v2 v3 : UInt8} {T : TypeId} {tmps : Array Value} (h : W.heap[b]? = some (.cells (([v0, v1, v2, v3]).map byteV).toArray T (0, 0))) (t2 : tmps[2]?.getD undef = ptr b) :
    (results Tryd.f37 tmps).run Tryd.prog W = .ok (.agg (([v0, v1, v2, v3]).map byteV).toArray) W := by
  have c0 : W.cell? ⟨b, 0, none⟩ = some (byteV v0) := by rw [cell_of_blk h]; rfl
  have c1 : W.cell? ⟨b, 1, none⟩ = some (byteV v1) := by rw [cell_of_blk h]; rfl
  have c2 : W.cell? ⟨b, 2, none⟩ = some (byteV v2) := by rw [cell_of_blk h]; rfl
  have c3 : W.cell? ⟨b, 3, none⟩ = some (byteV v3) := by rw [cell_of_blk h]; rfl
  simp [results, Tryd.results37, go_sem, t2, c0, c1, c2, c3]
set_option maxHeartbeats 2000000 in
theorem last_any (s : Nat) (hs : s < 4294967296) (w : World) : Calls Tryd.prog 37 #[.int .u32 (s : Int)] w fun e w' => e = .returned (.agg ((lastB s).map byteV).toArray) ∧ Fr none_ w w' := by
  go_enter Tryd.func37, Tryd.ntmps37
  go_wp2_with fail
  go_loopw [5] (fun i wr => ∃ k : Nat, k ≤ 4 ∧ i = .int .i64 (k : Int) ∧ w.heap.size + 2 ≤ wr.heap.size ∧ Fr none_ w wr ∧ wr.heap[w.heap.size]? = some (.cells ((List.replicate 4 (0 : UInt8)).map byteV).toArray 101 (0, 0)) ∧ wr.heap[w.heap.size + 1]? = some (.cells ((lastK s k).map byteV).toArray 101 (0, 0))) (fun i _ => 4 - (intOf i).toNat)
  case atStart =>
    refine ⟨0, by omega, rfl, by simp, ((Fr.refl _ _).alloc _).alloc _, heap_alloc_old (heap_alloc_new w _) _, heap_alloc_at (by simp) _⟩
  case round =>
    obtain ⟨k, hk, rfl, hsz, hF, hb0, hb1⟩ := hrel
    by_cases hlt : k < 4
    · have hc : wr.cell? ⟨w.heap.size + 1, k, none⟩ = some (.int .u8 0) := by
        rw [cell_of_blk hb1]
        have : k = 0 ∨ k = 1 ∨ k = 2 ∨ k = 3 := by omega
        rcases this with rfl | rfl | rfl | rfl <;> rfl
      have hf := frozen_of_blk hb1 k
      have k1 : (0 : Int) ≤ (k : Int) := by omega
      have k2 : (k : Int) < 4 := by omega
      go_wp2_with fail
      rw [lastV]
      have hS := Fr.set wr (w.heap.size + 1) k (byteV (lastI s k))
      go_roundw
      case rel =>
        refine ⟨k + 1, by omega, by go_num, by have := hS.size; omega, hF.own hS (by omega), hS.heap hb0 (by omega), ?_⟩
        rw [heap_setCell_same hb1, ← lastK_set s k hlt, List.map_set, ← List.setIfInBounds_toArray]
      case measure => simp [intOf]; omega
    · have hk4 : k = 4 := by omega
      subst hk4
      have hr0 : wr.cell? ⟨w.heap.size, 0, none⟩ = some (.int .u8 0) := by rw [cell_of_blk hb0]; rfl
      have hr1 : wr.cell? ⟨w.heap.size, 1, none⟩ = some (.int .u8 0) := by rw [cell_of_blk hb0]; rfl
      have hr2 : wr.cell? ⟨w.heap.size, 2, none⟩ = some (.int .u8 0) := by rw [cell_of_blk hb0]; rfl
      have hr3 : wr.cell? ⟨w.heap.size, 3, none⟩ = some (.int .u8 0) := by rw [cell_of_blk hb0]; rfl
      have rf := fun o => frozen_of_blk hb0 o
      have hq0 : wr.cell? ⟨w.heap.size + 1, 0, none⟩ = some (.int .u8 ((lastI s 0).toNat : Int)) := by rw [cell_of_blk hb1]; rfl
      have hq1 : wr.cell? ⟨w.heap.size + 1, 1, none⟩ = some (.int .u8 ((lastI s 1).toNat : Int)) := by rw [cell_of_blk hb1]; rfl
      have hq2 : wr.cell? ⟨w.heap.size + 1, 2, none⟩ = some (.int .u8 ((lastI s 2).toNat : Int)) := by rw [cell_of_blk hb1]; rfl
      have hq3 : wr.cell? ⟨w.heap.size + 1, 3, none⟩ = some (.int .u8 ((lastI s 3).toNat : Int)) := by rw [cell_of_blk hb1]; rfl
      go_wp2_with fail
      refine bodyPost_ret (res_last (b := w.heap.size) (st4b_blk hb0 (lastI s 0) (lastI s 1) (lastI s 2) (lastI s 3)) rfl) rfl ⟨rfl, ?_⟩
      exact hF.own (st4b_fr wr w.heap.size (lastI s 0) (lastI s 1) (lastI s 2) (lastI s 3)) (Nat.le_refl _)
def sealB (l : List UInt8) : List UInt8 := l ++ lastB (sumF l)
theorem ownsRow_mono {w : World} {b b' : Nat} {e : TypeId} {size n : Nat} {v : Value} {xs : List Value} (h : w.ownsRow b' e size v n xs) (hb : b ≤ b') : w.ownsRow b e size v n xs := by
  obtain ⟨h1, h2⟩ := h
  refine ⟨h1, ?_⟩
  rcases h2 with h2 | ⟨g, cap, cur, hv, hg, r⟩
  · exact .inl h2
  · exact .inr ⟨g, cap, cur, hv, Nat.le_trans hb hg, r⟩
set_option maxHeartbeats 4000000 in
theorem seal_bytes {w : World} (A : Option Addr) (n c : Nat) (l : List UInt8) (hn : n = l.length) (hA : CellsAt w A (l.map byteV)) (hnil : A = none → n = 0 ∧ c = 0) (hm : l.length ≤ 140737488351232) :
    Calls Tryd.prog 33 #[.slice A n c] w fun e w' => Cloned w (sealB l) e w' := by
  have hsum := sum_any n A c l w hn (by omega) hA
  have hlast := last_any (sumF l) (by have := moreF_lt 1 l; unfold sumF; omega) w
  obtain ⟨i0, hi0, hz0, hz1, hz2⟩ := info_parts info_u8
  have hcl : ∀ W, Fr none_ w W → Calls Tryd.prog 39 #[.slice A n c] W fun e w' => Cloned W l e w' := fun W hW => clone_any W A n c l hn (hA.fr0 hW) hnil (by omega)
  have HS := Lib.hid hsum
  have hlast : Calls Tryd.prog 37 #[.int .u32 ((sumF l : Nat) : Int)] w fun e w' => e = .returned (.agg #[.int .u8 ((lastI (sumF l) 0).toNat : Int), .int .u8 ((lastI (sumF l) 1).toNat : Int), .int .u8 ((lastI (sumF l) 2).toNat : Int), .int .u8 ((lastI (sumF l) 3).toNat : Int)]) ∧ Fr none_ w w' := hlast
  have HLA := Lib.hid hlast
  have HCL := Lib.hid hcl
  have HN := Lib.hid hn
  have hnb : n ≤ 140737488351232 := by omega
  clear hsum hlast hcl hn hnil
  go_enter Tryd.func33, Tryd.ntmps33
  go_wp2_with fail
  (with_reducible refine HS.out.mono ?_)
  rintro e w0 ⟨rfl, rfl⟩
  go_wp2_with fail
  (with_reducible refine HLA.out.mono ?_)
  rintro e w1 ⟨rfl, hF1⟩
  go_wp2_with fail
  obtain ⟨V, hV⟩ : ∃ V, V = w1.alloc (.cells #[.int .u8 ((lastI (sumF l) 0).toNat : Int), .int .u8 ((lastI (sumF l) 1).toNat : Int), .int .u8 ((lastI (sumF l) 2).toNat : Int), .int .u8 ((lastI (sumF l) 3).toNat : Int)] 101) := ⟨_, rfl⟩
  have hFV : Fr none_ w1 V := hV ▸ (Fr.refl _ _).alloc _
  have hbV : V.heap[w1.heap.size]? = some (.cells #[.int .u8 ((lastI (sumF l) 0).toNat : Int), .int .u8 ((lastI (sumF l) 1).toNat : Int), .int .u8 ((lastI (sumF l) 2).toNat : Int), .int .u8 ((lastI (sumF l) 3).toNat : Int)] 101 (0, 0)) := hV ▸ heap_alloc_new _ _
  rw [← hV]
  clear hV
  have hX0 := (hF1.trans hFV).drew
  have hzV : w.heap.size ≤ V.heap.size := (hF1.trans hFV).size
  have hcl := HCL.out _ hX0
  have HCL2 := Lib.hid hcl
  clear hcl
  go_region_held3 (fun _ => True) (trivial) (first
    | (go_at_call 39; (with_reducible refine HCL2.out.mono ?_); rintro e x1 ⟨⟨v, rfl, hown⟩, hY1⟩)
    | (refine step_append_lies _ (by rfl) _ _ _ (by rfl) V.drew.heap.size 5 i0 _ 1 1 Tryd.underlying24 hi0 hz0 hz1 hz2 rfl (by omega) v l.length (l.map byteV) (by rfl) hown ⟨w1.heap.size, 0, none⟩ 4 4 ((lastB (sumF l)).map byteV) (by rfl) (by rfl) (World.news_of_block (hY1.heap0 hbV)) (bytes_oneCell _) (by omega) (by unfold maxLen; have := HN.out; omega) (by have := HN.out; omega) hY1.size x1.heap.size rfl ?_; intro g cap w3 hown3 hgrow hat hlt))
  go_wp2_with fail
  go_ret
  refine ⟨⟨_, rfl, ?_⟩, ?_⟩
  · have h3 := ownsRow_mono hown3 (b := w.heap.size) hzV
    unfold sealB
    rw [List.map_append, List.length_append]
    exact h3
  · exact Fr.grown (hX0.trans hY1) hgrow hown hzV
end Go.Proofs.YtjfeibbghhjjeaaDoor

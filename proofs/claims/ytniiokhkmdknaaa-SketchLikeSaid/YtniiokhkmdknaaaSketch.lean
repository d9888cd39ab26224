import Derived.Test.YtniiokhkmdknaaaHorner
import Derived.Deep.RegionHeld3
import Derived.Deep.QuietTactic
import Derived.BigQuiet
import Derived.Deep.RegionWith
import Derived.Deep.RegionLaw
namespace Go.Proofs.Ytniiokhkmdknaaa
open Go.RowKit
set_option linter.unusedVariables false
set_option linter.unusedSimpArgs false

def byteOf (p : Int) : UInt8 := UInt8.ofNat (p % 256).toNat
theorem byteOf_toNat (p : Int) : ((byteOf p).toNat : Int) = p % 256 := by
  unfold byteOf; simp; omega
theorem byteV_of (p : Int) : Value.int .u8 (p % 256) = byteV (byteOf p) := by rw [byteV, byteOf_toNat]
def windowF (p : Int) (l : List UInt8) : Nat := moreF 1 (byteOf p :: l)
theorem windowF_eq (p : Int) (l : List UInt8) : windowF p l = moreF (moreF 1 [byteOf p]) l := moreF_append 1 [byteOf p] l
set_option maxHeartbeats 400000 in
theorem window_any (p : Int) (n : Nat) (A : Option Addr) (c : Nat) (l : List UInt8) (w : World) (hn : n = l.length) (hl : l.length ≤ 281474976710656) (hA : CellsAt w A (l.map byteV)) :
    Calls Try.prog 10 #[.int .i64 p, .slice A n c] w fun e w' => e = .returned (.int .u32 (windowF p l : Nat)) ∧ Fr none_ w w' := by
  subst hn
  have hm := moreF_lt 1 [byteOf p]
  have h1 : CellsAt (w.alloc (Obj.cells #[Value.int IntKind.u8 (p % 256)] 5)) (some ⟨w.heap.size, 0, none⟩) ([byteOf p].map byteV) := by
    rw [byteV_of]; exact CellsAt.one w _ _
  go_enter Try.func10, Try.ntmps10
  go_wp2_with fail
  refine (sum_any 1 _ 1 [byteOf p] _ rfl (by simp) h1).mono ?_
  rintro e w' ⟨rfl, rfl⟩
  go_wp2_with fail
  refine (more_any _ _ _ _ l _ (by unfold sumF; omega) rfl hl (hA.alloc _)).mono ?_
  rintro e w' ⟨rfl, rfl⟩
  go_wp2_with fail
  go_ret
  exact ⟨by rw [windowF_eq]; rfl, (Fr.refl _ _).alloc _⟩

def skV (xs : List Nat) : Array Value := (xs.map u32V).toArray
def winAt (p : Int) (l : List UInt8) (k : Nat) : Nat := windowF p ((l.drop k).take 8)
def leastF (p : Int) (l : List UInt8) : Nat → Nat
  | 0 => 4294967295
  | k + 1 => min (leastF p l k) (winAt p l k)
def ofF (l : List UInt8) (i : Nat) : Nat := leastF i l 57
theorem leastF_lt (p : Int) (l : List UInt8) (k : Nat) : leastF p l k < 4294967296 := by
  induction k with
  | zero => simp [leastF]
  | succ k ih => unfold leastF; omega
def ofL (l : List UInt8) : List Nat := [ofF l 0, ofF l 1, ofF l 2, ofF l 3]

structure OfIn (l : List UInt8) (w : World) (T : TypeId) (xs : List Nat) (wr : World) : Prop where
  size : w.heap.size + 3 ≤ wr.heap.size
  fr : Fr none_ w wr
  arr : CellsAt wr (some ⟨w.heap.size, 0, none⟩) (l.map byteV)
  res : ∃ v1, wr.heap[w.heap.size + 1]? = some (.cells v1 T (0, 0)) ∧ v1.size = 4
  cur : wr.heap[w.heap.size + 1 + 1]? = some (.cells (skV xs) T (0, 0))
theorem OfIn.step {l : List UInt8} {w : World} {T : TypeId} {xs : List Nat} {wr w' : World} (h : OfIn l w T xs wr) (hF : Fr none_ wr w') (k : Nat) (x : Nat) :
    OfIn l w T (xs.set k x) (w'.setCell ⟨w.heap.size + 1 + 1, k, none⟩ (.int .u32 (x : Int))) := by
  have hs := Fr.set w' (w.heap.size + 1 + 1) k (.int .u32 (x : Int))
  have hsz := hF.size
  have h1 := h.size
  obtain ⟨v1, hv1, hs1⟩ := h.res
  refine ⟨by simp; omega, (h.fr.trans0 hF).own hs (by omega), (h.arr.fr0 hF).fr hs ?_, ⟨v1, hs.heap (hF.heap hv1 (fun h => h)) (by omega), hs1⟩, ?_⟩
  · rintro b ⟨o, ho⟩; cases ho; omega
  · rw [heap_setCell_same (hF.heap h.cur (fun h => h))]; simp [skV, u32V, List.map_set]
theorem OfIn.cell {l : List UInt8} {w : World} {T : TypeId} {xs : List Nat} {wr : World} (h : OfIn l w T xs wr) (k : Nat) (hk : k < xs.length) : wr.cell? ⟨w.heap.size + 1 + 1, k, none⟩ = some (.int .u32 (xs[k] : Nat)) := by
  rw [cell_of_blk h.cur]; simp [skV, hk, u32V]
theorem OfIn.frozen {l : List UInt8} {w : World} {T : TypeId} {xs : List Nat} {wr : World} (h : OfIn l w T xs wr) (k : Nat) : wr.frozen? ⟨w.heap.size + 1 + 1, k, none⟩ = false := frozen_of_blk h.cur _

set_option maxHeartbeats 1000000 in
theorem of_any (l : List UInt8) (w : World) (hl : l.length = 64) :
    Calls Try.prog 7 #[.agg (l.map byteV).toArray] w fun e w' => e = .returned (.agg (skV (ofL l))) ∧ Fr none_ w w' := by
  have HL := Lib.hid hl
  clear hl
  go_enter Try.func7, Try.ntmps7
  go_wp2_with fail
  go_loopw [6] (fun i wr => ∃ k : Nat, k ≤ 4 ∧ i = .int .i64 k ∧ ∃ xs : List Nat, OfIn l w 27 xs wr ∧ xs.length = 4 ∧ ∀ i, i < k → xs[i]? = some (ofF l i)) (fun i _ => 4 - (intOf i).toNat)
  case atStart =>
    refine ⟨0, by omega, rfl, [0, 0, 0, 0], ⟨by simp, (((Fr.refl _ _).alloc _).alloc _).alloc _, ?_, ⟨_, by simpa using heap_alloc_old (heap_alloc_new (w.alloc _) _) _, rfl⟩, ?_⟩, rfl, by omega⟩
    · exact CellsAt.whole (heap_alloc_old (heap_alloc_old (heap_alloc_new w _) _) _)
    · exact heap_alloc_at (by simp) _
  case round =>
    obtain ⟨k, hk, rfl, xs, hI, hxl, hxs⟩ := hrel
    by_cases hlt : k < 4
    · have hkx : k < xs.length := by omega
      have hc0 := hI.cell k hkx
      have hf0 := hI.frozen k
      have HX := Lib.hid hxl
      have HXS := Lib.hid hxs
      clear hxl hxs
      go_wp2_with fail
      obtain ⟨wo, rfl⟩ : ∃ wo : World, wo = wr := ⟨_, rfl⟩
      go_loopw [11] (fun i wq => ∃ j : Nat, j ≤ 57 ∧ i = .int .i64 j ∧ OfIn l w 27 (xs.set k (leastF k l j)) wq) (fun i _ => 57 - (intOf i).toNat)
      case atStart => exact ⟨0, by omega, rfl, hI.step (Fr.refl _ _) k 4294967295⟩
      case round =>
        obtain ⟨j, hj, rfl, hJ⟩ := hrel
        by_cases hjl : j < 57
        · have hcq : wr.cell? ⟨w.heap.size + 1 + 1, k, none⟩ = some (.int .u32 (leastF k l j : Nat)) := by rw [hJ.cell k (by simpa using hkx)]; simp
          have hfq := hJ.frozen k
          have hlj := leastF_lt k l j
          have hwl : ((l.drop j).take 8).length = 8 := by simp [HL.out]; omega
          have hcs : CellsAt wr (some ⟨w.heap.size, j, none⟩) (((l.drop j).take 8).map byteV) := by simpa using hJ.arr.sub j 8 (by simp [HL.out]; omega)
          have hadd : IntKind.i64.wrap ((j : Int) + 8) = (j : Int) + 8 := IntWalk.i64_in _ (by omega)
          have hj1 : (0 : Int) ≤ (j : Int) := by omega
          have hj2 : (j : Int) + 8 ≤ 64 := by omega
          have hj3 : ¬ (64 : Nat) = j := by omega
          have hj4 : (j : Int) ≤ (j : Int) + 8 := by omega
          go_wp2_with fail
          go_region_with (go_at_call 10; (with_reducible refine (window_any _ _ _ _ ((l.drop j).take 8) _ (by rw [hwl]; omega) (by omega) hcs.drew).mono ?_); rintro e w' ⟨rfl, hF⟩; have hcq' := hF.cell hcq (fun h => h); have hfq' := hF.frozen hcq (fun h => h) hfq)
          all_goals go_wp2
          all_goals
            have hst : leastF k l (j + 1) = min (leastF k l j) (windowF k (List.take 8 (List.drop j l))) := rfl
            have hR := OfIn.step hJ hF.undrew k (leastF k l (j + 1))
            go_roundw
            case rel =>
              refine ⟨j + 1, by omega, by go_num, ?_⟩
              first
                | (have he : leastF k l (j + 1) = leastF k l j := by omega
                   rw [he] at hR ⊢
                   simpa using hR)
                | (have he : leastF k l (j + 1) = windowF k (List.take 8 (List.drop j l)) := by omega
                   rw [he] at hR ⊢
                   simpa using hR)
            case measure => simp [intOf]; omega
        · have hj57 : j = 57 := by omega
          subst hj57
          have HJ := Lib.hid hJ
          clear hJ
          go_wp2
          go_roundw
          case rel =>
            refine ⟨k + 1, by omega, by go_num, xs.set k (leastF k l 57), HJ.out, by simpa using HX.out, fun i hi => ?_⟩
            by_cases he : i = k
            · subst he; simp [hkx, ofF]
            · rw [List.getElem?_set_ne (by omega)]; exact HXS.out i (by omega)
          case measure => simp [intOf]; omega
    · have hk4 : k = 4 := by omega
      subst hk4
      have hx : xs = ofL l := by
        apply List.ext_getElem?
        intro i
        by_cases hi : i < 4
        · rw [hxs i hi]
          rcases (by omega : i = 0 ∨ i = 1 ∨ i = 2 ∨ i = 3) with rfl | rfl | rfl | rfl <;> rfl
        · rw [List.getElem?_eq_none (by omega), List.getElem?_eq_none (by simp [ofL]; omega)]
      obtain ⟨v1, hv1, hs1⟩ := hI.res
      obtain ⟨p0, p1, p2, p3, rfl⟩ : ∃ p0 p1 p2 p3, v1 = #[p0, p1, p2, p3] := by
        rcases v1 with ⟨v⟩
        match v, hs1 with
        | [p0, p1, p2, p3], _ => exact ⟨p0, p1, p2, p3, rfl⟩
      have c0 : wr.cell? ⟨w.heap.size + 1 + 1, 0, none⟩ = some (.int .u32 (ofF l 0 : Nat)) := by rw [cell_of_blk hI.cur, hx]; rfl
      have c1 : wr.cell? ⟨w.heap.size + 1 + 1, 1, none⟩ = some (.int .u32 (ofF l 1 : Nat)) := by rw [cell_of_blk hI.cur, hx]; rfl
      have c2 : wr.cell? ⟨w.heap.size + 1 + 1, 2, none⟩ = some (.int .u32 (ofF l 2 : Nat)) := by rw [cell_of_blk hI.cur, hx]; rfl
      have c3 : wr.cell? ⟨w.heap.size + 1 + 1, 3, none⟩ = some (.int .u32 (ofF l 3 : Nat)) := by rw [cell_of_blk hI.cur, hx]; rfl
      have d0 : wr.cell? ⟨w.heap.size + 1, 0, none⟩ = some p0 := by rw [cell_of_blk hv1]; rfl
      have d1 : wr.cell? ⟨w.heap.size + 1, 1, none⟩ = some p1 := by rw [cell_of_blk hv1]; rfl
      have d2 : wr.cell? ⟨w.heap.size + 1, 2, none⟩ = some p2 := by rw [cell_of_blk hv1]; rfl
      have d3 : wr.cell? ⟨w.heap.size + 1, 3, none⟩ = some p3 := by rw [cell_of_blk hv1]; rfl
      have f0 : wr.frozen? ⟨w.heap.size + 1, 0, none⟩ = false := frozen_of_blk hv1 _
      have f1 : wr.frozen? ⟨w.heap.size + 1, 1, none⟩ = false := frozen_of_blk hv1 _
      have f2 : wr.frozen? ⟨w.heap.size + 1, 2, none⟩ = false := frozen_of_blk hv1 _
      have f3 : wr.frozen? ⟨w.heap.size + 1, 3, none⟩ = false := frozen_of_blk hv1 _
      have HX := Lib.hid hx
      have HI := Lib.hid hI
      clear hx hI hxs hxl hv1 hs1
      go_wp2
      refine bodyPost_ret (v := .agg #[.int .u32 (ofF l 0 : Nat), .int .u32 (ofF l 1 : Nat), .int .u32 (ofF l 2 : Nat), .int .u32 (ofF l 3 : Nat)]) (by simp [results, Try.results7, go_sem, d0, d1, d2, d3]) rfl ⟨rfl, ?_⟩
      have h := HI.out.fr
      exact (((h.setCell (by simp) _).setCell (by simp) _).setCell (by simp) _).setCell (by simp) _
end Go.Proofs.Ytniiokhkmdknaaa

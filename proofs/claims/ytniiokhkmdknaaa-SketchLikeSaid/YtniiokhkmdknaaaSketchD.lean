import Derived.Test.YtniiokhkmdknaaaSketch
import Derived.Test.YtniiokhkmdknaaaSketchC
namespace Go.Proofs.Ytniiokhkmdknaaa
open Go.RowKit
set_option linter.unusedVariables false
set_option linter.unusedSimpArgs false

theorem info_u8 : (Try.prog.info? 5).map (fun i => (i.zero, i.size, i.bytes)) = some (some (.int .u8 0), 1, 1) := by kernel_rfl
theorem bytes_oneCell (l : List UInt8) : ∀ u ∈ l.map byteV, u.oneCell' = true := by
  intro u hu; obtain ⟨x, _, rfl⟩ := List.mem_map.1 hu; rfl
set_option maxHeartbeats 1000000 in
theorem rwindow_any (p : Int) (n : Nat) (A : Option Addr) (c : Nat) (l : List UInt8) (w : World) (hn : n = l.length) (hl : l.length ≤ 140737488351232) (hA : CellsAt w A (l.map byteV)) (hnil : A = none → n = 0 ∧ c = 0) :
    Calls Try.prog 11 #[.int .i64 p, .slice A n c] w fun e w' => e = .returned (.int .u32 (windowF p l : Nat)) ∧ Fr none_ w w' := by
  have hown : (w.alloc (Obj.cells #[Value.int IntKind.u8 (p % 256)] 5)).ownsRow w.heap.size 5 1 (.slice (some ⟨w.heap.size, 0, none⟩) 1 1) 1 [byteV (byteOf p)] := by
    rw [byteV_of]; exact ownsRow_lit _ 1 1 [byteV (byteOf p)] (Nat.le_refl _) (by decide) rfl
  have HN := Lib.hid hn
  clear hn
  go_enter Try.func11, Try.ntmps11
  go_wp2_with (at_builtin; refine wpList_append_any rfl _ _ 32 rfl w.heap.size 5 (.int .u8 0) 1 1 Try.underlying32 info_u8 rfl (by decide) _ 1 [byteV (byteOf p)] rfl hown A n c (l.map byteV) rfl (hA.alloc _) hnil (by rw [HN.out]; simp) (bytes_oneCell l) (by have := HN.out; unfold maxLen; omega) (by have := HN.out; omega) (by simp) ?_; intro v' w1 hown1 hg)
  obtain ⟨A1, c1, rfl, hA1, _, hn1, _⟩ := ownsRow_read hown1
  go_wp2_with fail
  (with_reducible refine (rsum_any _ _ _ (byteOf p :: l) _ (by have := HN.out; simp; omega) (by simp; omega) (by simpa using hA1)).mono ?_)
  rintro e w' ⟨rfl, rfl⟩
  go_wp2_with fail
  go_ret
  exact ⟨rfl, Fr.grown ((Fr.refl _ _).alloc _) hg hown (Nat.le_refl _)⟩
set_option maxHeartbeats 1000000 in
theorem rof_any (l : List UInt8) (w : World) (hl : l.length = 64) :
    Calls Try.prog 6 #[.agg (l.map byteV).toArray] w fun e w' => e = .returned (.agg (skV (ofL l))) ∧ Fr none_ w w' := by
  have HL := Lib.hid hl
  clear hl
  go_enter Try.func6, Try.ntmps6
  go_wp2_with fail
  go_loopw [4] (fun i wr => ∃ k : Nat, k ≤ 4 ∧ i = .int .i64 k ∧ ∃ xs : List Nat, OfIn l w 25 xs wr ∧ xs.length = 4 ∧ ∀ i, i < k → xs[i]? = some (ofF l i)) (fun i _ => 4 - (intOf i).toNat)
  case atStart =>
    refine ⟨0, by omega, rfl, [0, 0, 0, 0], ⟨by simp, (((Fr.refl _ _).alloc _).alloc _).alloc _, ?_, ⟨_, by simpa using heap_alloc_old (heap_alloc_new (w.alloc _) _) _, rfl⟩, ?_⟩, rfl, by omega⟩
    · exact CellsAt.whole (heap_alloc_old (heap_alloc_old (heap_alloc_new w _) _) _)
    · exact heap_alloc_at (by simp) _
  case round =>
    obtain ⟨k, hk, rfl, xs, hI, hxl, hxs⟩ := hrel
    by_cases hlt : k < 4
    · have hkx : k < xs.length := by omega
      have hc0 := hI.cell k hkx
      have hf0 := hI.frozen k
      have HX := Lib.hid hxl
      have HXS := Lib.hid hxs
      clear hxl hxs
      go_wp2_with fail
      obtain ⟨wo, rfl⟩ : ∃ wo : World, wo = wr := ⟨_, rfl⟩
      go_loopw [5, 6] (fun r i wq => ∃ j : Nat, j ≤ 57 ∧ i = .int .i64 j ∧ r = .int .u32 (leastF k l j : Nat) ∧ Fr none_ wo wq) (fun _ i _ => 57 - (intOf i).toNat)
      case atStart => exact ⟨0, by omega, rfl, rfl, Fr.refl _ _⟩
      case round =>
        obtain ⟨j, hj, rfl, rfl, hF0⟩ := hrel
        by_cases hjl : j < 57
        · have hlj := leastF_lt k l j
          have hwl : ((l.drop j).take 8).length = 8 := by simp [HL.out]; omega
          have hcs : CellsAt wr (some ⟨w.heap.size, j, none⟩) (((l.drop j).take 8).map byteV) := by simpa using (hI.arr.fr0 hF0).sub j 8 (by simp [HL.out]; omega)
          have hj3 : ¬ (64 : Nat) = j := by omega
          have hj2 : (j : Int) + 8 ≤ 64 := by omega
          have hj4 : (j : Int) ≤ (j : Int) + 8 := by omega
          go_wp2_with fail
          (with_reducible refine (rwindow_any _ _ _ _ ((l.drop j).take 8) _ (by rw [hwl]) (by omega) hcs (fun h => by cases h)).mono ?_)
          rintro e w' ⟨rfl, hF⟩
          go_wp2
          all_goals
            have hst : leastF k l (j + 1) = min (leastF k l j) (windowF k (List.take 8 (List.drop j l))) := rfl
            go_roundw
            case rel =>
              refine ⟨j + 1, by omega, by go_num, by rw [hst]; congr 1; try omega, hF0.trans hF⟩
            case measure => simp [intOf]; omega
        · have hj57 : j = 57 := by omega
          subst hj57
          have hc1 := hF0.cell hc0 (fun h => h)
          have hf1 := hF0.frozen hc0 (fun h => h) hf0
          have hR := OfIn.step hI hF0 k (leastF k l 57)
          have HR := Lib.hid hR
          clear hR
          go_wp2
          go_roundw
          case rel =>
            refine ⟨k + 1, by omega, by go_num, xs.set k (leastF k l 57), HR.out, by simpa using HX.out, fun i hi => ?_⟩
            by_cases he : i = k
            · subst he; simp [hkx, ofF]
            · rw [List.getElem?_set_ne (by omega)]; exact HXS.out i (by omega)
          case measure => simp [intOf]; omega
    · have hk4 : k = 4 := by omega
      subst hk4
      have hx : xs = ofL l := by
        apply List.ext_getElem?
        intro i
        by_cases hi : i < 4
        · rw [hxs i hi]
          rcases (by omega : i = 0 ∨ i = 1 ∨ i = 2 ∨ i = 3) with rfl | rfl | rfl | rfl <;> rfl
        · rw [List.getElem?_eq_none (by omega), List.getElem?_eq_none (by simp [ofL]; omega)]
      obtain ⟨v1, hv1, hs1⟩ := hI.res
      obtain ⟨p0, p1, p2, p3, rfl⟩ : ∃ p0 p1 p2 p3, v1 = #[p0, p1, p2, p3] := by
        rcases v1 with ⟨v⟩
        match v, hs1 with
        | [p0, p1, p2, p3], _ => exact ⟨p0, p1, p2, p3, rfl⟩
      have c0 : wr.cell? ⟨w.heap.size + 1 + 1, 0, none⟩ = some (.int .u32 (ofF l 0 : Nat)) := by rw [cell_of_blk hI.cur, hx]; rfl
      have c1 : wr.cell? ⟨w.heap.size + 1 + 1, 1, none⟩ = some (.int .u32 (ofF l 1 : Nat)) := by rw [cell_of_blk hI.cur, hx]; rfl
      have c2 : wr.cell? ⟨w.heap.size + 1 + 1, 2, none⟩ = some (.int .u32 (ofF l 2 : Nat)) := by rw [cell_of_blk hI.cur, hx]; rfl
      have c3 : wr.cell? ⟨w.heap.size + 1 + 1, 3, none⟩ = some (.int .u32 (ofF l 3 : Nat)) := by rw [cell_of_blk hI.cur, hx]; rfl
      have d0 : wr.cell? ⟨w.heap.size + 1, 0, none⟩ = some p0 := by rw [cell_of_blk hv1]; rfl
      have d1 : wr.cell? ⟨w.heap.size + 1, 1, none⟩ = some p1 := by rw [cell_of_blk hv1]; rfl
      have d2 : wr.cell? ⟨w.heap.size + 1, 2, none⟩ = some p2 := by rw [cell_of_blk hv1]; rfl
      have d3 : wr.cell? ⟨w.heap.size + 1, 3, none⟩ = some p3 := by rw [cell_of_blk hv1]; rfl
      have f0 : wr.frozen? ⟨w.heap.size + 1, 0, none⟩ = false := frozen_of_blk hv1 _
      have f1 : wr.frozen? ⟨w.heap.size + 1, 1, none⟩ = false := frozen_of_blk hv1 _
      have f2 : wr.frozen? ⟨w.heap.size + 1, 2, none⟩ = false := frozen_of_blk hv1 _
      have f3 : wr.frozen? ⟨w.heap.size + 1, 3, none⟩ = false := frozen_of_blk hv1 _
      have HX := Lib.hid hx
      have HI := Lib.hid hI
      clear hx hI hxs hxl hv1 hs1
      go_wp2
      refine bodyPost_ret (v := .agg #[.int .u32 (ofF l 0 : Nat), .int .u32 (ofF l 1 : Nat), .int .u32 (ofF l 2 : Nat), .int .u32 (ofF l 3 : Nat)]) (by simp [results, Try.results6, go_sem, d0, d1, d2, d3]) rfl ⟨rfl, ?_⟩
      have h := HI.out.fr
      exact (((h.setCell (by simp) _).setCell (by simp) _).setCell (by simp) _).setCell (by simp) _

theorem sk_of (l : List UInt8) : Value.agg (skV (ofL l)) = sk (ofF l 0) (ofF l 1) (ofF l 2) (ofF l 3) := rfl
theorem likeF_self (a b c d : Nat) : likeF a b c d a b c d 4 = 4 := by simp [likeF, eqn]
theorem SkAt.one (w : World) (T : TypeId) (s : Sk) : SkAt (w.alloc (.cells #[.int .u32 s.a, .int .u32 s.b, .int .u32 s.c, .int .u32 s.d] T)) (some ⟨w.heap.size, 0, none⟩) [s] := by
  intro k hk
  have h0 : k = 0 := by simpa using hk
  subst h0
  have hb := heap_alloc_new w (.cells #[.int .u32 s.a, .int .u32 s.b, .int .u32 s.c, .int .u32 s.d] T)
  refine ⟨_, 0, rfl, ?_, ?_, ?_, ?_⟩ <;> (rw [cell_of_blk hb]; rfl)
theorem SkAt.nil (w : World) (A : Option Addr) : SkAt w A [] := fun _ hk => absurd hk (by simp)
theorem bestF_self (s : Sk) : bestF [s] s = 0 := by
  rw [bestF_at [s] s 4 0 (by simp) (by omega) (likeF_self _ _ _ _) (fun j h => Sk.like_le _ _) (fun j h hj => by omega)]; rfl
theorem bestF_nil (s : Sk) : bestF [] s = -1 := rfl
set_option maxHeartbeats 1000000 in
theorem ssure_any (w : World) : Calls Try.prog 12 #[] w fun e w' => e = .returned (.bool true) ∧ Fr none_ w w' := by
  go_enter Try.func12, Try.ntmps12
  go_wp2_with fail
  refine (of_any (List.replicate 64 0) _ (by simp)).mono ?_
  rintro e w1 ⟨rfl, hF1⟩
  rw [sk_of]
  generalize ofF (List.replicate 64 0) 0 = a, ofF (List.replicate 64 0) 1 = b, ofF (List.replicate 64 0) 2 = c, ofF (List.replicate 64 0) 3 = d
  go_wp2_with fail
  (with_reducible refine (like_any _ _ _ _ _ _ _ _ _).mono ?_)
  rintro e w2 ⟨rfl, hF2⟩
  rw [likeF_self]
  have hb2 := hF2.heap (heap_alloc_new w1 _) (fun h => h)
  have c0 : w2.cell? ⟨w1.heap.size, 0, none⟩ = some (.int .u32 a) := by rw [cell_of_blk hb2]; rfl
  have c1 : w2.cell? ⟨w1.heap.size, 1, none⟩ = some (.int .u32 b) := by rw [cell_of_blk hb2]; rfl
  have c2 : w2.cell? ⟨w1.heap.size, 2, none⟩ = some (.int .u32 c) := by rw [cell_of_blk hb2]; rfl
  have c3 : w2.cell? ⟨w1.heap.size, 3, none⟩ = some (.int .u32 d) := by rw [cell_of_blk hb2]; rfl
  have hz2 := blk_lt hb2
  have HB2 := Lib.hid hb2
  clear hb2
  go_wp2_with fail
  (with_reducible refine (best_any 1 1 _ [⟨a, b, c, d⟩] ⟨a, b, c, d⟩ _ rfl (by simp) (SkAt.one _ _ ⟨a, b, c, d⟩)).mono ?_)
  rintro e w3 ⟨rfl, hF3⟩
  rw [bestF_self]
  have hF23 : Fr none_ w2 w3 := ((Fr.refl _ _).alloc _).trans hF3
  have d0 := hF23.cell c0 (fun h => h)
  have d1 := hF23.cell c1 (fun h => h)
  have d2 := hF23.cell c2 (fun h => h)
  have d3 := hF23.cell c3 (fun h => h)
  go_wp2_with fail
  (with_reducible refine (best_any 0 0 none [] ⟨a, b, c, d⟩ _ rfl (by simp) (SkAt.nil _ _)).mono ?_)
  rintro e w4 ⟨rfl, hF4⟩
  rw [bestF_nil]
  go_wp2_with fail
  go_ret
  exact ⟨rfl, ((hF1.alloc _).trans hF2).trans (hF23.trans hF4)⟩
end Go.Proofs.Ytniiokhkmdknaaa

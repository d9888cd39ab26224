import Derived.Test.YtjfeibbghhjjeaaDoorRef17New
import Derived.Deep.DeepCutAuto
import Derived.Deep.CutBlock
namespace Go.Proofs.YtjfeibbghhjjeaaDoor
open Go.RowKit
set_option linter.unusedVariables false
set_option linter.unusedSimpArgs false
set_option maxRecDepth 100000

/-! The document's boxes: Decode. -/
set_option maxHeartbeats 8000000 in
theorem rdec17_conf {w : World} {cs : Array Value} {R : RefD} (hd : RDV w cs R) (f n s : Int) (hb : confBad R.now.length f n s) (A : Option Addr) (nn cc : Nat) :
    Calls Tryd.prog 7 #[.agg cs, .agg #[.int .i64 f, .int .i64 n, .int .i64 s], .slice A nn cc] w fun e w' => e = .returned (.tuple #[noHot, .int .i64 1]) ∧ Fr none_ w w' := by
  obtain ⟨⟨A1, c1, A2, c2, A3, c3, rfl, hrep⟩, l2, l3, m⟩ := hd
  obtain ⟨V, hV⟩ : ∃ V, V = ((w.alloc (.cells #[.slice A1 R.now.length c1, .slice A2 R.now.length c2, .slice A3 R.now.length c3, .int .i64 R.writes, .bool R.armed, .int .i64 R.left, .bool R.crashed, .bool R.gone] 33)).alloc (.cells #[.int .i64 f, .int .i64 n, .int .i64 s] 23)).alloc (.cells #[.int .i64 0, .int .i64 0, .int .i64 0, .slice none 0 0] 42) := ⟨_, rfl⟩
  have hFV : Fr none_ w V := by rw [hV]; exact (((Fr.refl _ _).alloc _).alloc _).alloc _
  have hbd : V.heap[w.heap.size]? = some (.cells #[.slice A1 R.now.length c1, .slice A2 R.now.length c2, .slice A3 R.now.length c3, .int .i64 R.writes, .bool R.armed, .int .i64 R.left, .bool R.crashed, .bool R.gone] 33 (0, 0)) := by rw [hV]; exact ((Fr.refl none_ (w.alloc (.cells #[.slice A1 R.now.length c1, .slice A2 R.now.length c2, .slice A3 R.now.length c3, .int .i64 R.writes, .bool R.armed, .int .i64 R.left, .bool R.crashed, .bool R.gone] 33))).alloc (.cells #[.int .i64 f, .int .i64 n, .int .i64 s] 23)).alloc (.cells #[.int .i64 0, .int .i64 0, .int .i64 0, .slice none 0 0] 42) |>.heap0 (heap_alloc_new _ _)
  have hbc : V.heap[w.heap.size + 1]? = some (.cells #[.int .i64 f, .int .i64 n, .int .i64 s] 23 (0, 0)) := by rw [hV]; exact ((Fr.refl none_ ((w.alloc (.cells #[.slice A1 R.now.length c1, .slice A2 R.now.length c2, .slice A3 R.now.length c3, .int .i64 R.writes, .bool R.armed, .int .i64 R.left, .bool R.crashed, .bool R.gone] 33)).alloc (.cells #[.int .i64 f, .int .i64 n, .int .i64 s] 23))).alloc (.cells #[.int .i64 0, .int .i64 0, .int .i64 0, .slice none 0 0] 42)).heap0 (heap_2nd _ _ _ _)
  have hbr : V.heap[w.heap.size + 2]? = some (.cells #[.int .i64 0, .int .i64 0, .int .i64 0, .slice none 0 0] 42 (0, 0)) := by rw [hV]; exact heap_3rd _ _ _ _ _
  have hRV := (show RDV w #[.slice A1 R.now.length c1, .slice A2 R.now.length c2, .slice A3 R.now.length c3, .int .i64 R.writes, .bool R.armed, .int .i64 R.left, .bool R.crashed, .bool R.gone] R from ⟨⟨A1, c1, A2, c2, A3, c3, rfl, hrep⟩, l2, l3, m⟩).fr0 hFV
  have HB := Lib.hid (And.intro hFV (And.intro hbd (And.intro hbc hbr)))
  have HV := Lib.hid hV
  have hnew := rnew17_bad hRV f n s hb
  have HNEW := Lib.hid hnew
  clear hV hFV hbd hbc hbr hRV hrep hnew hb
  go_enter Tryd.func7, Tryd.ntmps7
  go_upto_region 1 with fail
  rw [← HV.out]
  go_wp2_with (first | ((with_reducible refine at_load 33 (.tmp 3) (b := w.heap.size) ?_ HB.out.2.1 Tryd.underlying33 rfl (by kernel_rfl) ?_); (focus rfl)) | ((with_reducible refine at_load 23 (.tmp 4) (b := w.heap.size + 1) ?_ HB.out.2.2.1 Tryd.underlying23 rfl (by kernel_rfl) ?_); (focus rfl)) | ((with_reducible refine HNEW.out.mono ?_); rintro e w1 ⟨rfl, hF1⟩; have hb1 := ((hF1.alloc (.cells #[.int .i64 0, .int .i64 0, .int .i64 0, .slice none 0 0] 42)).heap0 HB.out.2.2.2); have HF1 := Lib.hid (HB.out.1.trans (hF1.alloc (.cells #[.int .i64 0, .int .i64 0, .int .i64 0, .slice none 0 0] 42))); clear hF1) | ((with_reducible refine at_store 42 (.tmp 6) (.tmp 29) (b := w.heap.size + 2) (c' := #[.int .i64 0, .int .i64 0, .int .i64 0, .slice none 0 0]) ?_ ?_ hb1 ?_ ?_ ?_ ?_); (focus rfl); (focus rfl); (focus rfl); (focus kernel_rfl); (focus (intro u hu; simp at hu; rcases hu with rfl | rfl | rfl | rfl <;> rfl)); intro w3 hF3 hb3; have HZ := Lib.hid (And.intro (HF1.out.own hF3 (by omega)) hb3); clear hF3 hb3))
  refine bodyPost_ret (res_hot Tryd.results7 HZ.out.2 rfl rfl) rfl ?_
  exact ⟨rfl, HZ.out.1⟩
set_option maxHeartbeats 8000000 in
theorem rdec17_open {w : World} {cs : Array Value} {R : RefD} (hd : RDV w cs R) (f : Int) (n s : Nat) (hf : 0 ≤ f) (hn : 1 ≤ n ∧ n ≤ 1024) (hs : 1 ≤ s ∧ s ≤ 1024) (hfit : f + (n * s : Nat) ≤ R.now.length) (hmd : Made n) (A : Option Addr) (nn cc : Nat) (l : List UInt8) (hl : nn = l.length) (hA : CellsAt w A (l.map byteV)) (hnc : nn ≤ cc) (hm9 : l.length ≤ 140737488351232) (hE : openE l ≠ 0) :
    Calls Tryd.prog 7 #[.agg cs, .agg #[.int .i64 f, .int .i64 (n : Int), .int .i64 (s : Int)], .slice A nn cc] w fun e w' => e = .returned (.tuple #[noHot, .int .i64 (openE l)]) ∧ Fr none_ w w' := by
  obtain ⟨⟨A1, c1, A2, c2, A3, c3, rfl, hrep⟩, l2, l3, m⟩ := hd
  obtain ⟨V, hV⟩ : ∃ V, V = ((w.alloc (.cells #[.slice A1 R.now.length c1, .slice A2 R.now.length c2, .slice A3 R.now.length c3, .int .i64 R.writes, .bool R.armed, .int .i64 R.left, .bool R.crashed, .bool R.gone] 33)).alloc (.cells #[.int .i64 f, .int .i64 (n : Int), .int .i64 (s : Int)] 23)).alloc (.cells #[.int .i64 0, .int .i64 0, .int .i64 0, .slice none 0 0] 42) := ⟨_, rfl⟩
  have hFV : Fr none_ w V := by rw [hV]; exact (((Fr.refl _ _).alloc _).alloc _).alloc _
  have hbd : V.heap[w.heap.size]? = some (.cells #[.slice A1 R.now.length c1, .slice A2 R.now.length c2, .slice A3 R.now.length c3, .int .i64 R.writes, .bool R.armed, .int .i64 R.left, .bool R.crashed, .bool R.gone] 33 (0, 0)) := by rw [hV]; exact ((Fr.refl none_ (w.alloc (.cells #[.slice A1 R.now.length c1, .slice A2 R.now.length c2, .slice A3 R.now.length c3, .int .i64 R.writes, .bool R.armed, .int .i64 R.left, .bool R.crashed, .bool R.gone] 33))).alloc (.cells #[.int .i64 f, .int .i64 (n : Int), .int .i64 (s : Int)] 23)).alloc (.cells #[.int .i64 0, .int .i64 0, .int .i64 0, .slice none 0 0] 42) |>.heap0 (heap_alloc_new _ _)
  have hbc : V.heap[w.heap.size + 1]? = some (.cells #[.int .i64 f, .int .i64 (n : Int), .int .i64 (s : Int)] 23 (0, 0)) := by rw [hV]; exact ((Fr.refl none_ ((w.alloc (.cells #[.slice A1 R.now.length c1, .slice A2 R.now.length c2, .slice A3 R.now.length c3, .int .i64 R.writes, .bool R.armed, .int .i64 R.left, .bool R.crashed, .bool R.gone] 33)).alloc (.cells #[.int .i64 f, .int .i64 (n : Int), .int .i64 (s : Int)] 23))).alloc (.cells #[.int .i64 0, .int .i64 0, .int .i64 0, .slice none 0 0] 42)).heap0 (heap_2nd _ _ _ _)
  have hbr : V.heap[w.heap.size + 2]? = some (.cells #[.int .i64 0, .int .i64 0, .int .i64 0, .slice none 0 0] 42 (0, 0)) := by rw [hV]; exact heap_3rd _ _ _ _ _
  have hRV := (show RDV w #[.slice A1 R.now.length c1, .slice A2 R.now.length c2, .slice A3 R.now.length c3, .int .i64 R.writes, .bool R.armed, .int .i64 R.left, .bool R.crashed, .bool R.gone] R from ⟨⟨A1, c1, A2, c2, A3, c3, rfl, hrep⟩, l2, l3, m⟩).fr0 hFV
  have HB := Lib.hid (And.intro hFV (And.intro hbd (And.intro hbc hbr)))
  have HV := Lib.hid hV
  have hnew := rnew17_ok hRV f n s hf hn hs hfit hmd
  have HNEW := Lib.hid hnew
  have hopn : ∀ W, Fr none_ w W → Calls Tryd.prog 21 #[.slice A nn cc] W fun e w' => ROpened W A l e w' := fun W hW => ropen_any A nn cc l hl (hA.fr0 hW) hnc hm9
  have HOPN := Lib.hid hopn
  have HLN := Lib.hid (show (newH f n s).boxes.length = n by simp [newH])
  obtain ⟨E, hEE⟩ : ∃ E, E = openE l := ⟨_, rfl⟩
  rw [← hEE] at hE
  have e1 : (E == 0) = false := by simpa using hE
  have e2 : (E != 0) = true := by simpa using hE
  have HE := Lib.hid hEE
  have HLL := Lib.hid hl
  clear hV hFV hbd hbc hbr hRV hrep hnew hopn hEE hA hfit hmd hl
  go_enter Tryd.func7, Tryd.ntmps7
  go_upto_region 1 with fail
  rw [← HV.out]
  go_wp2_with (first | ((with_reducible refine at_load 33 (.tmp 3) (b := w.heap.size) ?_ HB.out.2.1 Tryd.underlying33 rfl (by kernel_rfl) ?_); (focus rfl)) | ((with_reducible refine at_load 23 (.tmp 4) (b := w.heap.size + 1) ?_ HB.out.2.2.1 Tryd.underlying23 rfl (by kernel_rfl) ?_); (focus rfl)) | ((with_reducible refine HNEW.out.mono ?_); rintro e w1 ⟨v, b, rfl, hH, hbv, hF1⟩; obtain ⟨hrep1, hblk1⟩ := hH; rw [HLN.out] at hrep1; replace hrep1 : v = .agg #[.int .i64 f, .int .i64 (n : Int), .int .i64 (s : Int), .slice (some ⟨b, 0, none⟩) n n] := hrep1; subst hrep1; have hX := hF1.alloc (.cells #[.int .i64 f, .int .i64 (n : Int), .int .i64 (s : Int), .slice (some ⟨b, 0, none⟩) n n] 42); have HX := Lib.hid (And.intro (HB.out.1.trans hX) (And.intro (hX.heap0 HB.out.2.2.2) (And.intro (hX.heap0 HB.out.2.2.1) (And.intro (((Fr.refl none_ w1).alloc (.cells #[.int .i64 f, .int .i64 (n : Int), .int .i64 (s : Int), .slice (some ⟨b, 0, none⟩) n n] 42)).heap0 hblk1) (And.intro (heap_alloc_new w1 (.cells #[.int .i64 f, .int .i64 (n : Int), .int .i64 (s : Int), .slice (some ⟨b, 0, none⟩) n n] 42)) (And.intro hbv (blk_lt hblk1))))))); have hsz1 := hF1.size; clear hX hF1 hblk1 hbv) | ((with_reducible refine (HOPN.out _ HX.out.1).mono ?_); rintro e w2 ⟨⟨Ao, no, co, rfl, ho1, ho2⟩, hF2⟩; rw [← HE.out]; have hb1 := hF2.heap0 HX.out.2.1; have HF1 := Lib.hid (HX.out.1.trans hF2); clear hF2 ho1 ho2) | ((with_reducible refine at_store 42 (.tmp 6) (.tmp 38) (b := w.heap.size + 2) (c' := #[.int .i64 0, .int .i64 0, .int .i64 0, .slice none 0 0]) ?_ ?_ hb1 ?_ ?_ ?_ ?_); (focus rfl); (focus rfl); (focus rfl); (focus kernel_rfl); (focus (intro u hu; simp at hu; rcases hu with rfl | rfl | rfl | rfl <;> rfl)); intro w3 hF3 hb3; have HZ := Lib.hid (And.intro (HF1.out.own hF3 (by omega)) hb3); clear hF3 hb3))
  refine bodyPost_ret (res_hot Tryd.results7 HZ.out.2 rfl rfl) rfl ?_
  exact ⟨by rw [← HE.out]; rfl, HZ.out.1⟩
theorem step_tail (z n k : Nat) (s0 : RS) (hk : k < n) : (bxL z k s0 ++ List.replicate (n - k) freeB).set k (boxS z (rdS z k s0)) = bxL z (k + 1) s0 ++ List.replicate (n - (k + 1)) freeB := by
  rw [List.set_append_right _ _ (by rw [bxL_len]; exact Nat.le_refl _), bxL_len, Nat.sub_self, show n - k = (n - (k + 1)) + 1 by omega, List.replicate_succ, List.set_cons_zero, bxL_succ, List.append_assoc]
  rfl
theorem set3_blk {w : World} {b : Nat} {l : List BoxS} {T : TypeId} (h : w.heap[b]? = some (.cells (l.flatMap boxC).toArray T (0, 0))) (k : Nat) (hk : k < l.length) (st : Int) (u v : Nat) :
    (((w.setCell ⟨b, k * 3, none⟩ (.int .i64 st)).setCell ⟨b, k * 3 + 1, none⟩ (.int .i64 (u : Int))).setCell ⟨b, k * 3 + 2, none⟩ (.int .i64 (v : Int))).heap[b]? = some (.cells ((l.set k ⟨st, u, v⟩).flatMap boxC).toArray T (0, 0)) := by
  have h1 := heap_setCell_same h (o := k * 3) (.int .i64 st)
  rw [List.setIfInBounds_toArray, show k * 3 = k * 3 + 0 from rfl, flat_set l k hk 0 (by omega) (.int .i64 st) { l[k] with state := st } rfl] at h1
  have hk2 : k < (l.set k { l[k] with state := st }).length := by simpa using hk
  have h2 := heap_setCell_same h1 (o := k * 3 + 1) (.int .i64 (u : Int))
  rw [List.setIfInBounds_toArray, flat_set _ k hk2 1 (by omega) (.int .i64 (u : Int)) { l[k] with state := st, used := u } (by rw [List.getElem_set_self]; rfl), List.set_set] at h2
  have hk3 : k < (l.set k { l[k] with state := st, used := u }).length := by simpa using hk
  have h3 := heap_setCell_same h2 (o := k * 3 + 2) (.int .i64 (v : Int))
  rw [List.setIfInBounds_toArray, flat_set _ k hk3 2 (by omega) (.int .i64 (v : Int)) ⟨st, u, v⟩ (by rw [List.getElem_set_self]; rfl), List.set_set] at h3
  exact h3
/-- between two boxes -/
structure DR (w wr : World) (t8 t12 b : Nat) (f : Int) (n s z : Nat) (s0 : RS) (k : Nat) : Prop where
  fr : Fr none_ w wr
  conf : wr.heap[w.heap.size + 1]? = some (.cells #[.int .i64 f, .int .i64 (n : Int), .int .i64 (s : Int)] 23 (0, 0))
  res : wr.heap[w.heap.size + 2]? = some (.cells #[.int .i64 0, .int .i64 0, .int .i64 0, .slice none 0 0] 42 (0, 0))
  hot : wr.heap[t8]? = some (.cells #[.int .i64 f, .int .i64 (n : Int), .int .i64 (s : Int), .slice (some ⟨b, 0, none⟩) n n] 42 (0, 0))
  box : wr.heap[b]? = some (.cells ((bxL z k s0 ++ List.replicate (n - k) freeB).flatMap boxC).toArray 81 (0, 0))
  rd : ∃ v, RRd wr w.heap.size (.agg v) (rdS z k s0).1 (rdS z k s0).2 ∧ wr.heap[t12]? = some (.cells v 77 (0, 0))
/-- what ReadUint leaves, told by states -/
def RUS (w : World) (B N : Nat) (s : RS) (en : Ending) (w' : World) : Prop := ∃ v', en = .returned (.tuple #[v', .int .u64 (N : Int)]) ∧ RRd w' B v' s.1 s.2 ∧ Fr none_ w w'
/-- what Decode leaves -/
def RDec (w : World) (f : Int) (n s : Nat) (l : List UInt8) (e : Ending) (w' : World) : Prop :=
  (formOK (s * 64) n l → ∃ v b, e = .returned (.tuple #[v, .int .i64 0]) ∧ RHot w' v b ⟨f, s, bxL (s * 64) n (rsHead l)⟩) ∧ (¬ formOK (s * 64) n l → e = .returned (.tuple #[noHot, .int .i64 3])) ∧ Fr none_ w w'
theorem rus_any {w : World} {B : Nat} {v : Value} (s : RS) (h : RRd w B v s.1 s.2) (most : Nat) (hm : most < 18446744073709551616) : Calls Tryd.prog 22 #[v, .int .u64 (most : Int)] w fun en w' => RUS w B (uintN s.1 s.2 most) (rs1 s most) en w' := rreaduint_any h most hm
set_option maxHeartbeats 16000000 in
theorem rdec17_ok {w : World} {cs : Array Value} {R : RefD} (hd : RDV w cs R) (f : Int) (n s : Nat) (hf : 0 ≤ f) (hn : 1 ≤ n ∧ n ≤ 1024) (hs : 1 ≤ s ∧ s ≤ 1024) (hfit : f + (n * s : Nat) ≤ R.now.length) (hmd : Made n) (A : Option Addr) (nn cc : Nat) (l : List UInt8) (hl : nn = l.length) (hA : CellsAt w A (l.map byteV)) (hnc : nn ≤ cc) (hm9 : l.length ≤ 140737488351232) (hold : ∀ bb, blkOf A bb → bb < w.heap.size) (hE : openE l = 0) :
    Calls Tryd.prog 7 #[.agg cs, .agg #[.int .i64 f, .int .i64 (n : Int), .int .i64 (s : Int)], .slice A nn cc] w fun e w' => RDec w f n s l e w' := by
  obtain ⟨⟨A1, c1, A2, c2, A3, c3, rfl, hrep⟩, l2, l3, m⟩ := hd
  obtain ⟨V, hV⟩ : ∃ V, V = ((w.alloc (.cells #[.slice A1 R.now.length c1, .slice A2 R.now.length c2, .slice A3 R.now.length c3, .int .i64 R.writes, .bool R.armed, .int .i64 R.left, .bool R.crashed, .bool R.gone] 33)).alloc (.cells #[.int .i64 f, .int .i64 (n : Int), .int .i64 (s : Int)] 23)).alloc (.cells #[.int .i64 0, .int .i64 0, .int .i64 0, .slice none 0 0] 42) := ⟨_, rfl⟩
  have hFV : Fr none_ w V := by rw [hV]; exact (((Fr.refl _ _).alloc _).alloc _).alloc _
  have hbd : V.heap[w.heap.size]? = some (.cells #[.slice A1 R.now.length c1, .slice A2 R.now.length c2, .slice A3 R.now.length c3, .int .i64 R.writes, .bool R.armed, .int .i64 R.left, .bool R.crashed, .bool R.gone] 33 (0, 0)) := by rw [hV]; exact ((Fr.refl none_ (w.alloc (.cells #[.slice A1 R.now.length c1, .slice A2 R.now.length c2, .slice A3 R.now.length c3, .int .i64 R.writes, .bool R.armed, .int .i64 R.left, .bool R.crashed, .bool R.gone] 33))).alloc (.cells #[.int .i64 f, .int .i64 (n : Int), .int .i64 (s : Int)] 23)).alloc (.cells #[.int .i64 0, .int .i64 0, .int .i64 0, .slice none 0 0] 42) |>.heap0 (heap_alloc_new _ _)
  have hbc : V.heap[w.heap.size + 1]? = some (.cells #[.int .i64 f, .int .i64 (n : Int), .int .i64 (s : Int)] 23 (0, 0)) := by rw [hV]; exact ((Fr.refl none_ ((w.alloc (.cells #[.slice A1 R.now.length c1, .slice A2 R.now.length c2, .slice A3 R.now.length c3, .int .i64 R.writes, .bool R.armed, .int .i64 R.left, .bool R.crashed, .bool R.gone] 33)).alloc (.cells #[.int .i64 f, .int .i64 (n : Int), .int .i64 (s : Int)] 23))).alloc (.cells #[.int .i64 0, .int .i64 0, .int .i64 0, .slice none 0 0] 42)).heap0 (heap_2nd _ _ _ _)
  have hbr : V.heap[w.heap.size + 2]? = some (.cells #[.int .i64 0, .int .i64 0, .int .i64 0, .slice none 0 0] 42 (0, 0)) := by rw [hV]; exact heap_3rd _ _ _ _ _
  have hRV := (show RDV w #[.slice A1 R.now.length c1, .slice A2 R.now.length c2, .slice A3 R.now.length c3, .int .i64 R.writes, .bool R.armed, .int .i64 R.left, .bool R.crashed, .bool R.gone] R from ⟨⟨A1, c1, A2, c2, A3, c3, rfl, hrep⟩, l2, l3, m⟩).fr0 hFV
  have HB := Lib.hid (And.intro hFV (And.intro hbd (And.intro hbc hbr)))
  have HV := Lib.hid hV
  have hnew := rnew17_ok hRV f n s hf hn hs hfit hmd
  have HNEW := Lib.hid hnew
  have hopn : ∀ W, Fr none_ w W → Calls Tryd.prog 21 #[.slice A nn cc] W fun e w' => ROpened W A l e w' := fun W hW => ropen_any A nn cc l hl (hA.fr0 hW) hnc hm9
  have HOPN := Lib.hid hopn
  have HLN := Lib.hid (show (newH f n s).boxes.length = n by simp [newH])
  have HE := Lib.hid hE
  have HLL := Lib.hid (And.intro hl hm9)
  have hVs : V.heap.size = w.heap.size + 3 := by rw [hV, World.size_alloc, World.size_alloc, World.size_alloc]
  clear hV hFV hbd hbc hbr hRV hrep hnew hopn hA hfit hmd hl hE hm9
  go_enter Tryd.func7, Tryd.ntmps7
  go_upto_region 1 with fail
  rw [← HV.out]
  go_upto_region 7 with (first | ((with_reducible refine at_load 33 (.tmp 3) (b := w.heap.size) ?_ HB.out.2.1 Tryd.underlying33 rfl (by kernel_rfl) ?_); (focus rfl)) | ((with_reducible refine at_load 23 (.tmp 4) (b := w.heap.size + 1) ?_ HB.out.2.2.1 Tryd.underlying23 rfl (by kernel_rfl) ?_); (focus rfl)) | ((with_reducible refine HNEW.out.mono ?_); rintro e w1 ⟨v, b, rfl, hH, hbv, hF1⟩; obtain ⟨hrep1, hblk1⟩ := hH; rw [HLN.out] at hrep1; replace hrep1 : v = .agg #[.int .i64 f, .int .i64 (n : Int), .int .i64 (s : Int), .slice (some ⟨b, 0, none⟩) n n] := hrep1; subst hrep1; have hX := hF1.alloc (.cells #[.int .i64 f, .int .i64 (n : Int), .int .i64 (s : Int), .slice (some ⟨b, 0, none⟩) n n] 42); have HX := Lib.hid (And.intro (HB.out.1.trans hX) (And.intro (hX.heap0 HB.out.2.2.2) (And.intro (hX.heap0 HB.out.2.2.1) (And.intro (((Fr.refl none_ w1).alloc (.cells #[.int .i64 f, .int .i64 (n : Int), .int .i64 (s : Int), .slice (some ⟨b, 0, none⟩) n n] 42)).heap0 hblk1) (And.intro (heap_alloc_new w1 (.cells #[.int .i64 f, .int .i64 (n : Int), .int .i64 (s : Int), .slice (some ⟨b, 0, none⟩) n n] 42)) (And.intro hbv (blk_lt hblk1))))))); have hsz1 := hF1.size; clear hX hF1 hblk1 hbv) | ((with_reducible refine (HOPN.out _ HX.out.1).mono ?_); rintro e w2 ⟨⟨Ao, no, co, rfl, ho1, ho2⟩, hF2⟩; rw [HE.out]; obtain ⟨rfl, rfl, ho3, ho4, ho5⟩ := ho1 HE.out; have HO := Lib.hid (And.intro hF2 (And.intro ho3 (And.intro ho4 ho5))); clear hF2 ho1 ho2 ho3 ho4 ho5))
  obtain ⟨t8, ht8⟩ : ∃ t8, t8 = w1.heap.size := ⟨_, rfl⟩
  have hFw2 := HX.out.1.trans HO.out.1
  have hrd0 : RRd w2 w.heap.size (.agg #[.slice Ao (bodyB l).length co, .int .i64 0]) (bodyB l) 0 := ⟨⟨Ao, co, rfl, HO.out.2.1, HO.out.2.2.1, HO.out.2.2.2, hold⟩, by have := HLL.out.2; unfold bodyB; rw [List.length_take]; omega⟩
  obtain ⟨N0, hN0⟩ : ∃ N0, N0 = uintN (bodyB l) 0 1024 := ⟨_, rfl⟩
  obtain ⟨s0, hs0⟩ : ∃ s0, s0 = rsHead l := ⟨_, rfl⟩
  have hru0 : Calls Tryd.prog 22 #[.agg #[.slice Ao (bodyB l).length co, .int .i64 0], .int .u64 1024] w2 fun en w' => RUS w2 w.heap.size N0 s0 en w' := by
    have h := rreaduint_any hrd0 1024 (by omega)
    rw [show ((1024 : Nat) : Int) = 1024 from rfl] at h
    refine h.mono (fun en w' ⟨v', h1, h2, h3⟩ => ⟨v', by rw [hN0]; exact h1, by rw [hs0]; exact h2, h3⟩)
  have hNb : N0 ≤ 1024 := by rw [hN0]; exact uintN_le _ _ _
  have HRD0 := Lib.hid (And.intro hFw2 hru0)
  have HS0 := Lib.hid (And.intro hN0 hs0)
  clear hFw2 hrd0 hru0 hN0 hs0
  go_upto_region 8 with (first | ((with_reducible refine HRD0.out.2.mono ?_); rintro e y0 ⟨q0, rfl, hr0, hY0⟩; obtain ⟨⟨P0, p0, hv0, hrest0⟩, hmo0⟩ := id hr0; subst hv0; have HY0 := Lib.hid (And.intro hr0 hY0); clear hr0 hY0 hrest0 hmo0))
  obtain ⟨Y, hY⟩ : ∃ Y, Y = y0.alloc (.cells #[.slice P0 s0.1.length p0, .int .i64 s0.2] 77) := ⟨_, rfl⟩
  obtain ⟨t12, ht12⟩ : ∃ t12, t12 = y0.heap.size := ⟨_, rfl⟩
  have hF12 : Fr none_ (w1.alloc (.cells #[.int .i64 f, .int .i64 (n : Int), .int .i64 (s : Int), .slice (some ⟨b, 0, none⟩) n n] 42)) Y := by rw [hY]; exact (HO.out.1.trans HY0.out.2).alloc _
  obtain ⟨z, hz⟩ : ∃ z, z = s * 64 := ⟨_, rfl⟩
  have hD0 : DR w Y t8 t12 b f n s z s0 0 := ⟨HX.out.1.trans hF12, hF12.heap0 HX.out.2.2.1, hF12.heap0 HX.out.2.1, by rw [ht8]; exact hF12.heap0 HX.out.2.2.2.2.1, by rw [Nat.sub_zero]; exact hF12.heap0 HX.out.2.2.2.1, _, (show RRd Y _ _ _ _ by rw [hY]; exact HY0.out.1.fr0 ((Fr.refl none_ y0).alloc _)), by rw [hY, ht12]; exact heap_alloc_new _ _⟩
  have o1 : w.heap.size + 3 ≤ b := by have := HX.out.2.2.2.2.2.1; omega
  have o2 : b < t8 := by rw [ht8]; exact HX.out.2.2.2.2.2.2
  have o3 : t8 < t12 := by
    have h1 := HO.out.1.size
    have h2 := HY0.out.2.size
    rw [World.size_alloc] at h1
    omega
  have q0 : Y.cell? ⟨w.heap.size + 1, 0, none⟩ = some (.int .i64 f) := by rw [cell_of_blk hD0.conf]; rfl
  have q1 : Y.cell? ⟨w.heap.size + 1, 1, none⟩ = some (.int .i64 (n : Int)) := by rw [cell_of_blk hD0.conf]; rfl
  have q2 : Y.cell? ⟨w.heap.size + 1, 2, none⟩ = some (.int .i64 (s : Int)) := by rw [cell_of_blk hD0.conf]; rfl
  rw [← hY, ← ht8, ← ht12]
  have HD0 := Lib.hid hD0
  clear hY ht8 ht12 hF12 hD0 HX HO HRD0 HY0 HNEW HOPN HLN HB HV hold hsz1 hVs
  have hzz : (64 : Int) * (s : Int) = (z : Int) := by omega
  have hzb : z ≤ 65536 := by omega
  go_wp2_with fail
  rw [show (s : Int) * 64 = (z : Int) by omega]
  have HZZ := Lib.hid hz
  clear q0 q1 q2 hz hzz
  go_loopw [14, 15, 17] (fun ov cv iv wr => ∃ k : Nat, k ≤ n ∧ iv = .int .i64 (k : Int) ∧ ov = .bool (decide (N0 = n) && (bxL z k s0).all okB) ∧ cv = .int .i64 (opN (bxL z k s0) : Nat) ∧ DR w wr t8 t12 b f n s z s0 k) (fun _ _ i _ => n - (intOf i).toNat)
  case atStart =>
    refine ⟨0, by omega, rfl, ?_, rfl, HD0.out⟩
    show Value.bool ((N0 : Int) == (n : Int)) = Value.bool (decide (N0 = n) && true)
    rw [Bool.and_true]
    congr 1
    by_cases h : N0 = n
    · rw [decide_eq_true h, h]; exact beq_self_eq_true _
    · rw [decide_eq_false h, beq_eq_false_iff_ne]; omega
  case round =>
    obtain ⟨k, hk, rfl, rfl, rfl, hR⟩ := hrel
    clear HD0
    obtain ⟨okk, hokk⟩ : ∃ okk, okk = (decide (N0 = n) && (bxL z k s0).all okB) := ⟨_, rfl⟩
    obtain ⟨opk, hopk⟩ : ∃ opk, opk = opN (bxL z k s0) := ⟨_, rfl⟩
    have hopb : opk ≤ k := by rw [hopk]; exact opN_le _ _ _
    rw [← hokk, ← hopk]
    by_cases hlt : k < n
    · have k1 : (k : Int) < (n : Int) := by omega
      obtain ⟨vrd, hrd, hbrd⟩ := hR.rd
      obtain ⟨⟨A', c', hv0, _⟩, _⟩ := id hrd
      have q0 : wr.cell? ⟨w.heap.size + 1, 0, none⟩ = some (.int .i64 f) := by rw [cell_of_blk hR.conf]; rfl
      have q1 : wr.cell? ⟨w.heap.size + 1, 1, none⟩ = some (.int .i64 (n : Int)) := by rw [cell_of_blk hR.conf]; rfl
      have q2 : wr.cell? ⟨w.heap.size + 1, 2, none⟩ = some (.int .i64 (s : Int)) := by rw [cell_of_blk hR.conf]; rfl
      have hsucc : rdS z (k + 1) s0 = rs1 (rs1 (rs1 (rdS z k s0) 3) z) z := rfl
      have hbox : boxS z (rdS z k s0) = ⟨((uintN (rdS z k s0).1 (rdS z k s0).2 3 : Nat) : Int), uintN (rs1 (rdS z k s0) 3).1 (rs1 (rdS z k s0) 3).2 z, uintN (rs1 (rs1 (rdS z k s0) 3) z).1 (rs1 (rs1 (rdS z k s0) 3) z).2 z⟩ := rfl
      have hall := all_succ z k s0
      have hops := opN_succ z k s0
      have htail := step_tail z n k s0 hlt
      rw [hbox] at hall hops htail
      rw [← hopk] at hops
      obtain ⟨S0, hS0⟩ : ∃ S0, S0 = rdS z k s0 := ⟨_, rfl⟩
      rw [← hS0] at hrd hv0 hsucc hall hops htail
      obtain ⟨S1, hS1⟩ : ∃ S1, S1 = rs1 S0 3 := ⟨_, rfl⟩
      rw [← hS1] at hsucc hall hops htail
      obtain ⟨S2, hS2⟩ : ∃ S2, S2 = rs1 S1 z := ⟨_, rfl⟩
      rw [← hS2] at hsucc hall hops htail
      obtain ⟨S3, hS3⟩ : ∃ S3, S3 = rs1 S2 z := ⟨_, rfl⟩
      rw [← hS3] at hsucc
      obtain ⟨st, hst⟩ : ∃ st, st = uintN S0.1 S0.2 3 := ⟨_, rfl⟩
      obtain ⟨u, hu⟩ : ∃ u, u = uintN S1.1 S1.2 z := ⟨_, rfl⟩
      obtain ⟨v, hv⟩ : ∃ v, v = uintN S2.1 S2.2 z := ⟨_, rfl⟩
      rw [← hst, ← hu, ← hv] at hall hops htail
      have hk1 : ∀ W x, RRd W w.heap.size x S0.1 S0.2 → Calls Tryd.prog 22 #[x, .int .u64 3] W fun en w' => RUS W w.heap.size st S1 en w' := fun W x h => by rw [hst, hS1]; exact rus_any S0 h 3 (by omega)
      have hk2 : ∀ W x, RRd W w.heap.size x S1.1 S1.2 → Calls Tryd.prog 22 #[x, .int .u64 (z : Int)] W fun en w' => RUS W w.heap.size u S2 en w' := fun W x h => by rw [hu, hS2]; exact rus_any S1 h z (by omega)
      have hk3 : ∀ W x, RRd W w.heap.size x S2.1 S2.2 → Calls Tryd.prog 22 #[x, .int .u64 (z : Int)] W fun en w' => RUS W w.heap.size v S3 en w' := fun W x h => by rw [hv, hS3]; exact rus_any S2 h z (by omega)
      have hstb : st ≤ 3 := by rw [hst]; exact uintN_le _ _ _
      have hub : u ≤ z := by rw [hu]; exact uintN_le _ _ _
      have hvb : v ≤ z := by rw [hv]; exact uintN_le _ _ _
      have HK1 := Lib.hid hk1
      have HK2 := Lib.hid hk2
      have HK3 := Lib.hid hk3
      have hv0' : vrd = #[.slice A' S0.1.length c', .int .i64 S0.2] := by injection hv0
      subst hv0'
      have HR := Lib.hid (And.intro hR (And.intro hrd hbrd))
      have HS := Lib.hid (And.intro hsucc (And.intro hall (And.intro hops (And.intro htail hokk))))
      have hld0 := hbrd
      have H00 := Lib.hid (And.intro (Fr.refl (fun i => i = t12) wr) (And.intro hrd hbrd))
      clear hv0 hsucc hbox hall hops htail hS0 hS1 hS2 hS3 hst hu hv hk1 hk2 hk3 hR hrd hbrd hokk hopk
      go_upto_region 17 with (first | ((with_reducible refine at_load 77 (.tmp 12) (b := t12) ?_ hld3 Tryd.underlying77 rfl (by kernel_rfl) ?_); (focus rfl)) | ((with_reducible refine at_load 77 (.tmp 12) (b := t12) ?_ hld2 Tryd.underlying77 rfl (by kernel_rfl) ?_); (focus rfl)) | ((with_reducible refine at_load 77 (.tmp 12) (b := t12) ?_ hld1 Tryd.underlying77 rfl (by kernel_rfl) ?_); (focus rfl)) | ((with_reducible refine at_load 77 (.tmp 12) (b := t12) ?_ hld0 Tryd.underlying77 rfl (by kernel_rfl) ?_); (focus rfl)) | ((with_reducible refine (HK3.out _ _ HZ2.out.2.1).mono ?_); rintro e y3 ⟨q3, rfl, hr3, hY3⟩; obtain ⟨⟨P3, p3, hv3, hrest3⟩, hmo3⟩ := id hr3; subst hv3; have HY3 := Lib.hid (And.intro hr3 (And.intro (HZ2.out.1.trans (Fr.of0 hY3)) (hY3.heap0 HZ2.out.2.2))); clear hr3 hY3 hrest3 hmo3) | ((with_reducible refine (HK2.out _ _ HZ1.out.2.1).mono ?_); rintro e y2 ⟨q2, rfl, hr2, hY2⟩; obtain ⟨⟨P2, p2, hv2, hrest2⟩, hmo2⟩ := id hr2; subst hv2; have HY2 := Lib.hid (And.intro hr2 (And.intro (HZ1.out.1.trans (Fr.of0 hY2)) (hY2.heap0 HZ1.out.2.2))); clear hr2 hY2 hrest2 hmo2) | ((with_reducible refine (HK1.out _ _ H00.out.2.1).mono ?_); rintro e y1 ⟨q1, rfl, hr1, hY1⟩; obtain ⟨⟨P1, p1, hv1, hrest1⟩, hmo1⟩ := id hr1; subst hv1; have HY1 := Lib.hid (And.intro hr1 (And.intro (H00.out.1.trans (Fr.of0 hY1)) (hY1.heap0 H00.out.2.2))); clear hr1 hY1 hrest1 hmo1) | ((with_reducible refine at_store 77 (.tmp 12) (.tmp 76) (b := t12) (c' := #[.slice P3 S3.1.length p3, .int .i64 S3.2]) ?_ ?_ HY3.out.2.2 ?_ ?_ ?_ ?_); (focus rfl); (focus rfl); (focus rfl); (focus kernel_rfl); (focus (intro u hu; simp at hu; rcases hu with rfl | rfl <;> rfl)); intro z3 hF3 hb3; have HZ3 := Lib.hid (And.intro (HY3.out.2.1.trans hF3) (And.intro (HY3.out.1.fr hF3 (fun i h1 h2 => by omega)) hb3)); have hld3 := hb3; clear hF3 hb3) | ((with_reducible refine at_store 77 (.tmp 12) (.tmp 70) (b := t12) (c' := #[.slice P2 S2.1.length p2, .int .i64 S2.2]) ?_ ?_ HY2.out.2.2 ?_ ?_ ?_ ?_); (focus rfl); (focus rfl); (focus rfl); (focus kernel_rfl); (focus (intro u hu; simp at hu; rcases hu with rfl | rfl <;> rfl)); intro z2 hF2 hb2; have HZ2 := Lib.hid (And.intro (HY2.out.2.1.trans hF2) (And.intro (HY2.out.1.fr hF2 (fun i h1 h2 => by omega)) hb2)); have hld2 := hb2; clear hF2 hb2) | ((with_reducible refine at_store 77 (.tmp 12) (.tmp 64) (b := t12) (c' := #[.slice P1 S1.1.length p1, .int .i64 S1.2]) ?_ ?_ HY1.out.2.2 ?_ ?_ ?_ ?_); (focus rfl); (focus rfl); (focus rfl); (focus kernel_rfl); (focus (intro u hu; simp at hu; rcases hu with rfl | rfl <;> rfl)); intro z1 hF1 hb1; have HZ1 := Lib.hid (And.intro (HY1.out.2.1.trans hF1) (And.intro (HY1.out.1.fr hF1 (fun i h1 h2 => by omega)) hb1)); have hld1 := hb1; clear hF1 hb1))
      go_cut [14] (fun v14 wx => v14 = .bool (okk && okB ⟨(st : Int), u, v⟩) ∧ wx = z3)
      case first =>
        clear hld0 hld1 hld2 hld3 q0 q1 q2 hopb
        cases okk with
        | false =>
          have HRES := Lib.hid (show (false && okB ⟨(st : Int), u, v⟩) = false by simp [okB])
          go_wp2_with fail
          go_meet
          exact ⟨by rw [HRES.out], rfl⟩
        | true =>
          by_cases hc0 : v ≤ u
          · by_cases hc1 : st = 0
            · by_cases hc2 : u = 0
              · have HRES := Lib.hid (show (true && okB ⟨(st : Int), u, v⟩) = true by simp [okB]; omega)
                have i1 : (v : Int) ≤ (u : Int) := by omega
                have i2 : ((st : Int) != 0) = false := by simp; omega
                have i3 : ((u : Int) == 0) = true := by simp; omega
                have i4 : ((st : Int) != 3) = true := by simp; omega
                clear hc0 hc1 hc2
                go_wp2_with fail
                go_meet
                exact ⟨by rw [HRES.out], rfl⟩
              · have HRES := Lib.hid (show (true && okB ⟨(st : Int), u, v⟩) = false by simp [okB]; omega)
                have i1 : (v : Int) ≤ (u : Int) := by omega
                have i2 : ((st : Int) != 0) = false := by simp; omega
                have i3 : ((u : Int) == 0) = false := by simp; omega
                clear hc0 hc1 hc2
                go_wp2_with fail
                go_meet
                exact ⟨by rw [HRES.out], rfl⟩
            · by_cases hc2 : st = 3
              · by_cases hc3 : v = 0
                · have HRES := Lib.hid (show (true && okB ⟨(st : Int), u, v⟩) = true by simp [okB]; omega)
                  have i1 : (v : Int) ≤ (u : Int) := by omega
                  have i2 : ((st : Int) != 0) = true := by simp; omega
                  have i4 : ((st : Int) != 3) = false := by simp; omega
                  have i5 : ((v : Int) == 0) = true := by simp; omega
                  clear hc0 hc1 hc2 hc3
                  go_wp2_with fail
                  go_meet
                  exact ⟨by rw [HRES.out], rfl⟩
                · have HRES := Lib.hid (show (true && okB ⟨(st : Int), u, v⟩) = false by simp [okB]; omega)
                  have i1 : (v : Int) ≤ (u : Int) := by omega
                  have i2 : ((st : Int) != 0) = true := by simp; omega
                  have i4 : ((st : Int) != 3) = false := by simp; omega
                  have i5 : ((v : Int) == 0) = false := by simp; omega
                  clear hc0 hc1 hc2 hc3
                  go_wp2_with fail
                  go_meet
                  exact ⟨by rw [HRES.out], rfl⟩
              · have HRES := Lib.hid (show (true && okB ⟨(st : Int), u, v⟩) = true by simp [okB]; omega)
                have i1 : (v : Int) ≤ (u : Int) := by omega
                have i2 : ((st : Int) != 0) = true := by simp; omega
                have i4 : ((st : Int) != 3) = true := by simp; omega
                clear hc0 hc1 hc2
                go_wp2_with fail
                go_meet
                exact ⟨by rw [HRES.out], rfl⟩
          · have HRES := Lib.hid (show (true && okB ⟨(st : Int), u, v⟩) = false by simp [okB]; omega)
            have i1 : ¬ (v : Int) ≤ (u : Int) := by omega
            clear hc0
            go_wp2_with fail
            go_meet
            exact ⟨by rw [HRES.out], rfl⟩
      case rest =>
        obtain ⟨rfl, rfl⟩ := hcut
        have hot3 := HZ3.out.1.heap HR.out.1.hot (by omega)
        have box3 := HZ3.out.1.heap HR.out.1.box (by omega)
        have h3 : wc.cell? ⟨t8, 3, none⟩ = some (.slice (some ⟨b, 0, none⟩) n n) := by rw [cell_of_blk hot3]; rfl
        have hkl : k < (bxL z k s0 ++ List.replicate (n - k) freeB).length := by rw [List.length_append, bxL_len, List.length_replicate]; omega
        obtain ⟨b0, b1, b2⟩ := box_cells box3 k hkl
        have bf := fun o => frozen_of_blk box3 o
        have hset := set3_blk box3 k hkl (st : Int) u v
        rw [HS.out.2.2.2.1] at hset
        obtain ⟨X, hX⟩ : ∃ X, X = (((wc.setCell ⟨b, k * 3, none⟩ (.int .i64 (st : Int))).setCell ⟨b, k * 3 + 1, none⟩ (.int .i64 (u : Int))).setCell ⟨b, k * 3 + 2, none⟩ (.int .i64 (v : Int))) := ⟨_, rfl⟩
        have hFX : Fr (fun i => i = b) wc X := by rw [hX]; exact ((Fr.set wc b _ _).trans (Fr.set _ b _ _)).trans (Fr.set _ b _ _)
        rw [← hX] at hset
        have hD : DR w X t8 t12 b f n s z s0 (k + 1) := by
          refine ⟨(HR.out.1.fr.own HZ3.out.1 (by omega)).own hFX (by omega), hFX.heap (HZ3.out.1.heap HR.out.1.conf (by omega)) (by omega), hFX.heap (HZ3.out.1.heap HR.out.1.res (by omega)) (by omega), hFX.heap hot3 (by omega), hset, _, ?_, hFX.heap HZ3.out.2.2 (by omega)⟩
          rw [HS.out.1]
          exact HZ3.out.2.1.fr hFX (fun i h1 h2 => by omega)
        rw [hX] at hD
        have HD := Lib.hid hD
        have j1 : (0 : Int) ≤ (k : Int) := by omega
        obtain ⟨x0, hx0⟩ : ∃ x, x = (bxL z k s0 ++ List.replicate (n - k) freeB)[k] := ⟨_, rfl⟩
        rw [← hx0] at b0 b1 b2
        have hw1 : IntKind.i64.wrap (st : Int) = (st : Int) := IntWalk.i64_in _ (by omega)
        have hw2 : IntKind.i64.wrap (u : Int) = (u : Int) := IntWalk.i64_in _ (by omega)
        have hw3 : IntKind.i64.wrap (v : Int) = (v : Int) := IntWalk.i64_in _ (by omega)
        clear hset hX hFX hD hkl hx0 hot3 box3 hld0 hld1 hld2 hld3 q0 q1 q2
        by_cases hone : st = 1
        · have i1 : ((st : Int) == 1) = true := by simp; omega
          have HOP := Lib.hid (show opN (bxL z (k + 1) s0) = opk + 1 by rw [HS.out.2.2.1, if_pos (by show (st : Int) = 1; omega)])
          clear hone
          go_wp2_with fail
          go_roundw
          case rel => exact ⟨k + 1, by omega, by go_num, by rw [HS.out.2.1, ← Bool.and_assoc, ← HS.out.2.2.2.2], by rw [HOP.out]; go_num, HD.out⟩
          case measure => simp [intOf]; omega
        · have i1 : ((st : Int) == 1) = false := by simp; omega
          have HOP := Lib.hid (show opN (bxL z (k + 1) s0) = opk by rw [HS.out.2.2.1, if_neg (by show ¬ (st : Int) = 1; omega)]; rfl)
          clear hone
          go_wp2_with fail
          go_roundw
          case rel => exact ⟨k + 1, by omega, by go_num, by rw [HS.out.2.1, ← Bool.and_assoc, ← HS.out.2.2.2.2], by rw [HOP.out], HD.out⟩
          case measure => simp [intOf]; omega
    · have hkn : k = n := by omega
      subst hkn
      obtain ⟨vrd, hrd, hbrd⟩ := hR.rd
      obtain ⟨⟨A', c', hv0, _⟩, _⟩ := id hrd
      have hv0' : vrd = #[.slice A' (rdS z k s0).1.length c', .int .i64 (rdS z k s0).2] := by injection hv0
      subst hv0'
      have hdn := rdone_any hrd
      obtain ⟨d, hd⟩ : ∃ d, d = (if (rdS z k s0).2 = 0 ∧ (rdS z k s0).1 ≠ [] then (3 : Int) else (rdS z k s0).2) := ⟨_, rfl⟩
      rw [← hd] at hdn
      have hd0 : d = 0 ↔ (rdS z k s0).2 = 0 ∧ (rdS z k s0).1 = [] := by
        rw [hd]
        by_cases h1 : (rdS z k s0).2 = 0
        · by_cases h2 : (rdS z k s0).1 = []
          · rw [if_neg (by rintro ⟨_, h⟩; exact h h2)]; exact ⟨fun _ => ⟨h1, h2⟩, fun _ => h1⟩
          · rw [if_pos ⟨h1, h2⟩]; exact ⟨fun h => absurd h (by decide), fun h => absurd h.2 h2⟩
        · rw [if_neg (by rintro ⟨h, _⟩; exact h1 h)]; exact ⟨fun h => absurd h h1, fun h => absurd h.1 h1⟩
      have hform : formOK (s * 64) k l ↔ d = 0 ∧ okk = true ∧ opk ≤ 1 := by
        unfold formOK
        rw [← HS0.out.2, ← HS0.out.1, ← HZZ.out, hd0, hokk, ← hopk, Bool.and_eq_true, decide_eq_true_iff]
        constructor
        · rintro ⟨h1, h2, h3, h4, h5⟩; exact ⟨⟨h1, h2⟩, ⟨h3, h4⟩, h5⟩
        · rintro ⟨⟨h1, h2⟩, ⟨h3, h4⟩, h5⟩; exact ⟨h1, h2, h3, h4, h5⟩
      have HR := Lib.hid (And.intro hR hbrd)
      have hld := hbrd
      have hres := hR.res
      have hhot := hR.hot
      have q1 : wr.cell? ⟨w.heap.size + 1, 1, none⟩ = some (.int .i64 (k : Int)) := by rw [cell_of_blk hR.conf]; rfl
      have HDN := Lib.hid hdn
      have HFO := Lib.hid (And.intro hform (And.intro HZZ.out HS0.out.2))
      have hblt := blk_lt hR.box
      clear hR hrd hbrd hv0 hdn hd hd0 hform hokk hopk
      by_cases hdz : d = 0
      · subst hdz
        cases okk with
        | true =>
          by_cases hop : opk ≤ 1
          · have i1 : ¬ (1 : Int) < (opk : Int) := by omega
            have i2 : ¬ 1 < opk := by omega
            have HY := Lib.hid (HFO.out.1.2 ⟨rfl, rfl, hop⟩)
            clear hop
            go_wp2_with (first | ((with_reducible refine at_load 77 (.tmp 12) (b := t12) ?_ hld Tryd.underlying77 rfl (by kernel_rfl) ?_); (focus rfl)) | ((with_reducible refine HDN.out.mono ?_); rintro e x1 ⟨rfl, hF1⟩; have hres1 := hF1.heap0 hres; have hhot1 := hF1.heap0 hhot; have HF1 := Lib.hid (And.intro (HR.out.1.fr.trans hF1) (hF1.heap0 HR.out.1.box)); have hsx := hF1.size; clear hF1) | ((with_reducible refine at_load 42 (.tmp 8) (b := t8) ?_ hhot1 Tryd.underlying42 rfl (by kernel_rfl) ?_); (focus rfl)) | ((with_reducible refine at_store 42 (.tmp 6) (.tmp 127) (b := w.heap.size + 2) (c' := #[.int .i64 f, .int .i64 (k : Int), .int .i64 (s : Int), .slice (some ⟨b, 0, none⟩) k k]) ?_ ?_ hres1 ?_ ?_ ?_ ?_); (focus rfl); (focus rfl); (focus rfl); (focus kernel_rfl); (focus (intro u hu; simp at hu; rcases hu with rfl | rfl | rfl | rfl <;> rfl)); intro x3 hF3 hb3; have HZ := Lib.hid (And.intro (HF1.out.1.own hF3 (by omega)) (And.intro (hF3.heap HF1.out.2 (by omega)) hb3)); clear hF3 hb3))
            refine bodyPost_ret (res_hot Tryd.results7 HZ.out.2.2 rfl rfl) rfl ?_
            refine ⟨fun _ => ⟨_, b, rfl, ⟨?_, ?_⟩⟩, fun h => absurd HY.out h, HZ.out.1⟩
            · show _ = Value.agg #[.int .i64 f, .int .i64 ((bxL (s * 64) k (rsHead l)).length : Int), .int .i64 (s : Int), .slice (some ⟨b, 0, none⟩) (bxL (s * 64) k (rsHead l)).length (bxL (s * 64) k (rsHead l)).length]
              rw [bxL_len]
            · have hbx := HZ.out.2.1
              rw [Nat.sub_self, List.replicate_zero, List.append_nil, HFO.out.2.1, HFO.out.2.2] at hbx
              exact hbx
          · have i1 : (1 : Int) < (opk : Int) := by omega
            have HY := Lib.hid (show ¬ formOK (s * 64) k l from fun h => hop (HFO.out.1.1 h).2.2)
            clear hop
            go_wp2_with (first | ((with_reducible refine at_load 77 (.tmp 12) (b := t12) ?_ hld Tryd.underlying77 rfl (by kernel_rfl) ?_); (focus rfl)) | ((with_reducible refine HDN.out.mono ?_); rintro e x1 ⟨rfl, hF1⟩; have hres1 := hF1.heap0 hres; have hhot1 := hF1.heap0 hhot; have HF1 := Lib.hid (And.intro (HR.out.1.fr.trans hF1) (hF1.heap0 HR.out.1.box)); have hsx := hF1.size; clear hF1) | ((with_reducible refine at_store 42 (.tmp 6) (.tmp 126) (b := w.heap.size + 2) (c' := #[.int .i64 0, .int .i64 0, .int .i64 0, .slice none 0 0]) ?_ ?_ hres1 ?_ ?_ ?_ ?_); (focus rfl); (focus rfl); (focus rfl); (focus kernel_rfl); (focus (intro u hu; simp at hu; rcases hu with rfl | rfl | rfl | rfl <;> rfl)); intro x3 hF3 hb3; have HZ := Lib.hid (And.intro (HF1.out.1.own hF3 (by omega)) hb3); clear hF3 hb3))
            refine bodyPost_ret (res_hot Tryd.results7 HZ.out.2 rfl rfl) rfl ?_
            exact ⟨fun h => absurd h HY.out, fun _ => rfl, HZ.out.1⟩
        | false =>
          have HY := Lib.hid (show ¬ formOK (s * 64) k l from fun h => absurd (HFO.out.1.1 h).2.1 (by decide))
          go_wp2_with (first | ((with_reducible refine at_load 77 (.tmp 12) (b := t12) ?_ hld Tryd.underlying77 rfl (by kernel_rfl) ?_); (focus rfl)) | ((with_reducible refine HDN.out.mono ?_); rintro e x1 ⟨rfl, hF1⟩; have hres1 := hF1.heap0 hres; have hhot1 := hF1.heap0 hhot; have HF1 := Lib.hid (And.intro (HR.out.1.fr.trans hF1) (hF1.heap0 HR.out.1.box)); have hsx := hF1.size; clear hF1) | ((with_reducible refine at_store 42 (.tmp 6) (.tmp 126) (b := w.heap.size + 2) (c' := #[.int .i64 0, .int .i64 0, .int .i64 0, .slice none 0 0]) ?_ ?_ hres1 ?_ ?_ ?_ ?_); (focus rfl); (focus rfl); (focus rfl); (focus kernel_rfl); (focus (intro u hu; simp at hu; rcases hu with rfl | rfl | rfl | rfl <;> rfl)); intro x3 hF3 hb3; have HZ := Lib.hid (And.intro (HF1.out.1.own hF3 (by omega)) hb3); clear hF3 hb3))
          refine bodyPost_ret (res_hot Tryd.results7 HZ.out.2 rfl rfl) rfl ?_
          exact ⟨fun h => absurd h HY.out, fun _ => rfl, HZ.out.1⟩
      · have i1 : (d != 0) = true := by simpa using hdz
        have i2 : (d == 0) = false := by simpa using hdz
        have HY := Lib.hid (show ¬ formOK (s * 64) k l from fun h => hdz (HFO.out.1.1 h).1)
        clear hdz
        go_wp2_with (first | ((with_reducible refine at_load 77 (.tmp 12) (b := t12) ?_ hld Tryd.underlying77 rfl (by kernel_rfl) ?_); (focus rfl)) | ((with_reducible refine HDN.out.mono ?_); rintro e x1 ⟨rfl, hF1⟩; have hres1 := hF1.heap0 hres; have hhot1 := hF1.heap0 hhot; have HF1 := Lib.hid (And.intro (HR.out.1.fr.trans hF1) (hF1.heap0 HR.out.1.box)); have hsx := hF1.size; clear hF1) | ((with_reducible refine at_store 42 (.tmp 6) (.tmp 126) (b := w.heap.size + 2) (c' := #[.int .i64 0, .int .i64 0, .int .i64 0, .slice none 0 0]) ?_ ?_ hres1 ?_ ?_ ?_ ?_); (focus rfl); (focus rfl); (focus rfl); (focus kernel_rfl); (focus (intro u hu; simp at hu; rcases hu with rfl | rfl | rfl | rfl <;> rfl)); intro x3 hF3 hb3; have HZ := Lib.hid (And.intro (HF1.out.1.own hF3 (by omega)) hb3); clear hF3 hb3))
        refine bodyPost_ret (res_hot Tryd.results7 HZ.out.2 rfl rfl) rfl ?_
        exact ⟨fun h => absurd h HY.out, fun _ => rfl, HZ.out.1⟩
end Go.Proofs.YtjfeibbghhjjeaaDoor

import Derived.Test.YtdlhndbgmldeaaaHot2
namespace Go.Proofs.Ytdlhndbgmldeaaa
open Go.RowKit
set_option linter.unusedVariables false
set_option linter.unusedSimpArgs false
set_option maxRecDepth 100000

/-! hot.Seal, Stat, room. -/
theorem flat_set : ∀ (l : List BoxS) (i : Nat) (hi : i < l.length) (j : Nat) (hj : j < 3) (v : Value) (b' : BoxS), (boxC l[i]).set j v = boxC b' → (l.flatMap boxC).set (i * 3 + j) v = (l.set i b').flatMap boxC
  | b :: r, 0, hi, j, hj, v, b', h => by
    rw [List.flatMap_cons, List.set_cons_zero, List.flatMap_cons, List.set_append_left _ _ (by simp [boxC]; omega), ← h]
    simp
  | b :: r, i + 1, hi, j, hj, v, b', h => by
    rw [List.flatMap_cons, List.set_cons_succ, List.flatMap_cons, List.set_append_right _ _ (by simp [boxC]; omega)]
    congr 1
    have := flat_set r i (by simpa using hi) j hj v b' (by simpa using h)
    rw [← this]
    congr 1
    simp [boxC]
    omega
def HotS.putB (H : HotS) (i : Nat) (b : BoxS) : HotS := { H with boxes := H.boxes.set i b }
theorem HotAt.setBox {w : World} {h bx p : Nat} {H : HotS} (hh : HotAt w h bx p H) (i : Nat) (hi : i < H.boxes.length) (j : Nat) (hj : j < 3) (v : Value) (b' : BoxS) (hb : (boxC H.boxes[i]).set j v = boxC b') : HotAt (w.setCell ⟨bx, i * 3 + j, none⟩ v) h bx p (H.putB i b') := by
  refine ⟨?_, ?_, hh.ne, by simpa [HotS.putB] using hh.most, hh.firstIn⟩
  · rw [show (H.putB i b').cells p bx = H.cells p bx by simp [HotS.cells, HotS.putB]]
    exact (Fr.set w bx (i * 3 + j) v).heap hh.blk hh.ne
  · rw [heap_setCell_same hh.bxs, List.setIfInBounds_toArray, flat_set _ i hi j hj v b' hb]
    rfl
def HotS.seal (H : HotS) : HotS := match H.inO 1 with
  | some i => H.putB i { (H.boxes.getD i freeB) with state := 2 }
  | none => H
theorem inO_lt {H : HotS} {s : Int} {i : Nat} (h : H.inO s = some i) : ∃ hi : i < H.boxes.length, H.boxes[i].state = s := by
  unfold HotS.inO at h
  rw [List.findIdx?_eq_some_iff_getElem] at h
  obtain ⟨hi, h1, _⟩ := h
  exact ⟨hi, by simpa using h1⟩
theorem seal_any {w : World} {h bx p : Nat} {H : HotS} (hh : HotAt w h bx p H) : Calls Try.prog 7 #[ptr h] w fun e w' => e = .returned (.tuple #[]) ∧ Fr (fun k => k = bx) w w' ∧ HotAt w' h bx p H.seal := by
  have hin := in_any hh 1
  have HI := Lib.hid hin
  clear hin
  cases hi : H.inO 1 with
  | none =>
    have hs : H.seal = H := by unfold HotS.seal; rw [hi]
    have HS := Lib.hid hs
    have HII := Lib.hid hi
    clear hs hi
    go_enter Try.func7, Try.ntmps7
    go_wp2_with fail
    (with_reducible refine HI.out.mono ?_)
    rintro e w1 ⟨rfl, hF1⟩
    rw [HII.out, show optI none = -1 from rfl]
    go_wp2_with fail
    go_end0
    rw [HS.out]
    exact ⟨rfl, Fr.of0 hF1, hh.fr0 hF1⟩
  | some i =>
    obtain ⟨hil, hst⟩ := inO_lt hi
    have hs : H.seal = H.putB i { H.boxes[i] with state := 2 } := by unfold HotS.seal; rw [hi]; simp [List.getD_eq_getElem?_getD, hil]
    have HS := Lib.hid hs
    have HII := Lib.hid hi
    have hn0 : (0 : Int) ≤ (i : Int) := by omega
    have hn1 : (i : Int) < (H.boxes.length : Int) := by omega
    clear hs hi hst
    go_enter Try.func7, Try.ntmps7
    go_wp2_with fail
    (with_reducible refine HI.out.mono ?_)
    rintro e w1 ⟨rfl, hF1⟩
    rw [HII.out, show optI (some i) = (i : Int) from rfl]
    have hh1 := hh.fr0 hF1
    obtain ⟨c0, c1, c2, c3, c4⟩ := hh1.cellsAll
    obtain ⟨b0, b1, b2⟩ := box_cells hh1.bxs i hil
    have hfz := fun o => frozen_of_blk hh1.bxs o
    have hset := hh1.setBox i hil 0 (by omega) (.int .i64 2) { H.boxes[i] with state := 2 } rfl
    have HSET := Lib.hid hset
    clear hset
    go_wp2_with fail
    go_end0
    rw [HS.out]
    exact ⟨rfl, (Fr.of0 hF1).trans (Fr.set w1 bx (i * 3) _), HSET.out⟩
theorem stat_any {w : World} {h bx p : Nat} {H : HotS} (hh : HotAt w h bx p H) (i : Nat) (hi : i < H.boxes.length) : Calls Try.prog 10 #[ptr h, .int .i64 (i : Int)] w fun e w' => e = .returned (.tuple #[.int .i64 H.boxes[i].state, .int .i64 (H.boxes[i].used : Int), .int .i64 (H.boxes[i].live : Int), errV 0]) ∧ Fr none_ w w' := by
  obtain ⟨c0, c1, c2, c3, c4⟩ := hh.cellsAll
  obtain ⟨b0, b1, b2⟩ := box_cells hh.bxs i hi
  obtain ⟨x, hx⟩ : ∃ x, x = H.boxes[i] := ⟨_, rfl⟩
  rw [← hx] at b0 b1 b2 ⊢
  clear hx
  have hn0 : ¬ (i : Int) < 0 := by omega
  have hn2 : ¬ (H.boxes.length : Int) ≤ (i : Int) := by omega
  have hn3 : ¬ H.boxes.length ≤ i := by omega
  have hn1 : (i : Int) < (H.boxes.length : Int) := by omega
  have hn4 : (0 : Int) ≤ (i : Int) := by omega
  have ha := heap_alloc_new w (.cells #[.int .i64 x.state, .int .i64 (x.used : Int), .int .i64 (x.live : Int)] 70)
  obtain ⟨V, hV, hF, hb⟩ : ∃ V, V = w.alloc (.cells #[.int .i64 x.state, .int .i64 (x.used : Int), .int .i64 (x.live : Int)] 70) ∧ Fr none_ w V ∧ V.heap[w.heap.size]? = some (.cells #[.int .i64 x.state, .int .i64 (x.used : Int), .int .i64 (x.live : Int)] 70 (0, 0)) := ⟨_, rfl, (Fr.refl _ _).alloc _, ha⟩
  clear ha
  go_enter Try.func10, Try.ntmps10
  go_wp2_with fail
  rw [← hV]
  clear hV
  have d0 : V.drew.cell? ⟨w.heap.size, 0, none⟩ = some (.int .i64 x.state) := by show V.cell? _ = _; rw [cell_of_blk hb]; rfl
  have d1 : V.drew.cell? ⟨w.heap.size, 1, none⟩ = some (.int .i64 (x.used : Int)) := by show V.cell? _ = _; rw [cell_of_blk hb]; rfl
  have d2 : V.drew.cell? ⟨w.heap.size, 2, none⟩ = some (.int .i64 (x.live : Int)) := by show V.cell? _ = _; rw [cell_of_blk hb]; rfl
  go_still (by kernel_rfl)
  go_wp2_with fail
  exact bodyPost_ret (v := .tuple #[.int .i64 x.state, .int .i64 (x.used : Int), .int .i64 (x.live : Int), errV 0]) (by simp [results, Try.results10, go_sem]; rfl) rfl ⟨rfl, hF.drew⟩
/-- a box that there is, and that is not free -/
theorem hbox_any {w : World} {h bx p : Nat} {H : HotS} (hh : HotAt w h bx p H) (i : Nat) (hi : i < H.boxes.length) (hs : H.boxes[i].state ≠ 0) : Calls Try.prog 22 #[ptr h, .int .i64 (i : Int)] w fun e w' => e = .returned (.tuple #[.pointer (some ⟨bx, i * 3, none⟩), errV 0]) ∧ w = w' := by
  obtain ⟨c0, c1, c2, c3, c4⟩ := hh.cellsAll
  obtain ⟨b0, b1, b2⟩ := box_cells hh.bxs i hi
  obtain ⟨x, hx⟩ : ∃ x, x = H.boxes[i] := ⟨_, rfl⟩
  rw [← hx] at b0 b1 b2 hs
  clear hx
  have hn0 : ¬ (i : Int) < 0 := by omega
  have hn2 : ¬ (H.boxes.length : Int) ≤ (i : Int) := by omega
  have hn3 : ¬ H.boxes.length ≤ i := by omega
  have hn1 : (i : Int) < (H.boxes.length : Int) := by omega
  have hn4 : (0 : Int) ≤ (i : Int) := by omega
  go_enter Try.func22, Try.ntmps22
  go_wp2_with fail
  go_ret2
  exact ⟨rfl, rfl⟩
end Go.Proofs.Ytdlhndbgmldeaaa

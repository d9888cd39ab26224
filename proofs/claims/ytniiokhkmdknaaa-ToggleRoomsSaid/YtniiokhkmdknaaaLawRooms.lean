import Derived.Test.YtniiokhkmdknaaaTogSure
import Derived.Test.YtniiokhkmdknaaaLaw
namespace Go.Proofs.Ytniiokhkmdknaaa
open Go.RowKit
set_option linter.unusedVariables false
set_option linter.unusedSimpArgs false

/-! ToggleRooms -/
set_option maxHeartbeats 4000000 in
set_option maxRecDepth 100000 in
theorem rooms_walk (a b : Int) (w : World) : Calls Try.prog 5 #[area a b] w fun e w' => e = .returned (.bool true) ∧ Fr none_ w w' := by
  go_enter Try.func5, Try.ntmps5
  go_wp2_with fail
  have hF0 : Fr none_ w (w.alloc (.cells #[.int .i64 a, .int .i64 b] 37)).drew := ((Fr.refl _ _).alloc _).drew
  have hb0 : (w.alloc (.cells #[.int .i64 a, .int .i64 b] 37)).drew.heap[w.heap.size]? = some (.cells #[.int .i64 a, .int .i64 b] 37 (0, 0)) := heap_alloc_new w _
  have hst : ∀ wx, Fr none_ (w.alloc (.cells #[.int .i64 a, .int .i64 b] 37)).drew wx → (wx.cell? ⟨w.heap.size, 0, none⟩ = some (.int .i64 a) ∧ wx.cell? ⟨w.heap.size, 1, none⟩ = some (.int .i64 b)) := fun wx h => by
    have := h.heap0 hb0
    exact ⟨by rw [cell_of_blk this]; rfl, by rw [cell_of_blk this]; rfl⟩
  have hs0 := hst _ (Fr.refl _ _)
  have HST := Lib.hid hst
  clear hst hb0
  go_region_held3 (fun w' => (w'.cell? ⟨w.heap.size, 0, none⟩ = some (.int .i64 a) ∧ w'.cell? ⟨w.heap.size, 1, none⟩ = some (.int .i64 b))) (first | exact hs0 | exact HST.out _ hX1 | exact HST.out _ hX2 | exact HST.out _ hX3) (first
    | (go_at_call 13; (with_reducible refine (room_any a b _).mono ?_); rintro e x1 ⟨rfl, hX1⟩)
    | (go_at_call 14; (with_reducible refine (rroom_any a b _).mono ?_); rintro e x2 ⟨rfl, hY2⟩; have hX2 := hX1.trans hY2)
    | (go_at_call 15; (with_reducible refine (tsure_any _).mono ?_); rintro e x3 ⟨rfl, hY3⟩; have hX3 := hX2.trans hY3))
  go_wp2
  go_ret
  exact ⟨rfl, hF0.trans hX3⟩
theorem two_cells {cs : Array Value} (hs : cs.size = 2) {x y : Value} (ha : (cs.toList.drop 0).take 1 = [x]) (hb : (cs.toList.drop 1).take 1 = [y]) : Value.agg cs = .agg #[x, y] := by
  obtain ⟨l⟩ := cs
  match l, hs with
  | [u, v], _ =>
    simp at ha hb
    rw [ha, hb]
theorem rd_area {W : World} {v : Value} (h : RdV Try.prog W 37 v) : ∃ a b : Int, v = area a b := by
  obtain ⟨cs, rfl, hs, hf⟩ := h.struct Try.underlying37
  obtain ⟨a, ha, _⟩ := (hf 0 (by decide)).int Try.underlying3
  obtain ⟨b, hb, _⟩ := (hf 1 (by decide)).int Try.underlying3
  have h2 : Try.prog.cellsOf 37 = 2 := by kernel_rfl
  have h1 : Try.prog.cellsOf 3 = 1 := by kernel_rfl
  rw [h2] at hs
  have ha : (cs.toList.drop 0).take (Try.prog.cellsOf 3) = [.int .i64 a] := ha
  have hb : (cs.toList.drop 1).take (Try.prog.cellsOf 3) = [.int .i64 b] := hb
  rw [h1] at ha hb
  exact ⟨a, b, two_cells hs ha hb⟩
theorem toggleRooms_law (W : World) (vs : List Value) (hl : vs.length = [37].length) (hv : ∀ (i : Nat) (t : TypeId) (v : Value), [37][i]? = some t → vs[i]? = some v → RdV Try.prog W t v) :
    Calls Try.prog 5 vs.toArray W fun e w' => e = .returned (.bool true) ∧ Fr none_ W w' := by
  match vs, hl with
  | [v0], _ =>
    obtain ⟨a, b, rfl⟩ := rd_area (hv 0 _ v0 rfl rfl)
    exact rooms_walk a b W
end Go.Proofs.Ytniiokhkmdknaaa

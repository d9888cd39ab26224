import Derived.Test.YtjfeibbghhjjeaaDoorHotEnc
import Derived.Test.YtjfeibbghhjjeaaDoorOpen
namespace Go.Proofs.YtjfeibbghhjjeaaDoor
open Go.RowKit
set_option linter.unusedVariables false
set_option linter.unusedSimpArgs false
set_option maxRecDepth 100000

/-! hot.right, Reader.Done. -/
theorem rdone_nil {w : World} {p : Nat} (h : ReaderAt w p [] 0) : Calls Tryd.prog 19 #[ptr p] w fun e w' => e = .returned .nilIface ∧ w = w' := by
  have hr := rerr_any h
  rw [errV_0] at hr
  have HR := Lib.hid hr
  obtain ⟨⟨A, c, hb, _⟩, _⟩ := h
  have c0 : w.cell? ⟨p, 0, none⟩ = some (.slice A 0 c) := by rw [cell_of_blk hb]; rfl
  clear hr
  go_enter Tryd.func19, Tryd.ntmps19
  go_wp2_with fail
  (with_reducible refine HR.out.mono ?_)
  rintro e w1 ⟨rfl, rfl⟩
  go_wp2_with fail
  go_ret
  exact ⟨rfl, rfl⟩
set_option maxHeartbeats 4000000 in
theorem hright_ok {w : World} {h bx p : Nat} {H : HotS} (hh : HotAt w h bx p H) (st u v : Nat) (hu : u ≤ H.sectors * 64) (hv : v ≤ u) (h0 : st = 0 → u = 0) (h3 : st = 3 → v = 0) :
    Calls Tryd.prog 18 #[ptr h, .agg #[.int .i64 (st : Int), .int .i64 (u : Int), .int .i64 (v : Int)]] w fun e w' => e = .returned (.bool true) ∧ Fr none_ w w' := by
  obtain ⟨z, hz⟩ : ∃ z, z = H.sectors * 64 := ⟨_, rfl⟩
  have hsz : ∀ W, Calls Tryd.prog 17 #[confV H] W fun e w' => e = .returned (.int .i64 (z : Int)) ∧ Fr none_ W w' := fun W => by rw [hz]; exact size_any H hh.most.2 W
  rw [← hz] at hu
  have HSZ := Lib.hid hsz
  clear hsz hz
  obtain ⟨V, hV⟩ : ∃ V, V = w.alloc (.cells #[.int .i64 (st : Int), .int .i64 (u : Int), .int .i64 (v : Int)] 70) := ⟨_, rfl⟩
  have hFV : Fr none_ w V := hV ▸ (Fr.refl _ _).alloc _
  have hbV : V.heap[w.heap.size]? = some (.cells #[.int .i64 (st : Int), .int .i64 (u : Int), .int .i64 (v : Int)] 70 (0, 0)) := hV ▸ heap_alloc_new _ _
  have hst : ∀ W, Fr none_ V W → (W.cell? ⟨h, 1, none⟩ = some (.int .i64 H.first) ∧ W.cell? ⟨h, 2, none⟩ = some (.int .i64 (H.boxes.length : Int)) ∧ W.cell? ⟨h, 3, none⟩ = some (.int .i64 (H.sectors : Int))) ∧ (W.cell? ⟨w.heap.size, 0, none⟩ = some (.int .i64 (st : Int)) ∧ W.cell? ⟨w.heap.size, 1, none⟩ = some (.int .i64 (u : Int)) ∧ W.cell? ⟨w.heap.size, 2, none⟩ = some (.int .i64 (v : Int))) := fun W hW => by
    obtain ⟨e0, e1, e2, e3, e4⟩ := (hh.fr0 (hFV.trans hW)).cellsAll
    exact ⟨⟨e1, e2, e3⟩, by rw [cell_of_blk (hW.heap0 hbV)]; rfl, by rw [cell_of_blk (hW.heap0 hbV)]; rfl, by rw [cell_of_blk (hW.heap0 hbV)]; rfl⟩
  have HST := Lib.hid hst
  have HV := Lib.hid hV
  have hs0 := hst _ ((Fr.refl none_ V).drew)
  have q1 : (u : Int) ≤ (z : Int) := by omega
  have q2 : u ≤ z := hu
  have q3 : (v : Int) ≤ (u : Int) := by omega
  clear hst hV
  have hcase : (st = 0 ∧ u = 0) ∨ (st = 3 ∧ v = 0) ∨ (¬ st = 0 ∧ ¬ st = 3) := by omega
  clear h0 h3
  go_enter Tryd.func18, Tryd.ntmps18
  go_wp2_with fail
  rw [← HV.out]
  go_region_held3 (fun W => (W.cell? ⟨h, 1, none⟩ = some (.int .i64 H.first) ∧ W.cell? ⟨h, 2, none⟩ = some (.int .i64 (H.boxes.length : Int)) ∧ W.cell? ⟨h, 3, none⟩ = some (.int .i64 (H.sectors : Int))) ∧ (W.cell? ⟨w.heap.size, 0, none⟩ = some (.int .i64 (st : Int)) ∧ W.cell? ⟨w.heap.size, 1, none⟩ = some (.int .i64 (u : Int)) ∧ W.cell? ⟨w.heap.size, 2, none⟩ = some (.int .i64 (v : Int)))) (first | exact hs0 | exact HST.out _ hX1) (first
    | (go_at_call 17; (with_reducible refine (HSZ.out _).mono ?_); rintro e x1 ⟨rfl, hY1⟩; have hX1 := ((Fr.refl none_ V).drew).trans hY1))
  obtain ⟨_, k0, k1, k2⟩ := HST.out _ hX1
  rcases hcase with ⟨c1, c2⟩ | ⟨c1, c2⟩ | ⟨c1, c2⟩
  · subst c1 c2
    go_wp2_with fail
    go_ret
    exact ⟨rfl, hFV.trans hX1⟩
  · subst c1 c2
    go_wp2_with fail
    go_ret
    exact ⟨rfl, hFV.trans hX1⟩
  · have c3 : ((st : Int) == 0) = false := by rw [beq_eq_false_iff_ne]; omega
    have c4 : ((st : Int) == 3) = false := by rw [beq_eq_false_iff_ne]; omega
    go_wp2_with fail
    go_ret
    exact ⟨rfl, hFV.trans hX1⟩
end Go.Proofs.YtjfeibbghhjjeaaDoor

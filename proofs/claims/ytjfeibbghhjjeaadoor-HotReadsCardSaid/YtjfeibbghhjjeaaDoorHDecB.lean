import Derived.Test.YtjfeibbghhjjeaaDoorHNewBad
import Derived.Test.YtjfeibbghhjjeaaDoorHotDecA
import Derived.Deep.DeepCutAuto
import Derived.StillTailTactics
namespace Go.Proofs.YtjfeibbghhjjeaaDoor
open Go.RowKit
set_option linter.unusedVariables false
set_option linter.unusedSimpArgs false
set_option maxRecDepth 100000

/-! hot.right, Reader.Done at any bytes. -/
def dnE (l : List UInt8) (e : Int) : Int := if e ≠ 0 then e else if l = [] then 0 else 3
theorem rdoneP_any {w : World} {p : Nat} {l : List UInt8} {e : Int} (h : ReaderAt w p l e) : Calls Tryd.prog 19 #[ptr p] w fun en w' => en = .returned (errV (dnE l e)) ∧ w = w' := by
  have hr := rerr_any h
  have HR := Lib.hid hr
  obtain ⟨⟨A, c, hb, _⟩, _⟩ := h
  have c0 : w.cell? ⟨p, 0, none⟩ = some (.slice A l.length c) := by rw [cell_of_blk hb]; rfl
  have c1 : w.cell? ⟨p, 1, none⟩ = some (errV e) := by rw [cell_of_blk hb]; rfl
  clear hr hb
  by_cases he : e = 0
  · subst he
    rw [errV_0] at c1 HR
    by_cases hl : l = []
    · have hE : dnE l 0 = 0 := by unfold dnE; rw [if_neg (by simp), if_pos hl]
      have k1 : l.length = 0 := by rw [hl]; rfl
      rw [k1] at c0
      rw [hE, errV_0]
      clear hE hl k1
      go_enter Tryd.func19, Tryd.ntmps19
      go_wp2_with fail
      (with_reducible refine HR.out.mono ?_)
      rintro e w1 ⟨rfl, rfl⟩
      go_wp2_with fail
      go_ret
      exact ⟨rfl, rfl⟩
    · have hE : dnE l 0 = 3 := by unfold dnE; rw [if_neg (by simp), if_neg hl]
      have k1 : 0 < l.length := List.length_pos_iff.2 hl
      have k2 : (0 : Int) < (l.length : Int) := by omega
      rw [hE, errV_n (by decide)]
      clear hE hl
      go_enter Tryd.func19, Tryd.ntmps19
      go_wp2_with fail
      (with_reducible refine HR.out.mono ?_)
      rintro e w1 ⟨rfl, rfl⟩
      go_wp2_with fail
      go_ret
      exact ⟨rfl, rfl⟩
  · have hE : dnE l e = e := by unfold dnE; rw [if_pos he]
    rw [hE]
    rw [errV_n he] at c1 HR ⊢
    clear hE
    go_enter Tryd.func19, Tryd.ntmps19
    go_wp2_with fail
    (with_reducible refine HR.out.mono ?_)
    rintro e w1 ⟨rfl, rfl⟩
    go_wp2_with fail
    go_ret
    exact ⟨rfl, rfl⟩
set_option maxHeartbeats 4000000 in
theorem hright_any {w : World} {h bx p : Nat} {H : HotS} (hh : HotAt w h bx p H) (st u v : Nat) (hu : u ≤ H.sectors * 64) :
    Calls Tryd.prog 18 #[ptr h, .agg #[.int .i64 (st : Int), .int .i64 (u : Int), .int .i64 (v : Int)]] w fun e w' => e = .returned (.bool (okB ⟨(st : Int), u, v⟩)) ∧ Fr none_ w w' := by
  obtain ⟨z, hz⟩ : ∃ z, z = H.sectors * 64 := ⟨_, rfl⟩
  have hsz : ∀ W, Calls Tryd.prog 17 #[confV H] W fun e w' => e = .returned (.int .i64 (z : Int)) ∧ Fr none_ W w' := fun W => by rw [hz]; exact size_any H hh.most.2 W
  rw [← hz] at hu
  have HSZ := Lib.hid hsz
  clear hsz hz
  obtain ⟨V, hV⟩ : ∃ V, V = w.alloc (.cells #[.int .i64 (st : Int), .int .i64 (u : Int), .int .i64 (v : Int)] 70) := ⟨_, rfl⟩
  have hFV : Fr none_ w V := hV ▸ (Fr.refl _ _).alloc _
  have hbV : V.heap[w.heap.size]? = some (.cells #[.int .i64 (st : Int), .int .i64 (u : Int), .int .i64 (v : Int)] 70 (0, 0)) := hV ▸ heap_alloc_new _ _
  have hst : ∀ W, Fr none_ V W → (W.cell? ⟨h, 1, none⟩ = some (.int .i64 H.first) ∧ W.cell? ⟨h, 2, none⟩ = some (.int .i64 (H.boxes.length : Int)) ∧ W.cell? ⟨h, 3, none⟩ = some (.int .i64 (H.sectors : Int))) ∧ (W.cell? ⟨w.heap.size, 0, none⟩ = some (.int .i64 (st : Int)) ∧ W.cell? ⟨w.heap.size, 1, none⟩ = some (.int .i64 (u : Int)) ∧ W.cell? ⟨w.heap.size, 2, none⟩ = some (.int .i64 (v : Int))) := fun W hW => by
    obtain ⟨e0, e1, e2, e3, e4⟩ := (hh.fr0 (hFV.trans hW)).cellsAll
    exact ⟨⟨e1, e2, e3⟩, by rw [cell_of_blk (hW.heap0 hbV)]; rfl, by rw [cell_of_blk (hW.heap0 hbV)]; rfl, by rw [cell_of_blk (hW.heap0 hbV)]; rfl⟩
  have HST := Lib.hid hst
  have HV := Lib.hid hV
  have hs0 := hst _ ((Fr.refl none_ V).drew)
  have q1 : (u : Int) ≤ (z : Int) := by omega
  have q2 : u ≤ z := hu
  clear hst hV
  by_cases hvu : v ≤ u
  · have q3 : (v : Int) ≤ (u : Int) := by omega
    go_enter Tryd.func18, Tryd.ntmps18
    go_wp2_with fail
    rw [← HV.out]
    go_region_held3 (fun W => (W.cell? ⟨h, 1, none⟩ = some (.int .i64 H.first) ∧ W.cell? ⟨h, 2, none⟩ = some (.int .i64 (H.boxes.length : Int)) ∧ W.cell? ⟨h, 3, none⟩ = some (.int .i64 (H.sectors : Int))) ∧ (W.cell? ⟨w.heap.size, 0, none⟩ = some (.int .i64 (st : Int)) ∧ W.cell? ⟨w.heap.size, 1, none⟩ = some (.int .i64 (u : Int)) ∧ W.cell? ⟨w.heap.size, 2, none⟩ = some (.int .i64 (v : Int)))) (first | exact hs0 | exact HST.out _ hX1) (first
      | (go_at_call 17; (with_reducible refine (HSZ.out _).mono ?_); rintro e x1 ⟨rfl, hY1⟩; have hX1 := ((Fr.refl none_ V).drew).trans hY1))
    obtain ⟨_, k0, k1, k2⟩ := HST.out _ hX1
    by_cases hc1 : st = 0
    · by_cases hc2 : u = 0
      · have HRES := Lib.hid (show okB ⟨(st : Int), u, v⟩ = true by simp [okB]; omega)
        have i2 : ((st : Int) == 0) = true := by simp; omega
        have i3 : ((u : Int) == 0) = true := by simp; omega
        clear hc1 hc2
        go_wp2_with fail
        go_ret
        exact ⟨by rw [HRES.out]; rfl, hFV.trans hX1⟩
      · have HRES := Lib.hid (show okB ⟨(st : Int), u, v⟩ = false by simp [okB]; omega)
        have i2 : ((st : Int) == 0) = true := by simp; omega
        have i3 : ((u : Int) == 0) = false := by simp; omega
        clear hc1 hc2
        go_wp2_with fail
        go_ret
        exact ⟨by rw [HRES.out]; rfl, hFV.trans hX1⟩
    · by_cases hc2 : st = 3
      · by_cases hc3 : v = 0
        · have HRES := Lib.hid (show okB ⟨(st : Int), u, v⟩ = true by simp [okB]; omega)
          have i2 : ((st : Int) == 0) = false := by simp; omega
          have i4 : ((st : Int) == 3) = true := by simp; omega
          have i5 : ((v : Int) == 0) = true := by simp; omega
          clear hc1 hc2 hc3
          go_wp2_with fail
          go_ret
          exact ⟨by rw [HRES.out]; rfl, hFV.trans hX1⟩
        · have HRES := Lib.hid (show okB ⟨(st : Int), u, v⟩ = false by simp [okB]; omega)
          have i2 : ((st : Int) == 0) = false := by simp; omega
          have i4 : ((st : Int) == 3) = true := by simp; omega
          have i5 : ((v : Int) == 0) = false := by simp; omega
          clear hc1 hc2 hc3
          go_wp2_with fail
          go_ret
          exact ⟨by rw [HRES.out]; rfl, hFV.trans hX1⟩
      · have HRES := Lib.hid (show okB ⟨(st : Int), u, v⟩ = true by simp [okB]; omega)
        have i2 : ((st : Int) == 0) = false := by simp; omega
        have i4 : ((st : Int) == 3) = false := by simp; omega
        clear hc1 hc2
        go_wp2_with fail
        go_ret
        exact ⟨by rw [HRES.out]; rfl, hFV.trans hX1⟩
  · have q3 : ¬ (v : Int) ≤ (u : Int) := by omega
    go_enter Tryd.func18, Tryd.ntmps18
    go_wp2_with fail
    rw [← HV.out]
    go_region_held3 (fun W => (W.cell? ⟨h, 1, none⟩ = some (.int .i64 H.first) ∧ W.cell? ⟨h, 2, none⟩ = some (.int .i64 (H.boxes.length : Int)) ∧ W.cell? ⟨h, 3, none⟩ = some (.int .i64 (H.sectors : Int))) ∧ (W.cell? ⟨w.heap.size, 0, none⟩ = some (.int .i64 (st : Int)) ∧ W.cell? ⟨w.heap.size, 1, none⟩ = some (.int .i64 (u : Int)) ∧ W.cell? ⟨w.heap.size, 2, none⟩ = some (.int .i64 (v : Int)))) (first | exact hs0 | exact HST.out _ hX1) (first
      | (go_at_call 17; (with_reducible refine (HSZ.out _).mono ?_); rintro e x1 ⟨rfl, hY1⟩; have hX1 := ((Fr.refl none_ V).drew).trans hY1))
    obtain ⟨_, k0, k1, k2⟩ := HST.out _ hX1
    by_cases hc1 : st = 0
    · have HRES := Lib.hid (show okB ⟨(st : Int), u, v⟩ = false by simp [okB]; omega)
      have i2 : ((st : Int) == 0) = true := by simp; omega
      clear hc1
      go_wp2_with fail
      go_ret
      exact ⟨by rw [HRES.out]; rfl, hFV.trans hX1⟩
    · by_cases hc2 : st = 3
      · have HRES := Lib.hid (show okB ⟨(st : Int), u, v⟩ = false by simp [okB]; omega)
        have i2 : ((st : Int) == 0) = false := by simp; omega
        have i4 : ((st : Int) == 3) = true := by simp; omega
        clear hc1 hc2
        go_wp2_with fail
        go_ret
        exact ⟨by rw [HRES.out]; rfl, hFV.trans hX1⟩
      · have HRES := Lib.hid (show okB ⟨(st : Int), u, v⟩ = false by simp [okB]; omega)
        have i2 : ((st : Int) == 0) = false := by simp; omega
        have i4 : ((st : Int) == 3) = false := by simp; omega
        clear hc1 hc2
        go_wp2_with fail
        go_ret
        exact ⟨by rw [HRES.out]; rfl, hFV.trans hX1⟩
end Go.Proofs.YtjfeibbghhjjeaaDoor

import Derived.Test.YtdlhndbgmldeaaaHot9
namespace Go.Proofs.Ytdlhndbgmldeaaa
open Go.RowKit
set_option linter.unusedVariables false
set_option linter.unusedSimpArgs false
set_option maxRecDepth 100000

/-! hot.Room -/
def roomStep (z s : Nat) (b : BoxS) : Nat := s + if b.state = 1 ∨ b.state = 0 then z - b.used else 0
def HotS.roomN (H : HotS) : Nat := H.boxes.foldl (roomStep (H.sectors * 64)) 0
theorem roomFold_le (z : Nat) : ∀ (l : List BoxS) (s : Nat), l.foldl (roomStep z) s ≤ s + l.length * z := by
  intro l
  induction l with
  | nil => intro s; simp
  | cons b l ih =>
    intro s
    rw [List.foldl_cons, List.length_cons]
    refine Nat.le_trans (ih _) ?_
    rw [Nat.add_mul, Nat.one_mul]
    unfold roomStep
    split <;> omega
set_option maxHeartbeats 4000000 in
theorem hroom_any {w : World} {h bx p : Nat} {H : HotS} (hh : HotAt w h bx p H) (hok : H.Ok) :
    Calls Try.prog 38 #[ptr h] w fun e w' => e = .returned (.int .i64 (H.roomN : Int)) ∧ Fr none_ w w' := by
  obtain ⟨c0, c1, c2, c3, c4⟩ := hh.cellsAll
  have hm := hh.most
  obtain ⟨z, hz⟩ : ∃ z, z = H.sectors * 64 := ⟨_, rfl⟩
  have hz2 : z ≤ 65536 := by omega
  have hsz : ∀ W, Calls Try.prog 26 #[confV H] W fun e w' => e = .returned (.int .i64 (z : Int)) ∧ Fr none_ W w' := fun W => by rw [hz]; exact size_any H hm.2 W
  have hR : H.roomN = H.boxes.foldl (roomStep z) 0 := by rw [hz]; rfl
  have hu : ∀ i (hi : i < H.boxes.length), H.boxes[i].used ≤ z := by rw [hz]; exact hok.used
  have HSZ := Lib.hid hsz
  have HR := Lib.hid hR
  have HU := Lib.hid hu
  clear hsz hR hz hok hu
  go_enter Try.func38, Try.ntmps38
  go_wp2_with fail
  go_loopw [3, 14] (fun n i wr => ∃ k s : Nat, k ≤ H.boxes.length ∧ i = .int .i64 (k : Int) ∧ n = .int .i64 (s : Int) ∧ s = (H.boxes.take k).foldl (roomStep z) 0 ∧ Fr none_ w wr) (fun _ i _ => H.boxes.length - (intOf i).toNat)
  case atStart => exact ⟨0, 0, by omega, rfl, rfl, rfl, Fr.refl _ _⟩
  case round =>
    obtain ⟨k, s, hk, rfl, rfl, hs, hF⟩ := hrel
    have hsb : s ≤ 1024 * 65536 := by
      rw [hs]
      refine Nat.le_trans (roomFold_le z _ 0) ?_
      rw [Nat.zero_add, List.length_take]
      exact Nat.mul_le_mul (by omega) hz2
    by_cases hlt : k < H.boxes.length
    · have hstep := foldl_take_succ (roomStep z) 0 H.boxes k hlt
      rw [← hs] at hstep
      obtain ⟨b0, b1, b2⟩ := box_cells (hF.heap0 hh.bxs) k hlt
      have hux := HU.out k hlt
      obtain ⟨x, hx⟩ : ∃ x, x = H.boxes[k] := ⟨_, rfl⟩
      rw [← hx] at b0 b1 b2 hstep hux
      obtain ⟨c0, c1, c2, c3, c4⟩ := (hh.fr0 hF).cellsAll
      have q1 : (k : Int) < (H.boxes.length : Int) := by omega
      have q2 : (0 : Int) ≤ (k : Int) := by omega
      obtain ⟨d, hd⟩ : ∃ d : Nat, z = x.used + d := ⟨z - x.used, by omega⟩
      obtain ⟨V, hV⟩ : ∃ V, V = wr.alloc (.cells #[.int .i64 x.state, .int .i64 (x.used : Int), .int .i64 (x.live : Int)] 70) := ⟨_, rfl⟩
      have hFV : Fr none_ wr V := hV ▸ (Fr.refl _ _).alloc _
      have hbV : V.heap[wr.heap.size]? = some (.cells #[.int .i64 x.state, .int .i64 (x.used : Int), .int .i64 (x.live : Int)] 70 (0, 0)) := hV ▸ heap_alloc_new _ _
      have hst : ∀ W, Fr none_ V W → (W.cell? ⟨h, 1, none⟩ = some (.int .i64 H.first) ∧ W.cell? ⟨h, 2, none⟩ = some (.int .i64 (H.boxes.length : Int)) ∧ W.cell? ⟨h, 3, none⟩ = some (.int .i64 (H.sectors : Int))) ∧ W.cell? ⟨wr.heap.size, 1, none⟩ = some (.int .i64 (x.used : Int)) := fun W hW => by
        obtain ⟨e0, e1, e2, e3, e4⟩ := (hh.fr0 ((hF.trans hFV).trans hW)).cellsAll
        exact ⟨⟨e1, e2, e3⟩, by rw [cell_of_blk (hW.heap0 hbV)]; rfl⟩
      have HST := Lib.hid hst
      have HS := Lib.hid hs
      have HSP := Lib.hid hstep
      have HD := Lib.hid hd
      have HV := Lib.hid hV
      have HX := Lib.hid hx
      by_cases hcase : x.state = 1 ∨ x.state = 0
      · have hstep2 : (H.boxes.take (k + 1)).foldl (roomStep z) 0 = s + d := by rw [hstep]; unfold roomStep; rw [if_pos hcase]; omega
        have HSP2 := Lib.hid hstep2
        have hwr : IntKind.i64.wrap ((z : Int) - (x.used : Int)) = (d : Int) := by rw [IntWalk.i64_in _ (by omega)]; omega
        have hwr2 : IntKind.i64.wrap ((s : Int) + (d : Int)) = ((s + d : Nat) : Int) := by rw [IntWalk.i64_in _ (by omega)]; omega
        have HWR := Lib.hid hwr
        have HWR2 := Lib.hid hwr2
        clear hstep hstep2 hs hst hd hV hx hwr hwr2
        rcases hcase with h1 | h1
        all_goals
          rw [h1] at b0
          go_upto_region 8 with fail
          have hVV := HV.out
          rw [h1] at hVV
          rw [← hVV]
          clear hVV
          have hs0 := HST.out _ ((Fr.refl none_ V).drew)
          have hwr := HWR.out
          have hwr2 := HWR2.out
          go_region_held3 (fun W => (W.cell? ⟨h, 1, none⟩ = some (.int .i64 H.first) ∧ W.cell? ⟨h, 2, none⟩ = some (.int .i64 (H.boxes.length : Int)) ∧ W.cell? ⟨h, 3, none⟩ = some (.int .i64 (H.sectors : Int))) ∧ W.cell? ⟨wr.heap.size, 1, none⟩ = some (.int .i64 (x.used : Int))) (first | exact hs0 | exact HST.out _ hY) (first
            | (go_at_call 26; (with_reducible refine (HSZ.out _).mono ?_); rintro e y1 ⟨rfl, hY1⟩; have hY := ((Fr.refl none_ V).drew).trans hY1))
          clear hwr hwr2
          go_wp2_with fail
          go_roundw
          case rel => exact ⟨k + 1, s + d, by omega, by go_num, rfl, HSP2.out.symm, (hF.trans hFV).trans hY⟩
          case measure => simp [intOf]; omega
      · have hstep2 : (H.boxes.take (k + 1)).foldl (roomStep z) 0 = s := by rw [hstep]; unfold roomStep; rw [if_neg hcase]; omega
        have HSP2 := Lib.hid hstep2
        have n1 : ¬ x.state = 1 := fun h => hcase (.inl h)
        have n2 : ¬ x.state = 0 := fun h => hcase (.inr h)
        have n3 : (x.state == 1) = false := by simpa using n1
        have n4 : (x.state == 0) = false := by simpa using n2
        clear hstep hstep2 hs hst hd hV hx hcase
        go_wp2_with fail
        go_roundw
        case rel => exact ⟨k + 1, s, by omega, by go_num, rfl, HSP2.out.symm, HV.out ▸ hF.trans hFV⟩
        case measure => simp [intOf]; omega
    · have hkk : k = H.boxes.length := by omega
      have hq : ¬ (k : Int) < (H.boxes.length : Int) := by omega
      have HS := Lib.hid hs
      clear hs
      go_wp2_with fail
      go_ret
      exact ⟨by rw [HR.out, HS.out, hkk, List.take_length]; rfl, hF⟩
end Go.Proofs.Ytdlhndbgmldeaaa

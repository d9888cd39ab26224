import Derived.Test.YtdlhndbgmldeaaaHot3
namespace Go.Proofs.Ytdlhndbgmldeaaa
open Go.RowKit
set_option linter.unusedVariables false
set_option linter.unusedSimpArgs false
set_option maxRecDepth 100000

/-! hot.room, at. -/
structure HotS.Ok (H : HotS) : Prop where
  used : ∀ i (hi : i < H.boxes.length), H.boxes[i].used ≤ H.sectors * 64
  live : ∀ i (hi : i < H.boxes.length), H.boxes[i].live ≤ H.boxes[i].used
def HotS.roomO (H : HotS) (n : Nat) : Option Nat := match H.inO 1 with
  | some i => if (H.boxes.getD i freeB).used + n ≤ H.sectors * 64 then some i else none
  | none => none
set_option maxHeartbeats 16000000 in
theorem room_any {w : World} {h bx p : Nat} {H : HotS} (hh : HotAt w h bx p H) (hok : H.Ok) (n : Nat) : Calls Try.prog 33 #[ptr h, .int .i64 (n : Int)] w fun e w' => e = .returned (.int .i64 (optI (H.roomO n))) ∧ Fr none_ w w' := by
  have hin := in_any hh 1
  have HI := Lib.hid hin
  clear hin
  cases hi : H.inO 1 with
  | none =>
    have hs : H.roomO n = none := by unfold HotS.roomO; rw [hi]
    have HS := Lib.hid hs
    have HII := Lib.hid hi
    clear hs hi
    go_enter Try.func33, Try.ntmps33
    go_wp2_with fail
    (with_reducible refine HI.out.mono ?_)
    rintro e w1 ⟨rfl, hF1⟩
    rw [HII.out, show optI none = -1 from rfl]
    go_wp2_with fail
    refine wp_region_held_drew (S := fun _ => True) (by kernel_rfl) trivial (fun hHeld0 => ?_)
    refine wpAnyH_take (i := 0) (oi := _) (v := ?v1) rfl (by kernel_rfl) (by kernel_rfl) (by kernel_rfl) (fun _ _ _ h => h) (Or.inl ⟨by rfl, ?hy1⟩) (by assumption) ?rest1
    case hy1 => (intro w hSw; (try dsimp only at hSw); go_simp; try with_reducible rfl)
    try simp only [List.getElem_toArray, List.getElem_cons_zero, List.getElem_cons_succ, Act.put, List.setIfInBounds_toArray, List.set_cons_zero, List.set_cons_succ]
    refine wpAnyH_take (i := 1) (oi := _) (v := ?v2) rfl (by kernel_rfl) (by kernel_rfl) (by kernel_rfl) (fun _ _ _ h => h) (Or.inl ⟨by rfl, ?hy2⟩) (by assumption) ?rest2
    case hy2 => (intro w hSw; (try dsimp only at hSw); go_simp; try with_reducible rfl)
    try simp only [List.getElem_toArray, List.getElem_cons_zero, List.getElem_cons_succ, Act.put, List.setIfInBounds_toArray, List.set_cons_zero, List.set_cons_succ]
    refine wpAnyH_take (i := 2) (oi := _) (v := ?v3) rfl (by kernel_rfl) (by kernel_rfl) (by kernel_rfl) (fun _ _ _ h => h) (Or.inl ⟨by rfl, ?hy3⟩) (by assumption) ?rest3
    case hy3 => (intro w hSw; (try dsimp only at hSw); go_simp; try with_reducible rfl)
    try simp only [List.getElem_toArray, List.getElem_cons_zero, List.getElem_cons_succ, Act.put, List.setIfInBounds_toArray, List.set_cons_zero, List.set_cons_succ]
    refine wpAnyH_take (i := 3) (oi := _) (v := undef) rfl (by kernel_rfl) (by kernel_rfl) (by kernel_rfl) (fun _ _ _ h => h) (Or.inr ⟨by rfl, rfl⟩) (by assumption) ?rest4
    try simp only [List.getElem_toArray, List.getElem_cons_zero, List.getElem_cons_succ, Act.put, List.setIfInBounds_toArray, List.set_cons_zero, List.set_cons_succ]
    refine wpAnyH_take (i := 4) (oi := _) (v := undef) rfl (by kernel_rfl) (by kernel_rfl) (by kernel_rfl) (fun _ _ _ h => h) (Or.inr ⟨by rfl, rfl⟩) (by assumption) ?rest5
    try simp only [List.getElem_toArray, List.getElem_cons_zero, List.getElem_cons_succ, Act.put, List.setIfInBounds_toArray, List.set_cons_zero, List.set_cons_succ]
    refine wpAnyH_take (i := 5) (oi := _) (v := undef) rfl (by kernel_rfl) (by kernel_rfl) (by kernel_rfl) (fun _ _ _ h => h) (Or.inr ⟨by rfl, rfl⟩) (by assumption) ?rest6
    try simp only [List.getElem_toArray, List.getElem_cons_zero, List.getElem_cons_succ, Act.put, List.setIfInBounds_toArray, List.set_cons_zero, List.set_cons_succ]
    refine wpAnyH_take (i := 6) (oi := _) (v := undef) rfl (by kernel_rfl) (by kernel_rfl) (by kernel_rfl) (fun _ _ _ h => h) (Or.inr ⟨by rfl, rfl⟩) (by assumption) ?rest7
    try simp only [List.getElem_toArray, List.getElem_cons_zero, List.getElem_cons_succ, Act.put, List.setIfInBounds_toArray, List.set_cons_zero, List.set_cons_succ]
    refine wpAnyH_take (i := 7) (oi := _) (v := undef) rfl (by kernel_rfl) (by kernel_rfl) (by kernel_rfl) (fun _ _ _ h => h) (Or.inr ⟨by rfl, rfl⟩) (by assumption) ?rest8
    try simp only [List.getElem_toArray, List.getElem_cons_zero, List.getElem_cons_succ, Act.put, List.setIfInBounds_toArray, List.set_cons_zero, List.set_cons_succ]
    refine wpAnyH_take (i := 8) (oi := _) (v := undef) rfl (by kernel_rfl) (by kernel_rfl) (by kernel_rfl) (fun _ _ _ h => h) (Or.inr ⟨by rfl, rfl⟩) (by assumption) ?rest9
    try simp only [List.getElem_toArray, List.getElem_cons_zero, List.getElem_cons_succ, Act.put, List.setIfInBounds_toArray, List.set_cons_zero, List.set_cons_succ]
    refine wpAnyH_take (i := 9) (oi := _) (v := undef) rfl (by kernel_rfl) (by kernel_rfl) (by kernel_rfl) (fun _ _ _ h => h) (Or.inr ⟨by rfl, rfl⟩) (by assumption) ?rest10
    try simp only [List.getElem_toArray, List.getElem_cons_zero, List.getElem_cons_succ, Act.put, List.setIfInBounds_toArray, List.set_cons_zero, List.set_cons_succ]
    refine wpAnyH_take (i := 10) (oi := _) (v := undef) rfl (by kernel_rfl) (by kernel_rfl) (by kernel_rfl) (fun _ _ _ h => h) (Or.inr ⟨by rfl, rfl⟩) (by assumption) ?rest11
    try simp only [List.getElem_toArray, List.getElem_cons_zero, List.getElem_cons_succ, Act.put, List.setIfInBounds_toArray, List.set_cons_zero, List.set_cons_succ]
    refine wpAnyH_take (i := 11) (oi := _) (v := undef) rfl (by kernel_rfl) (by kernel_rfl) (by kernel_rfl) (fun _ _ _ h => h) (Or.inr ⟨by rfl, rfl⟩) (by assumption) ?rest12
    try simp only [List.getElem_toArray, List.getElem_cons_zero, List.getElem_cons_succ, Act.put, List.setIfInBounds_toArray, List.set_cons_zero, List.set_cons_succ]
    refine wpAnyH_take (i := 12) (oi := _) (v := undef) rfl (by kernel_rfl) (by kernel_rfl) (by kernel_rfl) (fun _ _ _ h => h) (Or.inr ⟨by rfl, rfl⟩) (by assumption) ?rest13
    try simp only [List.getElem_toArray, List.getElem_cons_zero, List.getElem_cons_succ, Act.put, List.setIfInBounds_toArray, List.set_cons_zero, List.set_cons_succ]
    refine wpAnyH_take (i := 13) (oi := _) (v := undef) rfl (by kernel_rfl) (by kernel_rfl) (by kernel_rfl) (fun _ _ _ h => h) (Or.inr ⟨by rfl, rfl⟩) (by assumption) ?rest14
    try simp only [List.getElem_toArray, List.getElem_cons_zero, List.getElem_cons_succ, Act.put, List.setIfInBounds_toArray, List.set_cons_zero, List.set_cons_succ]
    refine wpAnyH_take (i := 14) (oi := _) (v := undef) rfl (by kernel_rfl) (by kernel_rfl) (by kernel_rfl) (fun _ _ _ h => h) (Or.inr ⟨by rfl, rfl⟩) (by assumption) ?rest15
    try simp only [List.getElem_toArray, List.getElem_cons_zero, List.getElem_cons_succ, Act.put, List.setIfInBounds_toArray, List.set_cons_zero, List.set_cons_succ]
    refine wpAnyH_take (i := 15) (oi := _) (v := undef) rfl (by kernel_rfl) (by kernel_rfl) (by kernel_rfl) (fun _ _ _ h => h) (Or.inr ⟨by rfl, rfl⟩) (by assumption) ?rest16
    try simp only [List.getElem_toArray, List.getElem_cons_zero, List.getElem_cons_succ, Act.put, List.setIfInBounds_toArray, List.set_cons_zero, List.set_cons_succ]
    refine wpAnyH_take (i := 16) (oi := _) (v := undef) rfl (by kernel_rfl) (by kernel_rfl) (by kernel_rfl) (fun _ _ _ h => h) (Or.inr ⟨by rfl, rfl⟩) (by assumption) ?rest17
    try simp only [List.getElem_toArray, List.getElem_cons_zero, List.getElem_cons_succ, Act.put, List.setIfInBounds_toArray, List.set_cons_zero, List.set_cons_succ]
    refine wpAnyH_take (i := 17) (oi := _) (v := undef) rfl (by kernel_rfl) (by kernel_rfl) (by kernel_rfl) (fun _ _ _ h => h) (Or.inr ⟨by rfl, rfl⟩) (by assumption) ?rest18
    try simp only [List.getElem_toArray, List.getElem_cons_zero, List.getElem_cons_succ, Act.put, List.setIfInBounds_toArray, List.set_cons_zero, List.set_cons_succ]
    refine wpAnyH_take (i := 18) (oi := _) (v := undef) rfl (by kernel_rfl) (by kernel_rfl) (by kernel_rfl) (fun _ _ _ h => h) (Or.inr ⟨by rfl, rfl⟩) (by assumption) ?rest19
    try simp only [List.getElem_toArray, List.getElem_cons_zero, List.getElem_cons_succ, Act.put, List.setIfInBounds_toArray, List.set_cons_zero, List.set_cons_succ]
    refine wpAnyH_take (i := 19) (oi := _) (v := ?v20) rfl (by kernel_rfl) (by kernel_rfl) (by kernel_rfl) (fun _ _ _ h => h) (Or.inl ⟨by rfl, ?hy20⟩) (by assumption) ?rest20
    case hy20 => (intro w hSw; (try dsimp only at hSw); go_simp; try with_reducible rfl)
    try simp only [List.getElem_toArray, List.getElem_cons_zero, List.getElem_cons_succ, Act.put, List.setIfInBounds_toArray, List.set_cons_zero, List.set_cons_succ]
    refine wpAnyH_done (by kernel_rfl) ?_ _
    go_wp2_with fail
    go_ret
    exact ⟨by rw [HS.out]; rfl, hF1.drew⟩
  | some i =>
    obtain ⟨hil, hst⟩ := inO_lt hi
    have hu := hok.used i hil
    have hs : H.roomO n = if H.boxes[i].used + n ≤ H.sectors * 64 then some i else none := by unfold HotS.roomO; rw [hi]; simp [List.getD_eq_getElem?_getD, hil]
    have hsz : ∀ W, Calls Try.prog 26 #[confV H] W fun e w' => e = .returned (.int .i64 ((H.sectors * 64 : Nat) : Int)) ∧ Fr none_ W w' := fun W => size_any H hh.most.2 W
    have hm := hh.most.2
    have HS := Lib.hid hs
    have HII := Lib.hid hi
    have HSZ := Lib.hid hsz
    have hn0 : (0 : Int) ≤ (i : Int) := by omega
    have hn1 : (i : Int) < (H.boxes.length : Int) := by omega
    obtain ⟨u, hux⟩ : ∃ u, u = H.boxes[i].used := ⟨_, rfl⟩
    rw [← hux] at hu
    obtain ⟨z, hz⟩ : ∃ z, z = H.sectors * 64 := ⟨_, rfl⟩
    rw [← hz] at hu
    have HUX := Lib.hid hux
    have HZ := Lib.hid hz
    have hzz : z ≤ 65536 := by omega
    have hbx : ∀ W, Fr none_ w W → (W.cell? ⟨h, 1, none⟩ = some (.int .i64 H.first) ∧ W.cell? ⟨h, 2, none⟩ = some (.int .i64 (H.boxes.length : Int)) ∧ W.cell? ⟨h, 3, none⟩ = some (.int .i64 (H.sectors : Int)) ∧ W.cell? ⟨h, 4, none⟩ = some (.slice (some ⟨bx, 0, none⟩) H.boxes.length H.boxes.length)) ∧ W.cell? ⟨bx, i * 3 + 1, none⟩ = some (.int .i64 (u : Int)) := fun W hF => by
      have hh1 := hh.fr0 hF
      obtain ⟨c0, c1, c2, c3, c4⟩ := hh1.cellsAll
      obtain ⟨b0, b1, b2⟩ := box_cells hh1.bxs i hil
      exact ⟨⟨c1, c2, c3, c4⟩, by rw [b1, HUX.out]⟩
    have HBX := Lib.hid hbx
    clear hs hi hst hsz hux hz hbx hm
    go_enter Try.func33, Try.ntmps33
    go_wp2_with fail
    (with_reducible refine HI.out.mono ?_)
    rintro e w1 ⟨rfl, hF1⟩
    rw [HII.out, show optI (some i) = (i : Int) from rfl]
    have hs1 := HBX.out _ hF1.drew
    obtain ⟨d, hdd⟩ : ∃ d : Nat, z = u + d := ⟨z - u, by omega⟩
    have hwr : IntKind.i64.wrap ((z : Int) - (u : Int)) = (d : Int) := by rw [IntWalk.i64_in _ (by omega)]; omega
    have HD := Lib.hid hdd
    have HWR := Lib.hid hwr
    clear hdd hwr hzz hu
    by_cases hfit : n ≤ d
    all_goals
      go_wp2_with fail
      have hwr := HWR.out
      first
        | have hc2 : (n : Int) ≤ (d : Int) := by omega
        | have hc2 : ¬ (n : Int) ≤ (d : Int) := by omega
      go_region_held3 (fun W => (W.cell? ⟨h, 1, none⟩ = some (.int .i64 H.first) ∧ W.cell? ⟨h, 2, none⟩ = some (.int .i64 (H.boxes.length : Int)) ∧ W.cell? ⟨h, 3, none⟩ = some (.int .i64 (H.sectors : Int)) ∧ W.cell? ⟨h, 4, none⟩ = some (.slice (some ⟨bx, 0, none⟩) H.boxes.length H.boxes.length)) ∧ W.cell? ⟨bx, i * 3 + 1, none⟩ = some (.int .i64 (u : Int))) (first | exact hs1 | exact HBX.out _ (hF1.drew.trans hX)) (first
        | (go_at_call 26; (with_reducible refine (HSZ.out _).mono ?_); rintro e x1 ⟨rfl, hX⟩; rw [← HZ.out]))
      go_wp2_with fail
      go_ret
    · exact ⟨by rw [HS.out, ← HUX.out, ← HZ.out, if_pos (by have := HD.out; omega)]; rfl, hF1.drew.trans hX⟩
    · exact ⟨by rw [HS.out, ← HUX.out, ← HZ.out, if_neg (by have := HD.out; omega)]; rfl, hF1.drew.trans hX⟩
end Go.Proofs.Ytdlhndbgmldeaaa

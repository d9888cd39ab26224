import Derived.Test.YtffolfemcllfkaaGreatDoorRefDevM1
import Derived.Deep.RegionHeld3
namespace Go.Proofs.YtffolfemcllfkaaGreatDoor
open Go.RowKit
set_option linter.unusedVariables false
set_option linter.unusedSimpArgs false
set_option maxRecDepth 100000

/-! The document's device, walked: Write, that writes. -/
set_option maxHeartbeats 8000000 in
theorem ref_write_ok {w : World} {cs : Array Value} {R : RefD} (h : RDV w cs R) (k : Nat) (bb : List UInt8) (hk0 : k < R.now.length) (hE : R.readE (k : Int) = 0) (hl : bb.length ≤ 64) (ha : ¬ (R.armed = true ∧ R.left = 0)) : Calls Tryz.prog 9 #[.agg cs, .int .i64 (k : Int), strOf bb] w fun e w' => ∃ cs', e = .returned (.tuple #[.agg cs', .int .i64 0]) ∧ RDV w' cs' (R.write (k : Int) bb) ∧ Fr none_ w w' := by
  obtain ⟨⟨A1, c1, A2, c2, A3, c3, rfl, hrest⟩, l2, l3, m⟩ := id h
  obtain ⟨s, hs⟩ : ∃ s, s = (k : Int) := ⟨_, rfl⟩
  rw [← hs] at hE
  have HX := Lib.hid (hs ▸ hE)
  have HS := Lib.hid hs
  have HH := Lib.hid h
  have HNA := Lib.hid ha
  have HBB := Lib.hid hl
  have HLL := Lib.hid (And.intro l2 (And.intro l3 m))
  have HNP := Lib.hid (show 0 < R.now.length by omega)
  obtain ⟨n, hn⟩ : ∃ n, n = R.now.length := ⟨_, rfl⟩
  have HNN := Lib.hid hn
  have hk : k < n := by omega
  have hl2 : ¬ (64 : Int) < (bb.length : Int) := by omega
  have hl3 : bb.length ≤ 64 := hl
  have hblk : ∀ W, Calls Tryz.prog 47 #[.string ⟨bb.toArray⟩] W fun e w' => e = .returned (.string ⟨(padB bb).toArray⟩) ∧ Fr none_ W w' := fun W => ref_blank bb hl W
  have HBLK := Lib.hid hblk
  have i1 : (0 : Int) ≤ (k : Int) := by omega
  have i2 : (k : Int) < (n : Int) := by omega
  have hcase : R.armed = false ∨ (R.armed = true ∧ (R.left == 0) = false) := by
    cases hA : R.armed
    · exact .inl rfl
    · exact .inr ⟨rfl, by rw [beq_eq_false_iff_ne]; exact fun e => ha ⟨hA, e⟩⟩
  subst hs
  clear hrest l2 l3 h hl ha hE hn hk0 hblk m
  unfold strOf
  go_enter Tryz.func9, Tryz.ntmps9
  go_upto_region 1 with fail
  obtain ⟨V, hV, hF, hbp, hbq, hsz⟩ := two_alloc w #[.slice A1 R.now.length c1, .slice A2 R.now.length c2, .slice A3 R.now.length c3, .int .i64 R.writes, .bool R.armed, .int .i64 R.left, .bool R.crashed, .bool R.gone] #[.slice none 0 0, .slice none 0 0, .slice none 0 0, .int .i64 0, .bool false, .int .i64 0, .bool false, .bool false] 33
  rw [← hV]
  have HRV := Lib.hid (HH.out.fr0 hF)
  have HB := Lib.hid (And.intro hF (And.intro hbp hbq))
  have hVs : w.heap.size + 2 ≤ V.heap.size := by omega
  clear hV hF hbp hbq hsz
  go_upto_region 7 with (first | ((with_reducible refine at_load 33 (.tmp 3) (b := w.heap.size) ?_ HB.out.2.1 Tryz.underlying33 rfl (by kernel_rfl) ?_); (focus rfl)) | ((with_reducible refine (ref_read (R := R) HRV.out (k : Int)).mono ?_); rintro e w1 ⟨rfl, hF1⟩; rw [HX.out]; have HB1 := Lib.hid (And.intro (HB.out.1.trans hF1) (And.intro (hF1.heap0 HB.out.2.1) (hF1.heap0 HB.out.2.2))); have hs1 := hF1.size; have HR1 := Lib.hid (HRV.out.fr0 hF1); clear hF1) | ((with_reducible refine at_load 33 (.tmp 3) (b := w.heap.size) ?_ HB1.out.2.1 Tryz.underlying33 rfl (by kernel_rfl) ?_); (focus rfl)) | ((with_reducible refine (ref_twin (R := R) HR1.out).mono ?_); rintro e w2 ⟨cs2, rfl, hO, hF2⟩; obtain ⟨g1, d1, g2, d2, g3, d3, rfl, hRW⟩ := hO.rw HNP.out; rw [← HNN.out] at hRW ⊢; have HB2 := Lib.hid (And.intro (HB1.out.1.trans hF2) (And.intro (hF2.heap0 HB1.out.2.1) (And.intro (hF2.heap0 HB1.out.2.2) hRW))); have hs2 := hF2.size; clear hF2 hO hRW) | ((with_reducible refine at_store 33 (.tmp 3) (.tmp 27) (b := w.heap.size) (c' := #[.slice (some ⟨g1, 0, none⟩) n d1, .slice (some ⟨g2, 0, none⟩) n d2, .slice (some ⟨g3, 0, none⟩) n d3, .int .i64 R.writes, .bool R.armed, .int .i64 R.left, .bool R.crashed, .bool R.gone]) ?_ ?_ HB2.out.2.1 ?_ ?_ ?_ ?_); (focus rfl); (focus rfl); (focus rfl); (focus kernel_rfl); (focus (intro u hu; simp at hu; rcases hu with rfl | rfl | rfl | rfl | rfl | rfl | rfl | rfl <;> rfl)); intro w3 hFw3 hbw3; have HB3 := Lib.hid (And.intro (HB2.out.1.own hFw3 (Nat.le_refl _)) (And.intro hbw3 (And.intro (hFw3.heap HB2.out.2.2.1 (by omega)) (HB2.out.2.2.2.fr hFw3 (fun k h1 h2 e => by omega))))); have hs3 := hFw3.size; clear hFw3 hbw3))
  rcases hcase with ha | ⟨ha, h0⟩
  · have hbp3 := HB3.out.2.1
    have m4 : w3.cell? ⟨w.heap.size, 4, none⟩ = some (.bool R.armed) := by rw [cell_of_blk hbp3]; rfl
    have m5 : w3.cell? ⟨w.heap.size, 5, none⟩ = some (.int .i64 R.left) := by rw [cell_of_blk hbp3]; rfl
    have m3 : w3.cell? ⟨w.heap.size, 3, none⟩ = some (.int .i64 R.writes) := by rw [cell_of_blk hbp3]; rfl
    have mf := fun o => frozen_of_blk hbp3 o
    have n4 : w3.cell? ⟨w.heap.size, 4, none⟩ = some (.bool false) := by rw [m4, ha]
    clear hbp3
    go_upto_region 12 with fail
    obtain ⟨w5, hw5⟩ : ∃ w5, w5 = (w3.setCell ⟨w.heap.size, 5, none⟩ (.int .i64 (wrap64 (R.left - 1)))).setCell ⟨w.heap.size, 3, none⟩ (.int .i64 (wrap64 (R.writes + 1))) := ⟨_, rfl⟩
    have hF5 : Fr (fun i => i = w.heap.size) w3 w5 := by rw [hw5]; exact (Fr.set w3 w.heap.size 5 _).trans (Fr.set _ w.heap.size 3 _)
    have hp5 : w5.heap[w.heap.size]? = some (.cells #[.slice (some ⟨g1, 0, none⟩) n d1, .slice (some ⟨g2, 0, none⟩) n d2, .slice (some ⟨g3, 0, none⟩) n d3, .int .i64 (wrap64 (R.writes + 1)), .bool R.armed, .int .i64 (wrap64 (R.left - 1)), .bool R.crashed, .bool R.gone] 33 (0, 0)) := by rw [hw5]; exact heap_setCell_same (heap_setCell_same HB3.out.2.1 (o := 5) _) (o := 3) _
    have hO5 := HB3.out.2.2.2.fr hF5 (fun i h1 h2 e => by omega)
    have hge := hO5.ge
    have hst : ∀ W, (∃ S, Fr S w5 W ∧ ¬ S w.heap.size) → (W.cell? ⟨w.heap.size, 0, none⟩ = some (.slice (some ⟨g1, 0, none⟩) n d1) ∧ W.cell? ⟨w.heap.size, 2, none⟩ = some (.slice (some ⟨g3, 0, none⟩) n d3)) := fun W ⟨S, hW, hn⟩ => by
      have h1 := hW.heap hp5 hn
      exact ⟨by rw [cell_of_blk h1]; rfl, by rw [cell_of_blk h1]; rfl⟩
    have HST := Lib.hid hst
    have hs0 := hst w5.drew ⟨none_, (Fr.refl none_ w5).drew, fun h => h⟩
    have hs5 := hF5.size
    have HO5 := Lib.hid (And.intro (HB3.out.1.own hF5 (Nat.le_refl _)) (And.intro hp5 (And.intro (hF5.heap HB3.out.2.2.1 (by omega)) hO5)))
    rw [← hw5]
    clear hw5 hF5 hp5 hst m3 m4 m5 mf hO5
    refine wp_region_held_drew (S := fun W => (W.cell? ⟨w.heap.size, 0, none⟩ = some (.slice (some ⟨g1, 0, none⟩) n d1) ∧ W.cell? ⟨w.heap.size, 2, none⟩ = some (.slice (some ⟨g3, 0, none⟩) n d3))) (by kernel_rfl) hs0 (fun hHeld0 => ?_)
    refine wpAnyH_take (i := 0) (oi := _) (v := ?v1) rfl (by kernel_rfl) (by kernel_rfl) (by kernel_rfl) (fun _ _ _ h => h) (Or.inl ⟨by rfl, ?hy1⟩) (by assumption) ?rest1
    case hy1 => (intro w hSw; (try dsimp only at hSw); go_simp; try with_reducible rfl)
    try simp only [List.getElem_toArray, List.getElem_cons_zero, List.getElem_cons_succ, Act.put, List.setIfInBounds_toArray, List.set_cons_zero, List.set_cons_succ]
    refine wpAnyH_take (i := 1) (oi := _) (v := ?v2) rfl (by kernel_rfl) (by kernel_rfl) (by kernel_rfl) (fun _ _ _ h => h) (Or.inl ⟨by rfl, ?hy2⟩) (by assumption) ?rest2
    case hy2 => (intro w hSw; (try dsimp only at hSw); go_simp; try with_reducible rfl)
    try simp only [List.getElem_toArray, List.getElem_cons_zero, List.getElem_cons_succ, Act.put, List.setIfInBounds_toArray, List.set_cons_zero, List.set_cons_succ]
    refine wpAnyH_take (i := 2) (oi := _) (v := ?v3) rfl (by kernel_rfl) (by kernel_rfl) (by kernel_rfl) (fun _ _ _ h => h) (Or.inl ⟨by rfl, ?hy3⟩) (by assumption) ?rest3
    case hy3 => (intro w hSw; (try dsimp only at hSw); go_simp; try with_reducible rfl)
    try simp only [List.getElem_toArray, List.getElem_cons_zero, List.getElem_cons_succ, Act.put, List.setIfInBounds_toArray, List.set_cons_zero, List.set_cons_succ]
    refine wpAnyH_take (i := 3) (oi := _) (v := ?v4) rfl (by kernel_rfl) (by kernel_rfl) (by kernel_rfl) (fun _ _ _ h => h) (Or.inl ⟨by rfl, ?hy4⟩) (by assumption) ?rest4
    case hy4 => (intro w hSw; (try dsimp only at hSw); go_simp; try with_reducible rfl)
    try simp only [List.getElem_toArray, List.getElem_cons_zero, List.getElem_cons_succ, Act.put, List.setIfInBounds_toArray, List.set_cons_zero, List.set_cons_succ]
    refine wpAnyH_ready (rs := [4]) (by kernel_rfl) (by simp) ?_
    refine AllReadyH.cons (o := _) rfl (fun KK hKK => ?_) (AllReadyH.nil)
    go_simp
    (go_at_call 47; (with_reducible refine (HBLK.out _).mono ?_); rintro e x1 ⟨rfl, hX1⟩; have hX := (Fr.refl none_ w5).drew.trans hX1; have hsx := HST.out x1 ⟨none_, hX, fun h => h⟩; have hO6 := HO5.out.2.2.2.fr0 hX; obtain ⟨⟨⟨y1, hcl1⟩, hcl2⟩, _, _⟩ := hO6.cells k hk; have HX6 := Lib.hid (And.intro hX hO6); have hsy := HST.out (x1.setCell ⟨g1, k, none⟩ (.string ⟨(padB bb).toArray⟩)) ⟨fun i => i = g1, (Fr.of0 hX).trans (Fr.set x1 g1 k _), by omega⟩; clear hX hO6)
    go_wp2_with fail
    refine hKK.out _ _ ?hS5 (fun hHeld5 => ?rest5)
    case hS5 => first | exact hsx | exact hsy
    clear hKK KK
    try simp only [List.getElem_toArray, List.getElem_cons_zero, List.getElem_cons_succ, Act.put, List.setIfInBounds_toArray, List.set_cons_zero, List.set_cons_succ]
    refine wpAnyH_take (i := 5) (oi := _) (v := ?v6) rfl (by kernel_rfl) (by kernel_rfl) (by kernel_rfl) (fun _ _ _ h => h) (Or.inl ⟨by rfl, ?hy6⟩) (by assumption) ?rest6
    case hy6 => (intro w hSw; (try dsimp only at hSw); go_simp; try with_reducible rfl)
    try simp only [List.getElem_toArray, List.getElem_cons_zero, List.getElem_cons_succ, Act.put, List.setIfInBounds_toArray, List.set_cons_zero, List.set_cons_succ]
    refine wpAnyH_ready (rs := [6]) (by kernel_rfl) (by simp) ?_
    refine AllReadyH.cons (o := _) rfl (fun KK hKK => ?_) (AllReadyH.nil)
    go_simp
    refine hKK.out _ _ ?hS7 (fun hHeld7 => ?rest7)
    case hS7 => first | exact hsx | exact hsy
    clear hKK KK
    try simp only [List.getElem_toArray, List.getElem_cons_zero, List.getElem_cons_succ, Act.put, List.setIfInBounds_toArray, List.set_cons_zero, List.set_cons_succ]
    refine wpAnyH_done (by kernel_rfl) ?_ _
    obtain ⟨x2, hx2⟩ : ∃ x2, x2 = x1.setCell ⟨g1, k, none⟩ (.string ⟨(padB bb).toArray⟩) := ⟨_, rfl⟩
    have hF2x : Fr (fun i => i = g1) x1 x2 := by rw [hx2]; exact Fr.set x1 g1 k _
    have hO7 : RW x2 w1.heap.size n g1 d1 g2 d2 g3 d3 (R.now.set k (padB bb)) R.safe R.loose := by rw [hx2]; exact HX6.out.2.set1 k (padB bb)
    have hp7 := hF2x.heap (HX6.out.1.heap0 HO5.out.2.1) (by omega)
    have hq7 := hF2x.heap (HX6.out.1.heap0 HO5.out.2.2.1) (by omega)
    have hF07 := (HO5.out.1.trans HX6.out.1).own hF2x (by omega)
    rw [← hx2] at hsy
    obtain ⟨hsy1, hsy2⟩ := hsy
    obtain ⟨_, _, ⟨⟨y3, hcl5⟩, hcl6⟩⟩ := hO7.cells k hk
    rw [← hx2]
    clear hx2 hF2x hcl1 hcl2 hsx hs0
    go_upto_region 14 with fail
    obtain ⟨x3, hx3⟩ : ∃ x3, x3 = x2.setCell ⟨g3, k, none⟩ (.bool true) := ⟨_, rfl⟩
    have hF3x : Fr (fun i => i = g3) x2 x3 := by rw [hx3]; exact Fr.set x2 g3 k _
    have hO8 : RW x3 w1.heap.size n g1 d1 g2 d2 g3 d3 (R.now.set k (padB bb)) R.safe (R.loose.set k true) := by rw [hx3]; exact hO7.set3 k true
    have hp8 := hF3x.heap hp7 (by omega)
    have hq8 := hF3x.heap hq7 (by omega)
    have hF08 := hF07.own hF3x (by omega)
    rw [← hx3]
    clear hx3 hcl5 hcl6 hO7 hp7 hq7 hF07 hF3x hsy1 hsy2
    go_wp2_with (first | ((with_reducible refine at_load 33 (.tmp 3) (b := w.heap.size) ?_ hp8 Tryz.underlying33 rfl (by kernel_rfl) ?_); (focus rfl)) | ((with_reducible refine at_store 33 (.tmp 6) (.tmp 55) (b := (w.heap.size + 1)) (c' := #[.slice (some ⟨g1, 0, none⟩) n d1, .slice (some ⟨g2, 0, none⟩) n d2, .slice (some ⟨g3, 0, none⟩) n d3, .int .i64 (wrap64 (R.writes + 1)), .bool R.armed, .int .i64 (wrap64 (R.left - 1)), .bool R.crashed, .bool R.gone]) ?_ ?_ hq8 ?_ ?_ ?_ ?_); (focus rfl); (focus rfl); (focus rfl); (focus kernel_rfl); (focus (intro u hu; simp at hu; rcases hu with rfl | rfl | rfl | rfl | rfl | rfl | rfl | rfl <;> rfl)); intro w9 hFw9 hbw9; have HZ := Lib.hid (And.intro hFw9 hbw9); clear hFw9 hbw9))
    refine bodyPost_ret (res_write (b := w.heap.size + 1) HZ.out.2 rfl rfl rfl rfl rfl rfl rfl rfl rfl rfl) rfl ?_
    have hO9 := hO8.fr HZ.out.1 (fun i h1 h2 e => by omega)
    have hR : R.write (k : Int) bb = ⟨R.now.set k (padB bb), R.safe, R.loose.set k true, (wrap64 (R.writes + 1)), R.armed, (wrap64 (R.left - 1)), R.crashed, R.gone⟩ := by
      unfold RefD.write
      rw [if_neg (by rw [HX.out]; have := HBB.out; omega), if_neg HNA.out, Int.toNat_natCast]
    rw [hR]
    obtain ⟨hL2, hL3, hmo⟩ := HLL.out
    refine ⟨_, rfl, ?_, hF08.own HZ.out.1 (by omega)⟩
    have hV := RW.toV (R := ⟨R.now.set k (padB bb), R.safe, R.loose.set k true, (wrap64 (R.writes + 1)), R.armed, (wrap64 (R.left - 1)), R.crashed, R.gone⟩) (base := w1.heap.size) (g1 := g1) (d1 := d1) (g2 := g2) (d2 := d2) (g3 := g3) (d3 := d3) (w := w9) (by rw [List.length_set, ← HNN.out]; exact hO9) (by rw [List.length_set]; exact hL2) (by rw [List.length_set, List.length_set]; exact hL3) (by rw [List.length_set]; exact hmo)
    rw [show (⟨R.now.set k (padB bb), R.safe, R.loose.set k true, (wrap64 (R.writes + 1)), R.armed, (wrap64 (R.left - 1)), R.crashed, R.gone⟩ : RefD).now.length = n by rw [List.length_set, ← HNN.out]] at hV
    exact hV
  · have hbp3 := HB3.out.2.1
    have m4 : w3.cell? ⟨w.heap.size, 4, none⟩ = some (.bool R.armed) := by rw [cell_of_blk hbp3]; rfl
    have m5 : w3.cell? ⟨w.heap.size, 5, none⟩ = some (.int .i64 R.left) := by rw [cell_of_blk hbp3]; rfl
    have m3 : w3.cell? ⟨w.heap.size, 3, none⟩ = some (.int .i64 R.writes) := by rw [cell_of_blk hbp3]; rfl
    have mf := fun o => frozen_of_blk hbp3 o
    have n4 : w3.cell? ⟨w.heap.size, 4, none⟩ = some (.bool true) := by rw [m4, ha]
    clear hbp3
    go_upto_region 12 with fail
    obtain ⟨w5, hw5⟩ : ∃ w5, w5 = (w3.setCell ⟨w.heap.size, 5, none⟩ (.int .i64 (wrap64 (R.left - 1)))).setCell ⟨w.heap.size, 3, none⟩ (.int .i64 (wrap64 (R.writes + 1))) := ⟨_, rfl⟩
    have hF5 : Fr (fun i => i = w.heap.size) w3 w5 := by rw [hw5]; exact (Fr.set w3 w.heap.size 5 _).trans (Fr.set _ w.heap.size 3 _)
    have hp5 : w5.heap[w.heap.size]? = some (.cells #[.slice (some ⟨g1, 0, none⟩) n d1, .slice (some ⟨g2, 0, none⟩) n d2, .slice (some ⟨g3, 0, none⟩) n d3, .int .i64 (wrap64 (R.writes + 1)), .bool R.armed, .int .i64 (wrap64 (R.left - 1)), .bool R.crashed, .bool R.gone] 33 (0, 0)) := by rw [hw5]; exact heap_setCell_same (heap_setCell_same HB3.out.2.1 (o := 5) _) (o := 3) _
    have hO5 := HB3.out.2.2.2.fr hF5 (fun i h1 h2 e => by omega)
    have hge := hO5.ge
    have hst : ∀ W, (∃ S, Fr S w5 W ∧ ¬ S w.heap.size) → (W.cell? ⟨w.heap.size, 0, none⟩ = some (.slice (some ⟨g1, 0, none⟩) n d1) ∧ W.cell? ⟨w.heap.size, 2, none⟩ = some (.slice (some ⟨g3, 0, none⟩) n d3)) := fun W ⟨S, hW, hn⟩ => by
      have h1 := hW.heap hp5 hn
      exact ⟨by rw [cell_of_blk h1]; rfl, by rw [cell_of_blk h1]; rfl⟩
    have HST := Lib.hid hst
    have hs0 := hst w5.drew ⟨none_, (Fr.refl none_ w5).drew, fun h => h⟩
    have hs5 := hF5.size
    have HO5 := Lib.hid (And.intro (HB3.out.1.own hF5 (Nat.le_refl _)) (And.intro hp5 (And.intro (hF5.heap HB3.out.2.2.1 (by omega)) hO5)))
    rw [← hw5]
    clear hw5 hF5 hp5 hst m3 m4 m5 mf hO5
    refine wp_region_held_drew (S := fun W => (W.cell? ⟨w.heap.size, 0, none⟩ = some (.slice (some ⟨g1, 0, none⟩) n d1) ∧ W.cell? ⟨w.heap.size, 2, none⟩ = some (.slice (some ⟨g3, 0, none⟩) n d3))) (by kernel_rfl) hs0 (fun hHeld0 => ?_)
    refine wpAnyH_take (i := 0) (oi := _) (v := ?vb1) rfl (by kernel_rfl) (by kernel_rfl) (by kernel_rfl) (fun _ _ _ h => h) (Or.inl ⟨by rfl, ?hyb1⟩) (by assumption) ?restb1
    case hyb1 => (intro w hSw; (try dsimp only at hSw); go_simp; try with_reducible rfl)
    try simp only [List.getElem_toArray, List.getElem_cons_zero, List.getElem_cons_succ, Act.put, List.setIfInBounds_toArray, List.set_cons_zero, List.set_cons_succ]
    refine wpAnyH_take (i := 1) (oi := _) (v := ?vb2) rfl (by kernel_rfl) (by kernel_rfl) (by kernel_rfl) (fun _ _ _ h => h) (Or.inl ⟨by rfl, ?hyb2⟩) (by assumption) ?restb2
    case hyb2 => (intro w hSw; (try dsimp only at hSw); go_simp; try with_reducible rfl)
    try simp only [List.getElem_toArray, List.getElem_cons_zero, List.getElem_cons_succ, Act.put, List.setIfInBounds_toArray, List.set_cons_zero, List.set_cons_succ]
    refine wpAnyH_take (i := 2) (oi := _) (v := ?vb3) rfl (by kernel_rfl) (by kernel_rfl) (by kernel_rfl) (fun _ _ _ h => h) (Or.inl ⟨by rfl, ?hyb3⟩) (by assumption) ?restb3
    case hyb3 => (intro w hSw; (try dsimp only at hSw); go_simp; try with_reducible rfl)
    try simp only [List.getElem_toArray, List.getElem_cons_zero, List.getElem_cons_succ, Act.put, List.setIfInBounds_toArray, List.set_cons_zero, List.set_cons_succ]
    refine wpAnyH_take (i := 3) (oi := _) (v := ?vb4) rfl (by kernel_rfl) (by kernel_rfl) (by kernel_rfl) (fun _ _ _ h => h) (Or.inl ⟨by rfl, ?hyb4⟩) (by assumption) ?restb4
    case hyb4 => (intro w hSw; (try dsimp only at hSw); go_simp; try with_reducible rfl)
    try simp only [List.getElem_toArray, List.getElem_cons_zero, List.getElem_cons_succ, Act.put, List.setIfInBounds_toArray, List.set_cons_zero, List.set_cons_succ]
    refine wpAnyH_ready (rs := [4]) (by kernel_rfl) (by simp) ?_
    refine AllReadyH.cons (o := _) rfl (fun KK hKK => ?_) (AllReadyH.nil)
    go_simp
    (go_at_call 47; (with_reducible refine (HBLK.out _).mono ?_); rintro e x1 ⟨rfl, hX1⟩; have hX := (Fr.refl none_ w5).drew.trans hX1; have hsx := HST.out x1 ⟨none_, hX, fun h => h⟩; have hO6 := HO5.out.2.2.2.fr0 hX; obtain ⟨⟨⟨y1, hcl1⟩, hcl2⟩, _, _⟩ := hO6.cells k hk; have HX6 := Lib.hid (And.intro hX hO6); have hsy := HST.out (x1.setCell ⟨g1, k, none⟩ (.string ⟨(padB bb).toArray⟩)) ⟨fun i => i = g1, (Fr.of0 hX).trans (Fr.set x1 g1 k _), by omega⟩; clear hX hO6)
    go_wp2_with fail
    refine hKK.out _ _ ?hSb5 (fun hHeldb5 => ?restb5)
    case hSb5 => first | exact hsx | exact hsy
    clear hKK KK
    try simp only [List.getElem_toArray, List.getElem_cons_zero, List.getElem_cons_succ, Act.put, List.setIfInBounds_toArray, List.set_cons_zero, List.set_cons_succ]
    refine wpAnyH_take (i := 5) (oi := _) (v := ?vb6) rfl (by kernel_rfl) (by kernel_rfl) (by kernel_rfl) (fun _ _ _ h => h) (Or.inl ⟨by rfl, ?hyb6⟩) (by assumption) ?restb6
    case hyb6 => (intro w hSw; (try dsimp only at hSw); go_simp; try with_reducible rfl)
    try simp only [List.getElem_toArray, List.getElem_cons_zero, List.getElem_cons_succ, Act.put, List.setIfInBounds_toArray, List.set_cons_zero, List.set_cons_succ]
    refine wpAnyH_ready (rs := [6]) (by kernel_rfl) (by simp) ?_
    refine AllReadyH.cons (o := _) rfl (fun KK hKK => ?_) (AllReadyH.nil)
    go_simp
    refine hKK.out _ _ ?hSb7 (fun hHeldb7 => ?restb7)
    case hSb7 => first | exact hsx | exact hsy
    clear hKK KK
    try simp only [List.getElem_toArray, List.getElem_cons_zero, List.getElem_cons_succ, Act.put, List.setIfInBounds_toArray, List.set_cons_zero, List.set_cons_succ]
    refine wpAnyH_done (by kernel_rfl) ?_ _
    obtain ⟨x2, hx2⟩ : ∃ x2, x2 = x1.setCell ⟨g1, k, none⟩ (.string ⟨(padB bb).toArray⟩) := ⟨_, rfl⟩
    have hF2x : Fr (fun i => i = g1) x1 x2 := by rw [hx2]; exact Fr.set x1 g1 k _
    have hO7 : RW x2 w1.heap.size n g1 d1 g2 d2 g3 d3 (R.now.set k (padB bb)) R.safe R.loose := by rw [hx2]; exact HX6.out.2.set1 k (padB bb)
    have hp7 := hF2x.heap (HX6.out.1.heap0 HO5.out.2.1) (by omega)
    have hq7 := hF2x.heap (HX6.out.1.heap0 HO5.out.2.2.1) (by omega)
    have hF07 := (HO5.out.1.trans HX6.out.1).own hF2x (by omega)
    rw [← hx2] at hsy
    obtain ⟨hsy1, hsy2⟩ := hsy
    obtain ⟨_, _, ⟨⟨y3, hcl5⟩, hcl6⟩⟩ := hO7.cells k hk
    rw [← hx2]
    clear hx2 hF2x hcl1 hcl2 hsx hs0
    go_upto_region 14 with fail
    obtain ⟨x3, hx3⟩ : ∃ x3, x3 = x2.setCell ⟨g3, k, none⟩ (.bool true) := ⟨_, rfl⟩
    have hF3x : Fr (fun i => i = g3) x2 x3 := by rw [hx3]; exact Fr.set x2 g3 k _
    have hO8 : RW x3 w1.heap.size n g1 d1 g2 d2 g3 d3 (R.now.set k (padB bb)) R.safe (R.loose.set k true) := by rw [hx3]; exact hO7.set3 k true
    have hp8 := hF3x.heap hp7 (by omega)
    have hq8 := hF3x.heap hq7 (by omega)
    have hF08 := hF07.own hF3x (by omega)
    rw [← hx3]
    clear hx3 hcl5 hcl6 hO7 hp7 hq7 hF07 hF3x hsy1 hsy2
    go_wp2_with (first | ((with_reducible refine at_load 33 (.tmp 3) (b := w.heap.size) ?_ hp8 Tryz.underlying33 rfl (by kernel_rfl) ?_); (focus rfl)) | ((with_reducible refine at_store 33 (.tmp 6) (.tmp 55) (b := (w.heap.size + 1)) (c' := #[.slice (some ⟨g1, 0, none⟩) n d1, .slice (some ⟨g2, 0, none⟩) n d2, .slice (some ⟨g3, 0, none⟩) n d3, .int .i64 (wrap64 (R.writes + 1)), .bool R.armed, .int .i64 (wrap64 (R.left - 1)), .bool R.crashed, .bool R.gone]) ?_ ?_ hq8 ?_ ?_ ?_ ?_); (focus rfl); (focus rfl); (focus rfl); (focus kernel_rfl); (focus (intro u hu; simp at hu; rcases hu with rfl | rfl | rfl | rfl | rfl | rfl | rfl | rfl <;> rfl)); intro w9 hFw9 hbw9; have HZ := Lib.hid (And.intro hFw9 hbw9); clear hFw9 hbw9))
    refine bodyPost_ret (res_write (b := w.heap.size + 1) HZ.out.2 rfl rfl rfl rfl rfl rfl rfl rfl rfl rfl) rfl ?_
    have hO9 := hO8.fr HZ.out.1 (fun i h1 h2 e => by omega)
    have hR : R.write (k : Int) bb = ⟨R.now.set k (padB bb), R.safe, R.loose.set k true, (wrap64 (R.writes + 1)), R.armed, (wrap64 (R.left - 1)), R.crashed, R.gone⟩ := by
      unfold RefD.write
      rw [if_neg (by rw [HX.out]; have := HBB.out; omega), if_neg HNA.out, Int.toNat_natCast]
    rw [hR]
    obtain ⟨hL2, hL3, hmo⟩ := HLL.out
    refine ⟨_, rfl, ?_, hF08.own HZ.out.1 (by omega)⟩
    have hV := RW.toV (R := ⟨R.now.set k (padB bb), R.safe, R.loose.set k true, (wrap64 (R.writes + 1)), R.armed, (wrap64 (R.left - 1)), R.crashed, R.gone⟩) (base := w1.heap.size) (g1 := g1) (d1 := d1) (g2 := g2) (d2 := d2) (g3 := g3) (d3 := d3) (w := w9) (by rw [List.length_set, ← HNN.out]; exact hO9) (by rw [List.length_set]; exact hL2) (by rw [List.length_set, List.length_set]; exact hL3) (by rw [List.length_set]; exact hmo)
    rw [show (⟨R.now.set k (padB bb), R.safe, R.loose.set k true, (wrap64 (R.writes + 1)), R.armed, (wrap64 (R.left - 1)), R.crashed, R.gone⟩ : RefD).now.length = n by rw [List.length_set, ← HNN.out]] at hV
    exact hV
end Go.Proofs.YtffolfemcllfkaaGreatDoor

import Derived.Test.YtjfeibbghhjjeaaDoorRefNumM
import Derived.Test.YtjfeibbghhjjeaaDoorRefDevM
import Derived.Test.YtjfeibbghhjjeaaDoorHNewBad
import Derived.Test.YtjfeibbghhjjeaaDoorStepSt
namespace Go.Proofs.YtjfeibbghhjjeaaDoor
open Go.RowKit
set_option linter.unusedVariables false
set_option linter.unusedSimpArgs false
set_option maxRecDepth 100000

/-! The document's boxes: New. -/
theorem madeN0 : Made 0 := by unfold Made; kernel_rfl
theorem madeN1 : Made 1 := by unfold Made; kernel_rfl
theorem madeN2 : Made 2 := by unfold Made; kernel_rfl
theorem madeN3 : Made 3 := by unfold Made; kernel_rfl
theorem madeN4 : Made 4 := by unfold Made; kernel_rfl
theorem madeN5 : Made 5 := by unfold Made; kernel_rfl
theorem madeN6 : Made 6 := by unfold Made; kernel_rfl
theorem madeN7 : Made 7 := by unfold Made; kernel_rfl
theorem madeN8 : Made 8 := by unfold Made; kernel_rfl
theorem madeN9 : Made 9 := by unfold Made; kernel_rfl
theorem madeN10 : Made 10 := by unfold Made; kernel_rfl
theorem madeN11 : Made 11 := by unfold Made; kernel_rfl
theorem madeN12 : Made 12 := by unfold Made; kernel_rfl
theorem made_le (n : Nat) (hn : n ≤ 12) : Made n := by
  have : n = 0 ∨ n = 1 ∨ n = 2 ∨ n = 3 ∨ n = 4 ∨ n = 5 ∨ n = 6 ∨ n = 7 ∨ n = 8 ∨ n = 9 ∨ n = 10 ∨ n = 11 ∨ n = 12 := by omega
  rcases this with rfl | rfl | rfl | rfl | rfl | rfl | rfl | rfl | rfl | rfl | rfl | rfl | rfl
  · exact madeN0
  · exact madeN1
  · exact madeN2
  · exact madeN3
  · exact madeN4
  · exact madeN5
  · exact madeN6
  · exact madeN7
  · exact madeN8
  · exact madeN9
  · exact madeN10
  · exact madeN11
  · exact madeN12
theorem info_box17 : (Tryd.prog.info? 81).map (fun i => (i.zero, i.size, i.bytes)) = some (some (.agg #[.int .i64 0, .int .i64 0, .int .i64 0]), 3, 24) := by kernel_rfl
theorem mk_boxes17 (n : Nat) (hn : n ≤ 1024) (hm : Made n) (w : World) : (Instr.makeSlice 40 (.int .i64 (n : Int)) (.int .i64 (n : Int))).run Tryd.prog w = .ok (.slice (some ⟨w.heap.size, 0, none⟩) n n) (w.alloc (.cells ((List.replicate n freeB).flatMap boxC).toArray 81)) := by
  obtain ⟨i, hi, hzz⟩ := Option.map_eq_some_iff.1 info_box17
  simp only [Prod.mk.injEq] at hzz
  obtain ⟨hz, hs, hb⟩ := hzz
  have h := run_make (P := Tryd.prog) w 40 81 i _ Tryd.underlying40 hi hz .i64 .i64 (n : Int) (n : Int) (by omega) (by omega) (by rw [hb]; omega) (by omega)
  rw [Int.toNat_natCast, hs] at h
  rw [← hm]
  exact h
theorem res_hot {f : Func} {W : World} {b i j : Nat} {v0 v1 v2 v3 er : Value} {T : TypeId} {F : Nat × Nat} {tmps : Array Value} (hr : f.results = #[.cell i 42, .tmp j]) (h : W.heap[b]? = some (.cells #[v0, v1, v2, v3] T F)) (t6 : tmps[i]?.getD undef = ptr b) (t7 : tmps[j]?.getD undef = er) :
    (results f tmps).run Tryd.prog W = .ok (.tuple #[.agg #[v0, v1, v2, v3], er]) W := by
  have c0 : W.cell? ⟨b, 0, none⟩ = some v0 := by rw [cell_of_blk h]; rfl
  have c1 : W.cell? ⟨b, 1, none⟩ = some v1 := by rw [cell_of_blk h]; rfl
  have c2 : W.cell? ⟨b, 2, none⟩ = some v2 := by rw [cell_of_blk h]; rfl
  have c3 : W.cell? ⟨b, 3, none⟩ = some v3 := by rw [cell_of_blk h]; rfl
  simp [results, hr, go_sem, t6, t7, c0, c1, c2, c3]
theorem heap_3rd (w : World) (o1 o2 : Obj) (c : Array Value) (T : TypeId) : (((w.alloc o1).alloc o2).alloc (.cells c T)).heap[w.heap.size + 2]? = some (.cells c T (0, 0)) := by
  have h2 := heap_alloc_new ((w.alloc o1).alloc o2) (.cells c T)
  rw [World.size_alloc, World.size_alloc] at h2; exact h2
/-- no boxes -/
abbrev noHot : Value := .agg #[.int .i64 0, .int .i64 0, .int .i64 0, .slice none 0 0]
set_option maxHeartbeats 8000000 in
theorem rnew17_bad {w : World} {cs : Array Value} {R : RefD} (hd : RDV w cs R) (f n s : Int) (hb : confBad R.now.length f n s) :
    Calls Tryd.prog 20 #[.agg cs, .agg #[.int .i64 f, .int .i64 n, .int .i64 s]] w fun e w' => e = .returned (.tuple #[noHot, .int .i64 1]) ∧ Fr none_ w w' := by
  obtain ⟨⟨A1, c1, A2, c2, A3, c3, rfl, _⟩, _, _, m⟩ := hd
  by_cases h1 : f < 0
  · clear hb
    go_enter Tryd.func20, Tryd.ntmps20
    go_wp2_with fail
    refine bodyPost_ret (res_hot Tryd.results20 (heap_3rd _ _ _ _ _) rfl rfl) rfl ?_
    exact ⟨rfl, (((Fr.refl _ _).alloc _).alloc _).alloc _⟩
  · by_cases h2 : n < 1
    · clear hb
      go_enter Tryd.func20, Tryd.ntmps20
      go_wp2_with fail
      refine bodyPost_ret (res_hot Tryd.results20 (heap_3rd _ _ _ _ _) rfl rfl) rfl ?_
      exact ⟨rfl, (((Fr.refl _ _).alloc _).alloc _).alloc _⟩
    · by_cases h3 : 1024 < n
      · clear hb
        go_enter Tryd.func20, Tryd.ntmps20
        go_wp2_with fail
        refine bodyPost_ret (res_hot Tryd.results20 (heap_3rd _ _ _ _ _) rfl rfl) rfl ?_
        exact ⟨rfl, (((Fr.refl _ _).alloc _).alloc _).alloc _⟩
      · by_cases h4 : s < 1
        · clear hb
          go_enter Tryd.func20, Tryd.ntmps20
          go_wp2_with fail
          refine bodyPost_ret (res_hot Tryd.results20 (heap_3rd _ _ _ _ _) rfl rfl) rfl ?_
          exact ⟨rfl, (((Fr.refl _ _).alloc _).alloc _).alloc _⟩
        · by_cases h5 : 1024 < s
          · clear hb
            go_enter Tryd.func20, Tryd.ntmps20
            go_wp2_with fail
            refine bodyPost_ret (res_hot Tryd.results20 (heap_3rd _ _ _ _ _) rfl rfl) rfl ?_
            exact ⟨rfl, (((Fr.refl _ _).alloc _).alloc _).alloc _⟩
          · have hns0 : 0 ≤ n * s := Int.mul_nonneg (by omega) (by omega)
            have hns1 : n * s ≤ 1024 * 1024 := Int.mul_le_mul (by omega) (by omega) (by omega) (by omega)
            have h6 : wrap64 ((R.now.length : Int) - wrap64 (n * s)) < f := by
              rw [IntWalk.wrap64_in (n * s) (by omega), IntWalk.wrap64_in _ (by omega)]
              rcases hb with h | h | h | h | h | h <;> omega
            clear hb hns0 hns1
            go_enter Tryd.func20, Tryd.ntmps20
            go_wp2_with fail
            refine bodyPost_ret (res_hot Tryd.results20 (heap_3rd _ _ _ _ _) rfl rfl) rfl ?_
            exact ⟨rfl, (((Fr.refl _ _).alloc _).alloc _).alloc _⟩
/-- the document's boxes in memory -/
structure RHot (w : World) (v : Value) (b : Nat) (H : HotS) : Prop where
  rep : v = .agg #[.int .i64 H.first, .int .i64 (H.boxes.length : Int), .int .i64 (H.sectors : Int), .slice (some ⟨b, 0, none⟩) H.boxes.length H.boxes.length]
  blk : w.heap[b]? = some (.cells (H.boxes.flatMap boxC).toArray 81 (0, 0))
def RHNew (w : World) (H : HotS) (e : Ending) (w' : World) : Prop := ∃ v b, e = .returned (.tuple #[v, .int .i64 0]) ∧ RHot w' v b H ∧ w.heap.size ≤ b ∧ Fr none_ w w'
set_option maxHeartbeats 8000000 in
theorem rnew17_ok {w : World} {cs : Array Value} {R : RefD} (hd : RDV w cs R) (f : Int) (n s : Nat) (hf : 0 ≤ f) (hn : 1 ≤ n ∧ n ≤ 1024) (hs : 1 ≤ s ∧ s ≤ 1024) (hfit : f + (n * s : Nat) ≤ R.now.length) (hm : Made n) :
    Calls Tryd.prog 20 #[.agg cs, .agg #[.int .i64 f, .int .i64 (n : Int), .int .i64 (s : Int)]] w fun e w' => RHNew w (newH f n s) e w' := by
  obtain ⟨⟨A1, c1, A2, c2, A3, c3, rfl, _⟩, _, _, m⟩ := hd
  have hns : (n : Int) * (s : Int) = ((n * s : Nat) : Int) := by simp
  have n2 : ¬ wrap64 ((R.now.length : Int) - wrap64 ((n : Int) * (s : Int))) < f := by rw [hns, IntWalk.wrap64_in ((n * s : Nat) : Int) (by omega), IntWalk.wrap64_in _ (by omega)]; omega
  have n1 : ¬ f < 0 := by omega
  have n3 : ¬ (n : Int) < 1 := by omega
  have n4 : ¬ (1024 : Int) < (n : Int) := by omega
  have n5 : ¬ (s : Int) < 1 := by omega
  have n6 : ¬ (1024 : Int) < (s : Int) := by omega
  have n7 : ¬ 1024 < n := by omega
  have n8 : ¬ 1024 < s := by omega
  have kmk := mk_boxes17 n hn.2 hm
  have HMK := Lib.hid kmk
  have HFIT := Lib.hid hfit
  clear hns kmk hfit hm
  go_enter Tryd.func20, Tryd.ntmps20
  go_upto_region 3 with fail
  obtain ⟨V, hV⟩ : ∃ V, V = ((w.alloc (.cells #[.slice A1 R.now.length c1, .slice A2 R.now.length c2, .slice A3 R.now.length c3, .int .i64 R.writes, .bool R.armed, .int .i64 R.left, .bool R.crashed, .bool R.gone] 33)).alloc (.cells #[.int .i64 f, .int .i64 (n : Int), .int .i64 (s : Int)] 23)).alloc (.cells #[.int .i64 0, .int .i64 0, .int .i64 0, .slice none 0 0] 42) := ⟨_, rfl⟩
  have hFV : Fr none_ w V := by rw [hV]; exact (((Fr.refl _ _).alloc _).alloc _).alloc _
  have hbc : V.heap[w.heap.size + 1]? = some (.cells #[.int .i64 f, .int .i64 (n : Int), .int .i64 (s : Int)] 23 (0, 0)) := by rw [hV]; exact ((Fr.refl none_ ((w.alloc (.cells #[.slice A1 R.now.length c1, .slice A2 R.now.length c2, .slice A3 R.now.length c3, .int .i64 R.writes, .bool R.armed, .int .i64 R.left, .bool R.crashed, .bool R.gone] 33)).alloc (.cells #[.int .i64 f, .int .i64 (n : Int), .int .i64 (s : Int)] 23))).alloc (.cells #[.int .i64 0, .int .i64 0, .int .i64 0, .slice none 0 0] 42)).heap0 (heap_2nd _ _ _ _)
  have hbr : V.heap[w.heap.size + 2]? = some (.cells #[.int .i64 0, .int .i64 0, .int .i64 0, .slice none 0 0] 42 (0, 0)) := by rw [hV]; exact heap_3rd _ _ _ _ _
  rw [← hV]
  clear hV
  have hlr := blk_lt hbr
  obtain ⟨r, hr⟩ : ∃ r, r = w.heap.size + 2 := ⟨_, rfl⟩
  have hst : ∀ wx, (∃ S, Fr S V wx ∧ ¬ S (w.heap.size + 1)) → (wx.cell? ⟨w.heap.size + 1, 0, none⟩ = some (.int .i64 f) ∧ wx.cell? ⟨w.heap.size + 1, 1, none⟩ = some (.int .i64 (n : Int)) ∧ wx.cell? ⟨w.heap.size + 1, 2, none⟩ = some (.int .i64 (s : Int))) := fun wx ⟨S, hX, hnS⟩ => by
    have := hX.heap hbc hnS
    exact ⟨by rw [cell_of_blk this]; rfl, by rw [cell_of_blk this]; rfl, by rw [cell_of_blk this]; rfl⟩
  have HST := Lib.hid hst
  obtain ⟨X, hX⟩ : ∃ X, X = V.drew.alloc (.cells ((List.replicate n freeB).flatMap boxC).toArray 81) := ⟨_, rfl⟩
  have hFX : Fr none_ V X := by rw [hX]; exact (Fr.refl none_ V).drew.alloc _
  have hbX : X.heap[w.heap.size + 2]? = some (.cells #[.int .i64 0, .int .i64 0, .int .i64 0, .slice none 0 0] 42 (0, 0)) := hFX.heap0 hbr
  have x0 : X.cell? ⟨w.heap.size + 2, 0, none⟩ = some (.int .i64 0) := by rw [cell_of_blk hbX]; rfl
  have x1 : X.cell? ⟨w.heap.size + 2, 1, none⟩ = some (.int .i64 0) := by rw [cell_of_blk hbX]; rfl
  have x2 : X.cell? ⟨w.heap.size + 2, 2, none⟩ = some (.int .i64 0) := by rw [cell_of_blk hbX]; rfl
  have x3 : X.cell? ⟨w.heap.size + 2, 3, none⟩ = some (.slice none 0 0) := by rw [cell_of_blk hbX]; rfl
  have xf := fun o => frozen_of_blk hbX o
  have hbB : X.heap[V.heap.size]? = some (.cells ((List.replicate n freeB).flatMap boxC).toArray 81 (0, 0)) := by rw [hX]; exact heap_alloc_new V.drew _
  have hbx := hbX
  rw [hX] at hbx
  clear x0 x1 x2 x3 xf
  have HXX := Lib.hid (And.intro hX (And.intro hFX (And.intro hbX hbB)))
  have HFV := Lib.hid hFV
  have hs1 := hst V.drew ⟨none_, (Fr.refl none_ V).drew, fun h => h⟩
  have hs2 := hst (V.drew.alloc (.cells ((List.replicate n freeB).flatMap boxC).toArray 81)) ⟨none_, (Fr.refl none_ V).drew.alloc _, fun h => h⟩
  have kmk := HMK.out
  clear hX hFX hbX hbB hFV hst hr
  refine wp_region_held_drew (S := fun W => W.cell? ⟨w.heap.size + 1, 0, none⟩ = some (.int .i64 f) ∧ W.cell? ⟨w.heap.size + 1, 1, none⟩ = some (.int .i64 (n : Int)) ∧ W.cell? ⟨w.heap.size + 1, 2, none⟩ = some (.int .i64 (s : Int))) (by kernel_rfl) hs1 (fun hHeld0 => ?_)
  refine wpAnyH_take (i := 0) (oi := _) (v := ?v1) rfl (by kernel_rfl) (by kernel_rfl) (by kernel_rfl) (fun _ _ _ h => h) (Or.inl ⟨by rfl, ?hy1⟩) (by assumption) ?rest1
  case hy1 => (intro w hSw; (try dsimp only at hSw); go_simp; try with_reducible rfl)
  try simp only [List.getElem_toArray, List.getElem_cons_zero, List.getElem_cons_succ, Act.put, List.setIfInBounds_toArray, List.set_cons_zero, List.set_cons_succ]
  refine wpAnyH_take (i := 1) (oi := _) (v := ?v2) rfl (by kernel_rfl) (by kernel_rfl) (by kernel_rfl) (fun _ _ _ h => h) (Or.inl ⟨by rfl, ?hy2⟩) (by assumption) ?rest2
  case hy2 => (intro w hSw; (try dsimp only at hSw); go_simp; try with_reducible rfl)
  try simp only [List.getElem_toArray, List.getElem_cons_zero, List.getElem_cons_succ, Act.put, List.setIfInBounds_toArray, List.set_cons_zero, List.set_cons_succ]
  refine wpAnyH_take (i := 2) (oi := _) (v := ?v3) rfl (by kernel_rfl) (by kernel_rfl) (by kernel_rfl) (fun _ _ _ h => h) (Or.inl ⟨by rfl, ?hy3⟩) (by assumption) ?rest3
  case hy3 => (intro w hSw; (try dsimp only at hSw); go_simp; try with_reducible rfl)
  try simp only [List.getElem_toArray, List.getElem_cons_zero, List.getElem_cons_succ, Act.put, List.setIfInBounds_toArray, List.set_cons_zero, List.set_cons_succ]
  refine wpAnyH_ready (rs := [3]) (by kernel_rfl) (by simp) ?_
  refine AllReadyH.cons (o := _) rfl (fun KK hKK => ?_) (AllReadyH.nil)
  go_simp
  refine hKK.out _ _ ?hS4 (fun hHeld4 => ?rest4)
  case hS4 => first | exact hs2 | exact hs5
  clear hKK KK
  try simp only [List.getElem_toArray, List.getElem_cons_zero, List.getElem_cons_succ, Act.put, List.setIfInBounds_toArray, List.set_cons_zero, List.set_cons_succ]
  refine wpAnyH_take (i := 4) (oi := _) (v := ?v5) rfl (by kernel_rfl) (by kernel_rfl) (by kernel_rfl) (fun _ _ _ h => h) (Or.inl ⟨by rfl, ?hy5⟩) (by assumption) ?rest5
  case hy5 => (intro w hSw; (try dsimp only at hSw); go_simp; try with_reducible rfl)
  try simp only [List.getElem_toArray, List.getElem_cons_zero, List.getElem_cons_succ, Act.put, List.setIfInBounds_toArray, List.set_cons_zero, List.set_cons_succ]
  refine wpAnyH_ready (rs := [5]) (by kernel_rfl) (by simp) ?_
  refine AllReadyH.cons (o := _) rfl (fun KK hKK => ?_) (AllReadyH.nil)
  (refine step_store_blk (by rfl) 42 _ _ (by rfl) (b := w.heap.size + 2) (c' := #[.int .i64 f, .int .i64 (n : Int), .int .i64 (s : Int), .slice (some ⟨V.heap.size, 0, none⟩) n n]) (by rfl) (by rfl) hbx (by rfl) (by kernel_rfl) (by intro u hu; simp at hu; rcases hu with rfl | rfl | rfl | rfl <;> rfl) ?_; intro x5 hF5 hb5; have hs5 := HST.out x5 ⟨fun i => i = w.heap.size + 2, (Fr.of0 ((Fr.refl none_ V).drew.alloc _)).trans hF5, by omega⟩)
  refine hKK.out _ _ ?hS6 (fun hHeld6 => ?rest6)
  case hS6 => first | exact hs2 | exact hs5
  clear hKK KK
  try simp only [List.getElem_toArray, List.getElem_cons_zero, List.getElem_cons_succ, Act.put, List.setIfInBounds_toArray, List.set_cons_zero, List.set_cons_succ]
  refine wpAnyH_take (i := 6) (oi := _) (v := ?v7) rfl (by kernel_rfl) (by kernel_rfl) (by kernel_rfl) (fun _ _ _ h => h) (Or.inl ⟨by rfl, ?hy7⟩) (by assumption) ?rest7
  case hy7 => (intro w hSw; (try dsimp only at hSw); go_simp; try with_reducible rfl)
  try simp only [List.getElem_toArray, List.getElem_cons_zero, List.getElem_cons_succ, Act.put, List.setIfInBounds_toArray, List.set_cons_zero, List.set_cons_succ]
  refine wpAnyH_done (by kernel_rfl) ?_ _
  go_wp2_with fail
  refine bodyPost_ret (res_hot Tryd.results20 hb5 rfl rfl) rfl ?_
  obtain ⟨hX, hFX, hbX, hbB⟩ := HXX.out
  have hF0 := HFV.out
  have hvs := hF0.size
  have hlen : (newH f n s).boxes.length = n := by simp [newH]
  refine ⟨_, V.heap.size, rfl, ⟨by rw [hlen]; rfl, ?_⟩, hvs, ?_⟩
  · have hF5' : Fr (fun i => i = w.heap.size + 2) X x5 := by rw [hX]; exact hF5
    exact hF5'.heap hbB (by omega)
  · have hF5' : Fr (fun i => i = w.heap.size + 2) X x5 := by rw [hX]; exact hF5
    exact (hF0.trans hFX).own hF5' (by omega)
end Go.Proofs.YtjfeibbghhjjeaaDoor

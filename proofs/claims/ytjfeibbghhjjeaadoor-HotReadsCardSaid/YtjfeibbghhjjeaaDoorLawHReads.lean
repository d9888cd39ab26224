import Derived.Test.YtjfeibbghhjjeaaDoorLawHAs
namespace Go.Proofs.YtjfeibbghhjjeaaDoor
open Go.RowKit
set_option linter.unusedVariables false
set_option linter.unusedSimpArgs false
set_option maxRecDepth 100000

/-! HotReads, walked. -/
abbrev cfgV (f n s : Int) : Value := .agg #[.int .i64 f, .int .i64 n, .int .i64 s]
set_option maxHeartbeats 16000000 in
theorem hreads_bad {w : World} (A : Option Addr) (nn cc : Nat) (f n s er : Int) (her : er ≠ 0) (hg : ErrT w)
    (PE : ∀ W p m1 m2, DevAt W p m1 m2 (newD 12) → Fr none_ w W → Calls Tryd.prog 6 #[ptr p, cfgV f n s, .slice A nn cc] W fun e w' => e = .returned (.tuple #[.pointer none, errV er]) ∧ Fr none_ W w')
    (RE : ∀ W cs, RDV W cs (newRef 12) → Fr none_ w W → Calls Tryd.prog 7 #[.agg cs, cfgV f n s, .slice A nn cc] W fun e w' => e = .returned (.tuple #[noHot, .int .i64 er]) ∧ Fr none_ W w') :
    Calls Tryd.prog 3 #[cfgV f n s, .slice A nn cc] w fun e w' => e = .returned (.bool true) ∧ Fr none_ w w' := by
  obtain ⟨V, hV⟩ : ∃ V, V = w.alloc (.cells #[.int .i64 f, .int .i64 n, .int .i64 s] 23) := ⟨_, rfl⟩
  have hFV : Fr none_ w V := hV ▸ (Fr.refl _ _).alloc _
  have hbV : V.heap[w.heap.size]? = some (.cells #[.int .i64 f, .int .i64 n, .int .i64 s] 23 (0, 0)) := hV ▸ heap_alloc_new _ _
  have hnw := new_ok 12 V (by decide) (by decide)
  have hrn : ∀ W, Calls Tryd.prog 5 #[.int .i64 12] W fun e w' => ∃ cs, e = .returned (.tuple #[.agg cs, .int .i64 0]) ∧ RDV w' cs (newRef 12) ∧ Fr none_ W w' := fun W => ref_new (n := 12) (by decide) W
  have h1 : (er == 0) = false := by simpa using her
  have h2 : (er != 0) = true := by simpa using her
  have HV := Lib.hid (And.intro hV (And.intro hFV hbV))
  have HNW := Lib.hid hnw
  have HRN := Lib.hid hrn
  have HPE := Lib.hid PE
  have HRE := Lib.hid RE
  have HG := Lib.hid hg
  have HEE := Lib.hid (errV_n her)
  clear hV hFV hbV hnw hrn PE RE hg
  go_enter Tryd.func3, Tryd.ntmps3
  go_wp2_with fail
  rw [← HV.out.1]
  (with_reducible refine HNW.out.mono ?_)
  rintro e w1 ⟨p, m1, m2, rfl, hF1, hD1, hfr⟩
  rw [errV_0]
  go_wp2_with fail
  (with_reducible refine (HRN.out w1).mono ?_)
  rintro e w2 ⟨cs, rfl, hRV, hF2⟩
  obtain ⟨⟨A1, c1, A2, c2, A3, c3, hcs, -⟩, -, -, -⟩ := id hRV
  subst hcs
  go_upto_region 3 with fail
  obtain ⟨X, hX⟩ : ∃ X, X = w2.alloc (.cells #[.slice A1 (newRef 12).now.length c1, .slice A2 (newRef 12).now.length c2, .slice A3 (newRef 12).now.length c3, .int .i64 (newRef 12).writes, .bool (newRef 12).armed, .int .i64 (newRef 12).left, .bool (newRef 12).crashed, .bool (newRef 12).gone] 33) := ⟨_, rfl⟩
  obtain ⟨t7, ht7⟩ : ∃ t7, t7 = w2.heap.size := ⟨_, rfl⟩
  have hFX : Fr none_ w1 X := by rw [hX]; exact hF2.alloc _
  have hbX : X.heap[t7]? = some (.cells #[.slice A1 (newRef 12).now.length c1, .slice A2 (newRef 12).now.length c2, .slice A3 (newRef 12).now.length c3, .int .i64 (newRef 12).writes, .bool (newRef 12).armed, .int .i64 (newRef 12).left, .bool (newRef 12).crashed, .bool (newRef 12).gone] 33 (0, 0)) := by rw [hX, ht7]; exact heap_alloc_new _ _
  have hRX : RDV X #[.slice A1 (newRef 12).now.length c1, .slice A2 (newRef 12).now.length c2, .slice A3 (newRef 12).now.length c3, .int .i64 (newRef 12).writes, .bool (newRef 12).armed, .int .i64 (newRef 12).left, .bool (newRef 12).crashed, .bool (newRef 12).gone] (newRef 12) := by rw [hX]; exact hRV.fr0 ((Fr.refl none_ w2).alloc _)
  have hbc := hFX.heap0 (hF1.heap0 HV.out.2.2)
  have hDX := hD1.fr0 hFX
  have hFw := (HV.out.2.1.trans hF1).trans hFX
  have htw : t7 < X.heap.size := blk_lt hbX
  rw [← hX, ← ht7]
  clear hX ht7 hRV hD1
  have hpe := HPE.out X p m1 m2 hDX hFw
  rw [HEE.out] at hpe
  have HPD := Lib.hid hpe
  have HRX := Lib.hid (And.intro hRX (And.intro hFw hbX))
  clear hpe hRX hDX hFw
  go_wp2_with (first | ((with_reducible refine at_load 23 (.tmp 2) (b := w.heap.size) ?_ hbc Tryd.underlying23 rfl (by kernel_rfl) ?_); (focus rfl)) | ((with_reducible refine at_load 23 (.tmp 2) (b := w.heap.size) ?_ hbc3 Tryd.underlying23 rfl (by kernel_rfl) ?_); (focus rfl)) | ((with_reducible refine at_load 33 (.tmp 7) (b := t7) ?_ hbd3 Tryd.underlying33 rfl (by kernel_rfl) ?_); (focus rfl)) | ((with_reducible refine HPD.out.mono ?_); rintro e w3 ⟨rfl, hF3⟩; have hbc3 := hF3.heap0 hbc; have hbd3 := hF3.heap0 HRX.out.2.2; have HRD := Lib.hid (HRE.out w3 _ (HRX.out.1.fr0 hF3) (HRX.out.2.1.trans hF3)); have HF3 := Lib.hid hF3; clear hF3) | ((with_reducible refine HRD.out.mono ?_); rintro e w4 ⟨rfl, hF4⟩; have hX4 := hF4.alloc (.cells #[.int .i64 0, .int .i64 0, .int .i64 0, .slice none 0 0] 42); have hFw4 := (HRX.out.2.1.trans HF3.out).trans hX4; have hnum := num17_any er (w4.alloc (.cells #[.int .i64 0, .int .i64 0, .int .i64 0, .slice none 0 0] 42)) (HG.out.fr0 hFw4); rw [HEE.out] at hnum; have HNUM := Lib.hid (And.intro hFw4 hnum); clear hX4 hFw4 hnum) | ((with_reducible refine HNUM.out.2.mono ?_); rintro e w5 ⟨rfl, hF5⟩) | ((with_reducible refine (hsure_any _).mono ?_); rintro e w6 ⟨rfl, hF6⟩))
  go_ret
  exact ⟨rfl, (HNUM.out.1.trans hF5).trans hF6⟩
theorem bxL_get (z n k : Nat) (s0 : RS) (hk : k < (bxL z n s0).length) : (bxL z n s0)[k] = boxS z (rdS z k s0) := by
  simp only [bxL, List.getElem_map, List.getElem_range]
theorem bxL_ok (f : Int) (n s : Nat) (s0 : RS) (h : (bxL (s * 64) n s0).all okB = true) : HotS.Ok ⟨f, s, bxL (s * 64) n s0⟩ := by
  refine ⟨fun i hi => ?_, fun i hi => ?_⟩
  · show ((bxL (s * 64) n s0)[i]).used ≤ s * 64
    rw [bxL_get _ _ _ _ hi]
    exact uintN_le _ _ _
  · have h1 := List.all_eq_true.1 h _ (List.getElem_mem hi)
    show ((bxL (s * 64) n s0)[i]).live ≤ ((bxL (s * 64) n s0)[i]).used
    unfold okB at h1
    simp only [Bool.and_eq_true, decide_eq_true_eq] at h1
    exact h1.1.1
theorem bxL_states (f : Int) (n s : Nat) (s0 : RS) : States ⟨f, s, bxL (s * 64) n s0⟩ := by
  intro b hb
  obtain ⟨i, hi, rfl⟩ := List.getElem_of_mem hb
  rw [show (⟨f, s, bxL (s * 64) n s0⟩ : HotS).boxes[i] = boxS (s * 64) (rdS (s * 64) i s0) from bxL_get _ _ _ _ hi]
  have := uintN_le (rdS (s * 64) i s0).1 (rdS (s * 64) i s0).2 3
  show (0 : Int) ≤ ((uintN _ _ 3 : Nat) : Int) ∧ ((uintN _ _ 3 : Nat) : Int) ≤ 3
  omega
set_option maxHeartbeats 16000000 in
theorem hreads_good {w : World} (A : Option Addr) (nn cc : Nat) (l : List UInt8) (f : Int) (n s : Nat) (hf : 0 ≤ f) (hn : 1 ≤ n ∧ n ≤ 12) (hs : 1 ≤ s ∧ s ≤ 1024) (hfit : f + (n * s : Nat) ≤ 12) (hnl : nn = l.length) (hA : CellsAt w A (l.map byteV)) (hnil : A = none → nn = 0 ∧ cc = 0) (hE : openE l = 0) (hform : formOK (s * 64) n l) (hg : ErrT w)
    (PE : ∀ W p m1 m2, DevAt W p m1 m2 (newD 12) → Fr none_ w W → Calls Tryd.prog 6 #[ptr p, cfgV f n s, .slice A nn cc] W fun e w' => HDec W p f n s l e w')
    (RE : ∀ W cs, RDV W cs (newRef 12) → Fr none_ w W → Calls Tryd.prog 7 #[.agg cs, cfgV f n s, .slice A nn cc] W fun e w' => RDec W f n s l e w') :
    Calls Tryd.prog 3 #[cfgV f n s, .slice A nn cc] w fun e w' => e = .returned (.bool true) ∧ Fr none_ w w' := by
  obtain ⟨V, hV⟩ : ∃ V, V = w.alloc (.cells #[.int .i64 f, .int .i64 n, .int .i64 s] 23) := ⟨_, rfl⟩
  have hFV : Fr none_ w V := hV ▸ (Fr.refl _ _).alloc _
  have hbV : V.heap[w.heap.size]? = some (.cells #[.int .i64 f, .int .i64 n, .int .i64 s] 23 (0, 0)) := hV ▸ heap_alloc_new _ _
  have hnw := new_ok 12 V (by decide) (by decide)
  have hrn : ∀ W, Calls Tryd.prog 5 #[.int .i64 12] W fun e w' => ∃ cs, e = .returned (.tuple #[.agg cs, .int .i64 0]) ∧ RDV w' cs (newRef 12) ∧ Fr none_ W w' := fun W => ref_new (n := 12) (by decide) W
  have hcv : ∀ W, Fr none_ w W → (convert 24 9 (.slice A nn cc)).run Tryd.prog W = .ok (.string ⟨l.toArray⟩) W := fun W hW => conv_bytes (P := Tryd.prog) (src := 24) (dst := 9) (w := W) Tryd.underlying24 Tryd.underlying5 Tryd.underlying9 hnl (hA.fr0 hW) hnil
  have HCV := Lib.hid hcv
  have HV := Lib.hid (And.intro hV (And.intro hFV hbV))
  have HNW := Lib.hid hnw
  have HRN := Lib.hid hrn
  have HPE := Lib.hid PE
  have HRE := Lib.hid RE
  have HG := Lib.hid hg
  have HFM := Lib.hid hform
  have HOK := Lib.hid (bxL_ok f n s (rsHead l) hform.2.2.2.1)
  have HST := Lib.hid (bxL_states f n s (rsHead l))
  have HFS := Lib.hid (form_split (H := ⟨f, s, bxL (s * 64) n (rsHead l)⟩) hE hform rfl)
  have HFIT := Lib.hid (And.intro hf (And.intro hn (And.intro hs hfit)))
  clear hV hFV hbV hnw hrn PE RE hg hform hE hA hnil hnl hcv hf hn hs hfit
  go_enter Tryd.func3, Tryd.ntmps3
  go_wp2_with fail
  rw [← HV.out.1]
  (with_reducible refine HNW.out.mono ?_)
  rintro e w1 ⟨p, m1, m2, rfl, hF1, hD1, hfr⟩
  rw [errV_0]
  go_wp2_with fail
  (with_reducible refine (HRN.out w1).mono ?_)
  rintro e w2 ⟨cs, rfl, hRV, hF2⟩
  obtain ⟨⟨A1, c1, A2, c2, A3, c3, hcs, -⟩, -, -, -⟩ := id hRV
  subst hcs
  go_upto_region 3 with fail
  obtain ⟨X, hX⟩ : ∃ X, X = w2.alloc (.cells #[.slice A1 (newRef 12).now.length c1, .slice A2 (newRef 12).now.length c2, .slice A3 (newRef 12).now.length c3, .int .i64 (newRef 12).writes, .bool (newRef 12).armed, .int .i64 (newRef 12).left, .bool (newRef 12).crashed, .bool (newRef 12).gone] 33) := ⟨_, rfl⟩
  obtain ⟨t7, ht7⟩ : ∃ t7, t7 = w2.heap.size := ⟨_, rfl⟩
  have hFX : Fr none_ w1 X := by rw [hX]; exact hF2.alloc _
  have hbX : X.heap[t7]? = some (.cells #[.slice A1 (newRef 12).now.length c1, .slice A2 (newRef 12).now.length c2, .slice A3 (newRef 12).now.length c3, .int .i64 (newRef 12).writes, .bool (newRef 12).armed, .int .i64 (newRef 12).left, .bool (newRef 12).crashed, .bool (newRef 12).gone] 33 (0, 0)) := by rw [hX, ht7]; exact heap_alloc_new _ _
  have hRX : RDV X #[.slice A1 (newRef 12).now.length c1, .slice A2 (newRef 12).now.length c2, .slice A3 (newRef 12).now.length c3, .int .i64 (newRef 12).writes, .bool (newRef 12).armed, .int .i64 (newRef 12).left, .bool (newRef 12).crashed, .bool (newRef 12).gone] (newRef 12) := by rw [hX]; exact hRV.fr0 ((Fr.refl none_ w2).alloc _)
  have hbc := hFX.heap0 (hF1.heap0 HV.out.2.2)
  have hDX := hD1.fr0 hFX
  have hFw := (HV.out.2.1.trans hF1).trans hFX
  have htw : t7 < X.heap.size := blk_lt hbX
  rw [← hX, ← ht7]
  clear hX ht7 hRV hD1
  have HPD := Lib.hid (HPE.out X p m1 m2 hDX hFw)
  have HRX := Lib.hid (And.intro hRX (And.intro hFw (And.intro hbX hDX)))
  clear hRX hFw hDX
  go_upto_region 10 with (first | ((with_reducible refine at_load 23 (.tmp 2) (b := w.heap.size) ?_ hbc Tryd.underlying23 rfl (by kernel_rfl) ?_); (focus rfl)) | ((with_reducible refine at_load 23 (.tmp 2) (b := w.heap.size) ?_ hbc3 Tryd.underlying23 rfl (by kernel_rfl) ?_); (focus rfl)) | ((with_reducible refine at_load 33 (.tmp 7) (b := t7) ?_ hbd3 Tryd.underlying33 rfl (by kernel_rfl) ?_); (focus rfl)) | ((with_reducible refine at_load 33 (.tmp 7) (b := t7) ?_ hbd4 Tryd.underlying33 rfl (by kernel_rfl) ?_); (focus rfl)) | ((with_reducible refine HPD.out.mono ?_); rintro e w3 ⟨hp3, -, hF3⟩; obtain ⟨h, bx, rfl, hh, g1, g2⟩ := hp3 HFM.out; rw [errV_0]; have hbc3 := hF3.heap0 hbc; have hbd3 := hF3.heap0 HRX.out.2.2.1; have HRD := Lib.hid (HRE.out w3 _ (HRX.out.1.fr0 hF3) (HRX.out.2.1.trans hF3)); have HF3 := Lib.hid (And.intro hF3 hh); clear hF3 hp3 hh) | ((with_reducible refine HRD.out.mono ?_); rintro e w4 ⟨hp4, -, hF4⟩; obtain ⟨v, b, rfl, hRH⟩ := hp4 HFM.out; obtain ⟨hvr, hvb⟩ := hRH; replace hvr : v = .agg #[.int .i64 f, .int .i64 ((bxL (s * 64) n (rsHead l)).length : Int), .int .i64 (s : Int), .slice (some ⟨b, 0, none⟩) (bxL (s * 64) n (rsHead l)).length (bxL (s * 64) n (rsHead l)).length] := hvr; rw [bxL_len] at hvr; subst hvr; have hbd4 := (hF4.alloc (.cells #[.int .i64 f, .int .i64 (n : Int), .int .i64 (s : Int), .slice (some ⟨b, 0, none⟩) n n] 42)).heap0 hbd3; have hFw4 := (HRX.out.2.1.trans HF3.out.1).trans hF4; have hnum := num17_any 0 (w4.alloc (.cells #[.int .i64 f, .int .i64 (n : Int), .int .i64 (s : Int), .slice (some ⟨b, 0, none⟩) n n] 42)) (HG.out.fr0 (hFw4.alloc _)); rw [errV_0] at hnum; have HNUM := Lib.hid hnum; have HF4 := Lib.hid (And.intro hFw4 (And.intro hF4 hvb)); clear hFw4 hnum hF4 hvb hp4) | ((with_reducible refine HNUM.out.mono ?_); rintro e w5 ⟨rfl, hF5⟩; have hbd5 := hF5.heap0 hbd4; have hbh5 := hF5.heap0 (heap_alloc_new w4 (.cells #[.int .i64 f, .int .i64 (n : Int), .int .i64 (s : Int), .slice (some ⟨b, 0, none⟩) n n] 42))) | ((with_reducible refine at_load 33 (.tmp 7) (b := t7) ?_ hbd5 Tryd.underlying33 rfl (by kernel_rfl) ?_); (focus rfl)) | ((with_reducible refine at_load 42 (.tmp 11) (b := w4.heap.size) ?_ hbh5 Tryd.underlying42 rfl (by kernel_rfl) ?_); (focus rfl)))
  obtain ⟨Y, hY⟩ : ∃ Y, Y = w5.alloc (.cells #[ptr p, ptr h, .slice A1 (newRef 12).now.length c1, .slice A2 (newRef 12).now.length c2, .slice A3 (newRef 12).now.length c3, .int .i64 (newRef 12).writes, .bool (newRef 12).armed, .int .i64 (newRef 12).left, .bool (newRef 12).crashed, .bool (newRef 12).gone, .int .i64 f, .int .i64 (n : Int), .int .i64 (s : Int), .slice (some ⟨b, 0, none⟩) n n, .slice none 0 0] 50) := ⟨_, rfl⟩
  obtain ⟨g, hgg⟩ : ∃ g, g = w5.heap.size := ⟨_, rfl⟩
  have hFHn := (Fr.refl none_ w4).alloc (.cells #[.int .i64 f, .int .i64 (n : Int), .int .i64 (s : Int), .slice (some ⟨b, 0, none⟩) n n] 42)
  have hFY : Fr none_ w4 Y := by rw [hY]; exact (hFHn.trans hF5).alloc _
  have hFwY : Fr none_ w Y := HF4.out.1.trans hFY
  have hFXY : Fr none_ X Y := (HF3.out.1.trans HF4.out.2.1).trans hFY
  have hbox := HF4.out.2.2
  have HB0 : Both Y g h bx p m1 m2 A1 c1 A2 c2 A3 c3 b ⟨f, s, bxL (s * 64) n (rsHead l)⟩ := by
    have hl : (⟨f, s, bxL (s * 64) n (rsHead l)⟩ : HotS).boxes.length = n := bxL_len _ _ _
    have hDY := HRX.out.2.2.2.fr0 hFXY
    refine ⟨?_, ⟨HF3.out.2.fr0 (HF4.out.2.1.trans hFY), hDY, HRX.out.2.2.2.new g1, HRX.out.2.2.2.new g2, rfl, ?_⟩, HRX.out.1.fr0 hFXY, ⟨rfl, hFY.heap0 hbox⟩, HOK.out, by rw [hl]; exact HFIT.out.2.1.2, HG.out.fr0 hFwY⟩
    · rw [hl, hY, hgg]; exact heap_alloc_new _ _
    · rw [hl]; exact HFIT.out.2.2.2
  have has := as_any (HB0.fr0 (Fr.refl none_ Y).drew)
  have HB := Lib.hid HB0
  have HAS := Lib.hid has
  have HY := Lib.hid (And.intro hY (And.intro hFY hFwY))
  have hs0 := HCV.out Y.drew hFwY.drew
  rw [← hY, ← hgg]
  clear hY hgg hFHn hFY hFwY hFXY hbox HB0 has hF5 hbd3 hbd4 hbd5 hbh5 hbc hbc3 hbX hFX htw
  refine wp_region_held_drew (S := fun W => (convert 24 9 (.slice A nn cc)).run Tryd.prog W = .ok (.string ⟨l.toArray⟩) W) (by kernel_rfl) hs0 (fun hHeld0 => ?_)
  refine wpAnyH_take (i := 0) (oi := _) (v := ?v1) rfl (by kernel_rfl) (by kernel_rfl) (by kernel_rfl) (fun _ _ _ h => h) (Or.inl ⟨by rfl, ?hy1⟩) (by assumption) ?rest1
  case hy1 => (intro w hSw; (try dsimp only at hSw); go_simp; try with_reducible rfl)
  try simp only [List.getElem_toArray, List.getElem_cons_zero, List.getElem_cons_succ, Act.put, List.setIfInBounds_toArray, List.set_cons_zero, List.set_cons_succ]
  refine wpAnyH_ready (rs := [1]) (by kernel_rfl) (by simp) ?_
  refine AllReadyH.cons (o := _) rfl (fun KK hKK => ?_) (AllReadyH.nil)
  go_simp
  (go_at_call 10; (with_reducible refine HAS.out.mono ?_); rintro e x1 ⟨rfl, hG1⟩; have HX1 := Lib.hid (HY.out.2.2.drew.trans hG1); have he := hencode_any (HB.out.fr0 ((Fr.refl none_ Y).drew.trans hG1)).hd.hot HB.out.ok HST.out; rw [HFS.out] at he; have HEN := Lib.hid he; clear he)
  go_wp2_with fail
  refine hKK.out _ _ ?hS2 (fun hHeld2 => ?rest2)
  case hS2 => first | exact HCV.out _ HX1.out | exact HCV.out _ HX2.out | exact HCV.out _ (HX2.out.trans hG3)
  clear hKK KK
  try simp only [List.getElem_toArray, List.getElem_cons_zero, List.getElem_cons_succ, Act.put, List.setIfInBounds_toArray, List.set_cons_zero, List.set_cons_succ]
  refine wpAnyH_take (i := 2) (oi := _) (v := ?v3) rfl (by kernel_rfl) (by kernel_rfl) (by kernel_rfl) (fun _ _ _ h => h) (Or.inl ⟨by rfl, ?hy3⟩) (by assumption) ?rest3
  case hy3 => (intro w hSw; (try dsimp only at hSw); go_simp; try with_reducible rfl)
  try simp only [List.getElem_toArray, List.getElem_cons_zero, List.getElem_cons_succ, Act.put, List.setIfInBounds_toArray, List.set_cons_zero, List.set_cons_succ]
  refine wpAnyH_take (i := 3) (oi := _) (v := ?v4) rfl (by kernel_rfl) (by kernel_rfl) (by kernel_rfl) (fun _ _ _ h => h) (Or.inl ⟨by rfl, ?hy4⟩) (by assumption) ?rest4
  case hy4 => (intro w hSw; (try dsimp only at hSw); go_simp; try with_reducible rfl)
  try simp only [List.getElem_toArray, List.getElem_cons_zero, List.getElem_cons_succ, Act.put, List.setIfInBounds_toArray, List.set_cons_zero, List.set_cons_succ]
  refine wpAnyH_take (i := 6) (oi := _) (v := ?v5) rfl (by kernel_rfl) (by kernel_rfl) (by kernel_rfl) (fun _ _ _ h => h) (Or.inl ⟨by rfl, ?hy5⟩) (by assumption) ?rest5
  case hy5 => (intro w hSw; (try dsimp only at hSw); go_simp; try with_reducible rfl)
  try simp only [List.getElem_toArray, List.getElem_cons_zero, List.getElem_cons_succ, Act.put, List.setIfInBounds_toArray, List.set_cons_zero, List.set_cons_succ]
  refine wpAnyH_take (i := 7) (oi := _) (v := ?v6) rfl (by kernel_rfl) (by kernel_rfl) (by kernel_rfl) (fun _ _ _ h => h) (Or.inl ⟨by rfl, ?hy6⟩) (by assumption) ?rest6
  case hy6 => (intro w hSw; (try dsimp only at hSw); go_simp; try with_reducible rfl)
  try simp only [List.getElem_toArray, List.getElem_cons_zero, List.getElem_cons_succ, Act.put, List.setIfInBounds_toArray, List.set_cons_zero, List.set_cons_succ]
  refine wpAnyH_ready (rs := [4]) (by kernel_rfl) (by simp) ?_
  refine AllReadyH.cons (o := _) rfl (fun KK hKK => ?_) (AllReadyH.nil)
  go_simp
  (go_at_call 11; (with_reducible refine HEN.out.mono ?_); rintro e x2 ⟨⟨v9, rfl, hown⟩, hG2⟩; obtain ⟨A9, c9, rfl, hA9, _, hn9, _⟩ := ownsRow_read hown; have hcv9 := conv_bytes (P := Tryd.prog) (src := 24) (dst := 9) (w := x2) Tryd.underlying24 Tryd.underlying5 Tryd.underlying9 rfl hA9 hn9; have HX2 := Lib.hid (HX1.out.trans hG2); clear hown hA9 hn9)
  go_wp2_with fail
  refine hKK.out _ _ ?hS7 (fun hHeld7 => ?rest7)
  case hS7 => first | exact HCV.out _ HX1.out | exact HCV.out _ HX2.out | exact HCV.out _ (HX2.out.trans hG3)
  clear hKK KK
  try simp only [List.getElem_toArray, List.getElem_cons_zero, List.getElem_cons_succ, Act.put, List.setIfInBounds_toArray, List.set_cons_zero, List.set_cons_succ]
  refine wpAnyH_ready (rs := [5]) (by kernel_rfl) (by simp) ?_
  refine AllReadyH.cons (o := _) rfl (fun KK hKK => ?_) (AllReadyH.nil)
  go_simp
  refine hKK.out _ _ ?hS8 (fun hHeld8 => ?rest8)
  case hS8 => first | exact HCV.out _ HX1.out | exact HCV.out _ HX2.out | exact HCV.out _ (HX2.out.trans hG3)
  clear hKK KK
  try simp only [List.getElem_toArray, List.getElem_cons_zero, List.getElem_cons_succ, Act.put, List.setIfInBounds_toArray, List.set_cons_zero, List.set_cons_succ]
  refine wpAnyH_take (i := 8) (oi := _) (v := ?v9) rfl (by kernel_rfl) (by kernel_rfl) (by kernel_rfl) (fun _ _ _ h => h) (Or.inl ⟨by rfl, ?hy9⟩) (by assumption) ?rest9
  case hy9 => (intro w hSw; (try dsimp only at hSw); go_simp; try with_reducible rfl)
  try simp only [List.getElem_toArray, List.getElem_cons_zero, List.getElem_cons_succ, Act.put, List.setIfInBounds_toArray, List.set_cons_zero, List.set_cons_succ]
  refine wpAnyH_take (i := 9) (oi := _) (v := ?v10) rfl (by kernel_rfl) (by kernel_rfl) (by kernel_rfl) (fun _ _ _ h => h) (Or.inl ⟨by rfl, ?hy10⟩) (by assumption) ?rest10
  case hy10 => (intro w hSw; (try dsimp only at hSw); go_simp; try with_reducible rfl)
  try simp only [List.getElem_toArray, List.getElem_cons_zero, List.getElem_cons_succ, Act.put, List.setIfInBounds_toArray, List.set_cons_zero, List.set_cons_succ]
  refine wpAnyH_take (i := 10) (oi := _) (v := ?v11) rfl (by kernel_rfl) (by kernel_rfl) (by kernel_rfl) (fun _ _ _ h => h) (Or.inl ⟨by rfl, ?hy11⟩) (by assumption) ?rest11
  case hy11 => (intro w hSw; (try dsimp only at hSw); go_simp; try with_reducible rfl)
  try simp only [List.getElem_toArray, List.getElem_cons_zero, List.getElem_cons_succ, Act.put, List.setIfInBounds_toArray, List.set_cons_zero, List.set_cons_succ]
  refine wpAnyH_ready (rs := [11]) (by kernel_rfl) (by simp) ?_
  refine AllReadyH.cons (o := _) rfl (fun KK hKK => ?_) (AllReadyH.nil)
  go_simp
  (go_at_call 9; (with_reducible refine (hsure_any _).mono ?_); rintro e x3 ⟨rfl, hG3⟩)
  go_wp2_with fail
  refine hKK.out _ _ ?hS12 (fun hHeld12 => ?rest12)
  case hS12 => first | exact HCV.out _ HX1.out | exact HCV.out _ HX2.out | exact HCV.out _ (HX2.out.trans hG3)
  clear hKK KK
  try simp only [List.getElem_toArray, List.getElem_cons_zero, List.getElem_cons_succ, Act.put, List.setIfInBounds_toArray, List.set_cons_zero, List.set_cons_succ]
  refine wpAnyH_take (i := 12) (oi := _) (v := ?v13) rfl (by kernel_rfl) (by kernel_rfl) (by kernel_rfl) (fun _ _ _ h => h) (Or.inl ⟨by rfl, ?hy13⟩) (by assumption) ?rest13
  case hy13 => (intro w hSw; (try dsimp only at hSw); go_simp; try with_reducible rfl)
  try simp only [List.getElem_toArray, List.getElem_cons_zero, List.getElem_cons_succ, Act.put, List.setIfInBounds_toArray, List.set_cons_zero, List.set_cons_succ]
  refine wpAnyH_take (i := 13) (oi := _) (v := ?v14) rfl (by kernel_rfl) (by kernel_rfl) (by kernel_rfl) (fun _ _ _ h => h) (Or.inl ⟨by rfl, ?hy14⟩) (by assumption) ?rest14
  case hy14 => (intro w hSw; (try dsimp only at hSw); go_simp; try with_reducible rfl)
  try simp only [List.getElem_toArray, List.getElem_cons_zero, List.getElem_cons_succ, Act.put, List.setIfInBounds_toArray, List.set_cons_zero, List.set_cons_succ]
  refine wpAnyH_done (by kernel_rfl) ?_ _
  go_wp2_with fail
  go_ret
  exact ⟨rfl, HX2.out.trans hG3⟩
end Go.Proofs.YtjfeibbghhjjeaaDoor

import Derived.Test.YtdkjmnhblepkaaaColdM2
namespace Go.Proofs.Ytdkjmnhblepkaaa
open Go.RowKit
set_option linter.unusedVariables false
set_option linter.unusedSimpArgs false
set_option maxRecDepth 100000

/-! cold: Put where there is room, on devices that do not crash. -/
def partsP (C : ColdS) (txt : List UInt8) : List (List UInt8) := encodeF C.d C.m (splitF C.d txt) (partN txt.length C.d)
def PutOk (w : World) (x lb pb c g : Nat) (ds : List (Nat × Nat × Nat)) (Ds : List DevS) (C : ColdS) (l : List (PlaceS × Value)) (k : Nat) (txt : List UInt8) (e : Ending) (w' : World) : Prop :=
  e = .returned (.tuple #[.int .i64 (k : Int), .nilIface]) ∧ (∃ sv, ColdAt w' x lb pb c g (ds.map (·.1)) (C.putP k ⟨1, txt.length, (partsP C txt).map sumF⟩) (l.set k (⟨1, txt.length, (partsP C txt).map sumF⟩, sv))) ∧ DevsAt w' ds (putDs Ds ((C.first + k * sectC C.d C.size : Nat) : Int) (sectC C.d C.size) (partsP C txt) ds.length) ∧ Fr (fun i => devsB ds i ∨ i = g ∨ i = pb) w w'
set_option maxHeartbeats 16000000 in
theorem put_ok {w : World} {x lb pb c g : Nat} {ds : List (Nat × Nat × Nat)} {Ds : List DevS} {C : ColdS} {l : List (PlaceS × Value)} (h : ColdAt w x lb pb c g (ds.map (·.1)) C l) (hD : DevsAt w ds Ds) (A : Option Addr) (ca : Nat) (txt : List UInt8) (hA : CellsAt w A (txt.map byteV)) (hAg : ∀ b, blkOf A b → 0 < txt.length → b ≠ g) (hcap : txt.length ≤ ca) (h0 : txt.length ≠ 0) (h1 : txt.length ≤ C.size) (k : Nat) (hf : firstFree C.places = (k : Int)) (hkl : k < l.length) (hcalm : ∀ D ∈ Ds, Calm D) (hfit : ∀ D ∈ Ds, ((C.first + C.places.length * sectC C.d C.size : Nat) : Int) ≤ D.sectors) :
    Calls Try.prog 8 #[ptr x, .slice A txt.length ca] w fun e w' => PutOk w x lb pb c g ds Ds C l k txt e w' := by
  obtain ⟨_, c1, c2, c3, c4, c5, c6, c7⟩ := h.cells
  have hix := index_any h
  rw [hf] at hix
  have hcm := h.code.most
  have hmost := h.most
  have hlenl := h.len
  have hdl := h.dl
  rw [List.length_map] at hdl
  have hlen := hD.len
  have hN : partN txt.length C.d ≤ 65536 := by unfold partN; have h9 := rowN_le (np := txt.length) (d := C.d) (si := C.size) ⟨by omega, h1⟩ hcm.1; have h8 := partC_le (d := C.d) hmost.2.2; unfold rowN partN at h9; omega
  have hxg : x ≠ g := fun e => by
    obtain ⟨cg, hg⟩ := fieldAt_blk h.code.fd
    obtain ⟨cl, hb⟩ := h.blk
    rw [e, hg] at hb
    exact absurd (Obj.cells.inj (Option.some.inj hb)).2.1 (by decide)
  have hdw := fun wx (hx : Fr none_ w wx) => cdown_any (h.fr0 hx) (hD.fr0 hx)
  rw [downN_calm hcalm] at hdw
  have hkS : k * sectC C.d C.size + sectC C.d C.size ≤ C.places.length * sectC C.d C.size := by rw [← Nat.succ_mul]; exact Nat.mul_le_mul_right _ (by omega)
  obtain ⟨n, hn⟩ : ∃ n, n = txt.length := ⟨_, rfl⟩
  have hsp := fun W (hW : Fr none_ w W) => split_any (h.code.fr0 hW) A ca txt (hA.fr0 hW) hAg (by omega) hcap
  obtain ⟨pt, hpt⟩ : ∃ pt, pt = partsP C txt := ⟨_, rfl⟩
  have hptl : pt.length = ds.length := by rw [hpt]; unfold partsP encodeF; rw [madeF_len]; omega
  have hptr : ∀ r ∈ pt, r.length = partN txt.length C.d := by rw [hpt]; exact madeF_row _ _ _ _
  have henc : ∀ W b, CodeS W c C.d C.m g → RowsV W g (some ⟨b, 0, none⟩) (splitF C.d txt) → Calls Try.prog 22 #[ptr c, .slice (some ⟨b, 0, none⟩) C.d C.d] W fun e w' => ∃ bo, e = .returned (.tuple #[.slice (some ⟨bo, 0, none⟩) ds.length ds.length, .nilIface]) ∧ OutS W w' g bo ds.length pt := fun W b hC hR => by
    have h9 := encode_any hC (some ⟨b, 0, none⟩) C.d (splitF C.d txt) hR (splitF_len _ _) (partN txt.length C.d) (by omega) (fun r hr => by
      unfold splitF at hr
      obtain ⟨i, _, rfl⟩ := List.mem_map.1 hr
      exact padN_len _ _)
    refine h9.mono ?_
    rintro e w' ⟨bo, rfl, hO⟩
    rw [show encodeF C.d C.m (splitF C.d txt) (partN txt.length C.d) = pt by rw [hpt]; rfl, hptl] at hO ⊢
    exact ⟨bo, rfl, hO⟩
  have hst6 : ∀ W, Fr (fun i => i = g) w W → W.cell? ⟨x, 6, none⟩ = some (ptr c) := fun W hW => hW.cell c6 hxg
  rw [← hn] at h0 h1 hN hsp hptr hcap ⊢
  have z1 : ((n : Int) == 0) = false := by simpa using (show ¬ (n : Int) = 0 by omega)
  have z2 : ¬ (C.size : Int) < (n : Int) := by omega
  have z3 : ¬ C.size < n := by omega
  have z4 : ¬ (k : Int) < 0 := by omega
  have z5 : ¬ (C.m : Int) < 0 := by omega
  have hl32 : ds.length ≤ 32 := by omega
  have HIX := Lib.hid hix
  have HDW := Lib.hid hdw
  have HSP := Lib.hid hsp
  have HENC := Lib.hid henc
  have HST6 := Lib.hid hst6
  have HP := Lib.hid (And.intro hpt (And.intro hptl (And.intro hptr (And.intro hN (And.intro hn (And.intro hlen hkS))))))
  have H := Lib.hid (And.intro h (And.intro hD (And.intro hcalm hfit)))
  have HK := Lib.hid (And.intro hkl hlenl)
  clear h hix hf hD hdw hsp henc hst6 hpt hptl hptr hA hAg hcap hcalm hfit hn hlen hdl hcm hmost hlenl hkS hN hxg
  go_enter Try.func8, Try.ntmps8
  go_wp2_with fail
  (with_reducible refine HIX.out.mono ?_)
  rintro e w1 ⟨rfl, hF⟩
  have d2 := hF.cell0 c2
  have hG : Fr none_ w w1.drew := hF.drew
  go_wp2_with fail
  go_region_held3 (fun w' => w'.cell? ⟨x, 2, none⟩ = some (.int .i64 (C.m : Int))) (first | exact d2) (first | (go_at_call 21; (with_reducible refine (HDW.out _ hG).mono ?_); rintro e x1 ⟨rfl, hw1⟩; subst hw1))
  all_goals
    clear d2
    obtain ⟨V0, hV0⟩ : ∃ V0 : World, V0 = w1.drew := ⟨_, rfl⟩
    try rw [← hV0]
    rw [← hV0] at hG
    clear hV0
    have s6 := HST6.out _ (Fr.of0 hG.drew)
    go_wp2_with fail
    go_region_held3 (fun w' => w'.cell? ⟨x, 6, none⟩ = some (ptr c)) (first | exact s6 | exact HST6.out _ hY1 | exact HST6.out _ hY2) (first
      | (go_at_call 23; (with_reducible refine (HSP.out _ hG.drew).mono ?_); rintro e y1 ⟨bs, rfl, hO1⟩; have hY1 : Fr (fun i => i = g) w y1 := (Fr.of0 hG.drew).trans hO1.fr)
      | (go_at_call 22; (with_reducible refine (HENC.out y1 bs (H.out.1.code.frG hY1 hO1.fd) hO1.rows).mono ?_); rintro e y2 ⟨bo, rfl, hO2⟩; have hY2 : Fr (fun i => i = g) w y2 := hY1.trans hO2.fr))
    have hC2 := H.out.1.fld hY2 hO2.fd
    have hD2 := H.out.2.1.fld H.out.1.code.fd hY2
    have hlt2 : ∀ y, devsB ds y → y < y1.heap.size := fun y hy => Nat.lt_of_lt_of_le (devsB_lt H.out.2.1 hy) hY1.size
    obtain ⟨b9, hb9⟩ : ∃ b9, b9 = y2.heap.size := ⟨_, rfl⟩
    obtain ⟨V, hV⟩ : ∃ V, V = y2.alloc (.cells #[.int .i64 1, .int .i64 (n : Int), .slice none 0 0] 60) := ⟨_, rfl⟩
    have hVF : Fr none_ y2 V := by rw [hV]; exact (Fr.refl _ _).alloc _
    have hP0 : PutR y2 V b9 ds Ds n ((C.first + k * sectC C.d C.size : Nat) : Int) (sectC C.d C.size) pt 0 0 (.slice none 0 0) :=
      ⟨by rw [putDs_zero]; exact hD2.fr0 hVF, by rw [hV, hb9]; exact heap_alloc_new _ _, World.ownsRow_nil _ _ _ _, Fr.of0 hVF, by omega⟩
    obtain ⟨S, hS⟩ : ∃ S, S = sectC C.d C.size := ⟨_, rfl⟩
    obtain ⟨T, hT⟩ : ∃ T, T = C.first + k * S := ⟨_, rfl⟩
    have hP1 := hP0
    rw [← hS, ← hT] at hP1
    have HP0 := Lib.hid hP1
    have HO := Lib.hid (And.intro hO2 (And.intro hC2 (And.intro hD2 (And.intro hlt2 (And.intro hY2 (And.intro hS hT))))))
    have HV := Lib.hid (And.intro hV hb9)
    clear hP0 hP1 hVF hC2 hD2 hlt2 hO2 hY1 hY2 hO1 hS hT hV hb9 s6
    go_wp2_with fail
    try rw [← HV.out.2]
    try rw [← HV.out.1]
    go_loopw [72] (fun v wr => ∃ t : Nat, t ≤ ds.length ∧ v = .int .i64 t ∧ ∃ sv, PutR y2 wr b9 ds Ds n (T : Int) S pt t t sv) (fun v _ => ds.length - (intOf v).toNat)
    case atStart => exact ⟨0, by omega, rfl, _, HP0.out⟩
    case round =>
      obtain ⟨t, ht, rfl, sv, hP⟩ := hrel
      obtain ⟨hO2, hC2, hD2, hlt2, hY2, hS, hT⟩ := HO.out
      obtain ⟨hpt, hptl, hptr, hN, hn, hlen, hkS⟩ := HP.out
      obtain ⟨h, hD, hcalm, hfit⟩ := H.out
      obtain ⟨hkl, hlenl⟩ := HK.out
      have hcol := hC2.devs' hD2 hP.fr
      by_cases htl : t < ds.length
      · have q1 : (t : Int) < (ds.length : Int) := by omega
        have q2 : (0 : Int) ≤ (t : Int) ∧ (t : Int) < (ds.length : Int) := by omega
        have htD : t < Ds.length := by omega
        have htp : t < pt.length := by omega
        obtain ⟨bj, r1, r2⟩ := hO2.behind hP.fr hlt2 htp
        have hgd : pt.getD t [] = pt[t] := by rw [List.getD_eq_getElem?_getD, List.getElem?_eq_getElem htp]; rfl
        have hrl : pt[t].length ≤ 65537 := by rw [hptr _ (List.getElem_mem _)]; omega
        have hcw : Calls Try.prog 24 #[ptr x, .int .i64 (t : Int), .int .i64 (k : Int), .slice (some ⟨bj, 0, none⟩) pt[t].length pt[t].length] wr fun e w' => CWriteP wr ds[t].1 ds[t].2.1 ds[t].2.2 (wrN Ds[t] (T : Int) (1 :: pt.getD t []) S) e w' := by
          have h9 := cwrite_any hcol hP.dev t htl (by rw [putDs_len]; exact htD) k (by omega) (by rw [putDs_sectors htD]; exact hfit _ (List.getElem_mem _)) (some ⟨bj, 0, none⟩) pt[t].length pt[t] r2 (fun h => by cases h) hrl
          rw [putDs_get _ _ _ _ _ _ htD, if_neg (Nat.lt_irrefl t), ← hS, ← hT] at h9
          rw [hgd]
          exact h9
        obtain ⟨r, hr⟩ : ∃ r, r = pt[t] := ⟨_, rfl⟩
        rw [← hr] at r1 r2 hgd hrl hcw
        have HPR := Lib.hid hP
        have HR := Lib.hid (And.intro r2 (And.intro hgd (And.intro hrl htp)))
        clear hP hO2 hC2 hD2 hlt2 hY2 hS hT hpt hptl hptr hN hn hlen hkS h hD hcalm hfit hkl hlenl hcol r2 hgd hrl hr
        go_wp2_with fail
        (with_reducible refine (hcw).mono ?_)
        rintro e v1 ⟨rfl, hFw, hDw⟩
        have hP2 := HPR.out.write htl htD hFw hDw
        have hdb := HPR.out.dev.at_ t htl (by rw [putDs_len]; exact htD)
        have hr2 : CellsAt v1 (some ⟨bj, 0, none⟩) (r.map byteV) := by
          have hlt9 := HO.out.2.2.2.1
          have h9 := (HO.out.1.behind hP2.fr hlt9 HR.out.2.2.2)
          exact HR.out.1.fr hFw (fun b hb e => by
            have e0 : b = bj := blkOf_some hb
            subst e0
            obtain ⟨b', q1, q2⟩ := HO.out.1.behind HPR.out.fr hlt9 HR.out.2.2.2
            rw [r1] at q1
            exact absurd (hlt9 _ ⟨t, htl, e⟩) (by
              have := (HO.out.1.row_ge HPR.out.fr hlt9 HR.out.2.2.2 r1)
              omega))
        have d9 : v1.cell? ⟨b9, 2, none⟩ = some sv := by rw [cell_of_blk hP2.blk]; rfl
        obtain ⟨sm, hsm⟩ : ∃ sm, sm = sumF r := ⟨_, rfl⟩
        have hsum := fun (W : World) (hW : Fr none_ v1 W) => sum_any r.length (some ⟨bj, 0, none⟩) r.length r W rfl (by have := HR.out.2.2.1; omega) (hr2.fr0 hW)
        rw [← hsm] at hsum
        have d9b : (v1.alloc (.cells #[.int .u32 (sm : Int)] 70)).cell? ⟨b9, 2, none⟩ = some sv := ((Fr.refl none_ v1).alloc _).cell0 d9
        have hLF : Fr none_ v1 (v1.alloc (.cells #[.int .u32 (sm : Int)] 70)).drew := ((Fr.refl none_ v1).alloc _).drew
        have hlit := lit_cell v1 (.int .u32 (sm : Int)) 70
        have HSUM := Lib.hid hsum
        have HP2 := Lib.hid (And.intro hP2 (And.intro hLF (And.intro hlit (show u32V sm = u32V (sumF (pt.getD t [])) from by rw [HR.out.2.1, hsm]))))
        clear hP2 hdb hr2 hsum hLF hlit hFw hDw hcw hsm r1
        go_upto_region 18 with fail
        refine wp_region_held_drew (S := fun W => True) (by kernel_rfl) trivial (fun hHeld0 => ?_)
        refine wpAnyH_take (i := 0) (oi := _) (v := ?vq1) rfl (by kernel_rfl) (by kernel_rfl) (by kernel_rfl) (fun _ _ _ h => h) (Or.inl ⟨by rfl, ?hyq1⟩) trivial ?restq1
        case hyq1 => (intro w hSw; (try dsimp only at hSw); go_simp; try with_reducible rfl)
        try simp only [List.getElem_toArray, List.getElem_cons_zero, List.getElem_cons_succ, Act.put, List.setIfInBounds_toArray, List.set_cons_zero, List.set_cons_succ]
        refine wpAnyH_take (i := 2) (oi := _) (v := ?vq2) rfl (by kernel_rfl) (by kernel_rfl) (by kernel_rfl) (fun _ _ _ h => h) (Or.inl ⟨by rfl, ?hyq2⟩) trivial ?restq2
        case hyq2 => (intro w hSw; (try dsimp only at hSw); go_simp; try with_reducible rfl)
        try simp only [List.getElem_toArray, List.getElem_cons_zero, List.getElem_cons_succ, Act.put, List.setIfInBounds_toArray, List.set_cons_zero, List.set_cons_succ]
        refine wpAnyH_ready (rs := [1, 3]) (by kernel_rfl) (by simp) ?_
        refine AllReadyH.cons (o := _) rfl (fun KK hKK => ?_) (AllReadyH.cons (o := _) rfl (fun KK hKK => ?_) (AllReadyH.nil))
        · go_simp
          refine hKK.out _ _ ?hSq3 (fun hHeldq3 => ?restq3)
          case hSq3 => exact trivial
          clear hKK KK
          try simp only [List.getElem_toArray, List.getElem_cons_zero, List.getElem_cons_succ, Act.put, List.setIfInBounds_toArray, List.set_cons_zero, List.set_cons_succ]
          refine wpAnyH_ready (rs := [3]) (by kernel_rfl) (by simp) ?_
          refine AllReadyH.cons (o := _) rfl (fun KK hKK => ?_) (AllReadyH.nil)
          go_simp
          (go_at_call 25; (with_reducible refine (HSUM.out _ (by first | exact (Fr.refl none_ v1).drew | exact HP2.out.2.1)).mono ?_); rintro e v2 ⟨rfl, hv2⟩; subst hv2)
          go_wp2_with fail
          refine hKK.out _ _ ?hSq4 (fun hHeldq4 => ?restq4)
          case hSq4 => exact trivial
          clear hKK KK
          try simp only [List.getElem_toArray, List.getElem_cons_zero, List.getElem_cons_succ, Act.put, List.setIfInBounds_toArray, List.set_cons_zero, List.set_cons_succ]
          refine wpAnyH_ready (rs := [4]) (by kernel_rfl) (by simp) ?_
          refine AllReadyH.cons (o := _) rfl (fun KK hKK => ?_) (AllReadyH.nil)
          go_simp
          refine hKK.out _ _ ?hSq5 (fun hHeldq5 => ?restq5)
          case hSq5 => exact trivial
          clear hKK KK
          try simp only [List.getElem_toArray, List.getElem_cons_zero, List.getElem_cons_succ, Act.put, List.setIfInBounds_toArray, List.set_cons_zero, List.set_cons_succ]
          refine wpAnyH_ready (rs := [5]) (by kernel_rfl) (by simp) ?_
          refine AllReadyH.cons (o := _) rfl (fun KK hKK => ?_) (AllReadyH.nil)
          refine step_u32 (by rfl) _ _ (by rfl) y2.heap.size sv t ((pt.take t).map (fun r => u32V (sumF r))) (HP2.out.1.more HP2.out.2.1).own (by rfl) v1.heap.size (by rfl) (.int .u32 (sm : Int)) HP2.out.2.2.1 (by rfl) (by omega) (HP2.out.1.more HP2.out.2.1).fr.size ?_; intro g5 c5 v5 hown5 hg5; have d5 : v5.cell? ⟨b9, 2, none⟩ = some sv := (by rw [cell_of_blk (HP2.out.1.kept HP2.out.2.1 hg5)]; rfl); have f5 : v5.frozen? ⟨b9, 2, none⟩ = false := frozen_of_blk (HP2.out.1.kept HP2.out.2.1 hg5) 2; have HP5 := Lib.hid (HP2.out.1.app HR.out.2.2.2 HP2.out.2.1 hg5 (by rw [← HP2.out.2.2.2]; exact hown5)); clear hown5 hg5
          refine hKK.out _ _ ?hSq6 (fun hHeldq6 => ?restq6)
          case hSq6 => exact trivial
          clear hKK KK
          try simp only [List.getElem_toArray, List.getElem_cons_zero, List.getElem_cons_succ, Act.put, List.setIfInBounds_toArray, List.set_cons_zero, List.set_cons_succ]
          refine wpAnyH_take (i := 6) (oi := _) (v := ?vq7) rfl (by kernel_rfl) (by kernel_rfl) (by kernel_rfl) (fun _ _ _ h => h) (Or.inl ⟨by rfl, ?hyq7⟩) trivial ?restq7
          case hyq7 => (intro w hSw; (try dsimp only at hSw); go_simp; try with_reducible rfl)
          try simp only [List.getElem_toArray, List.getElem_cons_zero, List.getElem_cons_succ, Act.put, List.setIfInBounds_toArray, List.set_cons_zero, List.set_cons_succ]
          refine wpAnyH_ready (rs := [7]) (by kernel_rfl) (by simp) ?_
          refine AllReadyH.cons (o := _) rfl (fun KK hKK => ?_) (AllReadyH.nil)
          go_simp
          refine hKK.out _ _ ?hSq8 (fun hHeldq8 => ?restq8)
          case hSq8 => exact trivial
          clear hKK KK
          try simp only [List.getElem_toArray, List.getElem_cons_zero, List.getElem_cons_succ, Act.put, List.setIfInBounds_toArray, List.set_cons_zero, List.set_cons_succ]
          refine wpAnyH_done (by kernel_rfl) ?_ _
          go_wp2_with fail
          go_roundw
          case rel => exact ⟨t + 1, by omega, by go_num, _, HP5.out⟩
          case measure => simp [intOf]; omega
        · go_simp
          (go_at_call 25; (with_reducible refine (HSUM.out _ (by first | exact (Fr.refl none_ v1).drew | exact HP2.out.2.1)).mono ?_); rintro e v2 ⟨rfl, hv2⟩; subst hv2)
          go_wp2_with fail
          refine hKK.out _ _ ?hSq9 (fun hHeldq9 => ?restq9)
          case hSq9 => exact trivial
          clear hKK KK
          try simp only [List.getElem_toArray, List.getElem_cons_zero, List.getElem_cons_succ, Act.put, List.setIfInBounds_toArray, List.set_cons_zero, List.set_cons_succ]
          refine wpAnyH_ready (rs := [1, 4]) (by kernel_rfl) (by simp) ?_
          refine AllReadyH.cons (o := _) rfl (fun KK hKK => ?_) (AllReadyH.cons (o := _) rfl (fun KK hKK => ?_) (AllReadyH.nil))
          · go_simp
            refine hKK.out _ _ ?hSq10 (fun hHeldq10 => ?restq10)
            case hSq10 => exact trivial
            clear hKK KK
            try simp only [List.getElem_toArray, List.getElem_cons_zero, List.getElem_cons_succ, Act.put, List.setIfInBounds_toArray, List.set_cons_zero, List.set_cons_succ]
            refine wpAnyH_ready (rs := [4]) (by kernel_rfl) (by simp) ?_
            refine AllReadyH.cons (o := _) rfl (fun KK hKK => ?_) (AllReadyH.nil)
            go_simp
            refine hKK.out _ _ ?hSq11 (fun hHeldq11 => ?restq11)
            case hSq11 => exact trivial
            clear hKK KK
            try simp only [List.getElem_toArray, List.getElem_cons_zero, List.getElem_cons_succ, Act.put, List.setIfInBounds_toArray, List.set_cons_zero, List.set_cons_succ]
            refine wpAnyH_ready (rs := [5]) (by kernel_rfl) (by simp) ?_
            refine AllReadyH.cons (o := _) rfl (fun KK hKK => ?_) (AllReadyH.nil)
            refine step_u32 (by rfl) _ _ (by rfl) y2.heap.size sv t ((pt.take t).map (fun r => u32V (sumF r))) (HP2.out.1.more HP2.out.2.1).own (by rfl) v1.heap.size (by rfl) (.int .u32 (sm : Int)) HP2.out.2.2.1 (by rfl) (by omega) (HP2.out.1.more HP2.out.2.1).fr.size ?_; intro g5 c5 v5 hown5 hg5; have d5 : v5.cell? ⟨b9, 2, none⟩ = some sv := (by rw [cell_of_blk (HP2.out.1.kept HP2.out.2.1 hg5)]; rfl); have f5 : v5.frozen? ⟨b9, 2, none⟩ = false := frozen_of_blk (HP2.out.1.kept HP2.out.2.1 hg5) 2; have HP5 := Lib.hid (HP2.out.1.app HR.out.2.2.2 HP2.out.2.1 hg5 (by rw [← HP2.out.2.2.2]; exact hown5)); clear hown5 hg5
            refine hKK.out _ _ ?hSq12 (fun hHeldq12 => ?restq12)
            case hSq12 => exact trivial
            clear hKK KK
            try simp only [List.getElem_toArray, List.getElem_cons_zero, List.getElem_cons_succ, Act.put, List.setIfInBounds_toArray, List.set_cons_zero, List.set_cons_succ]
            refine wpAnyH_take (i := 6) (oi := _) (v := ?vq13) rfl (by kernel_rfl) (by kernel_rfl) (by kernel_rfl) (fun _ _ _ h => h) (Or.inl ⟨by rfl, ?hyq13⟩) trivial ?restq13
            case hyq13 => (intro w hSw; (try dsimp only at hSw); go_simp; try with_reducible rfl)
            try simp only [List.getElem_toArray, List.getElem_cons_zero, List.getElem_cons_succ, Act.put, List.setIfInBounds_toArray, List.set_cons_zero, List.set_cons_succ]
            refine wpAnyH_ready (rs := [7]) (by kernel_rfl) (by simp) ?_
            refine AllReadyH.cons (o := _) rfl (fun KK hKK => ?_) (AllReadyH.nil)
            go_simp
            refine hKK.out _ _ ?hSq14 (fun hHeldq14 => ?restq14)
            case hSq14 => exact trivial
            clear hKK KK
            try simp only [List.getElem_toArray, List.getElem_cons_zero, List.getElem_cons_succ, Act.put, List.setIfInBounds_toArray, List.set_cons_zero, List.set_cons_succ]
            refine wpAnyH_done (by kernel_rfl) ?_ _
            go_wp2_with fail
            go_roundw
            case rel => exact ⟨t + 1, by omega, by go_num, _, HP5.out⟩
            case measure => simp [intOf]; omega
          · go_simp
            refine hKK.out _ _ ?hSq15 (fun hHeldq15 => ?restq15)
            case hSq15 => exact trivial
            clear hKK KK
            try simp only [List.getElem_toArray, List.getElem_cons_zero, List.getElem_cons_succ, Act.put, List.setIfInBounds_toArray, List.set_cons_zero, List.set_cons_succ]
            refine wpAnyH_ready (rs := [1]) (by kernel_rfl) (by simp) ?_
            refine AllReadyH.cons (o := _) rfl (fun KK hKK => ?_) (AllReadyH.nil)
            go_simp
            refine hKK.out _ _ ?hSq16 (fun hHeldq16 => ?restq16)
            case hSq16 => exact trivial
            clear hKK KK
            try simp only [List.getElem_toArray, List.getElem_cons_zero, List.getElem_cons_succ, Act.put, List.setIfInBounds_toArray, List.set_cons_zero, List.set_cons_succ]
            refine wpAnyH_ready (rs := [5]) (by kernel_rfl) (by simp) ?_
            refine AllReadyH.cons (o := _) rfl (fun KK hKK => ?_) (AllReadyH.nil)
            refine step_u32 (by rfl) _ _ (by rfl) y2.heap.size sv t ((pt.take t).map (fun r => u32V (sumF r))) (HP2.out.1.more HP2.out.2.1).own (by rfl) v1.heap.size (by rfl) (.int .u32 (sm : Int)) HP2.out.2.2.1 (by rfl) (by omega) (HP2.out.1.more HP2.out.2.1).fr.size ?_; intro g5 c5 v5 hown5 hg5; have d5 : v5.cell? ⟨b9, 2, none⟩ = some sv := (by rw [cell_of_blk (HP2.out.1.kept HP2.out.2.1 hg5)]; rfl); have f5 : v5.frozen? ⟨b9, 2, none⟩ = false := frozen_of_blk (HP2.out.1.kept HP2.out.2.1 hg5) 2; have HP5 := Lib.hid (HP2.out.1.app HR.out.2.2.2 HP2.out.2.1 hg5 (by rw [← HP2.out.2.2.2]; exact hown5)); clear hown5 hg5
            refine hKK.out _ _ ?hSq17 (fun hHeldq17 => ?restq17)
            case hSq17 => exact trivial
            clear hKK KK
            try simp only [List.getElem_toArray, List.getElem_cons_zero, List.getElem_cons_succ, Act.put, List.setIfInBounds_toArray, List.set_cons_zero, List.set_cons_succ]
            refine wpAnyH_take (i := 6) (oi := _) (v := ?vq18) rfl (by kernel_rfl) (by kernel_rfl) (by kernel_rfl) (fun _ _ _ h => h) (Or.inl ⟨by rfl, ?hyq18⟩) trivial ?restq18
            case hyq18 => (intro w hSw; (try dsimp only at hSw); go_simp; try with_reducible rfl)
            try simp only [List.getElem_toArray, List.getElem_cons_zero, List.getElem_cons_succ, Act.put, List.setIfInBounds_toArray, List.set_cons_zero, List.set_cons_succ]
            refine wpAnyH_ready (rs := [7]) (by kernel_rfl) (by simp) ?_
            refine AllReadyH.cons (o := _) rfl (fun KK hKK => ?_) (AllReadyH.nil)
            go_simp
            refine hKK.out _ _ ?hSq19 (fun hHeldq19 => ?restq19)
            case hSq19 => exact trivial
            clear hKK KK
            try simp only [List.getElem_toArray, List.getElem_cons_zero, List.getElem_cons_succ, Act.put, List.setIfInBounds_toArray, List.set_cons_zero, List.set_cons_succ]
            refine wpAnyH_done (by kernel_rfl) ?_ _
            go_wp2_with fail
            go_roundw
            case rel => exact ⟨t + 1, by omega, by go_num, _, HP5.out⟩
            case measure => simp [intOf]; omega
      · obtain rfl : ds.length = t := by omega
        obtain ⟨A9, c9, rfl, g1, g2, g3, g4⟩ := ownsRow_read hP.own
        have q1 : ¬ (ds.length : Int) < (ds.length : Int) := by omega
        have htake : pt.take ds.length = pt := List.take_of_length_le (by omega)
        have hsums : SumsAt wr (.slice A9 ds.length c9) (pt.map sumF) := by
          refine sums_own (base := y2.heap.size) (n := ds.length) ?_ (by rw [List.length_map, hptl])
          rw [List.map_map]
          have h9 := hP.own
          rw [htake] at h9
          exact h9
        have hcalm2 : ∀ D ∈ putDs Ds (T : Int) S pt ds.length, Calm D := putDs_calm (by omega) hcalm (fun D hD9 => by have := hfit D hD9; rw [← hS] at hkS this; omega)
        have hdn := fun W (hW : Fr none_ wr W) => cdown_any (hcol.fr0 hW) (hP.dev.fr0 hW)
        rw [downN_calm hcalm2] at hdn
        obtain ⟨V1, hV1⟩ : ∃ V1, V1 = wr.drew := ⟨_, rfl⟩
        have hF1 : Fr none_ wr V1 := by rw [hV1]; exact (Fr.refl none_ wr).drew
        have hC1 := hcol.fr0 hF1
        have hs1 : SumsAt V1 (.slice A9 ds.length c9) (pt.map sumF) := hsums.fr hF1 (fun _ _ _ h => h)
        obtain ⟨_, _, e2, _, _, _, _, e7⟩ := hC1.cells
        obtain ⟨_, _, e2w, _⟩ := hcol.cells
        have hbl := hF1.heap0 hP.blk
        obtain ⟨p0, p1, p2⟩ := hC1.pls.cells k hkl
        have f0 := hC1.pls.fz (k * 3)
        have f1 := hC1.pls.fz (k * 3 + 1)
        have f2 := hC1.pls.fz (k * 3 + 2)
        have i1 : (0 : Int) ≤ (k : Int) ∧ (k : Int) < (l.length : Int) := by omega
        have b0 : V1.cell? ⟨b9, 0, none⟩ = some (.int .i64 1) := by rw [cell_of_blk hbl]; rfl
        have b1 : V1.cell? ⟨b9, 1, none⟩ = some (.int .i64 (n : Int)) := by rw [cell_of_blk hbl]; rfl
        have b2 : V1.cell? ⟨b9, 2, none⟩ = some (.slice A9 ds.length c9) := by rw [cell_of_blk hbl]; rfl
        have hne := pl_ne h
        have hb9p : b9 ≠ pb := by
          have h8 := blk_lt h.pls.blk
          have h7 := hY2.size
          have h6 := hP.ge
          omega
        obtain ⟨W3, hW3⟩ : ∃ W3, W3 = (((V1.setCell ⟨pb, k * 3, none⟩ (.int .i64 1)).setCell ⟨pb, k * 3 + 1, none⟩ (.int .i64 (n : Int))).setCell ⟨pb, k * 3 + 2, none⟩ (.slice A9 ds.length c9)) := ⟨_, rfl⟩
        have hput := hC1.put (W := W3) k hkl (⟨1, n, pt.map sumF⟩, .slice A9 ds.length c9) hs1 hW3
        have hfin : (∃ sv, ColdAt W3.drew x lb pb c g (ds.map (·.1)) (C.putP k ⟨1, n, pt.map sumF⟩) (l.set k (⟨1, n, pt.map sumF⟩, sv))) ∧ DevsAt W3.drew ds (putDs Ds (T : Int) S pt ds.length) ∧ Fr (fun i => devsB ds i ∨ i = g ∨ i = pb) w W3.drew := by
          refine ⟨⟨_, hput.1.fr0 (Fr.refl none_ W3).drew⟩, ((hP.dev.fr0 hF1).fr hput.2 (fun i hi b hb e => ?_)).fr0 (Fr.refl none_ W3).drew, ?_⟩
          · subst e
            exact dev_cellsC ((hP.dev.fr0 hF1).at_ i hi (by rw [← (hP.dev.fr0 hF1).len]; exact hi)) hC1.pls.blk (by decide) hb
          · have k1 : Fr (fun i => devsB ds i ∨ i = g ∨ i = pb) w y2 := hY2.mono (fun _ _ e => .inr (.inl e))
            have k2 : Fr (fun i => devsB ds i ∨ i = g ∨ i = pb) y2 wr := hP.fr.mono (fun _ _ e => .inl e)
            have k3 : Fr (fun i => devsB ds i ∨ i = g ∨ i = pb) V1 W3 := hput.2.mono (fun _ _ e => .inr (.inr e))
            exact (((k1.trans k2).trans0 hF1).trans k3).drew
        have hs3 : ∀ o v, V1.cell? ⟨x, o, none⟩ = some v → W3.drew.cell? ⟨x, o, none⟩ = some v := fun o v hv => hput.2.drew.cell hv hne.1
        have hs4 : ∀ o v, V1.cell? ⟨b9, o, none⟩ = some v → W3.drew.cell? ⟨b9, o, none⟩ = some v := fun o v hv => hput.2.drew.cell hv hb9p
        have HS3 := Lib.hid (And.intro (hs3 _ _ e7) (And.intro (hs4 _ _ b0) (And.intro (hs4 _ _ b1) (hs4 _ _ b2))))
        have HDN := Lib.hid hdn
        have HFIN := Lib.hid (And.intro hfin (And.intro hpt (And.intro hn (And.intro hS hT))))
        have HV1 := Lib.hid hV1
        have HW3 := Lib.hid hW3
        have hs0 : V1.drew.cell? ⟨x, 7, none⟩ = some (.slice (some ⟨pb, 0, none⟩) l.length l.length) ∧ V1.drew.cell? ⟨b9, 0, none⟩ = some (.int .i64 1) ∧ V1.drew.cell? ⟨b9, 1, none⟩ = some (.int .i64 (n : Int)) ∧ V1.drew.cell? ⟨b9, 2, none⟩ = some (.slice A9 ds.length c9) := ⟨e7, b0, b1, b2⟩
        clear hP hO2 hC2 hD2 hlt2 hY2 hS hT hpt hptl hptr hN hn hlen hkS h hD hcalm hfit hlenl hcol g1 g2 g3 g4 htake hsums hcalm2 hdn hV1 hF1 hC1 hs1 hbl hne hb9p hW3 hput hfin hs3 hs4 HST6 HENC HSP HDW HIX
        obtain ⟨v0, hv0⟩ : ∃ v, v = l[k].1.st := ⟨_, rfl⟩
        obtain ⟨v1, hv1⟩ : ∃ v, v = l[k].1.n := ⟨_, rfl⟩
        obtain ⟨v2, hv2⟩ : ∃ v, v = l[k].2 := ⟨_, rfl⟩
        rw [← hv0] at p0
        rw [← hv1] at p1
        rw [← hv2] at p2
        clear hv0 hv1 hv2
        go_wp2_with fail
        go_region_held3 (fun w' => w'.cell? ⟨x, 2, none⟩ = some (.int .i64 (C.m : Int))) (first | exact e2w) (first | (go_at_call 21; (with_reducible refine (HDN.out _ (Fr.refl none_ wr).drew).mono ?_); rintro e x1 ⟨rfl, hw1⟩; subst hw1))
        all_goals
          try rw [← HV1.out]
          go_wp2_with fail
          refine wp_region_held_drew (S := fun W => W.cell? ⟨x, 7, none⟩ = some (.slice (some ⟨pb, 0, none⟩) l.length l.length) ∧ W.cell? ⟨b9, 0, none⟩ = some (.int .i64 1) ∧ W.cell? ⟨b9, 1, none⟩ = some (.int .i64 (n : Int)) ∧ W.cell? ⟨b9, 2, none⟩ = some (.slice A9 ds.length c9)) (by kernel_rfl) hs0 (fun hHeld0 => ?_)
          refine wpAnyH_take (i := 0) (oi := _) (v := ?vz1) rfl (by kernel_rfl) (by kernel_rfl) (by kernel_rfl) (fun _ _ _ h => h) (Or.inl ⟨by rfl, ?hyz1⟩) (by assumption) ?restz1
          case hyz1 => (intro w hSw; (try dsimp only at hSw); go_simp; try with_reducible rfl)
          try simp only [List.getElem_toArray, List.getElem_cons_zero, List.getElem_cons_succ, Act.put, List.setIfInBounds_toArray, List.set_cons_zero, List.set_cons_succ]
          refine wpAnyH_take (i := 1) (oi := _) (v := ?vz2) rfl (by kernel_rfl) (by kernel_rfl) (by kernel_rfl) (fun _ _ _ h => h) (Or.inl ⟨by rfl, ?hyz2⟩) (by assumption) ?restz2
          case hyz2 => (intro w hSw; (try dsimp only at hSw); go_simp; try with_reducible rfl)
          try simp only [List.getElem_toArray, List.getElem_cons_zero, List.getElem_cons_succ, Act.put, List.setIfInBounds_toArray, List.set_cons_zero, List.set_cons_succ]
          refine wpAnyH_take (i := 2) (oi := _) (v := ?vz3) rfl (by kernel_rfl) (by kernel_rfl) (by kernel_rfl) (fun _ _ _ h => h) (Or.inl ⟨by rfl, ?hyz3⟩) (by assumption) ?restz3
          case hyz3 => (intro w hSw; (try dsimp only at hSw); go_simp; try with_reducible rfl)
          try simp only [List.getElem_toArray, List.getElem_cons_zero, List.getElem_cons_succ, Act.put, List.setIfInBounds_toArray, List.set_cons_zero, List.set_cons_succ]
          refine wpAnyH_take (i := 3) (oi := _) (v := ?vz4) rfl (by kernel_rfl) (by kernel_rfl) (by kernel_rfl) (fun _ _ _ h => h) (Or.inl ⟨by rfl, ?hyz4⟩) (by assumption) ?restz4
          case hyz4 => (intro w hSw; (try dsimp only at hSw); go_simp; try with_reducible rfl)
          try simp only [List.getElem_toArray, List.getElem_cons_zero, List.getElem_cons_succ, Act.put, List.setIfInBounds_toArray, List.set_cons_zero, List.set_cons_succ]
          refine wpAnyH_take (i := 4) (oi := _) (v := ?vz5) rfl (by kernel_rfl) (by kernel_rfl) (by kernel_rfl) (fun _ _ _ h => h) (Or.inl ⟨by rfl, ?hyz5⟩) (by assumption) ?restz5
          case hyz5 => (intro w hSw; (try dsimp only at hSw); go_simp; try with_reducible rfl)
          try simp only [List.getElem_toArray, List.getElem_cons_zero, List.getElem_cons_succ, Act.put, List.setIfInBounds_toArray, List.set_cons_zero, List.set_cons_succ]
          refine wpAnyH_take (i := 5) (oi := _) (v := ?vz6) rfl (by kernel_rfl) (by kernel_rfl) (by kernel_rfl) (fun _ _ _ h => h) (Or.inl ⟨by rfl, ?hyz6⟩) (by assumption) ?restz6
          case hyz6 => (intro w hSw; (try dsimp only at hSw); go_simp; try with_reducible rfl)
          try simp only [List.getElem_toArray, List.getElem_cons_zero, List.getElem_cons_succ, Act.put, List.setIfInBounds_toArray, List.set_cons_zero, List.set_cons_succ]
          refine wpAnyH_take (i := 6) (oi := _) (v := ?vz7) rfl (by kernel_rfl) (by kernel_rfl) (by kernel_rfl) (fun _ _ _ h => h) (Or.inl ⟨by rfl, ?hyz7⟩) (by assumption) ?restz7
          case hyz7 => (intro w hSw; (try dsimp only at hSw); go_simp; try with_reducible rfl)
          try simp only [List.getElem_toArray, List.getElem_cons_zero, List.getElem_cons_succ, Act.put, List.setIfInBounds_toArray, List.set_cons_zero, List.set_cons_succ]
          refine wpAnyH_ready (rs := [7]) (by kernel_rfl) (by simp) ?_
          refine AllReadyH.cons (o := _) rfl (fun KK hKK => ?_) (AllReadyH.nil)
          go_simp
          rw [← HW3.out]
          go_wp2_with fail
          refine hKK.out _ _ ?hSz8 (fun hHeldz8 => ?restz8)
          case hSz8 => first | exact HS3.out | exact hs0
          clear hKK KK
          try simp only [List.getElem_toArray, List.getElem_cons_zero, List.getElem_cons_succ, Act.put, List.setIfInBounds_toArray, List.set_cons_zero, List.set_cons_succ]
          refine wpAnyH_done (by kernel_rfl) ?_ _
          go_wp2_with fail
          go_ret2
          obtain ⟨hfin, hpt, hn, hS, hT⟩ := HFIN.out
          unfold PutOk
          rw [← hpt, ← hn, ← hS, ← hT]
          exact ⟨rfl, hfin.1, hfin.2.1, hfin.2.2⟩

end Go.Proofs.Ytdkjmnhblepkaaa

import Derived.Test.YtdkjmnhblepkaaaCold7
namespace Go.Proofs.Ytdkjmnhblepkaaa
open Go.RowKit
set_option linter.unusedVariables false
set_option linter.unusedSimpArgs false
set_option maxRecDepth 100000

/-! cold.New. -/
def newCold (d m fi pl si : Nat) : ColdS := ⟨d, m, fi, si, List.replicate pl ⟨0, 0, []⟩⟩
structure CNewP (w : World) (ds : List Nat) (C : ColdS) (e : Ending) (w' : World) : Prop where
  ret : ∃ x lb pb c g, e = .returned (.tuple #[ptr x, .nilIface]) ∧ ColdAt w' x lb pb c g ds C (List.replicate C.places.length freeP) ∧ w.heap.size ≤ x ∧ w.heap.size ≤ lb ∧ w.heap.size ≤ pb ∧ w.heap.size ≤ c ∧ w.heap.size ≤ g
  fr : Fr none_ w w'
theorem cnew_mk {w W' : World} {x lb pb c g cl nl : Nat} {rest : List Value} {ds : List Nat} {d m fi pl si : Nat} (hnl : ds.length = nl)
    (hx : W'.heap[x]? = some (.cells #[.slice (some ⟨lb, 0, none⟩) nl cl, .int .i64 (d : Int), .int .i64 (m : Int), .int .i64 (fi : Int), .int .i64 (pl : Int), .int .i64 (si : Int), ptr c, .slice (some ⟨pb, 0, none⟩) pl pl] 57 (0, 0)))
    (hcode : CodeS W' c d m g) (hlb : W'.heap[lb]? = some (.cells (ds.map ptr ++ rest).toArray 46 (0, 0))) (hpb : W'.heap[pb]? = some (.cells ((List.replicate pl freeP).flatMap plC).toArray 60 (0, 0)))
    (hlen : ds.length = d + m) (hpl : pl ≤ 1024) (hsi : 1 ≤ si ∧ si ≤ 65536) (s1 : w.heap.size ≤ x) (s2 : w.heap.size ≤ lb) (s3 : w.heap.size ≤ pb) (s4 : w.heap.size ≤ c) (s5 : w.heap.size ≤ g) (hF : Fr none_ w W') : CNewP w ds (newCold d m fi pl si) (.returned (.tuple #[ptr x, .nilIface])) W' := by
  subst hnl
  have hpn : (newCold d m fi pl si).places.length = pl := by simp [newCold]
  refine ⟨⟨x, lb, pb, c, g, rfl, ⟨⟨cl, ?_⟩, hcode, ⟨rest, hlb⟩, ⟨by rw [hpn]; exact hpb, fun y hy => ?_⟩, ?_, hlen, by rw [hpn]; exact ⟨hpl, hsi⟩⟩, s1, s2, s3, s4, s5⟩, hF⟩
  · rw [hpn, List.length_replicate]; exact hx
  · rw [List.eq_of_mem_replicate hy]; exact .inl ⟨rfl, rfl⟩
  · rw [hpn, List.map_replicate]; rfl
set_option maxHeartbeats 8000000 in
theorem cnew_ok {w : World} (ds : List (Nat × Nat × Nat)) (Ds : List DevS) (hD : DevsAt w ds Ds) (A : Option Addr) (ca : Nat) (hA : CellsAt w A ((ds.map (·.1)).map ptr)) (d m fi pl si : Nat) (hd : 1 ≤ d) (hdm : d + m ≤ 32) (hlen : ds.length = d + m) (hpl : 1 ≤ pl ∧ pl ≤ 1024) (hsi : 1 ≤ si ∧ si ≤ 65536)
    (hfit : ∀ i (h : i < Ds.length), ((fi + pl * sectC d si : Nat) : Int) ≤ Ds[i].sectors) :
    Calls Try.prog 5 #[.slice A ds.length ca, cfgV d m fi pl si] w fun e w' => CNewP w (ds.map (·.1)) (newCold d m fi pl si) e w' := by
  have hl2 := hD.len
  have hfi : fi ≤ 16384 := by
    have h1 := hfit 0 (by omega)
    have h2 := (hD.at_ 0 (by omega) (by omega)).most
    omega
  have hle : sectC d si ≤ 1025 := by
    unfold sectC
    have := partC_le (d := d) hsi.2
    omega
  have hse := sect_any d m fi pl si ⟨hd, by omega⟩ hsi
  obtain ⟨S, hS⟩ : ∃ S, S = sectC d si := ⟨_, rfl⟩
  rw [← hS] at hfit hle hse
  obtain ⟨T, hT⟩ : ∃ T, T = pl * S := ⟨_, rfl⟩
  have hmul : (pl : Int) * (S : Int) = (T : Int) := by rw [hT]; exact (Int.natCast_mul _ _).symm
  rw [← hT] at hfit
  have hTb : T ≤ 16384 := by
    have h1 := hfit 0 (by omega)
    have h2 := (hD.at_ 0 (by omega) (by omega)).most
    omega
  have HWT := Lib.hid (wrap_two hmul (by omega))
  have H := Lib.hid (And.intro hD (And.intro hA hfit))
  have HSE := Lib.hid hse
  obtain ⟨a, o, hAe⟩ := hA.addr (by simp; omega)
  subst hAe
  have z1 : ¬ (fi : Int) < 0 := by omega
  have z2 : ¬ (pl : Int) < 1 := by omega
  have z3 : ¬ (1024 : Int) < (pl : Int) := by omega
  have z4 : ¬ (si : Int) < 1 := by omega
  have z5 : ¬ (65536 : Int) < (si : Int) := by omega
  have z6 : ¬ pl < 1 := by omega
  have z7 : pl ≤ 1024 := hpl.2
  have z8 : ¬ si < 1 := by omega
  have z9 : si ≤ 65536 := hsi.2
  have z10 : (((ds.length : Nat) : Int) != (d : Int) + (m : Int)) = false := by rw [hlen]; simp
  have hFb : Fr none_ w (w.alloc (.cells #[.int .i64 (d : Int), .int .i64 (m : Int), .int .i64 (fi : Int), .int .i64 (pl : Int), .int .i64 (si : Int)] 31)) := (Fr.refl _ _).alloc _
  have hbb := heap_alloc_new w (.cells #[.int .i64 (d : Int), .int .i64 (m : Int), .int .i64 (fi : Int), .int .i64 (pl : Int), .int .i64 (si : Int)] 31)
  obtain ⟨V, hV⟩ : ∃ V, V = w.alloc (.cells #[.int .i64 (d : Int), .int .i64 (m : Int), .int .i64 (fi : Int), .int .i64 (pl : Int), .int .i64 (si : Int)] 31) := ⟨_, rfl⟩
  rw [← hV] at hFb hbb
  have HV := Lib.hid (And.intro hV (And.intro hFb hbb))
  have v0 : V.cell? ⟨w.heap.size, 0, none⟩ = some (.int .i64 (d : Int)) := by rw [cell_of_blk hbb]; rfl
  have v1 : V.cell? ⟨w.heap.size, 1, none⟩ = some (.int .i64 (m : Int)) := by rw [cell_of_blk hbb]; rfl
  have hcode := rsnew_ok d m hd hdm V
  have HC := Lib.hid hcode
  clear hD hA hfit hse hS hT hmul hV hFb hbb hcode
  have HLN := Lib.hid (And.intro hlen hl2)
  rw [hlen]
  clear hlen hl2
  go_enter Try.func5, Try.ntmps5
  go_upto_region 1 with fail
  rw [← HV.out.1]
  go_wp2_with fail
  (with_reducible refine HC.out.mono ?_)
  rintro e w1 ⟨⟨c, g, rfl, hcode, hcg, hgg⟩, hF1⟩
  have hb1 := hF1.heap0 HV.out.2.2
  have u0 : w1.cell? ⟨w.heap.size, 0, none⟩ = some (.int .i64 (d : Int)) := by rw [cell_of_blk hb1]; rfl
  have u1 : w1.cell? ⟨w.heap.size, 1, none⟩ = some (.int .i64 (m : Int)) := by rw [cell_of_blk hb1]; rfl
  have u2 : w1.cell? ⟨w.heap.size, 2, none⟩ = some (.int .i64 (fi : Int)) := by rw [cell_of_blk hb1]; rfl
  have u3 : w1.cell? ⟨w.heap.size, 3, none⟩ = some (.int .i64 (pl : Int)) := by rw [cell_of_blk hb1]; rfl
  have u4 : w1.cell? ⟨w.heap.size, 4, none⟩ = some (.int .i64 (si : Int)) := by rw [cell_of_blk hb1]; rfl
  have HC1 := Lib.hid (And.intro hcode (And.intro hcg (And.intro hgg (And.intro hF1 hb1))))
  clear hcode hcg hgg hF1 hb1 HC v0 v1
  go_upto_region 2 with fail
  go_cut [54] (fun v wx => v = .bool false ∧ wx = w1)
  case first =>
    go_wp2_with fail
    go_meet
    case rel => exact ⟨by simp [hpl.1, hpl.2, hsi.1, hsi.2] <;> omega, rfl⟩
  case rest =>
    obtain ⟨rfl, hwc⟩ := hcut
    subst hwc
    have hst : ∀ wx, Fr none_ wc wx → (wx.cell? ⟨w.heap.size, 0, none⟩ = some (.int .i64 (d : Int)) ∧ wx.cell? ⟨w.heap.size, 1, none⟩ = some (.int .i64 (m : Int)) ∧ wx.cell? ⟨w.heap.size, 2, none⟩ = some (.int .i64 (fi : Int)) ∧ wx.cell? ⟨w.heap.size, 3, none⟩ = some (.int .i64 (pl : Int)) ∧ wx.cell? ⟨w.heap.size, 4, none⟩ = some (.int .i64 (si : Int))) := fun wx hx => ⟨hx.cell0 u0, hx.cell0 u1, hx.cell0 u2, hx.cell0 u3, hx.cell0 u4⟩
    have HST0 := Lib.hid hst
    have hFw : Fr none_ w wc := HV.out.2.1.trans HC1.out.2.2.2.1
    have HFW := Lib.hid hFw
    clear hst u0 u1 u2 u3 u4 hFw
    go_wp2_with fail
    go_loopw [58] (fun v wr => ∃ k : Nat, k ≤ d + m ∧ v = .int .i64 k ∧ Fr none_ wc wr) (fun v _ => d + m - (intOf v).toNat)
    case atStart => exact ⟨0, by omega, rfl, Fr.refl _ _⟩
    case round =>
      obtain ⟨k, hk, rfl, hF⟩ := hrel
      by_cases hkl : k < d + m
      · have q1 : (k : Int) < ((d + m : Nat) : Int) := by omega
        have q2 : (0 : Int) ≤ (k : Int) ∧ (k : Int) < ((d + m : Nat) : Int) := by omega
        have q3 : (k : Int) < (d : Int) + (m : Int) := by omega
        have q4 : (0 : Int) ≤ (k : Int) ∧ (k : Int) < (d : Int) + (m : Int) := by omega
        obtain ⟨hD, hA, hfit⟩ := H.out
        have hk1 : k < ds.length := by have := HLN.out; omega
        have hk2 : k < Ds.length := by have := HLN.out; omega
        have hdv := hD.at_ k hk1 hk2
        have hmo := hdv.most
        have hft := hfit k hk2
        obtain ⟨a', o', hAe, hc⟩ := hA.getD (k := k) (v := ptr ds[k].1) (by rw [List.getElem?_map, List.getElem?_map, List.getElem?_eq_getElem hk1]; rfl)
        cases hAe
        replace hc := (HFW.out.trans hF).cell0 hc
        have hsc := fun wx (hx : Fr none_ wr wx) => sectors_any (hdv.fr0 ((HFW.out.trans hF).trans hx))
        obtain ⟨p, hp⟩ : ∃ p, p = ds[k].1 := ⟨_, rfl⟩
        obtain ⟨sn, hsn⟩ : ∃ sn, sn = Ds[k].sectors := ⟨_, rfl⟩
        rw [← hp] at hc hsc
        rw [← hsn] at hsc hmo hft
        have w2 : IntKind.i64.wrap (sn - (T : Int)) = sn - (T : Int) := IntWalk.i64_in _ (by omega)
        have w3 : ¬ sn - (T : Int) < (fi : Int) := by omega
        have w4 : (fi : Int) ≤ sn - (T : Int) := by omega
        have HSC := Lib.hid hsc
        have HF := Lib.hid hF
        have hst : ∀ wx, Fr none_ wr wx → _ := fun wx hx => HST0.out wx (hF.trans hx)
        have HST := Lib.hid hst
        have w1 := HWT.out.2
        clear hD hA hfit hdv hft hsc hp hsn hst hF
        go_wp2_with fail
        refine wp_region_held_drew (S := fun W => (W.cell? ⟨w.heap.size, 0, none⟩ = some (.int .i64 (d : Int)) ∧ W.cell? ⟨w.heap.size, 1, none⟩ = some (.int .i64 (m : Int)) ∧ W.cell? ⟨w.heap.size, 2, none⟩ = some (.int .i64 (fi : Int)) ∧ W.cell? ⟨w.heap.size, 3, none⟩ = some (.int .i64 (pl : Int)) ∧ W.cell? ⟨w.heap.size, 4, none⟩ = some (.int .i64 (si : Int)))) (by kernel_rfl) (HST.out _ (Fr.refl none_ wr).drew) (fun hHeld0 => ?_)
        refine wpAnyH_take (i := 0) (oi := _) (v := ?v1) rfl (by kernel_rfl) (by kernel_rfl) (by kernel_rfl) (fun _ _ _ h => h) (Or.inl ⟨by rfl, ?hy1⟩) (by assumption) ?rest1
        case hy1 => (intro w hSw; (try dsimp only at hSw); go_simp; try with_reducible rfl)
        try simp only [List.getElem_toArray, List.getElem_cons_zero, List.getElem_cons_succ, Act.put, List.setIfInBounds_toArray, List.set_cons_zero, List.set_cons_succ]
        refine wpAnyH_take (i := 1) (oi := _) (v := ?v2) rfl (by kernel_rfl) (by kernel_rfl) (by kernel_rfl) (fun _ _ _ h => h) (Or.inl ⟨by rfl, ?hy2⟩) (by assumption) ?rest2
        case hy2 => (intro w hSw; (try dsimp only at hSw); go_simp; try with_reducible rfl)
        try simp only [List.getElem_toArray, List.getElem_cons_zero, List.getElem_cons_succ, Act.put, List.setIfInBounds_toArray, List.set_cons_zero, List.set_cons_succ]
        refine wpAnyH_take (i := 2) (oi := _) (v := ?v3) rfl (by kernel_rfl) (by kernel_rfl) (by kernel_rfl) (fun _ _ _ h => h) (Or.inl ⟨by rfl, ?hy3⟩) (by assumption) ?rest3
        case hy3 => (intro w hSw; (try dsimp only at hSw); go_simp; try with_reducible rfl)
        try simp only [List.getElem_toArray, List.getElem_cons_zero, List.getElem_cons_succ, Act.put, List.setIfInBounds_toArray, List.set_cons_zero, List.set_cons_succ]
        refine wpAnyH_take (i := 3) (oi := _) (v := ?v4) rfl (by kernel_rfl) (by kernel_rfl) (by kernel_rfl) (fun _ _ _ h => h) (Or.inl ⟨by rfl, ?hy4⟩) (by assumption) ?rest4
        case hy4 => (intro w hSw; (try dsimp only at hSw); go_simp; try with_reducible rfl)
        try simp only [List.getElem_toArray, List.getElem_cons_zero, List.getElem_cons_succ, Act.put, List.setIfInBounds_toArray, List.set_cons_zero, List.set_cons_succ]
        refine wpAnyH_take (i := 4) (oi := _) (v := ?v5) rfl (by kernel_rfl) (by kernel_rfl) (by kernel_rfl) (fun _ _ _ h => h) (Or.inl ⟨by rfl, ?hy5⟩) (by assumption) ?rest5
        case hy5 => (intro w hSw; (try dsimp only at hSw); go_simp; try with_reducible rfl)
        try simp only [List.getElem_toArray, List.getElem_cons_zero, List.getElem_cons_succ, Act.put, List.setIfInBounds_toArray, List.set_cons_zero, List.set_cons_succ]
        refine wpAnyH_take (i := 5) (oi := _) (v := ?v6) rfl (by kernel_rfl) (by kernel_rfl) (by kernel_rfl) (fun _ _ _ h => h) (Or.inl ⟨by rfl, ?hy6⟩) (by assumption) ?rest6
        case hy6 => (intro w hSw; (try dsimp only at hSw); go_simp; try with_reducible rfl)
        try simp only [List.getElem_toArray, List.getElem_cons_zero, List.getElem_cons_succ, Act.put, List.setIfInBounds_toArray, List.set_cons_zero, List.set_cons_succ]
        refine wpAnyH_take (i := 7) (oi := _) (v := ?v7) rfl (by kernel_rfl) (by kernel_rfl) (by kernel_rfl) (fun _ _ _ h => h) (Or.inl ⟨by rfl, ?hy7⟩) (by assumption) ?rest7
        case hy7 => (intro w hSw; (try dsimp only at hSw); go_simp; try with_reducible rfl)
        try simp only [List.getElem_toArray, List.getElem_cons_zero, List.getElem_cons_succ, Act.put, List.setIfInBounds_toArray, List.set_cons_zero, List.set_cons_succ]
        refine wpAnyH_take (i := 8) (oi := _) (v := ?v8) rfl (by kernel_rfl) (by kernel_rfl) (by kernel_rfl) (fun _ _ _ h => h) (Or.inl ⟨by rfl, ?hy8⟩) (by assumption) ?rest8
        case hy8 => (intro w hSw; (try dsimp only at hSw); go_simp; try with_reducible rfl)
        try simp only [List.getElem_toArray, List.getElem_cons_zero, List.getElem_cons_succ, Act.put, List.setIfInBounds_toArray, List.set_cons_zero, List.set_cons_succ]
        refine wpAnyH_take (i := 9) (oi := _) (v := ?v9) rfl (by kernel_rfl) (by kernel_rfl) (by kernel_rfl) (fun _ _ _ h => h) (Or.inl ⟨by rfl, ?hy9⟩) (by assumption) ?rest9
        case hy9 => (intro w hSw; (try dsimp only at hSw); go_simp; try with_reducible rfl)
        try simp only [List.getElem_toArray, List.getElem_cons_zero, List.getElem_cons_succ, Act.put, List.setIfInBounds_toArray, List.set_cons_zero, List.set_cons_succ]
        refine wpAnyH_ready (rs := [6]) (by kernel_rfl) (by simp) ?_
        refine AllReadyH.cons (o := _) rfl (fun KK hKK => ?_) (AllReadyH.nil)
        go_simp
        (go_at_call 15; (with_reducible refine (HSC.out _ (Fr.refl none_ wr).drew).mono ?_); rintro e x1 ⟨rfl, hw1⟩; subst hw1)
        go_wp2_with fail
        refine hKK.out _ _ ?hS10 (fun hHeld10 => ?rest10)
        case hS10 => first | exact HST.out _ hX2 | exact HST.out _ (Fr.refl none_ wr).drew
        clear hKK KK
        try simp only [List.getElem_toArray, List.getElem_cons_zero, List.getElem_cons_succ, Act.put, List.setIfInBounds_toArray, List.set_cons_zero, List.set_cons_succ]
        refine wpAnyH_ready (rs := [10]) (by kernel_rfl) (by simp) ?_
        refine AllReadyH.cons (o := _) rfl (fun KK hKK => ?_) (AllReadyH.nil)
        go_simp
        (go_at_call 16; (with_reducible refine (HSE.out _).mono ?_); rintro e x2 ⟨rfl, hY2⟩; have hX2 : Fr none_ wr x2 := (Fr.refl none_ wr).drew.trans hY2)
        go_wp2_with fail
        refine hKK.out _ _ ?hS11 (fun hHeld11 => ?rest11)
        case hS11 => first | exact HST.out _ hX2 | exact HST.out _ (Fr.refl none_ wr).drew
        clear hKK KK
        try simp only [List.getElem_toArray, List.getElem_cons_zero, List.getElem_cons_succ, Act.put, List.setIfInBounds_toArray, List.set_cons_zero, List.set_cons_succ]
        refine wpAnyH_take (i := 11) (oi := _) (v := ?v12) rfl (by kernel_rfl) (by kernel_rfl) (by kernel_rfl) (fun _ _ _ h => h) (Or.inl ⟨by rfl, ?hy12⟩) (by assumption) ?rest12
        case hy12 => (intro w hSw; (try dsimp only at hSw); go_simp; try with_reducible rfl)
        try simp only [List.getElem_toArray, List.getElem_cons_zero, List.getElem_cons_succ, Act.put, List.setIfInBounds_toArray, List.set_cons_zero, List.set_cons_succ]
        refine wpAnyH_take (i := 12) (oi := _) (v := ?v13) rfl (by kernel_rfl) (by kernel_rfl) (by kernel_rfl) (fun _ _ _ h => h) (Or.inl ⟨by rfl, ?hy13⟩) (by assumption) ?rest13
        case hy13 => (intro w hSw; (try dsimp only at hSw); go_simp; try with_reducible rfl)
        try simp only [List.getElem_toArray, List.getElem_cons_zero, List.getElem_cons_succ, Act.put, List.setIfInBounds_toArray, List.set_cons_zero, List.set_cons_succ]
        refine wpAnyH_take (i := 13) (oi := _) (v := ?v14) rfl (by kernel_rfl) (by kernel_rfl) (by kernel_rfl) (fun _ _ _ h => h) (Or.inl ⟨by rfl, ?hy14⟩) (by assumption) ?rest14
        case hy14 => (intro w hSw; (try dsimp only at hSw); go_simp; try with_reducible rfl)
        try simp only [List.getElem_toArray, List.getElem_cons_zero, List.getElem_cons_succ, Act.put, List.setIfInBounds_toArray, List.set_cons_zero, List.set_cons_succ]
        refine wpAnyH_take (i := 14) (oi := _) (v := ?v15) rfl (by kernel_rfl) (by kernel_rfl) (by kernel_rfl) (fun _ _ _ h => h) (Or.inl ⟨by rfl, ?hy15⟩) (by assumption) ?rest15
        case hy15 => (intro w hSw; (try dsimp only at hSw); go_simp; try with_reducible rfl)
        try simp only [List.getElem_toArray, List.getElem_cons_zero, List.getElem_cons_succ, Act.put, List.setIfInBounds_toArray, List.set_cons_zero, List.set_cons_succ]
        refine wpAnyH_done (by kernel_rfl) ?_ _
        have HX2 := Lib.hid hX2
        clear hX2 w1
        go_wp2_with fail
        go_roundw
        case rel => exact ⟨k + 1, by omega, by go_num, HF.out.trans HX2.out⟩
        case measure => simp [intOf]; omega
      · have hk2 : k = d + m := by omega
        have q1 : ¬ (k : Int) < ((d + m : Nat) : Int) := by omega
        have q3 : ¬ (k : Int) < (d : Int) + (m : Int) := by omega
        have HF := Lib.hid hF
        clear hF hkl hk
        have hcl := fun wx (hx : Fr none_ wr wx) => clone_any (w := wx) (some ⟨a, o, none⟩) ca (ds.map (·.1)) (H.out.2.1.fr0 ((HFW.out.trans HF.out).trans hx)) (by rw [List.length_map]; have := HLN.out; omega) (by rw [List.length_map]; have := HLN.out; omega)
        rw [List.length_map, HLN.out.1] at hcl
        have hmk := mkPlaces pl (by omega)
        obtain ⟨Z, hZ⟩ : ∃ Z, Z = ((List.replicate pl freeP).flatMap plC).toArray := ⟨_, rfl⟩
        rw [← hZ] at hmk
        have hst : ∀ wx, Fr none_ wr wx → _ := fun wx hx => HST0.out wx (HF.out.trans hx)
        have HST := Lib.hid hst
        have HCL := Lib.hid hcl
        have HZ := Lib.hid hZ
        clear hst hcl hZ
        go_wp2_with fail
        refine wp_region_held_drew (S := fun W => (W.cell? ⟨w.heap.size, 0, none⟩ = some (.int .i64 (d : Int)) ∧ W.cell? ⟨w.heap.size, 1, none⟩ = some (.int .i64 (m : Int)) ∧ W.cell? ⟨w.heap.size, 2, none⟩ = some (.int .i64 (fi : Int)) ∧ W.cell? ⟨w.heap.size, 3, none⟩ = some (.int .i64 (pl : Int)) ∧ W.cell? ⟨w.heap.size, 4, none⟩ = some (.int .i64 (si : Int)))) (by kernel_rfl) (HST.out _ (Fr.refl none_ wr).drew) (fun hHeld0 => ?_)
        refine wpAnyH_take (i := 0) (oi := _) (v := ?vn1) rfl (by kernel_rfl) (by kernel_rfl) (by kernel_rfl) (fun _ _ _ h => h) (Or.inl ⟨by rfl, ?hyn1⟩) (by assumption) ?restn1
        case hyn1 => (intro w hSw; (try dsimp only at hSw); go_simp; try with_reducible rfl)
        try simp only [List.getElem_toArray, List.getElem_cons_zero, List.getElem_cons_succ, Act.put, List.setIfInBounds_toArray, List.set_cons_zero, List.set_cons_succ]
        refine wpAnyH_take (i := 2) (oi := _) (v := ?vn2) rfl (by kernel_rfl) (by kernel_rfl) (by kernel_rfl) (fun _ _ _ h => h) (Or.inl ⟨by rfl, ?hyn2⟩) (by assumption) ?restn2
        case hyn2 => (intro w hSw; (try dsimp only at hSw); go_simp; try with_reducible rfl)
        try simp only [List.getElem_toArray, List.getElem_cons_zero, List.getElem_cons_succ, Act.put, List.setIfInBounds_toArray, List.set_cons_zero, List.set_cons_succ]
        refine wpAnyH_take (i := 3) (oi := _) (v := ?vn3) rfl (by kernel_rfl) (by kernel_rfl) (by kernel_rfl) (fun _ _ _ h => h) (Or.inl ⟨by rfl, ?hyn3⟩) (by assumption) ?restn3
        case hyn3 => (intro w hSw; (try dsimp only at hSw); go_simp; try with_reducible rfl)
        try simp only [List.getElem_toArray, List.getElem_cons_zero, List.getElem_cons_succ, Act.put, List.setIfInBounds_toArray, List.set_cons_zero, List.set_cons_succ]
        refine wpAnyH_take (i := 4) (oi := _) (v := ?vn4) rfl (by kernel_rfl) (by kernel_rfl) (by kernel_rfl) (fun _ _ _ h => h) (Or.inl ⟨by rfl, ?hyn4⟩) (by assumption) ?restn4
        case hyn4 => (intro w hSw; (try dsimp only at hSw); go_simp; try with_reducible rfl)
        try simp only [List.getElem_toArray, List.getElem_cons_zero, List.getElem_cons_succ, Act.put, List.setIfInBounds_toArray, List.set_cons_zero, List.set_cons_succ]
        refine wpAnyH_take (i := 5) (oi := _) (v := ?vn5) rfl (by kernel_rfl) (by kernel_rfl) (by kernel_rfl) (fun _ _ _ h => h) (Or.inl ⟨by rfl, ?hyn5⟩) (by assumption) ?restn5
        case hyn5 => (intro w hSw; (try dsimp only at hSw); go_simp; try with_reducible rfl)
        try simp only [List.getElem_toArray, List.getElem_cons_zero, List.getElem_cons_succ, Act.put, List.setIfInBounds_toArray, List.set_cons_zero, List.set_cons_succ]
        refine wpAnyH_ready (rs := [1, 6]) (by kernel_rfl) (by simp) ?_
        refine AllReadyH.cons (o := _) rfl (fun KK hKK => ?_) (AllReadyH.cons (o := _) rfl (fun KK hKK => ?_) (AllReadyH.nil))
        · go_simp
          (go_at_call 17; (with_reducible refine (HCL.out _ (by first | exact (Fr.refl none_ wr).drew | exact ((Fr.refl none_ wr).alloc _).drew)).mono ?_); rintro e x1 ⟨⟨lb, cl, rest, rfl, hlb, hlbg⟩, hY1⟩; have hX1 : Fr none_ wr x1 := Fr.trans (by first | exact (Fr.refl none_ wr).drew | exact ((Fr.refl none_ wr).alloc _).drew) hY1)
          go_wp2_with fail
          refine hKK.out _ _ ?hSn6 (fun hHeldn6 => ?restn6)
          case hSn6 => exact HST.out _ (by first | exact hX1 | exact hX1.alloc _ | exact (hX1.alloc _).alloc _ | exact ((Fr.refl none_ wr).alloc _).drew | exact (Fr.refl none_ wr).drew)
          clear hKK KK
          try simp only [List.getElem_toArray, List.getElem_cons_zero, List.getElem_cons_succ, Act.put, List.setIfInBounds_toArray, List.set_cons_zero, List.set_cons_succ]
          refine wpAnyH_ready (rs := [6]) (by kernel_rfl) (by simp) ?_
          refine AllReadyH.cons (o := _) rfl (fun KK hKK => ?_) (AllReadyH.nil)
          go_simp
          refine hKK.out _ _ ?hSn7 (fun hHeldn7 => ?restn7)
          case hSn7 => exact HST.out _ (by first | exact hX1 | exact hX1.alloc _ | exact (hX1.alloc _).alloc _ | exact ((Fr.refl none_ wr).alloc _).drew | exact (Fr.refl none_ wr).drew)
          clear hKK KK
          try simp only [List.getElem_toArray, List.getElem_cons_zero, List.getElem_cons_succ, Act.put, List.setIfInBounds_toArray, List.set_cons_zero, List.set_cons_succ]
          refine wpAnyH_take (i := 7) (oi := _) (v := ?vn8) rfl (by kernel_rfl) (by kernel_rfl) (by kernel_rfl) (fun _ _ _ h => h) (Or.inl ⟨by rfl, ?hyn8⟩) (by assumption) ?restn8
          case hyn8 => (intro w hSw; (try dsimp only at hSw); go_simp; try with_reducible rfl)
          try simp only [List.getElem_toArray, List.getElem_cons_zero, List.getElem_cons_succ, Act.put, List.setIfInBounds_toArray, List.set_cons_zero, List.set_cons_succ]
          refine wpAnyH_ready (rs := [8]) (by kernel_rfl) (by simp) ?_
          refine AllReadyH.cons (o := _) rfl (fun KK hKK => ?_) (AllReadyH.nil)
          go_simp
          refine hKK.out _ _ ?hSn9 (fun hHeldn9 => ?restn9)
          case hSn9 => exact HST.out _ (by first | exact hX1 | exact hX1.alloc _ | exact (hX1.alloc _).alloc _ | exact ((Fr.refl none_ wr).alloc _).drew | exact (Fr.refl none_ wr).drew)
          clear hKK KK
          try simp only [List.getElem_toArray, List.getElem_cons_zero, List.getElem_cons_succ, Act.put, List.setIfInBounds_toArray, List.set_cons_zero, List.set_cons_succ]
          refine wpAnyH_ready (rs := [9]) (by kernel_rfl) (by simp) ?_
          refine AllReadyH.cons (o := _) rfl (fun KK hKK => ?_) (AllReadyH.nil)
          go_simp
          refine hKK.out _ _ ?hSn10 (fun hHeldn10 => ?restn10)
          case hSn10 => exact HST.out _ (by first | exact hX1 | exact hX1.alloc _ | exact (hX1.alloc _).alloc _ | exact ((Fr.refl none_ wr).alloc _).drew | exact (Fr.refl none_ wr).drew)
          clear hKK KK
          try simp only [List.getElem_toArray, List.getElem_cons_zero, List.getElem_cons_succ, Act.put, List.setIfInBounds_toArray, List.set_cons_zero, List.set_cons_succ]
          refine wpAnyH_ready (rs := [10]) (by kernel_rfl) (by simp) ?_
          refine AllReadyH.cons (o := _) rfl (fun KK hKK => ?_) (AllReadyH.nil)
          go_simp
          refine hKK.out _ _ ?hSn11 (fun hHeldn11 => ?restn11)
          case hSn11 => exact HST.out _ (by first | exact hX1 | exact hX1.alloc _ | exact (hX1.alloc _).alloc _ | exact ((Fr.refl none_ wr).alloc _).drew | exact (Fr.refl none_ wr).drew)
          clear hKK KK
          try simp only [List.getElem_toArray, List.getElem_cons_zero, List.getElem_cons_succ, Act.put, List.setIfInBounds_toArray, List.set_cons_zero, List.set_cons_succ]
          refine wpAnyH_done (by kernel_rfl) ?_ _
          go_wp2_with fail
          go_ret2
          first | (refine cnew_mk (x := x1.heap.size + 1) (lb := lb) (pb := x1.heap.size) (c := c) (g := g) (cl := cl) (rest := rest) (by rw [List.length_map]) (by have h9 := heap_alloc_new (x1.alloc (.cells Z 60)) (.cells #[.slice (some ⟨lb, 0, none⟩) ds.length cl, .int .i64 (d : Int), .int .i64 (m : Int), .int .i64 (fi : Int), .int .i64 (pl : Int), .int .i64 (si : Int), ptr c, .slice (some ⟨x1.heap.size, 0, none⟩) pl pl] 57); rw [World.size_alloc] at h9; exact h9) (HC1.out.1.fr0 (((HF.out.trans hX1).alloc _).alloc _)) (heap_alloc_old (heap_alloc_old hlb _) _) (heap_alloc_old (by rw [← HZ.out]; exact heap_alloc_new x1 _) _) (by rw [List.length_map]; exact HLN.out.1) hpl.2 hsi (by have q1 := HFW.out.size; have q2 := HF.out.size; have q3 := hX1.size; have q4 := HV.out.2.1.size; have q5 := HC1.out.2.1; have q6 := HC1.out.2.2.1; have q7 : wr.heap.size ≤ lb := (by first | exact hlbg | exact Nat.le_trans ((Fr.refl none_ wr).alloc (.cells Z 60)).size hlbg); omega) (by have q1 := HFW.out.size; have q2 := HF.out.size; have q3 := hX1.size; have q4 := HV.out.2.1.size; have q5 := HC1.out.2.1; have q6 := HC1.out.2.2.1; have q7 : wr.heap.size ≤ lb := (by first | exact hlbg | exact Nat.le_trans ((Fr.refl none_ wr).alloc (.cells Z 60)).size hlbg); omega) (by have q1 := HFW.out.size; have q2 := HF.out.size; have q3 := hX1.size; have q4 := HV.out.2.1.size; have q5 := HC1.out.2.1; have q6 := HC1.out.2.2.1; have q7 : wr.heap.size ≤ lb := (by first | exact hlbg | exact Nat.le_trans ((Fr.refl none_ wr).alloc (.cells Z 60)).size hlbg); omega) (by have q1 := HFW.out.size; have q2 := HF.out.size; have q3 := hX1.size; have q4 := HV.out.2.1.size; have q5 := HC1.out.2.1; have q6 := HC1.out.2.2.1; have q7 : wr.heap.size ≤ lb := (by first | exact hlbg | exact Nat.le_trans ((Fr.refl none_ wr).alloc (.cells Z 60)).size hlbg); omega) (by have q1 := HFW.out.size; have q2 := HF.out.size; have q3 := hX1.size; have q4 := HV.out.2.1.size; have q5 := HC1.out.2.1; have q6 := HC1.out.2.2.1; have q7 : wr.heap.size ≤ lb := (by first | exact hlbg | exact Nat.le_trans ((Fr.refl none_ wr).alloc (.cells Z 60)).size hlbg); omega) (((HFW.out.trans (HF.out.trans hX1)).alloc _).alloc _)) | (refine cnew_mk (x := x1.heap.size) (lb := lb) (pb := wr.heap.size) (c := c) (g := g) (cl := cl) (rest := rest) (by rw [List.length_map]) (heap_alloc_new _ _) (HC1.out.1.fr0 ((HF.out.trans hX1).alloc _)) (heap_alloc_old hlb _) (heap_alloc_old (hY1.heap0 (by rw [← HZ.out]; exact heap_alloc_new wr _)) _) (by rw [List.length_map]; exact HLN.out.1) hpl.2 hsi (by have q1 := HFW.out.size; have q2 := HF.out.size; have q3 := hX1.size; have q4 := HV.out.2.1.size; have q5 := HC1.out.2.1; have q6 := HC1.out.2.2.1; have q7 : wr.heap.size ≤ lb := (by first | exact hlbg | exact Nat.le_trans ((Fr.refl none_ wr).alloc (.cells Z 60)).size hlbg); omega) (by have q1 := HFW.out.size; have q2 := HF.out.size; have q3 := hX1.size; have q4 := HV.out.2.1.size; have q5 := HC1.out.2.1; have q6 := HC1.out.2.2.1; have q7 : wr.heap.size ≤ lb := (by first | exact hlbg | exact Nat.le_trans ((Fr.refl none_ wr).alloc (.cells Z 60)).size hlbg); omega) (by have q1 := HFW.out.size; have q2 := HF.out.size; have q3 := hX1.size; have q4 := HV.out.2.1.size; have q5 := HC1.out.2.1; have q6 := HC1.out.2.2.1; have q7 : wr.heap.size ≤ lb := (by first | exact hlbg | exact Nat.le_trans ((Fr.refl none_ wr).alloc (.cells Z 60)).size hlbg); omega) (by have q1 := HFW.out.size; have q2 := HF.out.size; have q3 := hX1.size; have q4 := HV.out.2.1.size; have q5 := HC1.out.2.1; have q6 := HC1.out.2.2.1; have q7 : wr.heap.size ≤ lb := (by first | exact hlbg | exact Nat.le_trans ((Fr.refl none_ wr).alloc (.cells Z 60)).size hlbg); omega) (by have q1 := HFW.out.size; have q2 := HF.out.size; have q3 := hX1.size; have q4 := HV.out.2.1.size; have q5 := HC1.out.2.1; have q6 := HC1.out.2.2.1; have q7 : wr.heap.size ≤ lb := (by first | exact hlbg | exact Nat.le_trans ((Fr.refl none_ wr).alloc (.cells Z 60)).size hlbg); omega) ((HFW.out.trans (HF.out.trans hX1)).alloc _))
        · go_simp
          refine hKK.out _ _ ?hSn12 (fun hHeldn12 => ?restn12)
          case hSn12 => exact HST.out _ (by first | exact hX1 | exact hX1.alloc _ | exact (hX1.alloc _).alloc _ | exact ((Fr.refl none_ wr).alloc _).drew | exact (Fr.refl none_ wr).drew)
          clear hKK KK
          try simp only [List.getElem_toArray, List.getElem_cons_zero, List.getElem_cons_succ, Act.put, List.setIfInBounds_toArray, List.set_cons_zero, List.set_cons_succ]
          refine wpAnyH_ready (rs := [1]) (by kernel_rfl) (by simp) ?_
          refine AllReadyH.cons (o := _) rfl (fun KK hKK => ?_) (AllReadyH.nil)
          go_simp
          (go_at_call 17; (with_reducible refine (HCL.out _ (by first | exact (Fr.refl none_ wr).drew | exact ((Fr.refl none_ wr).alloc _).drew)).mono ?_); rintro e x1 ⟨⟨lb, cl, rest, rfl, hlb, hlbg⟩, hY1⟩; have hX1 : Fr none_ wr x1 := Fr.trans (by first | exact (Fr.refl none_ wr).drew | exact ((Fr.refl none_ wr).alloc _).drew) hY1)
          go_wp2_with fail
          refine hKK.out _ _ ?hSn13 (fun hHeldn13 => ?restn13)
          case hSn13 => exact HST.out _ (by first | exact hX1 | exact hX1.alloc _ | exact (hX1.alloc _).alloc _ | exact ((Fr.refl none_ wr).alloc _).drew | exact (Fr.refl none_ wr).drew)
          clear hKK KK
          try simp only [List.getElem_toArray, List.getElem_cons_zero, List.getElem_cons_succ, Act.put, List.setIfInBounds_toArray, List.set_cons_zero, List.set_cons_succ]
          refine wpAnyH_take (i := 7) (oi := _) (v := ?vn14) rfl (by kernel_rfl) (by kernel_rfl) (by kernel_rfl) (fun _ _ _ h => h) (Or.inl ⟨by rfl, ?hyn14⟩) (by assumption) ?restn14
          case hyn14 => (intro w hSw; (try dsimp only at hSw); go_simp; try with_reducible rfl)
          try simp only [List.getElem_toArray, List.getElem_cons_zero, List.getElem_cons_succ, Act.put, List.setIfInBounds_toArray, List.set_cons_zero, List.set_cons_succ]
          refine wpAnyH_ready (rs := [8]) (by kernel_rfl) (by simp) ?_
          refine AllReadyH.cons (o := _) rfl (fun KK hKK => ?_) (AllReadyH.nil)
          go_simp
          refine hKK.out _ _ ?hSn15 (fun hHeldn15 => ?restn15)
          case hSn15 => exact HST.out _ (by first | exact hX1 | exact hX1.alloc _ | exact (hX1.alloc _).alloc _ | exact ((Fr.refl none_ wr).alloc _).drew | exact (Fr.refl none_ wr).drew)
          clear hKK KK
          try simp only [List.getElem_toArray, List.getElem_cons_zero, List.getElem_cons_succ, Act.put, List.setIfInBounds_toArray, List.set_cons_zero, List.set_cons_succ]
          refine wpAnyH_ready (rs := [9]) (by kernel_rfl) (by simp) ?_
          refine AllReadyH.cons (o := _) rfl (fun KK hKK => ?_) (AllReadyH.nil)
          go_simp
          refine hKK.out _ _ ?hSn16 (fun hHeldn16 => ?restn16)
          case hSn16 => exact HST.out _ (by first | exact hX1 | exact hX1.alloc _ | exact (hX1.alloc _).alloc _ | exact ((Fr.refl none_ wr).alloc _).drew | exact (Fr.refl none_ wr).drew)
          clear hKK KK
          try simp only [List.getElem_toArray, List.getElem_cons_zero, List.getElem_cons_succ, Act.put, List.setIfInBounds_toArray, List.set_cons_zero, List.set_cons_succ]
          refine wpAnyH_ready (rs := [10]) (by kernel_rfl) (by simp) ?_
          refine AllReadyH.cons (o := _) rfl (fun KK hKK => ?_) (AllReadyH.nil)
          go_simp
          refine hKK.out _ _ ?hSn17 (fun hHeldn17 => ?restn17)
          case hSn17 => exact HST.out _ (by first | exact hX1 | exact hX1.alloc _ | exact (hX1.alloc _).alloc _ | exact ((Fr.refl none_ wr).alloc _).drew | exact (Fr.refl none_ wr).drew)
          clear hKK KK
          try simp only [List.getElem_toArray, List.getElem_cons_zero, List.getElem_cons_succ, Act.put, List.setIfInBounds_toArray, List.set_cons_zero, List.set_cons_succ]
          refine wpAnyH_done (by kernel_rfl) ?_ _
          go_wp2_with fail
          go_ret2
          first | (refine cnew_mk (x := x1.heap.size + 1) (lb := lb) (pb := x1.heap.size) (c := c) (g := g) (cl := cl) (rest := rest) (by rw [List.length_map]) (by have h9 := heap_alloc_new (x1.alloc (.cells Z 60)) (.cells #[.slice (some ⟨lb, 0, none⟩) ds.length cl, .int .i64 (d : Int), .int .i64 (m : Int), .int .i64 (fi : Int), .int .i64 (pl : Int), .int .i64 (si : Int), ptr c, .slice (some ⟨x1.heap.size, 0, none⟩) pl pl] 57); rw [World.size_alloc] at h9; exact h9) (HC1.out.1.fr0 (((HF.out.trans hX1).alloc _).alloc _)) (heap_alloc_old (heap_alloc_old hlb _) _) (heap_alloc_old (by rw [← HZ.out]; exact heap_alloc_new x1 _) _) (by rw [List.length_map]; exact HLN.out.1) hpl.2 hsi (by have q1 := HFW.out.size; have q2 := HF.out.size; have q3 := hX1.size; have q4 := HV.out.2.1.size; have q5 := HC1.out.2.1; have q6 := HC1.out.2.2.1; have q7 : wr.heap.size ≤ lb := (by first | exact hlbg | exact Nat.le_trans ((Fr.refl none_ wr).alloc (.cells Z 60)).size hlbg); omega) (by have q1 := HFW.out.size; have q2 := HF.out.size; have q3 := hX1.size; have q4 := HV.out.2.1.size; have q5 := HC1.out.2.1; have q6 := HC1.out.2.2.1; have q7 : wr.heap.size ≤ lb := (by first | exact hlbg | exact Nat.le_trans ((Fr.refl none_ wr).alloc (.cells Z 60)).size hlbg); omega) (by have q1 := HFW.out.size; have q2 := HF.out.size; have q3 := hX1.size; have q4 := HV.out.2.1.size; have q5 := HC1.out.2.1; have q6 := HC1.out.2.2.1; have q7 : wr.heap.size ≤ lb := (by first | exact hlbg | exact Nat.le_trans ((Fr.refl none_ wr).alloc (.cells Z 60)).size hlbg); omega) (by have q1 := HFW.out.size; have q2 := HF.out.size; have q3 := hX1.size; have q4 := HV.out.2.1.size; have q5 := HC1.out.2.1; have q6 := HC1.out.2.2.1; have q7 : wr.heap.size ≤ lb := (by first | exact hlbg | exact Nat.le_trans ((Fr.refl none_ wr).alloc (.cells Z 60)).size hlbg); omega) (by have q1 := HFW.out.size; have q2 := HF.out.size; have q3 := hX1.size; have q4 := HV.out.2.1.size; have q5 := HC1.out.2.1; have q6 := HC1.out.2.2.1; have q7 : wr.heap.size ≤ lb := (by first | exact hlbg | exact Nat.le_trans ((Fr.refl none_ wr).alloc (.cells Z 60)).size hlbg); omega) (((HFW.out.trans (HF.out.trans hX1)).alloc _).alloc _)) | (refine cnew_mk (x := x1.heap.size) (lb := lb) (pb := wr.heap.size) (c := c) (g := g) (cl := cl) (rest := rest) (by rw [List.length_map]) (heap_alloc_new _ _) (HC1.out.1.fr0 ((HF.out.trans hX1).alloc _)) (heap_alloc_old hlb _) (heap_alloc_old (hY1.heap0 (by rw [← HZ.out]; exact heap_alloc_new wr _)) _) (by rw [List.length_map]; exact HLN.out.1) hpl.2 hsi (by have q1 := HFW.out.size; have q2 := HF.out.size; have q3 := hX1.size; have q4 := HV.out.2.1.size; have q5 := HC1.out.2.1; have q6 := HC1.out.2.2.1; have q7 : wr.heap.size ≤ lb := (by first | exact hlbg | exact Nat.le_trans ((Fr.refl none_ wr).alloc (.cells Z 60)).size hlbg); omega) (by have q1 := HFW.out.size; have q2 := HF.out.size; have q3 := hX1.size; have q4 := HV.out.2.1.size; have q5 := HC1.out.2.1; have q6 := HC1.out.2.2.1; have q7 : wr.heap.size ≤ lb := (by first | exact hlbg | exact Nat.le_trans ((Fr.refl none_ wr).alloc (.cells Z 60)).size hlbg); omega) (by have q1 := HFW.out.size; have q2 := HF.out.size; have q3 := hX1.size; have q4 := HV.out.2.1.size; have q5 := HC1.out.2.1; have q6 := HC1.out.2.2.1; have q7 : wr.heap.size ≤ lb := (by first | exact hlbg | exact Nat.le_trans ((Fr.refl none_ wr).alloc (.cells Z 60)).size hlbg); omega) (by have q1 := HFW.out.size; have q2 := HF.out.size; have q3 := hX1.size; have q4 := HV.out.2.1.size; have q5 := HC1.out.2.1; have q6 := HC1.out.2.2.1; have q7 : wr.heap.size ≤ lb := (by first | exact hlbg | exact Nat.le_trans ((Fr.refl none_ wr).alloc (.cells Z 60)).size hlbg); omega) (by have q1 := HFW.out.size; have q2 := HF.out.size; have q3 := hX1.size; have q4 := HV.out.2.1.size; have q5 := HC1.out.2.1; have q6 := HC1.out.2.2.1; have q7 : wr.heap.size ≤ lb := (by first | exact hlbg | exact Nat.le_trans ((Fr.refl none_ wr).alloc (.cells Z 60)).size hlbg); omega) ((HFW.out.trans (HF.out.trans hX1)).alloc _))
end Go.Proofs.Ytdkjmnhblepkaaa

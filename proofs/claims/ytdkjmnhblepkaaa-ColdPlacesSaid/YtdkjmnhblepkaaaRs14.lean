import Derived.Test.YtdkjmnhblepkaaaRs13
import Derived.Test.YtdkjmnhblepkaaaRs4
namespace Go.Proofs.Ytdkjmnhblepkaaa
open Go.RowKit
set_option linter.unusedVariables false
set_option linter.unusedSimpArgs false
set_option maxRecDepth 100000

/-! rs.Decode -/
def DecPost (w : World) (g d m : Nat) (parts : List (List UInt8)) (there : List Bool) (n : Nat) (e : Ending) (w' : World) : Prop :=
  ((pickN there d (d + m)).length = d → MadePost w g (madeF d m (dataF d ((pickN there d (d + m)).map (fun i => parts.getD i [])) (invF ((pickN there d (d + m)).map (rowF d)) d) n) n) e w') ∧
  ((pickN there d (d + m)).length < d → e = .returned (.tuple #[.slice none 0 0, .iface 52 (.int .i64 20)]) ∧ FieldAt w' g ∧ Fr (fun i => i = g) w w')
set_option maxHeartbeats 8000000 in
theorem decode_any {w : World} {c d m g : Nat} (h : CodeS w c d m g) (Ap : Option Addr) (cp : Nat) (parts : List (List UInt8)) (hR : RowsV w g Ap parts) (hpl : parts.length = d + m) (At : Option Addr) (ct : Nat) (there : List Bool) (hT : CellsAt w At (there.map Value.bool)) (htg : ∀ b, blkOf At b → b ≠ g) (htl : there.length = d + m) (n : Nat) (hn : n ≤ 1000000)
    (hall : ∀ j (h1 : j < there.length) (h2 : j < parts.length), there[j] = true → parts[j].length = n) (hpiv : (pickN there d (d + m)).length = d → pivOk ((pickN there d (d + m)).map (rowF d)) d) :
    Calls Try.prog 36 #[ptr c, .slice Ap (d + m) cp, .slice At (d + m) ct] w fun e w' => DecPost w g d m parts there n e w' := by
  have hm := h.most
  obtain ⟨c0, c1, c2⟩ := h.cells
  have hne := h.ne
  have hev := even_any (w := w) (g := g) Ap cp parts hR At ct (d + m) there hT (by omega) (by omega) n (by omega) hall hn
  obtain ⟨pa, po, hAe⟩ : ∃ pa po, Ap = some ⟨pa, po, none⟩ := by obtain ⟨pa, po, _, _, hAe, _⟩ := hR.row 0 (by omega); exact ⟨pa, po, hAe⟩
  subst hAe
  obtain ⟨ta, to_, hAt⟩ := hT.addr (by rw [List.length_map]; omega)
  subst hAt
  have hal := all_any h
  obtain ⟨q, hq⟩ : ∃ q, q = d + m := ⟨_, rfl⟩
  obtain ⟨N8, hN8⟩ : ∃ x, x = evN there n parts.length := ⟨_, rfl⟩
  rw [hpl, ← hq] at hev
  rw [hpl] at hN8
  rw [← hq] at hal hpl htl hpiv hN8 ⊢
  rw [← hN8] at hev
  have HT0 := Lib.hid (TwoS.start (d := d) h.fd (Fr.refl none_ w))
  have H := Lib.hid (And.intro h (And.intro hR (And.intro hT (And.intro hall (And.intro hpiv (And.intro htg (And.intro hN8 (And.intro hpl htl))))))))
  have HQ := Lib.hid hq
  have z1 : ((q : Int) != (q : Int)) = false := by simp
  have hq1 : 1 ≤ q ∧ q ≤ 32 := by omega
  have hd1 : 1 ≤ d ∧ d ≤ 32 := by omega
  have hnot : ∀ (x : Bool) (w : World), (Op.unary .not (.bool x)).run Try.prog w = .ok (.bool (!x)) w := fun _ _ => rfl
  clear h hR hT hall hpiv htg hN8 hpl htl hq hm
  go_enter Try.func36, Try.ntmps36
  go_wp2_with fail
  (with_reducible refine (hal).mono ?_)
  rintro e w1 ⟨rfl, hw1⟩
  subst hw1
  go_wp2_with fail
  (with_reducible refine (hal).mono ?_)
  rintro e w2 ⟨rfl, hw2⟩
  subst hw2
  go_wp2_with fail
  (with_reducible refine (hev).mono ?_)
  rintro e w3 ⟨rfl, hw3⟩
  subst hw3
  clear hev hal
  go_wp2_with fail
  go_loopw [10, 11, 44] (fun vr vf v wr => ∃ k : Nat, k ≤ q ∧ v = .int .i64 k ∧ ∃ (nr : Nat) (xr xf : List Value), nr = (pickN there d k).length ∧ TwoS w3 wr g d vr nr xr ((pickN there d k).map (rowF d)) vf nr xf ((pickN there d k).map (fun i => parts.getD i []))) (fun _ _ v _ => q - (intOf v).toNat)
  case atStart => exact ⟨0, by omega, rfl, 0, [], [], by simp [pickN], by have h9 := HT0.out; simp only [pickN, List.range_zero, List.filter_nil, List.take_nil, List.map_nil]; exact h9⟩
  case round =>
    obtain ⟨k, hk, rfl, nr, xr, xf, hnr, hX⟩ := hrel
    obtain ⟨hC, hR, hT, hall, hpiv, htg, hN8, hpl, htl⟩ := H.out
    have hCw := hC.frG hX.fr hX.fd
    obtain ⟨v0, v1, v2⟩ := hCw.cells
    obtain ⟨Ar, cr, hvr, _⟩ := ownsRow_read hX.ownr
    obtain ⟨Af, cf, hvf, _⟩ := ownsRow_read hX.ownf
    subst hvr hvf
    have hle := pickN_le there d k
    have hnr2 : nr ≤ d := by omega
    by_cases hkq : k < q
    · have q1 : (k : Int) < (q : Int) := by omega
      have q2 : (0 : Int) ≤ (k : Int) ∧ (k : Int) < (q : Int) := by omega
      have hkt : k < there.length := by omega
      have htk : there.getD k false = there[k] := by rw [List.getD_eq_getElem?_getD, List.getElem?_eq_getElem hkt]; rfl
      have hTw := hT.fr hX.fr (fun b hb e => htg b hb e)
      obtain ⟨ta', to', e9, htc⟩ := hTw.getD (k := k) (v := .bool there[k]) (by rw [List.getElem?_map, List.getElem?_eq_getElem hkt]; rfl)
      cases e9
      rw [← htk] at htc
      by_cases hth : there.getD k false = true
      · rw [hth] at htc
        by_cases hfull : nr = d
        · have hpk := pickN_full (there := there) (d := d) (k := k) (by omega)
          have z2 : ((nr : Int) == (d : Int)) = true := by rw [hfull]; simp
          have HX := Lib.hid hX
          have HK := Lib.hid (And.intro hpk (And.intro hnr hfull))
          clear hX hC hR hT hall hpiv htg hN8 hpl htl hCw hpk hnr hfull hth htk hTw hle v1 v2
          go_wp2_with fail
          go_roundw
          case rel => exact ⟨k + 1, by omega, by go_num, nr, xr, xf, by rw [HK.out.1]; exact HK.out.2.1, by rw [HK.out.1]; exact HX.out⟩
          case measure => simp [intOf]; omega
        · have hpk := pickN_yes (there := there) (d := d) (k := k) hth (by omega)
          have z2 : ((nr : Int) == (d : Int)) = false := by simp; omega
          have hrow := row_any hCw k (by have := HQ.out; omega)
          have HX := Lib.hid hX
          have HK := Lib.hid (And.intro hpk hnr)
          obtain ⟨pa', po', Aj, cj, hAe, hpc, hpr, hpn, hpg⟩ := hR.row k (by omega)
          cases hAe
          have hpane : pa ≠ g := hR.ne pa ⟨_, rfl⟩ (by omega)
          have hS : ∀ W, Fr (fun i => i = g) w3 W → W.cell? ⟨pa, po + k, none⟩ = some (.slice Aj parts[k].length cj) := fun W hW => hW.cell hpc hpane
          have hgd : parts.getD k [] = parts[k] := by rw [List.getD_eq_getElem?_getD, List.getElem?_eq_getElem (by omega)]; rfl
          obtain ⟨r, hr⟩ : ∃ r, r = parts[k] := ⟨_, rfl⟩
          rw [← hr] at hpc hpr hpn hpg hS hgd
          have hrfl := rowF_len d k
          obtain ⟨rl, hrl⟩ : ∃ rl, rl = r.length := ⟨_, rfl⟩
          rw [← hrl] at hS
          have HP := Lib.hid (And.intro hpr (And.intro hpn (And.intro hpg (And.intro hgd (And.intro hrfl hrl)))))
          have HS := Lib.hid hS
          clear hX hC hR hT hall hpiv htg hN8 hpl htl hCw hpk hnr hth htk hTw hle v1 v2 hpc hpr hpn hpg hS hgd hr hrfl hrl
          go_wp2_with fail
          (with_reducible refine (hrow).mono ?_)
          rintro e w4 ⟨b, rfl, hM⟩
          rw [HP.out.2.2.2.2.1]
          have hX4 := HX.out.fld hM.fd hM.fr
          have hMb := hM.out
          have hMg := hM.ne
          have HX4 := Lib.hid hX4
          have HM := Lib.hid (And.intro hMb hMg)
          have hs0 := HS.out _ hX4.fr.drew
          obtain ⟨u1, hu1⟩ : ∃ u1, u1 = Value.slice (some ⟨b, 0, none⟩) d d := ⟨_, rfl⟩
          obtain ⟨u2, hu2⟩ : ∃ u2, u2 = Value.slice Aj rl cj := ⟨_, rfl⟩
          have HB0 := Lib.hid (show ∀ y, (Value.slice Ar nr cr).ownBlock = some y → y < w4.heap.size from fun y hy => (ownsRow_lt hX4.ownr hy).2)
          have FA1 := Lib.hid (((Fr.refl none_ w4).alloc (.cells #[Value.slice (some ⟨b, 0, none⟩) d d] 33)).drew)
          have FA2 := Lib.hid ((((Fr.refl none_ w4).alloc (.cells #[Value.slice (some ⟨b, 0, none⟩) d d] 33)).alloc (.cells #[Value.slice Aj rl cj] 33)).drew)
          have FC1 := Lib.hid (((Fr.refl none_ w4).alloc (.cells #[Value.slice Aj rl cj] 33)).drew)
          have FC2 := Lib.hid ((((Fr.refl none_ w4).alloc (.cells #[Value.slice Aj rl cj] 33)).alloc (.cells #[Value.slice (some ⟨b, 0, none⟩) d d] 33)).drew)
          have LA1 := Lib.hid (lit_cell w4 (Value.slice (some ⟨b, 0, none⟩) d d) 33)
          have LC1 := Lib.hid (lit_cell w4 (Value.slice Aj rl cj) 33)
          have h9LA2 := lit_cell (w4.alloc (.cells #[Value.slice (some ⟨b, 0, none⟩) d d] 33)) (Value.slice Aj rl cj) 33
          rw [World.size_alloc] at h9LA2
          have LA2 := Lib.hid h9LA2
          clear h9LA2
          have h9LC2 := lit_cell (w4.alloc (.cells #[Value.slice Aj rl cj] 33)) (Value.slice (some ⟨b, 0, none⟩) d d) 33
          rw [World.size_alloc] at h9LC2
          have LC2 := Lib.hid h9LC2
          clear h9LC2
          clear hX4 hMb hMg hM hrow hu1 hu2 u1 u2
          go_upto_region 14 with fail
          refine wp_region_held_drew (S := fun W => W.cell? ⟨pa, po + k, none⟩ = some (.slice Aj rl cj)) (by kernel_rfl) hs0 (fun hHeld0 => ?_)
          refine wpAnyH_take (i := 0) (oi := _) (v := ?v1) rfl (by kernel_rfl) (by kernel_rfl) (by kernel_rfl) (fun _ _ _ h => h) (Or.inl ⟨by rfl, ?hy1⟩) (by assumption) ?rest1
          case hy1 => (intro w hSw; (try dsimp only at hSw); go_simp; try with_reducible rfl)
          try simp only [List.getElem_toArray, List.getElem_cons_zero, List.getElem_cons_succ, Act.put, List.setIfInBounds_toArray, List.set_cons_zero, List.set_cons_succ]
          refine wpAnyH_take (i := 1) (oi := _) (v := ?v2) rfl (by kernel_rfl) (by kernel_rfl) (by kernel_rfl) (fun _ _ _ h => h) (Or.inl ⟨by rfl, ?hy2⟩) (by assumption) ?rest2
          case hy2 => (intro w hSw; (try dsimp only at hSw); go_simp; try with_reducible rfl)
          try simp only [List.getElem_toArray, List.getElem_cons_zero, List.getElem_cons_succ, Act.put, List.setIfInBounds_toArray, List.set_cons_zero, List.set_cons_succ]
          refine wpAnyH_take (i := 4) (oi := _) (v := ?v3) rfl (by kernel_rfl) (by kernel_rfl) (by kernel_rfl) (fun _ _ _ h => h) (Or.inl ⟨by rfl, ?hy3⟩) (by assumption) ?rest3
          case hy3 => (intro w hSw; (try dsimp only at hSw); go_simp; try with_reducible rfl)
          try simp only [List.getElem_toArray, List.getElem_cons_zero, List.getElem_cons_succ, Act.put, List.setIfInBounds_toArray, List.set_cons_zero, List.set_cons_succ]
          refine wpAnyH_take (i := 5) (oi := _) (v := ?v4) rfl (by kernel_rfl) (by kernel_rfl) (by kernel_rfl) (fun _ _ _ h => h) (Or.inl ⟨by rfl, ?hy4⟩) (by assumption) ?rest4
          case hy4 => (intro w hSw; (try dsimp only at hSw); go_simp; try with_reducible rfl)
          try simp only [List.getElem_toArray, List.getElem_cons_zero, List.getElem_cons_succ, Act.put, List.setIfInBounds_toArray, List.set_cons_zero, List.set_cons_succ]
          refine wpAnyH_take (i := 6) (oi := _) (v := ?v5) rfl (by kernel_rfl) (by kernel_rfl) (by kernel_rfl) (fun _ _ _ h => h) (Or.inl ⟨by rfl, ?hy5⟩) (by assumption) ?rest5
          case hy5 => (intro w hSw; (try dsimp only at hSw); go_simp; try with_reducible rfl)
          try simp only [List.getElem_toArray, List.getElem_cons_zero, List.getElem_cons_succ, Act.put, List.setIfInBounds_toArray, List.set_cons_zero, List.set_cons_succ]
          refine wpAnyH_take (i := 7) (oi := _) (v := ?v6) rfl (by kernel_rfl) (by kernel_rfl) (by kernel_rfl) (fun _ _ _ h => h) (Or.inl ⟨by rfl, ?hy6⟩) (by assumption) ?rest6
          case hy6 => (intro w hSw; (try dsimp only at hSw); go_simp; try with_reducible rfl)
          try simp only [List.getElem_toArray, List.getElem_cons_zero, List.getElem_cons_succ, Act.put, List.setIfInBounds_toArray, List.set_cons_zero, List.set_cons_succ]
          refine wpAnyH_take (i := 8) (oi := _) (v := ?v7) rfl (by kernel_rfl) (by kernel_rfl) (by kernel_rfl) (fun _ _ _ h => h) (Or.inl ⟨by rfl, ?hy7⟩) (by assumption) ?rest7
          case hy7 => (intro w hSw; (try dsimp only at hSw); go_simp; try with_reducible rfl)
          try simp only [List.getElem_toArray, List.getElem_cons_zero, List.getElem_cons_succ, Act.put, List.setIfInBounds_toArray, List.set_cons_zero, List.set_cons_succ]
          refine wpAnyH_ready (rs := [2, 9]) (by kernel_rfl) (by simp) ?_
          refine AllReadyH.cons (o := _) rfl (fun KK hKK => ?_) (AllReadyH.cons (o := _) rfl (fun KK hKK => ?_) (AllReadyH.nil))
          · go_simp
            refine hKK.out _ _ ?hS8 (fun hHeld8 => ?rest8)
            case hS8 => first | exact HS.out _ HT6.out.fr | exact HS.out _ HT5.out.fr | exact HS.out _ (HT5.out.fr.alloc _) | exact HS.out _ ((HT5.out.fr.alloc _).drew) | exact HS.out _ (HX4.out.more FA1.out).fr | exact HS.out _ (HX4.out.more FA2.out).fr | exact HS.out _ (HX4.out.more FC1.out).fr | exact HS.out _ (HX4.out.more FC2.out).fr
            clear hKK KK
            try simp only [List.getElem_toArray, List.getElem_cons_zero, List.getElem_cons_succ, Act.put, List.setIfInBounds_toArray, List.set_cons_zero, List.set_cons_succ]
            refine wpAnyH_ready (rs := [3, 9]) (by kernel_rfl) (by simp) ?_
            refine AllReadyH.cons (o := _) rfl (fun KK hKK => ?_) (AllReadyH.cons (o := _) rfl (fun KK hKK => ?_) (AllReadyH.nil))
            · first | (refine step_rows (HX4.out.more FA1.out) (by rfl) _ _ (by rfl) (by rfl) w4.heap.size (by rfl) b _ (LA1.out) (FA1.out.heap0 HM.out.1) HM.out.2 HP.out.2.2.2.2.1 (by omega) w4.heap.size HB0.out ?_; intro g5 c5 w5 hT5 hfar5; have HT5 := Lib.hid hT5; have HF5 := Lib.hid hfar5; clear hT5 hfar5) | (refine step_rows (HX4.out.more FA2.out) (by rfl) _ _ (by rfl) (by rfl) w4.heap.size (by rfl) b _ ((((Fr.refl none_ _).alloc _).drew).cell0 LA1.out) (FA2.out.heap0 HM.out.1) HM.out.2 HP.out.2.2.2.2.1 (by omega) w4.heap.size HB0.out ?_; intro g5 c5 w5 hT5 hfar5; have HT5 := Lib.hid hT5; have HF5 := Lib.hid hfar5; clear hT5 hfar5) | (refine step_rows (HX4.out.more FC2.out) (by rfl) _ _ (by rfl) (by rfl) (w4.heap.size + 1) (by rfl) b _ (LC2.out) (FC2.out.heap0 HM.out.1) HM.out.2 HP.out.2.2.2.2.1 (by omega) w4.heap.size HB0.out ?_; intro g5 c5 w5 hT5 hfar5; have HT5 := Lib.hid hT5; have HF5 := Lib.hid hfar5; clear hT5 hfar5)
              refine hKK.out _ _ ?hS9 (fun hHeld9 => ?rest9)
              case hS9 => first | exact HS.out _ HT6.out.fr | exact HS.out _ HT5.out.fr | exact HS.out _ (HT5.out.fr.alloc _) | exact HS.out _ ((HT5.out.fr.alloc _).drew) | exact HS.out _ (HX4.out.more FA1.out).fr | exact HS.out _ (HX4.out.more FA2.out).fr | exact HS.out _ (HX4.out.more FC1.out).fr | exact HS.out _ (HX4.out.more FC2.out).fr
              clear hKK KK
              try simp only [List.getElem_toArray, List.getElem_cons_zero, List.getElem_cons_succ, Act.put, List.setIfInBounds_toArray, List.set_cons_zero, List.set_cons_succ]
              refine wpAnyH_ready (rs := [9]) (by kernel_rfl) (by simp) ?_
              refine AllReadyH.cons (o := _) rfl (fun KK hKK => ?_) (AllReadyH.nil)
              go_simp
              refine hKK.out _ _ ?hS10 (fun hHeld10 => ?rest10)
              case hS10 => first | exact HS.out _ HT6.out.fr | exact HS.out _ HT5.out.fr | exact HS.out _ (HT5.out.fr.alloc _) | exact HS.out _ ((HT5.out.fr.alloc _).drew) | exact HS.out _ (HX4.out.more FA1.out).fr | exact HS.out _ (HX4.out.more FA2.out).fr | exact HS.out _ (HX4.out.more FC1.out).fr | exact HS.out _ (HX4.out.more FC2.out).fr
              clear hKK KK
              try simp only [List.getElem_toArray, List.getElem_cons_zero, List.getElem_cons_succ, Act.put, List.setIfInBounds_toArray, List.set_cons_zero, List.set_cons_succ]
              refine wpAnyH_ready (rs := [10]) (by kernel_rfl) (by simp) ?_
              refine AllReadyH.cons (o := _) rfl (fun KK hKK => ?_) (AllReadyH.nil)
              first | (refine step_parts (HT5.out.more (((Fr.refl none_ w5).alloc _))) (by rfl) _ _ (by rfl) (by rfl) w5.heap.size (by rfl) Aj cj rl r (lit_cell w5 _ _) HP.out.2.2.2.2.2 HP.out.1 HP.out.2.1 HP.out.2.2.1 (by omega) ?_; intro g6 c6 w6 hT6; have HT6 := Lib.hid hT6; clear hT6) | (refine step_parts (HT5.out.more ((((Fr.refl none_ w5).alloc _)).drew)) (by rfl) _ _ (by rfl) (by rfl) w5.heap.size (by rfl) Aj cj rl r (lit_cell w5 _ _) HP.out.2.2.2.2.2 HP.out.1 HP.out.2.1 HP.out.2.2.1 (by omega) ?_; intro g6 c6 w6 hT6; have HT6 := Lib.hid hT6; clear hT6) | (refine step_parts (HT5.out) (by rfl) _ _ (by rfl) (by rfl) (w4.heap.size + 1) (by rfl) Aj cj rl r (HF5.out _ _ _ (by omega) LA2.out) HP.out.2.2.2.2.2 HP.out.1 HP.out.2.1 HP.out.2.2.1 (by omega) ?_; intro g6 c6 w6 hT6; have HT6 := Lib.hid hT6; clear hT6) | (refine step_parts (HT5.out) (by rfl) _ _ (by rfl) (by rfl) w4.heap.size (by rfl) Aj cj rl r (HF5.out _ _ _ (Nat.le_refl _) ((((Fr.refl none_ _).alloc _).drew).cell0 LC1.out)) HP.out.2.2.2.2.2 HP.out.1 HP.out.2.1 HP.out.2.2.1 (by omega) ?_; intro g6 c6 w6 hT6; have HT6 := Lib.hid hT6; clear hT6)
              refine hKK.out _ _ ?hS11 (fun hHeld11 => ?rest11)
              case hS11 => first | exact HS.out _ HT6.out.fr | exact HS.out _ HT5.out.fr | exact HS.out _ (HT5.out.fr.alloc _) | exact HS.out _ ((HT5.out.fr.alloc _).drew) | exact HS.out _ (HX4.out.more FA1.out).fr | exact HS.out _ (HX4.out.more FA2.out).fr | exact HS.out _ (HX4.out.more FC1.out).fr | exact HS.out _ (HX4.out.more FC2.out).fr
              clear hKK KK
              try simp only [List.getElem_toArray, List.getElem_cons_zero, List.getElem_cons_succ, Act.put, List.setIfInBounds_toArray, List.set_cons_zero, List.set_cons_succ]
              refine wpAnyH_take (i := 11) (oi := _) (v := ?v12) rfl (by kernel_rfl) (by kernel_rfl) (by kernel_rfl) (fun _ _ _ h => h) (Or.inl ⟨by rfl, ?hy12⟩) (by assumption) ?rest12
              case hy12 => (intro w hSw; (try dsimp only at hSw); go_simp; try with_reducible rfl)
              try simp only [List.getElem_toArray, List.getElem_cons_zero, List.getElem_cons_succ, Act.put, List.setIfInBounds_toArray, List.set_cons_zero, List.set_cons_succ]
              refine wpAnyH_take (i := 12) (oi := _) (v := ?v13) rfl (by kernel_rfl) (by kernel_rfl) (by kernel_rfl) (fun _ _ _ h => h) (Or.inl ⟨by rfl, ?hy13⟩) (by assumption) ?rest13
              case hy13 => (intro w hSw; (try dsimp only at hSw); go_simp; try with_reducible rfl)
              try simp only [List.getElem_toArray, List.getElem_cons_zero, List.getElem_cons_succ, Act.put, List.setIfInBounds_toArray, List.set_cons_zero, List.set_cons_succ]
              refine wpAnyH_done (by kernel_rfl) ?_ _
              go_wp2_with fail
              go_roundw
              case rel => exact ⟨k + 1, by omega, by go_num, nr + 1, _, _, by rw [HK.out.1, HK.out.2]; simp, by rw [HK.out.1, List.map_append, List.map_append]; have h9 := HT6.out; rw [← HP.out.2.2.2.1] at h9; exact h9⟩
              case measure => simp [intOf]; omega
            · go_simp
              refine hKK.out _ _ ?hS14 (fun hHeld14 => ?rest14)
              case hS14 => first | exact HS.out _ HT6.out.fr | exact HS.out _ HT5.out.fr | exact HS.out _ (HT5.out.fr.alloc _) | exact HS.out _ ((HT5.out.fr.alloc _).drew) | exact HS.out _ (HX4.out.more FA1.out).fr | exact HS.out _ (HX4.out.more FA2.out).fr | exact HS.out _ (HX4.out.more FC1.out).fr | exact HS.out _ (HX4.out.more FC2.out).fr
              clear hKK KK
              try simp only [List.getElem_toArray, List.getElem_cons_zero, List.getElem_cons_succ, Act.put, List.setIfInBounds_toArray, List.set_cons_zero, List.set_cons_succ]
              refine wpAnyH_ready (rs := [3]) (by kernel_rfl) (by simp) ?_
              refine AllReadyH.cons (o := _) rfl (fun KK hKK => ?_) (AllReadyH.nil)
              first | (refine step_rows (HX4.out.more FA1.out) (by rfl) _ _ (by rfl) (by rfl) w4.heap.size (by rfl) b _ (LA1.out) (FA1.out.heap0 HM.out.1) HM.out.2 HP.out.2.2.2.2.1 (by omega) w4.heap.size HB0.out ?_; intro g5 c5 w5 hT5 hfar5; have HT5 := Lib.hid hT5; have HF5 := Lib.hid hfar5; clear hT5 hfar5) | (refine step_rows (HX4.out.more FA2.out) (by rfl) _ _ (by rfl) (by rfl) w4.heap.size (by rfl) b _ ((((Fr.refl none_ _).alloc _).drew).cell0 LA1.out) (FA2.out.heap0 HM.out.1) HM.out.2 HP.out.2.2.2.2.1 (by omega) w4.heap.size HB0.out ?_; intro g5 c5 w5 hT5 hfar5; have HT5 := Lib.hid hT5; have HF5 := Lib.hid hfar5; clear hT5 hfar5) | (refine step_rows (HX4.out.more FC2.out) (by rfl) _ _ (by rfl) (by rfl) (w4.heap.size + 1) (by rfl) b _ (LC2.out) (FC2.out.heap0 HM.out.1) HM.out.2 HP.out.2.2.2.2.1 (by omega) w4.heap.size HB0.out ?_; intro g5 c5 w5 hT5 hfar5; have HT5 := Lib.hid hT5; have HF5 := Lib.hid hfar5; clear hT5 hfar5)
              refine hKK.out _ _ ?hS15 (fun hHeld15 => ?rest15)
              case hS15 => first | exact HS.out _ HT6.out.fr | exact HS.out _ HT5.out.fr | exact HS.out _ (HT5.out.fr.alloc _) | exact HS.out _ ((HT5.out.fr.alloc _).drew) | exact HS.out _ (HX4.out.more FA1.out).fr | exact HS.out _ (HX4.out.more FA2.out).fr | exact HS.out _ (HX4.out.more FC1.out).fr | exact HS.out _ (HX4.out.more FC2.out).fr
              clear hKK KK
              try simp only [List.getElem_toArray, List.getElem_cons_zero, List.getElem_cons_succ, Act.put, List.setIfInBounds_toArray, List.set_cons_zero, List.set_cons_succ]
              refine wpAnyH_ready (rs := [10]) (by kernel_rfl) (by simp) ?_
              refine AllReadyH.cons (o := _) rfl (fun KK hKK => ?_) (AllReadyH.nil)
              first | (refine step_parts (HT5.out.more (((Fr.refl none_ w5).alloc _))) (by rfl) _ _ (by rfl) (by rfl) w5.heap.size (by rfl) Aj cj rl r (lit_cell w5 _ _) HP.out.2.2.2.2.2 HP.out.1 HP.out.2.1 HP.out.2.2.1 (by omega) ?_; intro g6 c6 w6 hT6; have HT6 := Lib.hid hT6; clear hT6) | (refine step_parts (HT5.out.more ((((Fr.refl none_ w5).alloc _)).drew)) (by rfl) _ _ (by rfl) (by rfl) w5.heap.size (by rfl) Aj cj rl r (lit_cell w5 _ _) HP.out.2.2.2.2.2 HP.out.1 HP.out.2.1 HP.out.2.2.1 (by omega) ?_; intro g6 c6 w6 hT6; have HT6 := Lib.hid hT6; clear hT6) | (refine step_parts (HT5.out) (by rfl) _ _ (by rfl) (by rfl) (w4.heap.size + 1) (by rfl) Aj cj rl r (HF5.out _ _ _ (by omega) LA2.out) HP.out.2.2.2.2.2 HP.out.1 HP.out.2.1 HP.out.2.2.1 (by omega) ?_; intro g6 c6 w6 hT6; have HT6 := Lib.hid hT6; clear hT6) | (refine step_parts (HT5.out) (by rfl) _ _ (by rfl) (by rfl) w4.heap.size (by rfl) Aj cj rl r (HF5.out _ _ _ (Nat.le_refl _) ((((Fr.refl none_ _).alloc _).drew).cell0 LC1.out)) HP.out.2.2.2.2.2 HP.out.1 HP.out.2.1 HP.out.2.2.1 (by omega) ?_; intro g6 c6 w6 hT6; have HT6 := Lib.hid hT6; clear hT6)
              refine hKK.out _ _ ?hS16 (fun hHeld16 => ?rest16)
              case hS16 => first | exact HS.out _ HT6.out.fr | exact HS.out _ HT5.out.fr | exact HS.out _ (HT5.out.fr.alloc _) | exact HS.out _ ((HT5.out.fr.alloc _).drew) | exact HS.out _ (HX4.out.more FA1.out).fr | exact HS.out _ (HX4.out.more FA2.out).fr | exact HS.out _ (HX4.out.more FC1.out).fr | exact HS.out _ (HX4.out.more FC2.out).fr
              clear hKK KK
              try simp only [List.getElem_toArray, List.getElem_cons_zero, List.getElem_cons_succ, Act.put, List.setIfInBounds_toArray, List.set_cons_zero, List.set_cons_succ]
              refine wpAnyH_take (i := 11) (oi := _) (v := ?v17) rfl (by kernel_rfl) (by kernel_rfl) (by kernel_rfl) (fun _ _ _ h => h) (Or.inl ⟨by rfl, ?hy17⟩) (by assumption) ?rest17
              case hy17 => (intro w hSw; (try dsimp only at hSw); go_simp; try with_reducible rfl)
              try simp only [List.getElem_toArray, List.getElem_cons_zero, List.getElem_cons_succ, Act.put, List.setIfInBounds_toArray, List.set_cons_zero, List.set_cons_succ]
              refine wpAnyH_take (i := 12) (oi := _) (v := ?v18) rfl (by kernel_rfl) (by kernel_rfl) (by kernel_rfl) (fun _ _ _ h => h) (Or.inl ⟨by rfl, ?hy18⟩) (by assumption) ?rest18
              case hy18 => (intro w hSw; (try dsimp only at hSw); go_simp; try with_reducible rfl)
              try simp only [List.getElem_toArray, List.getElem_cons_zero, List.getElem_cons_succ, Act.put, List.setIfInBounds_toArray, List.set_cons_zero, List.set_cons_succ]
              refine wpAnyH_done (by kernel_rfl) ?_ _
              go_wp2_with fail
              go_roundw
              case rel => exact ⟨k + 1, by omega, by go_num, nr + 1, _, _, by rw [HK.out.1, HK.out.2]; simp, by rw [HK.out.1, List.map_append, List.map_append]; have h9 := HT6.out; rw [← HP.out.2.2.2.1] at h9; exact h9⟩
              case measure => simp [intOf]; omega
          · go_simp
            refine hKK.out _ _ ?hS19 (fun hHeld19 => ?rest19)
            case hS19 => first | exact HS.out _ HT6.out.fr | exact HS.out _ HT5.out.fr | exact HS.out _ (HT5.out.fr.alloc _) | exact HS.out _ ((HT5.out.fr.alloc _).drew) | exact HS.out _ (HX4.out.more FA1.out).fr | exact HS.out _ (HX4.out.more FA2.out).fr | exact HS.out _ (HX4.out.more FC1.out).fr | exact HS.out _ (HX4.out.more FC2.out).fr
            clear hKK KK
            try simp only [List.getElem_toArray, List.getElem_cons_zero, List.getElem_cons_succ, Act.put, List.setIfInBounds_toArray, List.set_cons_zero, List.set_cons_succ]
            refine wpAnyH_ready (rs := [2]) (by kernel_rfl) (by simp) ?_
            refine AllReadyH.cons (o := _) rfl (fun KK hKK => ?_) (AllReadyH.nil)
            go_simp
            refine hKK.out _ _ ?hS20 (fun hHeld20 => ?rest20)
            case hS20 => first | exact HS.out _ HT6.out.fr | exact HS.out _ HT5.out.fr | exact HS.out _ (HT5.out.fr.alloc _) | exact HS.out _ ((HT5.out.fr.alloc _).drew) | exact HS.out _ (HX4.out.more FA1.out).fr | exact HS.out _ (HX4.out.more FA2.out).fr | exact HS.out _ (HX4.out.more FC1.out).fr | exact HS.out _ (HX4.out.more FC2.out).fr
            clear hKK KK
            try simp only [List.getElem_toArray, List.getElem_cons_zero, List.getElem_cons_succ, Act.put, List.setIfInBounds_toArray, List.set_cons_zero, List.set_cons_succ]
            refine wpAnyH_ready (rs := [3]) (by kernel_rfl) (by simp) ?_
            refine AllReadyH.cons (o := _) rfl (fun KK hKK => ?_) (AllReadyH.nil)
            first | (refine step_rows (HX4.out.more FA1.out) (by rfl) _ _ (by rfl) (by rfl) w4.heap.size (by rfl) b _ (LA1.out) (FA1.out.heap0 HM.out.1) HM.out.2 HP.out.2.2.2.2.1 (by omega) w4.heap.size HB0.out ?_; intro g5 c5 w5 hT5 hfar5; have HT5 := Lib.hid hT5; have HF5 := Lib.hid hfar5; clear hT5 hfar5) | (refine step_rows (HX4.out.more FA2.out) (by rfl) _ _ (by rfl) (by rfl) w4.heap.size (by rfl) b _ ((((Fr.refl none_ _).alloc _).drew).cell0 LA1.out) (FA2.out.heap0 HM.out.1) HM.out.2 HP.out.2.2.2.2.1 (by omega) w4.heap.size HB0.out ?_; intro g5 c5 w5 hT5 hfar5; have HT5 := Lib.hid hT5; have HF5 := Lib.hid hfar5; clear hT5 hfar5) | (refine step_rows (HX4.out.more FC2.out) (by rfl) _ _ (by rfl) (by rfl) (w4.heap.size + 1) (by rfl) b _ (LC2.out) (FC2.out.heap0 HM.out.1) HM.out.2 HP.out.2.2.2.2.1 (by omega) w4.heap.size HB0.out ?_; intro g5 c5 w5 hT5 hfar5; have HT5 := Lib.hid hT5; have HF5 := Lib.hid hfar5; clear hT5 hfar5)
            refine hKK.out _ _ ?hS21 (fun hHeld21 => ?rest21)
            case hS21 => first | exact HS.out _ HT6.out.fr | exact HS.out _ HT5.out.fr | exact HS.out _ (HT5.out.fr.alloc _) | exact HS.out _ ((HT5.out.fr.alloc _).drew) | exact HS.out _ (HX4.out.more FA1.out).fr | exact HS.out _ (HX4.out.more FA2.out).fr | exact HS.out _ (HX4.out.more FC1.out).fr | exact HS.out _ (HX4.out.more FC2.out).fr
            clear hKK KK
            try simp only [List.getElem_toArray, List.getElem_cons_zero, List.getElem_cons_succ, Act.put, List.setIfInBounds_toArray, List.set_cons_zero, List.set_cons_succ]
            refine wpAnyH_ready (rs := [10]) (by kernel_rfl) (by simp) ?_
            refine AllReadyH.cons (o := _) rfl (fun KK hKK => ?_) (AllReadyH.nil)
            first | (refine step_parts (HT5.out.more (((Fr.refl none_ w5).alloc _))) (by rfl) _ _ (by rfl) (by rfl) w5.heap.size (by rfl) Aj cj rl r (lit_cell w5 _ _) HP.out.2.2.2.2.2 HP.out.1 HP.out.2.1 HP.out.2.2.1 (by omega) ?_; intro g6 c6 w6 hT6; have HT6 := Lib.hid hT6; clear hT6) | (refine step_parts (HT5.out.more ((((Fr.refl none_ w5).alloc _)).drew)) (by rfl) _ _ (by rfl) (by rfl) w5.heap.size (by rfl) Aj cj rl r (lit_cell w5 _ _) HP.out.2.2.2.2.2 HP.out.1 HP.out.2.1 HP.out.2.2.1 (by omega) ?_; intro g6 c6 w6 hT6; have HT6 := Lib.hid hT6; clear hT6) | (refine step_parts (HT5.out) (by rfl) _ _ (by rfl) (by rfl) (w4.heap.size + 1) (by rfl) Aj cj rl r (HF5.out _ _ _ (by omega) LA2.out) HP.out.2.2.2.2.2 HP.out.1 HP.out.2.1 HP.out.2.2.1 (by omega) ?_; intro g6 c6 w6 hT6; have HT6 := Lib.hid hT6; clear hT6) | (refine step_parts (HT5.out) (by rfl) _ _ (by rfl) (by rfl) w4.heap.size (by rfl) Aj cj rl r (HF5.out _ _ _ (Nat.le_refl _) ((((Fr.refl none_ _).alloc _).drew).cell0 LC1.out)) HP.out.2.2.2.2.2 HP.out.1 HP.out.2.1 HP.out.2.2.1 (by omega) ?_; intro g6 c6 w6 hT6; have HT6 := Lib.hid hT6; clear hT6)
            refine hKK.out _ _ ?hS22 (fun hHeld22 => ?rest22)
            case hS22 => first | exact HS.out _ HT6.out.fr | exact HS.out _ HT5.out.fr | exact HS.out _ (HT5.out.fr.alloc _) | exact HS.out _ ((HT5.out.fr.alloc _).drew) | exact HS.out _ (HX4.out.more FA1.out).fr | exact HS.out _ (HX4.out.more FA2.out).fr | exact HS.out _ (HX4.out.more FC1.out).fr | exact HS.out _ (HX4.out.more FC2.out).fr
            clear hKK KK
            try simp only [List.getElem_toArray, List.getElem_cons_zero, List.getElem_cons_succ, Act.put, List.setIfInBounds_toArray, List.set_cons_zero, List.set_cons_succ]
            refine wpAnyH_take (i := 11) (oi := _) (v := ?v23) rfl (by kernel_rfl) (by kernel_rfl) (by kernel_rfl) (fun _ _ _ h => h) (Or.inl ⟨by rfl, ?hy23⟩) (by assumption) ?rest23
            case hy23 => (intro w hSw; (try dsimp only at hSw); go_simp; try with_reducible rfl)
            try simp only [List.getElem_toArray, List.getElem_cons_zero, List.getElem_cons_succ, Act.put, List.setIfInBounds_toArray, List.set_cons_zero, List.set_cons_succ]
            refine wpAnyH_take (i := 12) (oi := _) (v := ?v24) rfl (by kernel_rfl) (by kernel_rfl) (by kernel_rfl) (fun _ _ _ h => h) (Or.inl ⟨by rfl, ?hy24⟩) (by assumption) ?rest24
            case hy24 => (intro w hSw; (try dsimp only at hSw); go_simp; try with_reducible rfl)
            try simp only [List.getElem_toArray, List.getElem_cons_zero, List.getElem_cons_succ, Act.put, List.setIfInBounds_toArray, List.set_cons_zero, List.set_cons_succ]
            refine wpAnyH_done (by kernel_rfl) ?_ _
            go_wp2_with fail
            go_roundw
            case rel => exact ⟨k + 1, by omega, by go_num, nr + 1, _, _, by rw [HK.out.1, HK.out.2]; simp, by rw [HK.out.1, List.map_append, List.map_append]; have h9 := HT6.out; rw [← HP.out.2.2.2.1] at h9; exact h9⟩
            case measure => simp [intOf]; omega

      · have hth2 : there.getD k false = false := by simpa using hth
        rw [hth2] at htc
        have hpk := pickN_no (d := d) hth2
        have HX := Lib.hid hX
        have HK := Lib.hid (And.intro hpk hnr)
        clear hX hC hR hT hall hpiv htg hN8 hpl htl hCw hpk hnr hth hth2 htk hTw hle v1 v2
        go_wp2_with fail
        go_roundw
        case rel => exact ⟨k + 1, by omega, by go_num, nr, xr, xf, by rw [HK.out.1]; exact HK.out.2, by rw [HK.out.1]; exact HX.out⟩
        case measure => simp [intOf]; omega
    · have hk2 : k = q := by omega
      have q1 : ¬ (k : Int) < (q : Int) := by omega
      rw [hk2] at hX hnr
      have hlen2 := hnr
      obtain ⟨idx, hidx⟩ : ∃ idx, idx = pickN there d q := ⟨_, rfl⟩
      rw [← hidx] at hX hpiv hnr
      by_cases hfull : nr = d
      · obtain rfl : d = nr := hfull.symm
        have z3 : ¬ (d : Int) < (d : Int) := by omega
        have hN : N8 = (n : Int) := by
          rw [hN8]
          unfold evN
          have h0 : 0 < idx.length := by omega
          obtain ⟨i1, i2⟩ := pickN_mem (there := there) (d := d) (k := q) (i := idx[0]) (by rw [← hidx]; exact List.getElem_mem _)
          rw [if_pos]
          rw [List.any_eq_true]
          refine ⟨true, ?_, rfl⟩
          rw [List.mem_take_iff_getElem]
          have h3 : there[idx[0]]'(by omega) = true := by
            have h4 : there.getD idx[0] false = there[idx[0]]'(by omega) := by rw [List.getD_eq_getElem?_getD, List.getElem?_eq_getElem (by omega)]; rfl
            rw [← h4]; exact i2
          exact ⟨idx[0], by omega, h3⟩
        subst hN
        have hinv := invert_any (w := wr) hX.fd Ar cr (idx.map (rowF d)) hX.rowsV d (by rw [List.length_map]; exact hnr.symm) hd1 (fun r hr => by obtain ⟨i, _, rfl⟩ := List.mem_map.1 hr; exact rowF_len d i) (hpiv hnr.symm)
        have hfl : (idx.map (fun i => parts.getD i [])).length = d := by rw [List.length_map]; exact hnr.symm
        have hfrom : ∀ r ∈ idx.map (fun i => parts.getD i []), r.length = n := by
          intro r hr
          obtain ⟨i, hi, rfl⟩ := List.mem_map.1 hr
          rw [hidx] at hi
          obtain ⟨i1, i2⟩ := pickN_mem hi
          have h4 : there.getD i false = there[i]'(by omega) := by rw [List.getD_eq_getElem?_getD, List.getElem?_eq_getElem (by omega)]; rfl
          rw [List.getD_eq_getElem?_getD, List.getElem?_eq_getElem (show i < parts.length by omega)]
          exact hall i (by omega) (by omega) (by rw [← h4]; exact i2)
        have HX := Lib.hid (And.intro hX (And.intro hCw (And.intro hfl (And.intro hfrom (And.intro hidx (And.intro hX.fr hlen2))))))
        clear hX hC hR hT hall hpiv htg hN8 hpl htl hCw hfl hfrom hidx hnr hlen2 hle v1 HT0 hk2 hfull hnr2
        go_wp2_with fail
        (with_reducible refine (hinv).mono ?_)
        rintro e w5 ⟨bI, rfl, hRI, hfdI, hFI, hIl, hIr⟩
        have hmd := made_any (HX.out.2.1.frG hFI hfdI) Af cf _ (HX.out.1.fld hfdI hFI).partsV HX.out.2.2.1 n hn HX.out.2.2.2.1 (some ⟨bI, 0, none⟩) d _ hRI hIl hIr
        have HF := Lib.hid (HX.out.2.2.2.2.2.1.trans hFI)
        have v5 := (HX.out.2.1.frG hFI hfdI).cells
        clear hRI hfdI hFI hIl hIr hinv
        go_wp2_with fail
        (with_reducible refine (hmd).mono ?_)
        rintro e w6 ⟨bM, rfl, hO⟩
        have HO := Lib.hid hO
        clear hO hmd
        go_wp2_with fail
        go_ret2
        have hq3 := HQ.out
        have hl3 := HX.out.2.2.2.2.2.2
        have hi3 := HX.out.2.2.2.2.1
        unfold DecPost
        rw [← hq3, ← hi3]
        refine ⟨fun _ => ⟨bM, rfl, HO.out.base HF.out⟩, fun hlt => ?_⟩
        rw [hi3] at hlt
        omega
      · have hlt : nr < d := by omega
        have z3 : (nr : Int) < (d : Int) := by omega
        have HX := Lib.hid (And.intro hX hlen2)
        clear hX hC hR hT hall hpiv htg hN8 hpl htl hCw hidx hnr hlen2 hle v1 HT0 hk2 hfull hnr2
        go_wp2_with fail
        go_ret2
        have hq3 := HQ.out
        have hl3 := HX.out.2
        unfold DecPost
        rw [← hq3]
        exact ⟨fun hh => by omega, fun _ => ⟨rfl, HX.out.1.fd, HX.out.1.fr⟩⟩
end Go.Proofs.Ytdkjmnhblepkaaa

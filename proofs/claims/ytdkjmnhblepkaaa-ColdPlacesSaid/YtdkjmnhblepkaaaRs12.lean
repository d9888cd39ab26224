import Derived.Test.YtdkjmnhblepkaaaRsH
namespace Go.Proofs.Ytdkjmnhblepkaaa
open Go.RowKit
set_option linter.unusedVariables false
set_option linter.unusedSimpArgs false
set_option maxRecDepth 100000

/-! rs.invert -/
set_option maxHeartbeats 8000000 in
theorem invert_any {w : World} {g : Nat} (hfd : FieldAt w g) (Am : Option Addr) (cm : Nat) (m : List (List UInt8)) (hR : RowsV w g Am m) (n : Nat) (hml : m.length = n) (hn : 1 ≤ n ∧ n ≤ 32) (hall : ∀ r ∈ m, r.length = n) (hpiv : pivOk m n) :
    Calls Try.prog 43 #[ptr g, .slice Am n cm] w fun e w' => InvPost w g n (invF m n) e w' := by
  have hmkd := mkRows n (by omega) w
  obtain ⟨V, hV⟩ : ∃ V, V = w.alloc (.cells (List.replicate n (Value.slice none 0 0)).toArray 33) := ⟨_, rfl⟩
  have hA0 := AugS.start hfd hV
  rw [← hV] at hmkd
  obtain ⟨b, hb⟩ : ∃ b, b = w.heap.size := ⟨_, rfl⟩
  rw [← hb] at hmkd hA0
  have HB := Lib.hid hb
  have HA0 := Lib.hid hA0
  have H := Lib.hid (And.intro hR (And.intro hml (And.intro hall hpiv)))
  clear hb hA0 hV hR hml hall hpiv hfd
  go_enter Try.func43, Try.ntmps43
  go_wp2_with fail
  go_loopw [22] (fun v wr => ∃ j : Nat, j ≤ n ∧ v = .int .i64 j ∧ ∃ bs : List Nat, bs.length = j ∧ AugS w wr g b n bs ((augF m n).take j)) (fun v _ => n - (intOf v).toNat)
  case atStart => exact ⟨0, by omega, rfl, [], rfl, by rw [List.take_zero]; exact HA0.out⟩
  case round =>
    obtain ⟨j, hj, rfl, bs, hbl, hX⟩ := hrel
    by_cases hjn : j < n
    · have q1 : (j : Int) < (n : Int) := by omega
      have q2 : (0 : Int) ≤ (j : Int) ∧ (j : Int) < (n : Int) := by omega
      obtain ⟨hR, hml, hall, hpiv⟩ := H.out
      have hjm : j < m.length := by omega
      obtain ⟨fa, fo, Aj, cj, rfl, hfc, hfr, hfn, hfg⟩ := hR.row j hjm
      have hrl : m[j].length = n := hall _ (List.getElem_mem _)
      obtain ⟨r, hr⟩ : ∃ r, r = m[j] := ⟨_, rfl⟩
      have hgd : m.getD j [] = r := by rw [List.getD_eq_getElem?_getD, List.getElem?_eq_getElem hjm, hr]; rfl
      rw [← hr] at hfc hfr hfn hfg hrl
      obtain ⟨rb, ro, rfl, hz0⟩ := hfr 0 (by rw [List.length_map]; omega)
      have hfane : fa ≠ g := hR.ne fa ⟨_, rfl⟩ (by omega)
      have hrbne : rb ≠ g := hfg rb ⟨_, rfl⟩ (by omega)
      rw [hrl] at hfc
      have hfrm : Fr (fun i => i = g) w wr.drew := hX.fr.drew
      have hs0 : wr.drew.cell? ⟨fa, fo + j, none⟩ = some (.slice (some ⟨rb, ro, none⟩) n cj) := hfrm.cell hfc hfane
      have hS : ∀ W, Fr none_ wr.drew W → W.cell? ⟨fa, fo + j, none⟩ = some (.slice (some ⟨rb, ro, none⟩) n cj) := fun W hW => hW.cell hs0 (fun h => h)
      obtain ⟨V1, V2, V3, hA⟩ := aug_row wr.drew n rb ro cj (by omega) r hrl (hfr.frp hfrm (fun b' hb' hl e => by obtain ⟨o', e'⟩ := hb'; cases e'; exact hrbne e))
      obtain ⟨nb, hnb⟩ : ∃ nb, nb = wr.drew.heap.size := ⟨_, rfl⟩
      rw [← hnb] at hA
      have hbw : b < wr.drew.heap.size := hX.lt
      have hnbb : nb ≠ b := by omega
      have hfab : fa ≠ b := by have h2 : fa < w.heap.size := World.block_lt_of_cell? w ⟨fa, fo + j, none⟩ hfc; have := HB.out; omega
      have c3 : V3.cell? ⟨b, j, none⟩ = some (.slice none 0 0) := hA.f3.cell (hX.cell hbl hjn) (fun h => h)
      have f3 : V3.frozen? ⟨b, j, none⟩ = false := frozen_of_blk (hA.f3.heap0 (show wr.drew.heap[b]? = _ from hX.arr)) j
      have hf3 : Fr none_ wr V3 := (Fr.refl none_ wr).drew.trans hA.f3
      obtain ⟨X4, hE4⟩ : ∃ X4, X4 = V3.setCell ⟨b, j, none⟩ (.slice (some ⟨nb, 0, none⟩) (2 * n) (2 * n)) := ⟨_, rfl⟩
      have hX4 : AugS w X4 g b n (bs ++ [nb]) ((augF m n).take j ++ [r ++ List.replicate n 0]) := by
        have hpu := hX.push (nb := nb) (V := V3) (r := r ++ List.replicate n 0) (by omega) hf3 (by rw [hnb]; exact Nat.le_refl _) hA.out (by simp [hrl]; omega)
        rw [hbl] at hpu
        rw [hE4]
        exact hpu
      have hK4 : (V3.setCell ⟨b, j, none⟩ (.slice (some ⟨nb, 0, none⟩) (2 * n) (2 * n))).cell? ⟨fa, fo + j, none⟩ = some (.slice (some ⟨rb, ro, none⟩) n cj) := (Fr.set V3 b j _).cell (hS _ hA.f3) hfab
      have c4 : X4.cell? ⟨b, j, none⟩ = some (.slice (some ⟨nb, 0, none⟩) (2 * n) (2 * n)) := by
        rw [cell_of_blk hX4.arr, List.getElem?_toArray, List.getElem?_append_left (by simp; omega), List.getElem?_map, List.getElem?_append_right (by omega), ← hbl, Nat.sub_self]
        rfl
      have hb4 : X4.heap[nb]? = some (.cells ((r ++ List.replicate n 0).map byteV).toArray 5 (0, 0)) := by rw [hE4]; exact (Fr.set V3 b j _).heap hA.out hnbb
      have c5 : X4.cell? ⟨nb, n + j, none⟩ = some (.int .u8 0) := by
        rw [cell_of_blk hb4, List.getElem?_toArray, List.getElem?_map, List.getElem?_append_right (by omega), List.getElem?_replicate, if_pos (by omega)]
        rfl
      have f5 : X4.frozen? ⟨nb, n + j, none⟩ = false := frozen_of_blk hb4 _
      have hX5 : AugS w (X4.setCell ⟨nb, n + j, none⟩ (.int .u8 1)) g b n (bs ++ [nb]) ((augF m n).take j ++ [r ++ unitF n j]) := hX4.last (n + j) 1 (aug_set r n j hrl)
      have q3 : (0 : Int) ≤ ((n + j : Nat) : Int) ∧ ((n + j : Nat) : Int) < ((2 * n : Nat) : Int) := by omega
      have HX5 := Lib.hid hX5
      have HE4 := Lib.hid hE4
      have HK4 := Lib.hid hK4
      have hmk := hA.made
      have hp1 := hA.app1
      have hp2 := hA.app2
      have hw2 : IntKind.i64.wrap (2 * (n : Int)) = ((2 * n : Nat) : Int) := by rw [IntWalk.i64_in _ (by omega)]; omega
      have HW := Lib.hid hw2
      have HA := Lib.hid hA
      have HS := Lib.hid hS
      have HX := Lib.hid hX
      have HN := Lib.hid hnb
      have HL := Lib.hid (And.intro hbl (And.intro hrl (And.intro hgd hr)))
      clear hX5 hE4 hX4 hK4 hb4 hbw hf3 hw2 hz0 hR hml hall hpiv hfc hfr hfn hfg hgd hA hS hX hnb hbl hrl hfrm hr
      go_wp2_with fail
      refine wp_region_held_drew (S := fun W => W.cell? ⟨fa, fo + j, none⟩ = some (.slice (some ⟨rb, ro, none⟩) n cj)) (by kernel_rfl) hs0 (fun hHeld0 => ?_)
      refine wpAnyH_take (i := 0) (oi := _) (v := ?v1) rfl (by kernel_rfl) (by kernel_rfl) (by kernel_rfl) (fun _ _ _ h => h) (Or.inl ⟨by rfl, ?hy1⟩) (by assumption) ?rest1
      case hy1 => (intro w hSw; (try dsimp only at hSw); go_simp; try with_reducible rfl)
      try simp only [List.getElem_toArray, List.getElem_cons_zero, List.getElem_cons_succ, Act.put, List.setIfInBounds_toArray, List.set_cons_zero, List.set_cons_succ]
      refine wpAnyH_take (i := 1) (oi := _) (v := ?v2) rfl (by kernel_rfl) (by kernel_rfl) (by kernel_rfl) (fun _ _ _ h => h) (Or.inl ⟨by rfl, ?hy2⟩) (by assumption) ?rest2
      case hy2 => (intro w hSw; (try dsimp only at hSw); go_simp; try with_reducible rfl)
      try simp only [List.getElem_toArray, List.getElem_cons_zero, List.getElem_cons_succ, Act.put, List.setIfInBounds_toArray, List.set_cons_zero, List.set_cons_succ]
      refine wpAnyH_take (i := 2) (oi := _) (v := ?v3) rfl (by kernel_rfl) (by kernel_rfl) (by kernel_rfl) (fun _ _ _ h => h) (Or.inl ⟨by rfl, ?hy3⟩) (by assumption) ?rest3
      case hy3 => (intro w hSw; (try dsimp only at hSw); go_simp; try with_reducible rfl)
      try simp only [List.getElem_toArray, List.getElem_cons_zero, List.getElem_cons_succ, Act.put, List.setIfInBounds_toArray, List.set_cons_zero, List.set_cons_succ]
      refine wpAnyH_take (i := 3) (oi := _) (v := ?v4) rfl (by kernel_rfl) (by kernel_rfl) (by kernel_rfl) (fun _ _ _ h => h) (Or.inl ⟨by rfl, ?hy4⟩) (by assumption) ?rest4
      case hy4 => (intro w hSw; (try dsimp only at hSw); go_simp; try with_reducible rfl)
      try simp only [List.getElem_toArray, List.getElem_cons_zero, List.getElem_cons_succ, Act.put, List.setIfInBounds_toArray, List.set_cons_zero, List.set_cons_succ]
      refine wpAnyH_take (i := 5) (oi := _) (v := ?v5) rfl (by kernel_rfl) (by kernel_rfl) (by kernel_rfl) (fun _ _ _ h => h) (Or.inl ⟨by rfl, ?hy5⟩) (by assumption) ?rest5
      case hy5 => (intro w hSw; (try dsimp only at hSw); go_simp; try with_reducible rfl)
      try simp only [List.getElem_toArray, List.getElem_cons_zero, List.getElem_cons_succ, Act.put, List.setIfInBounds_toArray, List.set_cons_zero, List.set_cons_succ]
      refine wpAnyH_take (i := 6) (oi := _) (v := ?v6) rfl (by kernel_rfl) (by kernel_rfl) (by kernel_rfl) (fun _ _ _ h => h) (Or.inl ⟨by rfl, ?hy6⟩) (by assumption) ?rest6
      case hy6 => (intro w hSw; (try dsimp only at hSw); go_simp; try with_reducible rfl)
      try simp only [List.getElem_toArray, List.getElem_cons_zero, List.getElem_cons_succ, Act.put, List.setIfInBounds_toArray, List.set_cons_zero, List.set_cons_succ]
      refine wpAnyH_take (i := 7) (oi := _) (v := ?v7) rfl (by kernel_rfl) (by kernel_rfl) (by kernel_rfl) (fun _ _ _ h => h) (Or.inl ⟨by rfl, ?hy7⟩) (by assumption) ?rest7
      case hy7 => (intro w hSw; (try dsimp only at hSw); go_simp; try with_reducible rfl)
      try simp only [List.getElem_toArray, List.getElem_cons_zero, List.getElem_cons_succ, Act.put, List.setIfInBounds_toArray, List.set_cons_zero, List.set_cons_succ]
      refine wpAnyH_take (i := 8) (oi := _) (v := ?v8) rfl (by kernel_rfl) (by kernel_rfl) (by kernel_rfl) (fun _ _ _ h => h) (Or.inl ⟨by rfl, ?hy8⟩) (by assumption) ?rest8
      case hy8 => (intro w hSw; (try dsimp only at hSw); go_simp; try with_reducible rfl)
      try simp only [List.getElem_toArray, List.getElem_cons_zero, List.getElem_cons_succ, Act.put, List.setIfInBounds_toArray, List.set_cons_zero, List.set_cons_succ]
      refine wpAnyH_take (i := 10) (oi := _) (v := ?v9) rfl (by kernel_rfl) (by kernel_rfl) (by kernel_rfl) (fun _ _ _ h => h) (Or.inl ⟨by rfl, ?hy9⟩) (by assumption) ?rest9
      case hy9 => (intro w hSw; (try dsimp only at hSw); go_simp; try with_reducible rfl)
      try simp only [List.getElem_toArray, List.getElem_cons_zero, List.getElem_cons_succ, Act.put, List.setIfInBounds_toArray, List.set_cons_zero, List.set_cons_succ]
      refine wpAnyH_ready (rs := [4]) (by kernel_rfl) (by simp) ?_
      refine AllReadyH.cons (o := _) rfl (fun KK hKK => ?_) (AllReadyH.nil)
      go_simp
      rw [HW.out, hmk]; go_simp
      go_wp2_with fail
      refine hKK.out _ _ ?hS10 (fun hHeld10 => ?rest10)
      case hS10 => first | exact HS.out _ HA.out.f1 | exact HS.out _ HA.out.f2 | exact HS.out _ HA.out.f3 | exact HK4.out
      clear hKK KK
      try simp only [List.getElem_toArray, List.getElem_cons_zero, List.getElem_cons_succ, Act.put, List.setIfInBounds_toArray, List.set_cons_zero, List.set_cons_succ]
      refine wpAnyH_ready (rs := [9]) (by kernel_rfl) (by simp) ?_
      refine AllReadyH.cons (o := _) rfl (fun KK hKK => ?_) (AllReadyH.nil)
      refine step_append_run (by rfl) _ _ _ (by rfl) _ _ _ _ (by rfl) (by rfl) hp1 ?_
      refine hKK.out _ _ ?hS11 (fun hHeld11 => ?rest11)
      case hS11 => first | exact HS.out _ HA.out.f1 | exact HS.out _ HA.out.f2 | exact HS.out _ HA.out.f3 | exact HK4.out
      clear hKK KK
      try simp only [List.getElem_toArray, List.getElem_cons_zero, List.getElem_cons_succ, Act.put, List.setIfInBounds_toArray, List.set_cons_zero, List.set_cons_succ]
      refine wpAnyH_ready (rs := [11]) (by kernel_rfl) (by simp) ?_
      refine AllReadyH.cons (o := _) rfl (fun KK hKK => ?_) (AllReadyH.nil)
      refine step_append_run (by rfl) _ _ _ (by rfl) _ _ _ _ (by rfl) (by rfl) hp2 ?_
      refine hKK.out _ _ ?hS12 (fun hHeld12 => ?rest12)
      case hS12 => first | exact HS.out _ HA.out.f1 | exact HS.out _ HA.out.f2 | exact HS.out _ HA.out.f3 | exact HK4.out
      clear hKK KK
      try simp only [List.getElem_toArray, List.getElem_cons_zero, List.getElem_cons_succ, Act.put, List.setIfInBounds_toArray, List.set_cons_zero, List.set_cons_succ]
      refine wpAnyH_take (i := 12) (oi := _) (v := ?v13) rfl (by kernel_rfl) (by kernel_rfl) (by kernel_rfl) (fun _ _ _ h => h) (Or.inl ⟨by rfl, ?hy13⟩) (by assumption) ?rest13
      case hy13 => (intro w hSw; (try dsimp only at hSw); go_simp; try with_reducible rfl)
      try simp only [List.getElem_toArray, List.getElem_cons_zero, List.getElem_cons_succ, Act.put, List.setIfInBounds_toArray, List.set_cons_zero, List.set_cons_succ]
      refine wpAnyH_ready (rs := [13]) (by kernel_rfl) (by simp) ?_
      refine AllReadyH.cons (o := _) rfl (fun KK hKK => ?_) (AllReadyH.nil)
      go_simp
      refine hKK.out _ _ ?hS14 (fun hHeld14 => ?rest14)
      case hS14 => first | exact HS.out _ HA.out.f1 | exact HS.out _ HA.out.f2 | exact HS.out _ HA.out.f3 | exact HK4.out
      clear hKK KK
      try simp only [List.getElem_toArray, List.getElem_cons_zero, List.getElem_cons_succ, Act.put, List.setIfInBounds_toArray, List.set_cons_zero, List.set_cons_succ]
      refine wpAnyH_done (by kernel_rfl) ?_ _
      rw [← HE4.out]
      go_wp2_with fail
      go_roundw
      case rel => exact ⟨j + 1, by omega, by go_num, bs ++ [nb], by simp [HL.out.1], by rw [augF_take _ _ _ hjn, HL.out.2.2.1]; exact HX5.out⟩
      case measure => simp [intOf]; omega

    · have hjn2 : j = n := by omega
      have hW : WorkS w wr g b n bs (augF m n) := by
        have h1 := hX.work (by omega)
        rw [hjn2, List.take_of_length_le (by rw [augF_len]; exact Nat.le_refl _)] at h1
        exact h1
      have HW := Lib.hid hW
      have q1 : ¬ (j : Int) < (n : Int) := by omega
      clear hW hX hbl
      go_wp2_with fail
      clear q1 hjn2 hjn hj HA0
      go_loopw [48] (fun v wr => ∃ j : Nat, j ≤ n ∧ v = .int .i64 j ∧ ∃ bs : List Nat, WorkS w wr g b n bs (gaussN (augF m n) n j)) (fun v _ => n - (intOf v).toNat)
      case atStart => exact ⟨0, by omega, rfl, bs, HW.out⟩
      case round =>
        obtain ⟨j, hj, rfl, bs, hX⟩ := hrel
        by_cases hjn : j < n
        · have q1 : (j : Int) < (n : Int) := by omega
          have q2 : (0 : Int) ≤ (j : Int) ∧ (j : Int) < (n : Int) := by omega
          have hp0 := H.out.2.2.2 j hjn
          obtain ⟨R, hR⟩ : ∃ R, R = gaussN (augF m n) n j := ⟨_, rfl⟩
          rw [← hR] at hX hp0
          obtain ⟨p, hp⟩ : ∃ p, p = pivF R j n := ⟨_, rfl⟩
          rw [← hp] at hp0
          obtain ⟨hp1, hp2, hp3⟩ := piv_spec R j n p hp.symm hp0
          have hlb := hX.lb
          have hlr := hX.lr
          have hal := hX.all
          have HP := Lib.hid (And.intro hp (And.intro hp2 (And.intro hp3 (And.intro hR (And.intro hlb (And.intro hlr hal))))))
          have HX := Lib.hid hX
          clear hX hp hp2 hp3 hR hlb hlr hal
          go_wp2_with fail
          go_loopw [10] (fun v wx => ∃ t : Nat, j ≤ t ∧ t ≤ p ∧ v = .int .i64 t ∧ WorkS w wx g b n bs R) (fun v _ => n - (intOf v).toNat)
          case atStart => exact ⟨j, by omega, by omega, rfl, HX.out⟩
          case round =>
            obtain ⟨t, ht, htp, rfl, hX⟩ := hrel
            obtain ⟨e1, e2, e3, e4, e5, e6, e7⟩ := HP.out
            have t1 : t < bs.length := by omega
            have t2 : t < R.length := by omega
            have t3 : R[t].length = 2 * n := e7 _ (List.getElem_mem _)
            have c1 : wr.cell? ⟨b, t, none⟩ = some (.slice (some ⟨bs[t], 0, none⟩) (2 * n) (2 * n)) := hX.cellA t t1
            have c2 := hX.cell t t1 t2 j (by omega)
            have g1 : (R.getD t []).getD j 0 = R[t][j] := by rw [getD_of R t [] t2, getD_of R[t] j 0 (by omega)]
            have q3 : (t : Int) < (n : Int) := by omega
            have q4 : (0 : Int) ≤ (t : Int) ∧ (t : Int) < (n : Int) := by omega
            have q5 : (0 : Int) ≤ (j : Int) ∧ (j : Int) < ((2 * n : Nat) : Int) := by omega
            obtain ⟨x, hx⟩ : ∃ x, x = bs[t] := ⟨_, rfl⟩
            rw [← hx] at c1 c2
            have HX := Lib.hid hX
            by_cases htl : t < p
            · have hz : R[t][j] = 0 := by rw [← g1]; exact e3 t ht htl
              rw [hz] at c2
              replace c2 : wr.cell? ⟨x, j, none⟩ = some (.int .u8 0) := c2
              clear e1 e2 e3 e4 e5 e6 e7 g1 hz hx hX t1 t2 t3
              go_wp2_with fail
              go_roundw
              case rel => exact ⟨t + 1, by omega, by omega, by go_num, HX.out⟩
              case measure => simp [intOf]; omega
            · have htp2 : t = p := by omega
              have hz : ¬ R[t][j] = 0 := by rw [← g1, htp2]; exact e2
              obtain ⟨u, hu⟩ : ∃ u, u = R[t][j] := ⟨_, rfl⟩
              rw [← hu] at c2 hz
              replace c2 : wr.cell? ⟨x, j, none⟩ = some (.int .u8 (u.toNat : Int)) := c2
              have hz2 : ¬ (u.toNat : Int) = 0 := fun h => hz (UInt8.toNat_inj.1 (by simpa using h))
              have q6 : ¬ (t : Int) = (n : Int) := by omega
              subst htp2
              have hx2 : WorkS w wr g b n bs R := hX
              have jb : j < bs.length := by omega
              have jr : j < R.length := by omega
              obtain ⟨y, hy⟩ : ∃ y, y = bs[j] := ⟨_, rfl⟩
              have d1 : wr.drew.cell? ⟨b, t, none⟩ = some (.slice (some ⟨x, 0, none⟩) (2 * n) (2 * n)) := c1
              have f2 : wr.frozen? ⟨b, j, none⟩ = false := hX.fzA j
              have d2 : wr.drew.cell? ⟨b, j, none⟩ = some (.slice (some ⟨y, 0, none⟩) (2 * n) (2 * n)) := by rw [hy]; exact hx2.cellA j jb
              have f1 : wr.drew.frozen? ⟨b, j, none⟩ = false := hX.fzA j
              have harr2 := heap_setCell_same hx2.arr (.slice (some ⟨x, 0, none⟩) (2 * n) (2 * n)) (o := j)
              have d3 : (wr.setCell ⟨b, j, none⟩ (.slice (some ⟨x, 0, none⟩) (2 * n) (2 * n))).cell? ⟨b, t, none⟩ = some (.slice (some ⟨x, 0, none⟩) (2 * n) (2 * n)) := by
                rw [cell_of_blk harr2, List.setIfInBounds_toArray, List.getElem?_toArray, List.getElem?_set, List.length_map]
                by_cases e : j = t
                · rw [if_pos e, if_pos jb]
                · rw [if_neg e, List.getElem?_map, List.getElem?_eq_getElem t1, ← hx]; rfl
              have f3 : wr.frozen? ⟨b, t, none⟩ = false := frozen_of_blk hX.arr t
              have hX2 : WorkS w ((wr.setCell ⟨b, j, none⟩ (.slice (some ⟨x, 0, none⟩) (2 * n) (2 * n))).setCell ⟨b, t, none⟩ (.slice (some ⟨y, 0, none⟩) (2 * n) (2 * n))) g b n (swapL bs j t jb t1) (pivR R j n) := by
                have h1 := hx2.swap j t jb t1 jr t2 rfl
                rw [swapT_eq] at h1
                unfold pivR
                rw [← e1, hx, hy]
                exact h1
              have hX3 : ∃ bs' : List Nat, WorkS w ((wr.setCell ⟨b, j, none⟩ (.slice (some ⟨x, 0, none⟩) (2 * n) (2 * n))).setCell ⟨b, t, none⟩ (.slice (some ⟨y, 0, none⟩) (2 * n) (2 * n))).drew g b n bs' (pivR R j n) := ⟨_, hX2.fd.fr (Fr.refl none_ _).drew (fun h => h), hX2.arr, hX2.lb, hX2.lr, hX2.all, hX2.each, hX2.nodup, hX2.apart, hX2.bge, hX2.bne, hX2.fr.drew⟩
              have HX2 := Lib.hid hX3
              have HXB := Lib.hid hx
              clear e1 e2 e3 e4 e5 e6 e7 g1 hu hX t2 t3 hz hx hX3 hX2 harr2 hx2 hy jb jr
              go_upto_region 17 with fail
              go_cut [] (fun wx => ∃ bs' : List Nat, WorkS w wx g b n bs' (pivR R j n))
              case first =>
                refine wp_region_held_drew (S := fun _ => True) (by kernel_rfl) trivial (fun hHeld0 => ?_)
                refine wpAnyH_take (i := 0) (oi := _) (v := ?vs1) rfl (by kernel_rfl) (by kernel_rfl) (by kernel_rfl) (fun _ _ _ h => h) (Or.inl ⟨by rfl, ?hys1⟩) trivial ?rests1
                case hys1 => (intro w hSw; (try dsimp only at hSw); go_simp; try with_reducible rfl)
                try simp only [List.getElem_toArray, List.getElem_cons_zero, List.getElem_cons_succ, Act.put, List.setIfInBounds_toArray, List.set_cons_zero, List.set_cons_succ]
                refine wpAnyH_take (i := 1) (oi := _) (v := ?vs2) rfl (by kernel_rfl) (by kernel_rfl) (by kernel_rfl) (fun _ _ _ h => h) (Or.inl ⟨by rfl, ?hys2⟩) trivial ?rests2
                case hys2 => (intro w hSw; (try dsimp only at hSw); go_simp; try with_reducible rfl)
                try simp only [List.getElem_toArray, List.getElem_cons_zero, List.getElem_cons_succ, Act.put, List.setIfInBounds_toArray, List.set_cons_zero, List.set_cons_succ]
                refine wpAnyH_take (i := 2) (oi := _) (v := ?vs3) rfl (by kernel_rfl) (by kernel_rfl) (by kernel_rfl) (fun _ _ _ h => h) (Or.inl ⟨by rfl, ?hys3⟩) trivial ?rests3
                case hys3 => (intro w hSw; (try dsimp only at hSw); go_simp; try with_reducible rfl)
                try simp only [List.getElem_toArray, List.getElem_cons_zero, List.getElem_cons_succ, Act.put, List.setIfInBounds_toArray, List.set_cons_zero, List.set_cons_succ]
                refine wpAnyH_take (i := 3) (oi := _) (v := ?vs4) rfl (by kernel_rfl) (by kernel_rfl) (by kernel_rfl) (fun _ _ _ h => h) (Or.inl ⟨by rfl, ?hys4⟩) trivial ?rests4
                case hys4 => (intro w hSw; (try dsimp only at hSw); go_simp; try with_reducible rfl)
                try simp only [List.getElem_toArray, List.getElem_cons_zero, List.getElem_cons_succ, Act.put, List.setIfInBounds_toArray, List.set_cons_zero, List.set_cons_succ]
                refine wpAnyH_take (i := 4) (oi := _) (v := ?vs5) rfl (by kernel_rfl) (by kernel_rfl) (by kernel_rfl) (fun _ _ _ h => h) (Or.inl ⟨by rfl, ?hys5⟩) trivial ?rests5
                case hys5 => (intro w hSw; (try dsimp only at hSw); go_simp; try with_reducible rfl)
                try simp only [List.getElem_toArray, List.getElem_cons_zero, List.getElem_cons_succ, Act.put, List.setIfInBounds_toArray, List.set_cons_zero, List.set_cons_succ]
                refine wpAnyH_take (i := 5) (oi := _) (v := ?vs6) rfl (by kernel_rfl) (by kernel_rfl) (by kernel_rfl) (fun _ _ _ h => h) (Or.inl ⟨by rfl, ?hys6⟩) trivial ?rests6
                case hys6 => (intro w hSw; (try dsimp only at hSw); go_simp; try with_reducible rfl)
                try simp only [List.getElem_toArray, List.getElem_cons_zero, List.getElem_cons_succ, Act.put, List.setIfInBounds_toArray, List.set_cons_zero, List.set_cons_succ]
                refine wpAnyH_take (i := 6) (oi := _) (v := ?vs7) rfl (by kernel_rfl) (by kernel_rfl) (by kernel_rfl) (fun _ _ _ h => h) (Or.inl ⟨by rfl, ?hys7⟩) trivial ?rests7
                case hys7 => (intro w hSw; (try dsimp only at hSw); go_simp; try with_reducible rfl)
                try simp only [List.getElem_toArray, List.getElem_cons_zero, List.getElem_cons_succ, Act.put, List.setIfInBounds_toArray, List.set_cons_zero, List.set_cons_succ]
                refine wpAnyH_take (i := 8) (oi := _) (v := ?vs8) rfl (by kernel_rfl) (by kernel_rfl) (by kernel_rfl) (fun _ _ _ h => h) (Or.inl ⟨by rfl, ?hys8⟩) trivial ?rests8
                case hys8 => (intro w hSw; (try dsimp only at hSw); go_simp; try with_reducible rfl)
                try simp only [List.getElem_toArray, List.getElem_cons_zero, List.getElem_cons_succ, Act.put, List.setIfInBounds_toArray, List.set_cons_zero, List.set_cons_succ]
                refine wpAnyH_take (i := 9) (oi := _) (v := ?vs9) rfl (by kernel_rfl) (by kernel_rfl) (by kernel_rfl) (fun _ _ _ h => h) (Or.inl ⟨by rfl, ?hys9⟩) trivial ?rests9
                case hys9 => (intro w hSw; (try dsimp only at hSw); go_simp; try with_reducible rfl)
                try simp only [List.getElem_toArray, List.getElem_cons_zero, List.getElem_cons_succ, Act.put, List.setIfInBounds_toArray, List.set_cons_zero, List.set_cons_succ]
                refine wpAnyH_take (i := 10) (oi := _) (v := ?vs10) rfl (by kernel_rfl) (by kernel_rfl) (by kernel_rfl) (fun _ _ _ h => h) (Or.inl ⟨by rfl, ?hys10⟩) trivial ?rests10
                case hys10 => (intro w hSw; (try dsimp only at hSw); go_simp; try with_reducible rfl)
                try simp only [List.getElem_toArray, List.getElem_cons_zero, List.getElem_cons_succ, Act.put, List.setIfInBounds_toArray, List.set_cons_zero, List.set_cons_succ]
                refine wpAnyH_ready (rs := [7, 11]) (by kernel_rfl) (by simp) ?_
                refine AllReadyH.cons (o := _) rfl (fun KK hKK => ?_) (AllReadyH.cons (o := _) rfl (fun KK hKK => ?_) (AllReadyH.nil))
                · go_simp
                  refine hKK.out _ _ ?hSs11 (fun hHelds11 => ?rests11)
                  case hSs11 => exact trivial
                  clear hKK KK
                  try simp only [List.getElem_toArray, List.getElem_cons_zero, List.getElem_cons_succ, Act.put, List.setIfInBounds_toArray, List.set_cons_zero, List.set_cons_succ]
                  refine wpAnyH_ready (rs := [11]) (by kernel_rfl) (by simp) ?_
                  refine AllReadyH.cons (o := _) rfl (fun KK hKK => ?_) (AllReadyH.nil)
                  go_simp
                  refine hKK.out _ _ ?hSs12 (fun hHelds12 => ?rests12)
                  case hSs12 => exact trivial
                  clear hKK KK
                  try simp only [List.getElem_toArray, List.getElem_cons_zero, List.getElem_cons_succ, Act.put, List.setIfInBounds_toArray, List.set_cons_zero, List.set_cons_succ]
                  refine wpAnyH_take (i := 12) (oi := _) (v := ?vs13) rfl (by kernel_rfl) (by kernel_rfl) (by kernel_rfl) (fun _ _ _ h => h) (Or.inl ⟨by rfl, ?hys13⟩) trivial ?rests13
                  case hys13 => (intro w hSw; (try dsimp only at hSw); go_simp; try with_reducible rfl)
                  try simp only [List.getElem_toArray, List.getElem_cons_zero, List.getElem_cons_succ, Act.put, List.setIfInBounds_toArray, List.set_cons_zero, List.set_cons_succ]
                  refine wpAnyH_ready (rs := [13]) (by kernel_rfl) (by simp) ?_
                  refine AllReadyH.cons (o := _) rfl (fun KK hKK => ?_) (AllReadyH.nil)
                  go_simp
                  refine hKK.out _ _ ?hSs14 (fun hHelds14 => ?rests14)
                  case hSs14 => exact trivial
                  clear hKK KK
                  try simp only [List.getElem_toArray, List.getElem_cons_zero, List.getElem_cons_succ, Act.put, List.setIfInBounds_toArray, List.set_cons_zero, List.set_cons_succ]
                  refine wpAnyH_take (i := 14) (oi := _) (v := ?vs15) rfl (by kernel_rfl) (by kernel_rfl) (by kernel_rfl) (fun _ _ _ h => h) (Or.inl ⟨by rfl, ?hys15⟩) trivial ?rests15
                  case hys15 => (intro w hSw; (try dsimp only at hSw); go_simp; try with_reducible rfl)
                  try simp only [List.getElem_toArray, List.getElem_cons_zero, List.getElem_cons_succ, Act.put, List.setIfInBounds_toArray, List.set_cons_zero, List.set_cons_succ]
                  refine wpAnyH_ready (rs := [15]) (by kernel_rfl) (by simp) ?_
                  refine AllReadyH.cons (o := _) rfl (fun KK hKK => ?_) (AllReadyH.nil)
                  go_simp
                  refine hKK.out _ _ ?hSs16 (fun hHelds16 => ?rests16)
                  case hSs16 => exact trivial
                  clear hKK KK
                  try simp only [List.getElem_toArray, List.getElem_cons_zero, List.getElem_cons_succ, Act.put, List.setIfInBounds_toArray, List.set_cons_zero, List.set_cons_succ]
                  refine wpAnyH_done (by kernel_rfl) ?_ _
                  go_wp2_with fail
                  go_meet
                  exact HX2.out
                · go_simp
                  refine hKK.out _ _ ?hSs17 (fun hHelds17 => ?rests17)
                  case hSs17 => exact trivial
                  clear hKK KK
                  try simp only [List.getElem_toArray, List.getElem_cons_zero, List.getElem_cons_succ, Act.put, List.setIfInBounds_toArray, List.set_cons_zero, List.set_cons_succ]
                  refine wpAnyH_ready (rs := [7]) (by kernel_rfl) (by simp) ?_
                  refine AllReadyH.cons (o := _) rfl (fun KK hKK => ?_) (AllReadyH.nil)
                  go_simp
                  refine hKK.out _ _ ?hSs18 (fun hHelds18 => ?rests18)
                  case hSs18 => exact trivial
                  clear hKK KK
                  try simp only [List.getElem_toArray, List.getElem_cons_zero, List.getElem_cons_succ, Act.put, List.setIfInBounds_toArray, List.set_cons_zero, List.set_cons_succ]
                  refine wpAnyH_take (i := 12) (oi := _) (v := ?vs19) rfl (by kernel_rfl) (by kernel_rfl) (by kernel_rfl) (fun _ _ _ h => h) (Or.inl ⟨by rfl, ?hys19⟩) trivial ?rests19
                  case hys19 => (intro w hSw; (try dsimp only at hSw); go_simp; try with_reducible rfl)
                  try simp only [List.getElem_toArray, List.getElem_cons_zero, List.getElem_cons_succ, Act.put, List.setIfInBounds_toArray, List.set_cons_zero, List.set_cons_succ]
                  refine wpAnyH_ready (rs := [13]) (by kernel_rfl) (by simp) ?_
                  refine AllReadyH.cons (o := _) rfl (fun KK hKK => ?_) (AllReadyH.nil)
                  go_simp
                  refine hKK.out _ _ ?hSs20 (fun hHelds20 => ?rests20)
                  case hSs20 => exact trivial
                  clear hKK KK
                  try simp only [List.getElem_toArray, List.getElem_cons_zero, List.getElem_cons_succ, Act.put, List.setIfInBounds_toArray, List.set_cons_zero, List.set_cons_succ]
                  refine wpAnyH_take (i := 14) (oi := _) (v := ?vs21) rfl (by kernel_rfl) (by kernel_rfl) (by kernel_rfl) (fun _ _ _ h => h) (Or.inl ⟨by rfl, ?hys21⟩) trivial ?rests21
                  case hys21 => (intro w hSw; (try dsimp only at hSw); go_simp; try with_reducible rfl)
                  try simp only [List.getElem_toArray, List.getElem_cons_zero, List.getElem_cons_succ, Act.put, List.setIfInBounds_toArray, List.set_cons_zero, List.set_cons_succ]
                  refine wpAnyH_ready (rs := [15]) (by kernel_rfl) (by simp) ?_
                  refine AllReadyH.cons (o := _) rfl (fun KK hKK => ?_) (AllReadyH.nil)
                  go_simp
                  refine hKK.out _ _ ?hSs22 (fun hHelds22 => ?rests22)
                  case hSs22 => exact trivial
                  clear hKK KK
                  try simp only [List.getElem_toArray, List.getElem_cons_zero, List.getElem_cons_succ, Act.put, List.setIfInBounds_toArray, List.set_cons_zero, List.set_cons_succ]
                  refine wpAnyH_done (by kernel_rfl) ?_ _
                  go_wp2_with fail
                  go_meet
                  exact HX2.out
              case rest =>
                obtain ⟨bs', hX⟩ := hcut
                obtain ⟨e1, e2, e3, e4, e5, e6, e7⟩ := HP.out
                have z1 := piv_at R j n t e1.symm (by omega) (by omega)
                obtain ⟨R2, hR2⟩ : ∃ R2, R2 = pivR R j n := ⟨_, rfl⟩
                rw [← hR2] at hX z1
                have hlb := hX.lb
                have hlr := hX.lr
                have k1 : j < bs'.length := by omega
                have k2 : j < R2.length := by omega
                have k3 : R2[j].length = 2 * n := hX.all _ (List.getElem_mem _)
                have g1 : (R2.getD j []).getD j 0 = R2[j][j] := by rw [getD_of R2 j [] k2, getD_of R2[j] j 0 (by omega)]
                have c6 : wc.cell? ⟨b, j, none⟩ = some (.slice (some ⟨bs'[j], 0, none⟩) (2 * n) (2 * n)) := hX.cellA j k1
                have c7 := hX.cell j k1 k2 j (by omega)
                have hnz : ¬ R2[j][j] = 0 := by rw [← g1, z1]; exact e2
                obtain ⟨v, hv⟩ : ∃ v, v = R2[j][j] := ⟨_, rfl⟩
                obtain ⟨bj, hbj⟩ : ∃ bj, bj = bs'[j] := ⟨_, rfl⟩
                rw [← hv] at c7 hnz
                rw [← hbj] at c6 c7
                replace c7 : wc.cell? ⟨bj, j, none⟩ = some (.int .u8 (v.toNat : Int)) := c7
                have HX3 := Lib.hid hX
                have HV := Lib.hid (And.intro hnz (And.intro hR2 (And.intro z1 g1)))
                have HV2 := Lib.hid hv
                have HBJ := Lib.hid hbj
                try clear z1
                try clear g1
                clear hX hnz hR2 hv hbj c1 c2 d1 d2 d3 f1 f2 f3
                go_wp2_with fail
                (with_reducible refine (gfinv_u HX3.out.fd v HV.out.1).mono ?_)
                rintro e w5 ⟨rfl, hM5, hF5⟩
                have hX5 := HX3.out.fld hM5 hF5
                have c8 : w5.cell? ⟨b, j, none⟩ = some (.slice (some ⟨bj, 0, none⟩) (2 * n) (2 * n)) := by rw [HBJ.out]; exact hX5.cellA j k1
                have HX5 := Lib.hid hX5
                clear hX5 hM5 hF5 c6 c7
                go_wp2_with fail
                (with_reducible refine (scale_u HX5.out j k1 k2 (by omega) bj HBJ.out (ginv v)).mono ?_)
                rintro e w6 ⟨rfl, hX6⟩
                have hR3 : R2.set j (scaleF (R2.getD j []) (ginv v)) = scalR R j n := by
                  obtain ⟨_, h2, _, g1⟩ := HV.out
                  unfold scalR
                  rw [← h2, g1, ← HV2.out]
                rw [hR3] at hX6
                have HX6 := Lib.hid hX6
                clear hX6 c8 hR3
                go_wp2_with fail
                go_loopw [108] (fun v wx => ∃ i : Nat, i ≤ n ∧ v = .int .i64 i ∧ WorkS w wx g b n bs' (elimF (scalR R j n) j i)) (fun v _ => n - (intOf v).toNat)
                case atStart => exact ⟨0, by omega, rfl, HX6.out⟩
                case round =>
                  obtain ⟨i, hi, rfl, hX⟩ := hrel
                  by_cases hin : i < n
                  · have p1 : (i : Int) < (n : Int) := by omega
                    by_cases hij : i = j
                    · have p2 : ((i : Int) != (j : Int)) = false := by rw [hij]; simp
                      have HX := Lib.hid hX
                      clear hX
                      have HIJ := Lib.hid hij
                      clear hij
                      go_wp2_with fail
                      go_roundw
                      case rel => exact ⟨i + 1, by omega, by go_num, by rw [HIJ.out, elimF_succ_eq, ← HIJ.out]; have h9 := HX.out; rw [HIJ.out] at h9 ⊢; exact h9⟩
                      case measure => simp [intOf]; omega
                    · have p2 : ((i : Int) != (j : Int)) = true := by simp; omega
                      have p3 : (0 : Int) ≤ (i : Int) ∧ (i : Int) < (n : Int) := by omega
                      obtain ⟨E, hE⟩ : ∃ E, E = elimF (scalR R j n) j i := ⟨_, rfl⟩
                      rw [← hE] at hX
                      have hlb := hX.lb
                      have hlr := hX.lr
                      have b1 : i < bs'.length := by omega
                      have b2 : i < E.length := by omega
                      have b3 : j < bs'.length := by omega
                      have b4 : j < E.length := by omega
                      have b5 : E[i].length = 2 * n := hX.all _ (List.getElem_mem _)
                      obtain ⟨bi, hbi⟩ : ∃ bi, bi = bs'[i] := ⟨_, rfl⟩
                      obtain ⟨y, hy⟩ : ∃ y, y = E[i][j] := ⟨_, rfl⟩
                      have e1 : wr.drew.cell? ⟨b, i, none⟩ = some (.slice (some ⟨bi, 0, none⟩) (2 * n) (2 * n)) := by rw [hbi]; exact hX.cellA i b1
                      have e2 : wr.drew.cell? ⟨b, j, none⟩ = some (.slice (some ⟨bj, 0, none⟩) (2 * n) (2 * n)) := by rw [HBJ.out]; exact hX.cellA j b3
                      have e3 : wr.drew.cell? ⟨bi, j, none⟩ = some (.int .u8 (y.toNat : Int)) := by rw [hbi, hy]; exact hX.cell i b1 b2 j (by omega)
                      have hXd : WorkS w wr.drew g b n bs' E := ⟨hX.fd.fr (Fr.refl none_ _).drew (fun h => h), hX.arr, hX.lb, hX.lr, hX.all, hX.each, hX.nodup, hX.apart, hX.bge, hX.bne, hX.fr.drew⟩
                      have HY := Lib.hid (show y = (E.getD i []).getD j 0 from by rw [getD_of E i [] b2, getD_of E[i] j 0 (by omega)]; exact hy)
                      have p5 : (j : Int) < 2 * (n : Int) := by omega
                      have HX := Lib.hid hXd
                      have HE := Lib.hid hE
                      have HBI := Lib.hid hbi
                      clear hX hXd hE hbi hy b5 hlb hlr
                      go_wp2_with fail
                      refine wp_region_held_drew (S := fun W => W.cell? ⟨b, i, none⟩ = some (.slice (some ⟨bi, 0, none⟩) (2 * n) (2 * n)) ∧ W.cell? ⟨b, j, none⟩ = some (.slice (some ⟨bj, 0, none⟩) (2 * n) (2 * n))) (by kernel_rfl) ⟨e1, e2⟩ (fun hHeld0 => ?_)
                      refine wpAnyH_take (i := 0) (oi := _) (v := ?vx1) rfl (by kernel_rfl) (by kernel_rfl) (by kernel_rfl) (fun _ _ _ h => h) (Or.inl ⟨by rfl, ?hyx1⟩) (by assumption) ?restx1
                      case hyx1 => (intro w hSw; (try dsimp only at hSw); go_simp; try with_reducible rfl)
                      try simp only [List.getElem_toArray, List.getElem_cons_zero, List.getElem_cons_succ, Act.put, List.setIfInBounds_toArray, List.set_cons_zero, List.set_cons_succ]
                      refine wpAnyH_take (i := 1) (oi := _) (v := ?vx2) rfl (by kernel_rfl) (by kernel_rfl) (by kernel_rfl) (fun _ _ _ h => h) (Or.inl ⟨by rfl, ?hyx2⟩) (by assumption) ?restx2
                      case hyx2 => (intro w hSw; (try dsimp only at hSw); go_simp; try with_reducible rfl)
                      try simp only [List.getElem_toArray, List.getElem_cons_zero, List.getElem_cons_succ, Act.put, List.setIfInBounds_toArray, List.set_cons_zero, List.set_cons_succ]
                      refine wpAnyH_take (i := 2) (oi := _) (v := ?vx3) rfl (by kernel_rfl) (by kernel_rfl) (by kernel_rfl) (fun _ _ _ h => h) (Or.inl ⟨by rfl, ?hyx3⟩) (by assumption) ?restx3
                      case hyx3 => (intro w hSw; (try dsimp only at hSw); go_simp; try with_reducible rfl)
                      try simp only [List.getElem_toArray, List.getElem_cons_zero, List.getElem_cons_succ, Act.put, List.setIfInBounds_toArray, List.set_cons_zero, List.set_cons_succ]
                      refine wpAnyH_take (i := 3) (oi := _) (v := ?vx4) rfl (by kernel_rfl) (by kernel_rfl) (by kernel_rfl) (fun _ _ _ h => h) (Or.inl ⟨by rfl, ?hyx4⟩) (by assumption) ?restx4
                      case hyx4 => (intro w hSw; (try dsimp only at hSw); go_simp; try with_reducible rfl)
                      try simp only [List.getElem_toArray, List.getElem_cons_zero, List.getElem_cons_succ, Act.put, List.setIfInBounds_toArray, List.set_cons_zero, List.set_cons_succ]
                      refine wpAnyH_take (i := 4) (oi := _) (v := ?vx5) rfl (by kernel_rfl) (by kernel_rfl) (by kernel_rfl) (fun _ _ _ h => h) (Or.inl ⟨by rfl, ?hyx5⟩) (by assumption) ?restx5
                      case hyx5 => (intro w hSw; (try dsimp only at hSw); go_simp; try with_reducible rfl)
                      try simp only [List.getElem_toArray, List.getElem_cons_zero, List.getElem_cons_succ, Act.put, List.setIfInBounds_toArray, List.set_cons_zero, List.set_cons_succ]
                      refine wpAnyH_take (i := 5) (oi := _) (v := ?vx6) rfl (by kernel_rfl) (by kernel_rfl) (by kernel_rfl) (fun _ _ _ h => h) (Or.inl ⟨by rfl, ?hyx6⟩) (by assumption) ?restx6
                      case hyx6 => (intro w hSw; (try dsimp only at hSw); go_simp; try with_reducible rfl)
                      try simp only [List.getElem_toArray, List.getElem_cons_zero, List.getElem_cons_succ, Act.put, List.setIfInBounds_toArray, List.set_cons_zero, List.set_cons_succ]
                      refine wpAnyH_take (i := 6) (oi := _) (v := ?vx7) rfl (by kernel_rfl) (by kernel_rfl) (by kernel_rfl) (fun _ _ _ h => h) (Or.inl ⟨by rfl, ?hyx7⟩) (by assumption) ?restx7
                      case hyx7 => (intro w hSw; (try dsimp only at hSw); go_simp; try with_reducible rfl)
                      try simp only [List.getElem_toArray, List.getElem_cons_zero, List.getElem_cons_succ, Act.put, List.setIfInBounds_toArray, List.set_cons_zero, List.set_cons_succ]
                      refine wpAnyH_take (i := 7) (oi := _) (v := ?vx8) rfl (by kernel_rfl) (by kernel_rfl) (by kernel_rfl) (fun _ _ _ h => h) (Or.inl ⟨by rfl, ?hyx8⟩) (by assumption) ?restx8
                      case hyx8 => (intro w hSw; (try dsimp only at hSw); go_simp; try with_reducible rfl)
                      try simp only [List.getElem_toArray, List.getElem_cons_zero, List.getElem_cons_succ, Act.put, List.setIfInBounds_toArray, List.set_cons_zero, List.set_cons_succ]
                      refine wpAnyH_take (i := 8) (oi := _) (v := ?vx9) rfl (by kernel_rfl) (by kernel_rfl) (by kernel_rfl) (fun _ _ _ h => h) (Or.inl ⟨by rfl, ?hyx9⟩) (by assumption) ?restx9
                      case hyx9 => (intro w hSw; (try dsimp only at hSw); go_simp; try with_reducible rfl)
                      try simp only [List.getElem_toArray, List.getElem_cons_zero, List.getElem_cons_succ, Act.put, List.setIfInBounds_toArray, List.set_cons_zero, List.set_cons_succ]
                      refine wpAnyH_take (i := 9) (oi := _) (v := ?vx10) rfl (by kernel_rfl) (by kernel_rfl) (by kernel_rfl) (fun _ _ _ h => h) (Or.inl ⟨by rfl, ?hyx10⟩) (by assumption) ?restx10
                      case hyx10 => (intro w hSw; (try dsimp only at hSw); go_simp; try with_reducible rfl)
                      try simp only [List.getElem_toArray, List.getElem_cons_zero, List.getElem_cons_succ, Act.put, List.setIfInBounds_toArray, List.set_cons_zero, List.set_cons_succ]
                      refine wpAnyH_take (i := 10) (oi := _) (v := ?vx11) rfl (by kernel_rfl) (by kernel_rfl) (by kernel_rfl) (fun _ _ _ h => h) (Or.inl ⟨by rfl, ?hyx11⟩) (by assumption) ?restx11
                      case hyx11 => (intro w hSw; (try dsimp only at hSw); go_simp; try with_reducible rfl)
                      try simp only [List.getElem_toArray, List.getElem_cons_zero, List.getElem_cons_succ, Act.put, List.setIfInBounds_toArray, List.set_cons_zero, List.set_cons_succ]
                      refine wpAnyH_take (i := 11) (oi := _) (v := ?vx12) rfl (by kernel_rfl) (by kernel_rfl) (by kernel_rfl) (fun _ _ _ h => h) (Or.inl ⟨by rfl, ?hyx12⟩) (by assumption) ?restx12
                      case hyx12 => (intro w hSw; (try dsimp only at hSw); go_simp; try with_reducible rfl)
                      try simp only [List.getElem_toArray, List.getElem_cons_zero, List.getElem_cons_succ, Act.put, List.setIfInBounds_toArray, List.set_cons_zero, List.set_cons_succ]
                      refine wpAnyH_take (i := 12) (oi := _) (v := ?vx13) rfl (by kernel_rfl) (by kernel_rfl) (by kernel_rfl) (fun _ _ _ h => h) (Or.inl ⟨by rfl, ?hyx13⟩) (by assumption) ?restx13
                      case hyx13 => (intro w hSw; (try dsimp only at hSw); go_simp; try with_reducible rfl)
                      try simp only [List.getElem_toArray, List.getElem_cons_zero, List.getElem_cons_succ, Act.put, List.setIfInBounds_toArray, List.set_cons_zero, List.set_cons_succ]
                      refine wpAnyH_take (i := 13) (oi := _) (v := ?vx14) rfl (by kernel_rfl) (by kernel_rfl) (by kernel_rfl) (fun _ _ _ h => h) (Or.inl ⟨by rfl, ?hyx14⟩) (by assumption) ?restx14
                      case hyx14 => (intro w hSw; (try dsimp only at hSw); go_simp; try with_reducible rfl)
                      try simp only [List.getElem_toArray, List.getElem_cons_zero, List.getElem_cons_succ, Act.put, List.setIfInBounds_toArray, List.set_cons_zero, List.set_cons_succ]
                      refine wpAnyH_take (i := 14) (oi := _) (v := ?vx15) rfl (by kernel_rfl) (by kernel_rfl) (by kernel_rfl) (fun _ _ _ h => h) (Or.inl ⟨by rfl, ?hyx15⟩) (by assumption) ?restx15
                      case hyx15 => (intro w hSw; (try dsimp only at hSw); go_simp; try with_reducible rfl)
                      try simp only [List.getElem_toArray, List.getElem_cons_zero, List.getElem_cons_succ, Act.put, List.setIfInBounds_toArray, List.set_cons_zero, List.set_cons_succ]
                      refine wpAnyH_ready (rs := [15]) (by kernel_rfl) (by simp) ?_
                      refine AllReadyH.cons (o := _) rfl (fun KK hKK => ?_) (AllReadyH.nil)
                      go_simp
                      refine hKK.out _ _ ?hSx16 (fun hHeldx16 => ?restx16)
                      case hSx16 => first | exact ⟨e1, e2⟩ | exact ⟨f1, f2⟩
                      clear hKK KK
                      try simp only [List.getElem_toArray, List.getElem_cons_zero, List.getElem_cons_succ, Act.put, List.setIfInBounds_toArray, List.set_cons_zero, List.set_cons_succ]
                      refine wpAnyH_ready (rs := [16]) (by kernel_rfl) (by simp) ?_
                      refine AllReadyH.cons (o := _) rfl (fun KK hKK => ?_) (AllReadyH.nil)
                      go_simp
                      (go_at_call 52; (with_reducible refine (take_u HX.out i j b1 b2 b3 b4 hij (by omega) bi bj HBI.out HBJ.out y).mono ?_); rintro e w7 ⟨rfl, hX7⟩; have f1 : w7.cell? ⟨b, i, none⟩ = some (.slice (some ⟨bi, 0, none⟩) (2 * n) (2 * n)) := by { rw [HBI.out]; exact hX7.cellA i b1 }; have f2 : w7.cell? ⟨b, j, none⟩ = some (.slice (some ⟨bj, 0, none⟩) (2 * n) (2 * n)) := by { rw [HBJ.out]; exact hX7.cellA j b3 }; have HX7 := Lib.hid hX7; clear hX7)
                      go_wp2_with fail
                      refine hKK.out _ _ ?hSx17 (fun hHeldx17 => ?restx17)
                      case hSx17 => first | exact ⟨e1, e2⟩ | exact ⟨f1, f2⟩
                      clear hKK KK
                      try simp only [List.getElem_toArray, List.getElem_cons_zero, List.getElem_cons_succ, Act.put, List.setIfInBounds_toArray, List.set_cons_zero, List.set_cons_succ]
                      refine wpAnyH_done (by kernel_rfl) ?_ _
                      have hX8 : WorkS w w7 g b n bs' (elimF (scalR R j n) j (i + 1)) := by
                        rw [elimF_succ_ne _ _ _ hij, ← HE.out, ← HY.out]
                        exact HX7.out
                      have HX8 := Lib.hid hX8
                      clear hX8 f1 f2
                      go_wp2_with fail
                      go_roundw
                      case rel => exact ⟨i + 1, by omega, by go_num, HX8.out⟩
                      case measure => simp [intOf]; omega
                  · have hi2 : i = n := by omega
                    have p1 : ¬ (i : Int) < (n : Int) := by omega
                    have HX := Lib.hid hX
                    have HI := Lib.hid hi2
                    clear hX hi2
                    go_wp2_with fail
                    go_roundw
                    case rel => exact ⟨j + 1, by omega, by go_num, bs', by
                      have h9 := HX.out
                      rw [HI.out] at h9
                      have h8 : gaussN (augF m n) n (j + 1) = gauss1 (gaussN (augF m n) n j) j n := rfl
                      rw [h8, ← HP.out.2.2.2.1]
                      exact h9⟩
                    case measure => simp [intOf]; omega
        · have hjn2 : j = n := by omega
          have q1 : ¬ (j : Int) < (n : Int) := by omega
          obtain ⟨R, hR⟩ : ∃ R, R = gaussN (augF m n) n n := ⟨_, rfl⟩
          rw [hjn2, ← hR] at hX
          obtain ⟨w9, rfl⟩ : ∃ w9 : World, w9 = wr := ⟨_, rfl⟩
          have hmkd := mkRows n (by omega) w9
          obtain ⟨V, hV⟩ : ∃ V, V = w9.alloc (.cells (List.replicate n (Value.slice none 0 0)).toArray 33) := ⟨_, rfl⟩
          have hO0 := OutC.start hV
          rw [← hV] at hmkd
          obtain ⟨bo, hbo⟩ : ∃ bo, bo = w9.heap.size := ⟨_, rfl⟩
          rw [← hbo] at hmkd hO0
          have hblt : b < w9.heap.size := blk_lt hX.arr
          have HO0 := Lib.hid hO0
          have HX := Lib.hid hX
          have HR := Lib.hid hR
          have HBO := Lib.hid hbo
          clear hX hR hV hO0 hjn2 hbo
          go_wp2_with fail
          clear q1
          go_loopw [137] (fun v wx => ∃ i : Nat, i ≤ n ∧ v = .int .i64 i ∧ OutC w9 wx bo n ((invF m n).take i)) (fun v _ => n - (intOf v).toNat)
          case atStart => exact ⟨0, by omega, rfl, by rw [List.take_zero]; exact HO0.out⟩
          case round =>
            obtain ⟨i, hi, rfl, hO⟩ := hrel
            have hX := HX.out
            by_cases hin : i < n
            · have p1 : (i : Int) < (n : Int) := by omega
              have p3 : (0 : Int) ≤ (i : Int) ∧ (i : Int) < (n : Int) := by omega
              have hlb := hX.lb
              have hlr := hX.lr
              have b1 : i < bs.length := by omega
              have b2 : i < R.length := by omega
              have b5 : R[i].length = 2 * n := hX.all _ (List.getElem_mem _)
              obtain ⟨bi, hbi⟩ : ∃ bi, bi = bs[i] := ⟨_, rfl⟩
              have e1 : wr.cell? ⟨b, i, none⟩ = some (.slice (some ⟨bi, 0, none⟩) (2 * n) (2 * n)) := hO.fr.cell0 (by rw [hbi]; exact hX.cellA i b1)
              have hrow : CellsAt wr (some ⟨bi, 0, none⟩) (R[i].map byteV) := (CellsAt.whole (by rw [hbi]; exact hX.each i b1 b2)).fr0 hO.fr
              have hrow2 := hrow.sub n n (by rw [List.length_map, b5]; omega)
              obtain ⟨r, hr⟩ : ∃ r, r = (R[i]).drop n := ⟨_, rfl⟩
              have hrl : r.length = n := by rw [hr, List.length_drop, b5]; omega
              have hre : ((R[i].map byteV).drop n).take n = r.map byteV := by
                rw [← List.map_drop, ← hr, List.take_of_length_le (by rw [List.length_map, hrl]; exact Nat.le_refl _)]
              rw [hre, Nat.zero_add] at hrow2
              have hnil : wr.ownsRow wr.heap.size 5 1 (.slice none 0 0) 0 [] := World.ownsRow_nil _ _ _ _
              have htl : ((invF m n).take i).length = i := by rw [List.length_take, invF_len HR.out.symm hlr]; omega
              have htk : (invF m n).take (i + 1) = (invF m n).take i ++ [r] := by rw [hr]; exact invF_take HR.out.symm b2
              have HO := Lib.hid (And.intro hO (And.intro htl (And.intro htk hrl)))
              have HRW := Lib.hid hrow2
              have HNL := Lib.hid hnil
              clear hX hO hrow hrow2 hre hr hrl hnil htl htk hbi b5 hlb hlr
              go_wp2_with ((with_reducible refine at_append _ (.tmp 147) 33 wr.heap.size 5 (.int .u8 0) 1 1 (n := 0) (xs := []) (A := some ⟨bi, n, none⟩) (m := 2 * n - n) (c := 2 * n - n) (news := r.map byteV) Try.underlying33 info_u8R ?_ ?_ ?_ ?_ HNL.out HRW.out ?_ ?_ ?_ ?_ ?_ ?_ ?_); (focus rfl); (focus decide); (focus rfl); (focus rfl); (focus (intro h; cases h)); (focus (rw [List.length_map, HO.out.2.2.2]; omega)); (focus exact bytes_one _); (focus (unfold maxLen; omega)); (focus omega); (focus exact Nat.le_refl _); intro v' w4 hown4 hg4; obtain ⟨g', cap', rfl, d1, d2, HO5⟩ := HO.out.1.app HO.out.2.1 hin hown4 hg4 HO.out.2.2.2 (show 0 + (2 * n - n) = n by omega) (by omega); clear hown4 hg4)
              go_roundw
              case rel => exact ⟨i + 1, by omega, by go_num, by rw [HO.out.2.2.1]; exact HO5.out⟩
              case measure => simp [intOf]; omega
            · have hi2 : i = n := by omega
              have p1 : ¬ (i : Int) < (n : Int) := by omega
              have hlr := hX.lr
              have hil := invF_len HR.out.symm hlr
              rw [List.take_of_length_le (by rw [hil]; omega)] at hO
              have hrows := hO.rows (show g < w9.heap.size from hX.fd.lt)
              have hfd := hX.fd.fr hO.fr (fun h => h)
              have hfr := hX.fr.trans0 hO.fr
              have hir : ∀ r ∈ invF m n, r.length = n := by
                intro r hr
                unfold invF at hr
                rw [← HR.out] at hr
                obtain ⟨q, hq, rfl⟩ := List.mem_map.1 hr
                rw [List.length_drop, hX.all q hq]; omega
              have HF := Lib.hid (And.intro hrows (And.intro hfd (And.intro hfr (And.intro hil hir))))
              clear hX hO hlr hil hrows hfd hfr hir
              go_wp2_with fail
              go_ret2
              exact ⟨bo, rfl, HF.out⟩
end Go.Proofs.Ytdkjmnhblepkaaa

import Derived.Test.YtffolfemcllfkaaGreatDoorRefSvM
import Derived.Test.YtffolfemcllfkaaGreatDoorRunsM
namespace Go.Proofs.YtffolfemcllfkaaGreatDoor
open Go.RowKit
set_option linter.unusedVariables false
set_option linter.unusedSimpArgs false
set_option maxRecDepth 100000

/-! The document's toggle: Save that writes. -/
set_option maxHeartbeats 16000000 in
theorem rsave_ok {w : World} {cs : Array Value} {R : RefD} (h : RDV w cs R) (h3 : 3 ≤ R.now.length) (hb64 : ∀ x ∈ R.now, x.length = 64) (f s : Int) (l : List UInt8) (hE : (R.look f s).err = 0 ∨ (R.look f s).err = 8) (hl : ¬ roomF s < (l.length : Int)) (hf : 0 ≤ f) (hs : 3 ≤ s ∧ s ≤ 16384) (hfs : f + s ≤ R.now.length) (hdn : R.downB = false) (hn2 : (R.look f s).n ≤ 18446744073709551614) :
    Calls Tryz.prog 19 #[.agg cs, area f s, strOf l] w fun e w' => RDo w (R.saveA f s l) (R.saveAE f s l) e w' := by
  obtain ⟨A1, c1, A2, c2, A3, c3, ecs, hjunk⟩ := h.rep
  have hm := h.most
  subst ecs
  clear hjunk
  obtain ⟨V, hV, hF, hbp, hbq, hbr⟩ := three_alloc w #[.slice A1 R.now.length c1, .slice A2 R.now.length c2, .slice A3 R.now.length c3, .int .i64 R.writes, .bool R.armed, .int .i64 R.left, .bool R.crashed, .bool R.gone] #[.int .i64 f, .int .i64 s] #[.slice none 0 0, .slice none 0 0, .slice none 0 0, .int .i64 0, .bool false, .int .i64 0, .bool false, .bool false] 33 23
  have hX : SvX w V f s _ R := ⟨h.fr0 hF, hbp, hbq, hbr, hF⟩
  have a0 : V.cell? ⟨w.heap.size + 1, 0, none⟩ = some (.int .i64 f) := by rw [cell_of_blk hbq]; rfl
  have a1 : V.cell? ⟨w.heap.size + 1, 1, none⟩ = some (.int .i64 s) := by rw [cell_of_blk hbq]; rfl
  have HLK := Lib.hid (rlook_any hX.v hb64 f s)
  have HX := Lib.hid hX
  have HV := Lib.hid hV
  clear hV hF hbp hbq hbr hX h
  have hbad : ¬ R.saveBad f s l.length := by
    unfold RefD.saveBad
    rintro (h | h)
    · rcases hE with h0 | h0
      · exact h.1 h0
      · exact h.2 h0
    · exact hl h
  obtain ⟨X, hXe⟩ : ∃ X, X = R.saveA f s l := ⟨_, rfl⟩
  obtain ⟨XE, hXE⟩ : ∃ XE, XE = R.saveAE f s l := ⟨_, rfl⟩
  obtain ⟨nx, hnx⟩ : ∃ nx, nextSec (R.look f s) = nx := ⟨_, rfl⟩
  obtain ⟨a, ha⟩ : ∃ a, a = fromF nx f s := ⟨_, rfl⟩
  obtain ⟨nn0, hnn0⟩ : ∃ nn0, (R.look f s).n = nn0 := ⟨_, rfl⟩
  have hcut : ∀ k, k ≤ cnt l.length → (R.wrN a l k).downB = true → X = R.wrN a l k ∧ XE = 13 := fun k hk hd => by
    rw [hXe, hXE, ha]; rw [ha] at hd
    exact RefD.save_cut hbad hnx hk hd
  have hend : X = (((R.wrN a l (cnt l.length)).flush).write f (tellB (nn0 + 1) nx l.length)).flush ∧ XE = if (((R.wrN a l (cnt l.length)).flush).write f (tellB (nn0 + 1) nx l.length)).downB = true then 13 else 0 := by
    rw [hXe, hXE, ha]
    exact RefD.save_end hbad hnx hnn0
  rw [← hXe, ← hXE]
  obtain ⟨t, ht⟩ : ∃ t, t = R.look f s := ⟨_, rfl⟩
  rw [← ht] at HLK hE hn2 hnx hnn0
  have HCUT := Lib.hid hcut
  have HEND := Lib.hid hend
  clear hXe hXE ht hcut hend hbad
  obtain ⟨nn, sec, long, err⟩ := t
  replace hE : err = 0 ∨ err = 8 := hE
  replace hn2 : nn ≤ 18446744073709551614 := hn2
  replace hnx : (decide (err = 0) && !sec) = nx := hnx
  replace hnn0 : nn = nn0 := hnn0
  subst hnn0
  unfold strOf
  obtain ⟨B, hB⟩ : ∃ B, B = (⟨l.toArray⟩ : ByteArray) := ⟨_, rfl⟩
  rw [← hB]
  have hBs : B.size = l.length := by rw [hB]; show l.toArray.size = _; simp
  have q1 : ¬ roomF s < (B.size : Int) := by rw [hBs]; exact hl
  have hrf : roomF s = (s - 1) / 2 * 64 := by unfold roomF; rw [if_neg (by omega)]
  have hin : f + 1 ≤ a ∧ a + (s - 1) / 2 ≤ f + s := by rw [ha]; unfold fromF; split <;> omega
  have hc := cnt_room (s := s) (n := l.length) (by omega)
  have HNX := Lib.hid (And.intro hE hnx)
  have HB := Lib.hid hB
  have HDN := Lib.hid hdn
  have HA := Lib.hid ha
  clear hB hdn hE hnx ha
  go_enter Tryz.func19, Tryz.ntmps19
  go_upto_region 1 with fail
  rw [← HV.out]
  go_wp2_with (first | ((with_reducible refine at_load 33 (.tmp 3) (b := w.heap.size) ?_ HX.out.b3 Tryz.underlying33 rfl (by kernel_rfl) ?_); (focus rfl)))
  (with_reducible refine HLK.out.mono ?_)
  rintro e w1 ⟨rfl, hF1⟩
  have HY := Lib.hid (HX.out.fr0 hF1)
  have b0 : w1.cell? ⟨w.heap.size + 1, 0, none⟩ = some (.int .i64 f) := by rw [cell_of_blk HY.out.b4]; rfl
  have b1 : w1.cell? ⟨w.heap.size + 1, 1, none⟩ = some (.int .i64 s) := by rw [cell_of_blk HY.out.b4]; rfl
  clear hF1 a0 a1
  unfold tellRV
  go_upto_region 2 with fail
  go_cut [28] (fun o wx => o = .bool false ∧ wx = w1)
  case first =>
    rcases HNX.out.1 with rfl | rfl
    · go_wp2_with fail
      go_meet
      case rel => exact ⟨rfl, rfl⟩
    · go_wp2_with fail
      go_meet
      case rel => exact ⟨rfl, rfl⟩
  case rest =>
    obtain ⟨rfl, rfl⟩ := hcut
    go_wp2_with fail
    (with_reducible refine (rroom_any f s _).mono ?_)
    rintro e w2 ⟨rfl, hF2⟩
    have HQ := Lib.hid (HY.out.fr0 hF2)
    clear hF2 b0 b1
    go_upto_region 6 with fail
    go_cut [9] (fun o wx => o = .bool nx ∧ wx = w2)
    case first =>
      obtain ⟨g1, g2⟩ := HNX.out
      rcases g1 with rfl | rfl
      · cases sec
        · subst g2
          go_wp2_with fail
          go_meet
          case rel => exact ⟨rfl, rfl⟩
        · subst g2
          go_wp2_with fail
          go_meet
          case rel => exact ⟨rfl, rfl⟩
      · subst g2
        go_wp2_with fail
        go_meet
        case rel => exact ⟨rfl, rfl⟩
    case rest =>
      obtain ⟨rfl, rfl⟩ := hcut
      go_wp2_with fail
      go_loopw [12] (fun i wr => ∃ (k : Nat) (cs' : Array Value), k ≤ cnt l.length ∧ i = .int .i64 k ∧ SvX w wr f s cs' (R.wrN a l k) ∧ (R.wrN a l k).downB = false) (fun i _ => cnt l.length - (intOf i).toNat)
      case atStart => exact ⟨0, _, by omega, rfl, HQ.out, HDN.out⟩
      case round =>
        obtain ⟨k, cs', hk, rfl, hX, hup⟩ := hrel
        obtain ⟨B1, n1, d1, B2, n2, d2, B3, n3, d3, x, y, z, u, v, hcs⟩ := hX.v.devC
        subst hcs
        have HUP := Lib.hid hup
        clear hup
        by_cases hlt : 64 * k < l.length
        · have hkl : k < cnt l.length := by unfold cnt; omega
          have z1 : ((64 * k : Nat) : Int) < (B.size : Int) := by omega
          have z2 : (64 : Int) * (k : Int) < (B.size : Int) := by omega
          have hst : ∀ wx, Fr none_ wr wx → ((wx.cell? ⟨w.heap.size, 0, none⟩ = some (.slice B1 n1 d1) ∧ wx.cell? ⟨w.heap.size, 1, none⟩ = some (.slice B2 n2 d2) ∧ wx.cell? ⟨w.heap.size, 2, none⟩ = some (.slice B3 n3 d3) ∧ wx.cell? ⟨w.heap.size, 3, none⟩ = some (.int .i64 x) ∧ wx.cell? ⟨w.heap.size, 4, none⟩ = some (.bool y) ∧ wx.cell? ⟨w.heap.size, 5, none⟩ = some (.int .i64 z) ∧ wx.cell? ⟨w.heap.size, 6, none⟩ = some (.bool u) ∧ wx.cell? ⟨w.heap.size, 7, none⟩ = some (.bool v)) ∧ (wx.cell? ⟨w.heap.size + 1, 0, none⟩ = some (.int .i64 f) ∧ wx.cell? ⟨w.heap.size + 1, 1, none⟩ = some (.int .i64 s))) := fun wx hx => by
            have h1 := hx.heap0 hX.b3
            have h2 := hx.heap0 hX.b4
            exact ⟨⟨cell_of_blk h1 0, cell_of_blk h1 1, cell_of_blk h1 2, cell_of_blk h1 3, cell_of_blk h1 4, cell_of_blk h1 5, cell_of_blk h1 6, cell_of_blk h1 7⟩, cell_of_blk h2 0, cell_of_blk h2 1⟩
          have hpl : ∀ wx, Calls Tryz.prog 64 #[area f s, .bool nx] wx fun e w' => e = .returned (.int .i64 a) ∧ Fr none_ wx w' := fun wx => by
            have := rplace_any f s nx wx hs ⟨by omega, by omega⟩
            rw [← HA.out] at this
            exact this
          obtain ⟨lo, hlo⟩ : ∃ lo : Nat, lo = 64 * k := ⟨_, rfl⟩
          obtain ⟨lo2, hlo2⟩ : ∃ lo2 : Nat, lo2 = 64 * k + 64 := ⟨_, rfl⟩
          obtain ⟨hi, hhi⟩ : ∃ hi : Nat, hi = min l.length (64 * k + 64) := ⟨_, rfl⟩
          have wA : IntKind.i64.wrap (64 * (k : Int)) = (lo : Int) := by rw [IntWalk.i64_in _ (by omega)]; omega
          have wB : IntKind.i64.wrap ((lo : Int) + 64) = (lo2 : Int) := by rw [IntWalk.i64_in _ (by omega)]; omega
          have wM : min (l.length : Int) (lo2 : Int) = (hi : Int) := by omega
          have hch : B.extract lo hi = ⟨(chunk l k).toArray⟩ := by
            rw [HB.out]
            apply ByteArray.ext
            rw [hlo, hhi]
            unfold chunk
            simp [List.extract_eq_take_drop]
            omega
          have hchl : (chunk l k).length ≤ 64 := by unfold chunk; rw [List.length_take]; omega
          have hra : 0 ≤ a + (k : Int) ∧ a + (k : Int) < ((R.wrN a l k).now.length : Int) := by rw [RefD.wrN_len]; omega
          obtain ⟨WE, hWE⟩ : ∃ WE, WE = (R.wrN a l k).writeE (a + (k : Int)) (chunk l k).length := ⟨_, rfl⟩
          have hwu : WE = 0 → (R.wrN a l (k + 1)).downB = false := fun h0 => RefD.writeE_up hra.1 hra.2 hchl (hWE.symm.trans h0)
          have hwd : WE ≠ 0 → X = R.wrN a l (k + 1) ∧ XE = WE := fun h0 => by
            have hx := RefD.writeE_dn hra.1 hra.2 hchl (by rw [← hWE]; exact h0)
            have hy := HCUT.out (k + 1) (by omega) hx.1
            exact ⟨hy.1, by rw [hy.2, hWE, hx.2]⟩
          have HWU := Lib.hid (And.intro hwu hwd)
          have hwr : ∀ wx, Fr none_ wr wx → Calls Tryz.prog 9 #[.agg #[.slice B1 n1 d1, .slice B2 n2 d2, .slice B3 n3 d3, .int .i64 x, .bool y, .int .i64 z, .bool u, .bool v], .int .i64 (IntKind.i64.wrap (a + (k : Int))), .string (B.extract lo hi)] wx fun e w' => ∃ cs2, e = .returned (.tuple #[.agg cs2, .int .i64 WE]) ∧ RDV w' cs2 (R.wrN a l (k + 1)) ∧ Fr none_ wx w' := fun wx hx => by
            have := ref_write (hX.v.fr0 hx) (a + (k : Int)) (chunk l k)
            rw [IntWalk.i64_in _ (by omega), hch, hWE]
            exact this
          have i0 : lo < l.length := by omega
          have i8 : (lo : Int) < (l.length : Int) := by omega
          have i9 : (lo : Int) < (B.size : Int) := by omega
          have i1 : lo ≤ hi := by omega
          have i2 : hi ≤ l.length := by omega
          have i3 : hi ≤ B.size := by omega
          have i4 : (lo : Int) ≤ (hi : Int) := by omega
          have i5 : (hi : Int) ≤ (l.length : Int) := by omega
          have i6 : (hi : Int) ≤ (B.size : Int) := by omega
          have i7 : (0 : Int) ≤ (lo : Int) := by omega
          have HWR := Lib.hid hwr
          have h3' : 3 ≤ (R.wrN a l (k + 1)).now.length := by rw [RefD.wrN_len]; exact h3
          clear hlo hlo2 hhi hch hwr hWE hwu hwd hchl hra
          have hG0 : Fr none_ wr wr.drew := (Fr.refl _ _).drew
          have hG1 : Fr none_ wr (wr.alloc (.cells #[.slice none 0 0, .slice none 0 0, .slice none 0 0, .int .i64 0, .bool false, .int .i64 0, .bool false, .bool false] 33)).drew := ((Fr.refl _ _).alloc _).drew
          have hs0 := hst wr.drew hG0
          have HST := Lib.hid hst
          have HPL := Lib.hid hpl
          have HXX2 := Lib.hid hX
          clear hst hpl hX
          go_wp2_with fail
          refine wp_region_held_drew (S := fun W => ((W.cell? ⟨w.heap.size, 0, none⟩ = some (.slice B1 n1 d1) ∧ W.cell? ⟨w.heap.size, 1, none⟩ = some (.slice B2 n2 d2) ∧ W.cell? ⟨w.heap.size, 2, none⟩ = some (.slice B3 n3 d3) ∧ W.cell? ⟨w.heap.size, 3, none⟩ = some (.int .i64 x) ∧ W.cell? ⟨w.heap.size, 4, none⟩ = some (.bool y) ∧ W.cell? ⟨w.heap.size, 5, none⟩ = some (.int .i64 z) ∧ W.cell? ⟨w.heap.size, 6, none⟩ = some (.bool u) ∧ W.cell? ⟨w.heap.size, 7, none⟩ = some (.bool v)) ∧ (W.cell? ⟨w.heap.size + 1, 0, none⟩ = some (.int .i64 f) ∧ W.cell? ⟨w.heap.size + 1, 1, none⟩ = some (.int .i64 s)))) (by kernel_rfl) hs0 (fun hHeld0 => ?_)
          refine wpAnyH_take (i := 0) (oi := _) (v := ?v1) rfl (by kernel_rfl) (by kernel_rfl) (by kernel_rfl) (fun _ _ _ h => h) (Or.inl ⟨by rfl, ?hy1⟩) (by assumption) ?rest1
          case hy1 => (intro w hSw; (try dsimp only at hSw); go_simp; try with_reducible rfl)
          try simp only [List.getElem_toArray, List.getElem_cons_zero, List.getElem_cons_succ, Act.put, List.setIfInBounds_toArray, List.set_cons_zero, List.set_cons_succ]
          refine wpAnyH_take (i := 1) (oi := _) (v := ?v2) rfl (by kernel_rfl) (by kernel_rfl) (by kernel_rfl) (fun _ _ _ h => h) (Or.inl ⟨by rfl, ?hy2⟩) (by assumption) ?rest2
          case hy2 => (intro w hSw; (try dsimp only at hSw); go_simp; try with_reducible rfl)
          try simp only [List.getElem_toArray, List.getElem_cons_zero, List.getElem_cons_succ, Act.put, List.setIfInBounds_toArray, List.set_cons_zero, List.set_cons_succ]
          refine wpAnyH_take (i := 2) (oi := _) (v := ?v3) rfl (by kernel_rfl) (by kernel_rfl) (by kernel_rfl) (fun _ _ _ h => h) (Or.inl ⟨by rfl, ?hy3⟩) (by assumption) ?rest3
          case hy3 => (intro w hSw; (try dsimp only at hSw); go_simp; try with_reducible rfl)
          try simp only [List.getElem_toArray, List.getElem_cons_zero, List.getElem_cons_succ, Act.put, List.setIfInBounds_toArray, List.set_cons_zero, List.set_cons_succ]
          refine wpAnyH_take (i := 4) (oi := _) (v := ?v4) rfl (by kernel_rfl) (by kernel_rfl) (by kernel_rfl) (fun _ _ _ h => h) (Or.inl ⟨by rfl, ?hy4⟩) (by assumption) ?rest4
          case hy4 => (intro w hSw; (try dsimp only at hSw); go_simp; try with_reducible rfl)
          try simp only [List.getElem_toArray, List.getElem_cons_zero, List.getElem_cons_succ, Act.put, List.setIfInBounds_toArray, List.set_cons_zero, List.set_cons_succ]
          refine wpAnyH_take (i := 6) (oi := _) (v := ?v5) rfl (by kernel_rfl) (by kernel_rfl) (by kernel_rfl) (fun _ _ _ h => h) (Or.inl ⟨by rfl, ?hy5⟩) (by assumption) ?rest5
          case hy5 => (intro w hSw; (try dsimp only at hSw); go_simp; try with_reducible rfl)
          try simp only [List.getElem_toArray, List.getElem_cons_zero, List.getElem_cons_succ, Act.put, List.setIfInBounds_toArray, List.set_cons_zero, List.set_cons_succ]
          refine wpAnyH_take (i := 7) (oi := _) (v := ?v6) rfl (by kernel_rfl) (by kernel_rfl) (by kernel_rfl) (fun _ _ _ h => h) (Or.inl ⟨by rfl, ?hy6⟩) (by assumption) ?rest6
          case hy6 => (intro w hSw; (try dsimp only at hSw); go_simp; try with_reducible rfl)
          try simp only [List.getElem_toArray, List.getElem_cons_zero, List.getElem_cons_succ, Act.put, List.setIfInBounds_toArray, List.set_cons_zero, List.set_cons_succ]
          refine wpAnyH_take (i := 8) (oi := _) (v := ?v7) rfl (by kernel_rfl) (by kernel_rfl) (by kernel_rfl) (fun _ _ _ h => h) (Or.inl ⟨by rfl, ?hy7⟩) (by assumption) ?rest7
          case hy7 => (intro w hSw; (try dsimp only at hSw); go_simp; try with_reducible rfl)
          try simp only [List.getElem_toArray, List.getElem_cons_zero, List.getElem_cons_succ, Act.put, List.setIfInBounds_toArray, List.set_cons_zero, List.set_cons_succ]
          refine wpAnyH_take (i := 9) (oi := _) (v := ?v8) rfl (by kernel_rfl) (by kernel_rfl) (by kernel_rfl) (fun _ _ _ h => h) (Or.inl ⟨by rfl, ?hy8⟩) (by assumption) ?rest8
          case hy8 => (intro w hSw; (try dsimp only at hSw); go_simp; try with_reducible rfl)
          try simp only [List.getElem_toArray, List.getElem_cons_zero, List.getElem_cons_succ, Act.put, List.setIfInBounds_toArray, List.set_cons_zero, List.set_cons_succ]
          refine wpAnyH_take (i := 10) (oi := _) (v := ?v9) rfl (by kernel_rfl) (by kernel_rfl) (by kernel_rfl) (fun _ _ _ h => h) (Or.inl ⟨by rfl, ?hy9⟩) (by assumption) ?rest9
          case hy9 => (intro w hSw; (try dsimp only at hSw); go_simp; try with_reducible rfl)
          try simp only [List.getElem_toArray, List.getElem_cons_zero, List.getElem_cons_succ, Act.put, List.setIfInBounds_toArray, List.set_cons_zero, List.set_cons_succ]
          refine wpAnyH_take (i := 11) (oi := _) (v := ?v10) rfl (by kernel_rfl) (by kernel_rfl) (by kernel_rfl) (fun _ _ _ h => h) (Or.inl ⟨by rfl, ?hy10⟩) (by assumption) ?rest10
          case hy10 => (intro w hSw; (try dsimp only at hSw); go_simp; try with_reducible rfl)
          try simp only [List.getElem_toArray, List.getElem_cons_zero, List.getElem_cons_succ, Act.put, List.setIfInBounds_toArray, List.set_cons_zero, List.set_cons_succ]
          refine wpAnyH_take (i := 12) (oi := _) (v := ?v11) rfl (by kernel_rfl) (by kernel_rfl) (by kernel_rfl) (fun _ _ _ h => h) (Or.inl ⟨by rfl, ?hy11⟩) (by assumption) ?rest11
          case hy11 => (intro w hSw; (try dsimp only at hSw); go_simp; try with_reducible rfl)
          try simp only [List.getElem_toArray, List.getElem_cons_zero, List.getElem_cons_succ, Act.put, List.setIfInBounds_toArray, List.set_cons_zero, List.set_cons_succ]
          refine wpAnyH_take (i := 13) (oi := _) (v := ?v12) rfl (by kernel_rfl) (by kernel_rfl) (by kernel_rfl) (fun _ _ _ h => h) (Or.inl ⟨by rfl, ?hy12⟩) (by assumption) ?rest12
          case hy12 => (intro w hSw; (try dsimp only at hSw); go_simp; try with_reducible rfl)
          try simp only [List.getElem_toArray, List.getElem_cons_zero, List.getElem_cons_succ, Act.put, List.setIfInBounds_toArray, List.set_cons_zero, List.set_cons_succ]
          refine wpAnyH_take (i := 14) (oi := _) (v := ?v13) rfl (by kernel_rfl) (by kernel_rfl) (by kernel_rfl) (fun _ _ _ h => h) (Or.inl ⟨by rfl, ?hy13⟩) (by assumption) ?rest13
          case hy13 => (intro w hSw; (try dsimp only at hSw); go_simp; try with_reducible rfl)
          try simp only [List.getElem_toArray, List.getElem_cons_zero, List.getElem_cons_succ, Act.put, List.setIfInBounds_toArray, List.set_cons_zero, List.set_cons_succ]
          refine wpAnyH_take (i := 15) (oi := _) (v := ?v14) rfl (by kernel_rfl) (by kernel_rfl) (by kernel_rfl) (fun _ _ _ h => h) (Or.inl ⟨by rfl, ?hy14⟩) (by assumption) ?rest14
          case hy14 => (intro w hSw; (try dsimp only at hSw); go_simp; try with_reducible rfl)
          try simp only [List.getElem_toArray, List.getElem_cons_zero, List.getElem_cons_succ, Act.put, List.setIfInBounds_toArray, List.set_cons_zero, List.set_cons_succ]
          refine wpAnyH_ready (rs := [3, 20]) (by kernel_rfl) (by simp) ?_
          refine AllReadyH.cons (o := _) rfl (fun KK hKK => ?_) (AllReadyH.cons (o := _) rfl (fun KK hKK => ?_) (AllReadyH.nil))
          · go_simp
            (go_at_call 64; (with_reducible refine (HPL.out _).mono ?_); rintro e x1 ⟨rfl, hY1⟩; have hX1 : Fr none_ wr x1 := Fr.trans (by first | exact hG0 | exact hG1) hY1)
            go_wp2_with fail
            refine hKK.out _ _ ?hS15 (fun hHeld15 => ?rest15)
            case hS15 => first | exact HST.out _ hX5 | exact HST.out _ hX2 | exact HST.out _ (hX2.alloc _) | exact HST.out _ hX1 | exact HST.out _ (hX1.alloc _) | exact HST.out _ hG1
            clear hKK KK
            try simp only [List.getElem_toArray, List.getElem_cons_zero, List.getElem_cons_succ, Act.put, List.setIfInBounds_toArray, List.set_cons_zero, List.set_cons_succ]
            refine wpAnyH_take (i := 5) (oi := _) (v := ?v16) rfl (by kernel_rfl) (by kernel_rfl) (by kernel_rfl) (fun _ _ _ h => h) (Or.inl ⟨by rfl, ?hy16⟩) (by assumption) ?rest16
            case hy16 => (intro w hSw; (try dsimp only at hSw); go_simp; try with_reducible rfl)
            try simp only [List.getElem_toArray, List.getElem_cons_zero, List.getElem_cons_succ, Act.put, List.setIfInBounds_toArray, List.set_cons_zero, List.set_cons_succ]
            refine wpAnyH_ready (rs := [16, 20]) (by kernel_rfl) (by simp) ?_
            refine AllReadyH.cons (o := _) rfl (fun KK hKK => ?_) (AllReadyH.cons (o := _) rfl (fun KK hKK => ?_) (AllReadyH.nil))
            · go_simp
              (go_at_call 9; (with_reducible refine (HWR.out _ (by first | exact hX1 | exact hX1.alloc _)).mono ?_); rintro e w4 ⟨cs2, rfl, hv2, hY2⟩; obtain ⟨C1, m1, e1, C2, m2, e2, C3, m3, e3, x2, y2, z2', u2, v2, hcs2⟩ := hv2.devC; subst hcs2; have hX2 : Fr none_ wr w4 := Fr.trans (by first | exact hX1 | exact hX1.alloc _) hY2; have hzz := hX2.size; have hzy := hX1.size)
              go_wp2_with fail
              refine hKK.out _ _ ?hS17 (fun hHeld17 => ?rest17)
              case hS17 => first | exact HST.out _ hX5 | exact HST.out _ hX2 | exact HST.out _ (hX2.alloc _) | exact HST.out _ hX1 | exact HST.out _ (hX1.alloc _) | exact HST.out _ hG1
              clear hKK KK
              try simp only [List.getElem_toArray, List.getElem_cons_zero, List.getElem_cons_succ, Act.put, List.setIfInBounds_toArray, List.set_cons_zero, List.set_cons_succ]
              refine wpAnyH_take (i := 17) (oi := _) (v := ?v18) rfl (by kernel_rfl) (by kernel_rfl) (by kernel_rfl) (fun _ _ _ h => h) (Or.inl ⟨by rfl, ?hy18⟩) (by assumption) ?rest18
              case hy18 => (intro w hSw; (try dsimp only at hSw); go_simp; try with_reducible rfl)
              try simp only [List.getElem_toArray, List.getElem_cons_zero, List.getElem_cons_succ, Act.put, List.setIfInBounds_toArray, List.set_cons_zero, List.set_cons_succ]
              refine wpAnyH_take (i := 18) (oi := _) (v := ?v19) rfl (by kernel_rfl) (by kernel_rfl) (by kernel_rfl) (fun _ _ _ h => h) (Or.inl ⟨by rfl, ?hy19⟩) (by assumption) ?rest19
              case hy19 => (intro w hSw; (try dsimp only at hSw); go_simp; try with_reducible rfl)
              try simp only [List.getElem_toArray, List.getElem_cons_zero, List.getElem_cons_succ, Act.put, List.setIfInBounds_toArray, List.set_cons_zero, List.set_cons_succ]
              refine wpAnyH_take (i := 19) (oi := _) (v := ?v20) rfl (by kernel_rfl) (by kernel_rfl) (by kernel_rfl) (fun _ _ _ h => h) (Or.inl ⟨by rfl, ?hy20⟩) (by assumption) ?rest20
              case hy20 => (intro w hSw; (try dsimp only at hSw); go_simp; try with_reducible rfl)
              try simp only [List.getElem_toArray, List.getElem_cons_zero, List.getElem_cons_succ, Act.put, List.setIfInBounds_toArray, List.set_cons_zero, List.set_cons_succ]
              refine wpAnyH_ready (rs := [20]) (by kernel_rfl) (by simp) ?_
              refine AllReadyH.cons (o := _) rfl (fun KK hKK => ?_) (AllReadyH.nil)
              go_simp
              refine hKK.out _ _ ?hS21 (fun hHeld21 => ?rest21)
              case hS21 => first | exact HST.out _ hX5 | exact HST.out _ hX2 | exact HST.out _ (hX2.alloc _) | exact HST.out _ hX1 | exact HST.out _ (hX1.alloc _) | exact HST.out _ hG1
              clear hKK KK
              try simp only [List.getElem_toArray, List.getElem_cons_zero, List.getElem_cons_succ, Act.put, List.setIfInBounds_toArray, List.set_cons_zero, List.set_cons_succ]
              refine wpAnyH_ready (rs := [21]) (by kernel_rfl) (by simp) ?_
              refine AllReadyH.cons (o := _) rfl (fun KK hKK => ?_) (AllReadyH.nil)
              (first | (refine step_store_blk (by rfl) 33 _ _ (by rfl) (b := wr.heap.size) (c' := #[.slice C1 m1 e1, .slice C2 m2 e2, .slice C3 m3 e3, .int .i64 x2, .bool y2, .int .i64 z2', .bool u2, .bool v2]) (by rfl) (by rfl) (hY2.heap0 (hY1.heap0 (heap_alloc_new wr (.cells #[.slice none 0 0, .slice none 0 0, .slice none 0 0, .int .i64 0, .bool false, .int .i64 0, .bool false, .bool false] 33)))) (by rfl) (by kernel_rfl) (by intro u hu; simp at hu; rcases hu with rfl | rfl | rfl | rfl | rfl | rfl | rfl | rfl <;> rfl) ?_; intro w5 hF5 hb5; have hX5 : Fr none_ wr w5 := Fr.own hX2 hF5 (by omega); have hv5 : RDV w5 _ _ := RDV.frD hv2 h3' (hY2.heap0 (hY1.heap0 (heap_alloc_new wr (.cells #[.slice none 0 0, .slice none 0 0, .slice none 0 0, .int .i64 0, .bool false, .int .i64 0, .bool false, .bool false] 33)))) zeroDevC hF5) | (refine step_store_blk (by rfl) 33 _ _ (by rfl) (b := x1.heap.size) (c' := #[.slice C1 m1 e1, .slice C2 m2 e2, .slice C3 m3 e3, .int .i64 x2, .bool y2, .int .i64 z2', .bool u2, .bool v2]) (by rfl) (by rfl) (hY2.heap0 (heap_alloc_new x1 (.cells #[.slice none 0 0, .slice none 0 0, .slice none 0 0, .int .i64 0, .bool false, .int .i64 0, .bool false, .bool false] 33))) (by rfl) (by kernel_rfl) (by intro u hu; simp at hu; rcases hu with rfl | rfl | rfl | rfl | rfl | rfl | rfl | rfl <;> rfl) ?_; intro w5 hF5 hb5; have hX5 : Fr none_ wr w5 := Fr.own hX2 hF5 (by omega); have hv5 : RDV w5 _ _ := RDV.frD hv2 h3' (hY2.heap0 (heap_alloc_new x1 (.cells #[.slice none 0 0, .slice none 0 0, .slice none 0 0, .int .i64 0, .bool false, .int .i64 0, .bool false, .bool false] 33))) zeroDevC hF5) | (refine step_store_blk (by rfl) 33 _ _ (by rfl) (b := w4.heap.size) (c' := #[.slice C1 m1 e1, .slice C2 m2 e2, .slice C3 m3 e3, .int .i64 x2, .bool y2, .int .i64 z2', .bool u2, .bool v2]) (by rfl) (by rfl) (heap_alloc_new w4 (.cells #[.slice none 0 0, .slice none 0 0, .slice none 0 0, .int .i64 0, .bool false, .int .i64 0, .bool false, .bool false] 33)) (by rfl) (by kernel_rfl) (by intro u hu; simp at hu; rcases hu with rfl | rfl | rfl | rfl | rfl | rfl | rfl | rfl <;> rfl) ?_; intro w5 hF5 hb5; have hX5 : Fr none_ wr w5 := Fr.own (hX2.alloc _) hF5 (by omega); have hv5 : RDV w5 _ _ := RDV.frD (hv2.fr0 ((Fr.refl _ _).alloc _)) h3' (heap_alloc_new w4 (.cells #[.slice none 0 0, .slice none 0 0, .slice none 0 0, .int .i64 0, .bool false, .int .i64 0, .bool false, .bool false] 33)) zeroDevC hF5) | fail)
              refine hKK.out _ _ ?hS22 (fun hHeld22 => ?rest22)
              case hS22 => first | exact HST.out _ hX5 | exact HST.out _ hX2 | exact HST.out _ (hX2.alloc _) | exact HST.out _ hX1 | exact HST.out _ (hX1.alloc _) | exact HST.out _ hG1
              clear hKK KK
              try simp only [List.getElem_toArray, List.getElem_cons_zero, List.getElem_cons_succ, Act.put, List.setIfInBounds_toArray, List.set_cons_zero, List.set_cons_succ]
              refine wpAnyH_ready (rs := [22]) (by kernel_rfl) (by simp) ?_
              refine AllReadyH.cons (o := _) rfl (fun KK hKK => ?_) (AllReadyH.nil)
              go_simp
              refine hKK.out _ _ ?hS23 (fun hHeld23 => ?rest23)
              case hS23 => first | exact HST.out _ hX5 | exact HST.out _ hX2 | exact HST.out _ (hX2.alloc _) | exact HST.out _ hX1 | exact HST.out _ (hX1.alloc _) | exact HST.out _ hG1
              clear hKK KK
              try simp only [List.getElem_toArray, List.getElem_cons_zero, List.getElem_cons_succ, Act.put, List.setIfInBounds_toArray, List.set_cons_zero, List.set_cons_succ]
              refine wpAnyH_done (by kernel_rfl) ?_ _
              have HX5 := Lib.hid (HXX2.out.fr0 hX5)
              have HV5 := Lib.hid (And.intro hv5 hb5)
              clear hX5 hv5 hb5
              by_cases hw0 : WE = 0
              · have hupk := HWU.out.1 hw0
                clear HWU
                subst hw0
                go_wp2_with (first | ((with_reducible refine at_load 33 (.tmp 13) ?_ HV5.out.2 Tryz.underlying33 rfl (by kernel_rfl) ?_); (focus rfl)) | ((with_reducible refine at_store 33 (.tmp 3) (.tmp 70) (b := w.heap.size) (c' := #[.slice C1 m1 e1, .slice C2 m2 e2, .slice C3 m3 e3, .int .i64 x2, .bool y2, .int .i64 z2', .bool u2, .bool v2]) ?_ ?_ HX5.out.b3 ?_ ?_ ?_ ?_); (focus rfl); (focus rfl); (focus rfl); (focus kernel_rfl); (focus (intro u hu; simp at hu; rcases hu with rfl | rfl | rfl | rfl | rfl | rfl | rfl | rfl <;> rfl)); intro w6 hF6 hb6; have HX6 := Lib.hid (HX5.out.put h3' HV5.out.1 hF6 hb6); clear hF6 hb6))
                go_roundw
                case rel => exact ⟨k + 1, _, by omega, by go_num, HX6.out, hupk⟩
                case measure => simp [intOf]; omega
              · have k1 : (WE == 0) = false := by simpa using hw0
                have k2 : (WE != 0) = true := by simpa using hw0
                have hXR := HWU.out.2 hw0
                clear hw0 HWU
                go_wp2_with (first | ((with_reducible refine at_load 33 (.tmp 13) ?_ HV5.out.2 Tryz.underlying33 rfl (by kernel_rfl) ?_); (focus rfl)) | ((with_reducible refine at_store 33 (.tmp 3) (.tmp 70) (b := w.heap.size) (c' := #[.slice C1 m1 e1, .slice C2 m2 e2, .slice C3 m3 e3, .int .i64 x2, .bool y2, .int .i64 z2', .bool u2, .bool v2]) ?_ ?_ HX5.out.b3 ?_ ?_ ?_ ?_); (focus rfl); (focus rfl); (focus rfl); (focus kernel_rfl); (focus (intro u hu; simp at hu; rcases hu with rfl | rfl | rfl | rfl | rfl | rfl | rfl | rfl <;> rfl)); intro w6 hF6 hb6; have HX6 := Lib.hid (HX5.out.put h3' HV5.out.1 hF6 hb6); clear hF6 hb6) | ((with_reducible refine at_load 33 (.tmp 3) ?_ HX6.out.b3 Tryz.underlying33 rfl (by kernel_rfl) ?_); (focus rfl)) | ((with_reducible refine at_store 33 (.tmp 6) (.tmp 73) (b := w.heap.size + 2) (c' := #[.slice C1 m1 e1, .slice C2 m2 e2, .slice C3 m3 e3, .int .i64 x2, .bool y2, .int .i64 z2', .bool u2, .bool v2]) ?_ ?_ HX6.out.b6 ?_ ?_ ?_ ?_); (focus rfl); (focus rfl); (focus rfl); (focus kernel_rfl); (focus (intro u hu; simp at hu; rcases hu with rfl | rfl | rfl | rfl | rfl | rfl | rfl | rfl <;> rfl)); intro w8 hF8 hb8; have HZ := Lib.hid (And.intro hF8 hb8); clear hF8 hb8))
                refine bodyPost_ret (res_dev (b := w.heap.size + 2) Tryz.results19 HZ.out.2 rfl rfl) rfl ?_
                rw [hXR.1, hXR.2]
                exact ⟨_, rfl, HX6.out.v.frD h3' HX6.out.b6 zeroDevC HZ.out.1, HX6.out.fr.own HZ.out.1 (by omega)⟩
            · go_simp
              refine hKK.out _ _ ?hS24 (fun hHeld24 => ?rest24)
              case hS24 => first | exact HST.out _ hX5 | exact HST.out _ hX2 | exact HST.out _ (hX2.alloc _) | exact HST.out _ hX1 | exact HST.out _ (hX1.alloc _) | exact HST.out _ hG1
              clear hKK KK
              try simp only [List.getElem_toArray, List.getElem_cons_zero, List.getElem_cons_succ, Act.put, List.setIfInBounds_toArray, List.set_cons_zero, List.set_cons_succ]
              refine wpAnyH_ready (rs := [16]) (by kernel_rfl) (by simp) ?_
              refine AllReadyH.cons (o := _) rfl (fun KK hKK => ?_) (AllReadyH.nil)
              go_simp
              (go_at_call 9; (with_reducible refine (HWR.out _ (by first | exact hX1 | exact hX1.alloc _)).mono ?_); rintro e w4 ⟨cs2, rfl, hv2, hY2⟩; obtain ⟨C1, m1, e1, C2, m2, e2, C3, m3, e3, x2, y2, z2', u2, v2, hcs2⟩ := hv2.devC; subst hcs2; have hX2 : Fr none_ wr w4 := Fr.trans (by first | exact hX1 | exact hX1.alloc _) hY2; have hzz := hX2.size; have hzy := hX1.size)
              go_wp2_with fail
              refine hKK.out _ _ ?hS25 (fun hHeld25 => ?rest25)
              case hS25 => first | exact HST.out _ hX5 | exact HST.out _ hX2 | exact HST.out _ (hX2.alloc _) | exact HST.out _ hX1 | exact HST.out _ (hX1.alloc _) | exact HST.out _ hG1
              clear hKK KK
              try simp only [List.getElem_toArray, List.getElem_cons_zero, List.getElem_cons_succ, Act.put, List.setIfInBounds_toArray, List.set_cons_zero, List.set_cons_succ]
              refine wpAnyH_take (i := 17) (oi := _) (v := ?v26) rfl (by kernel_rfl) (by kernel_rfl) (by kernel_rfl) (fun _ _ _ h => h) (Or.inl ⟨by rfl, ?hy26⟩) (by assumption) ?rest26
              case hy26 => (intro w hSw; (try dsimp only at hSw); go_simp; try with_reducible rfl)
              try simp only [List.getElem_toArray, List.getElem_cons_zero, List.getElem_cons_succ, Act.put, List.setIfInBounds_toArray, List.set_cons_zero, List.set_cons_succ]
              refine wpAnyH_take (i := 18) (oi := _) (v := ?v27) rfl (by kernel_rfl) (by kernel_rfl) (by kernel_rfl) (fun _ _ _ h => h) (Or.inl ⟨by rfl, ?hy27⟩) (by assumption) ?rest27
              case hy27 => (intro w hSw; (try dsimp only at hSw); go_simp; try with_reducible rfl)
              try simp only [List.getElem_toArray, List.getElem_cons_zero, List.getElem_cons_succ, Act.put, List.setIfInBounds_toArray, List.set_cons_zero, List.set_cons_succ]
              refine wpAnyH_take (i := 19) (oi := _) (v := ?v28) rfl (by kernel_rfl) (by kernel_rfl) (by kernel_rfl) (fun _ _ _ h => h) (Or.inl ⟨by rfl, ?hy28⟩) (by assumption) ?rest28
              case hy28 => (intro w hSw; (try dsimp only at hSw); go_simp; try with_reducible rfl)
              try simp only [List.getElem_toArray, List.getElem_cons_zero, List.getElem_cons_succ, Act.put, List.setIfInBounds_toArray, List.set_cons_zero, List.set_cons_succ]
              refine wpAnyH_ready (rs := [21]) (by kernel_rfl) (by simp) ?_
              refine AllReadyH.cons (o := _) rfl (fun KK hKK => ?_) (AllReadyH.nil)
              (first | (refine step_store_blk (by rfl) 33 _ _ (by rfl) (b := wr.heap.size) (c' := #[.slice C1 m1 e1, .slice C2 m2 e2, .slice C3 m3 e3, .int .i64 x2, .bool y2, .int .i64 z2', .bool u2, .bool v2]) (by rfl) (by rfl) (hY2.heap0 (hY1.heap0 (heap_alloc_new wr (.cells #[.slice none 0 0, .slice none 0 0, .slice none 0 0, .int .i64 0, .bool false, .int .i64 0, .bool false, .bool false] 33)))) (by rfl) (by kernel_rfl) (by intro u hu; simp at hu; rcases hu with rfl | rfl | rfl | rfl | rfl | rfl | rfl | rfl <;> rfl) ?_; intro w5 hF5 hb5; have hX5 : Fr none_ wr w5 := Fr.own hX2 hF5 (by omega); have hv5 : RDV w5 _ _ := RDV.frD hv2 h3' (hY2.heap0 (hY1.heap0 (heap_alloc_new wr (.cells #[.slice none 0 0, .slice none 0 0, .slice none 0 0, .int .i64 0, .bool false, .int .i64 0, .bool false, .bool false] 33)))) zeroDevC hF5) | (refine step_store_blk (by rfl) 33 _ _ (by rfl) (b := x1.heap.size) (c' := #[.slice C1 m1 e1, .slice C2 m2 e2, .slice C3 m3 e3, .int .i64 x2, .bool y2, .int .i64 z2', .bool u2, .bool v2]) (by rfl) (by rfl) (hY2.heap0 (heap_alloc_new x1 (.cells #[.slice none 0 0, .slice none 0 0, .slice none 0 0, .int .i64 0, .bool false, .int .i64 0, .bool false, .bool false] 33))) (by rfl) (by kernel_rfl) (by intro u hu; simp at hu; rcases hu with rfl | rfl | rfl | rfl | rfl | rfl | rfl | rfl <;> rfl) ?_; intro w5 hF5 hb5; have hX5 : Fr none_ wr w5 := Fr.own hX2 hF5 (by omega); have hv5 : RDV w5 _ _ := RDV.frD hv2 h3' (hY2.heap0 (heap_alloc_new x1 (.cells #[.slice none 0 0, .slice none 0 0, .slice none 0 0, .int .i64 0, .bool false, .int .i64 0, .bool false, .bool false] 33))) zeroDevC hF5) | (refine step_store_blk (by rfl) 33 _ _ (by rfl) (b := w4.heap.size) (c' := #[.slice C1 m1 e1, .slice C2 m2 e2, .slice C3 m3 e3, .int .i64 x2, .bool y2, .int .i64 z2', .bool u2, .bool v2]) (by rfl) (by rfl) (heap_alloc_new w4 (.cells #[.slice none 0 0, .slice none 0 0, .slice none 0 0, .int .i64 0, .bool false, .int .i64 0, .bool false, .bool false] 33)) (by rfl) (by kernel_rfl) (by intro u hu; simp at hu; rcases hu with rfl | rfl | rfl | rfl | rfl | rfl | rfl | rfl <;> rfl) ?_; intro w5 hF5 hb5; have hX5 : Fr none_ wr w5 := Fr.own (hX2.alloc _) hF5 (by omega); have hv5 : RDV w5 _ _ := RDV.frD (hv2.fr0 ((Fr.refl _ _).alloc _)) h3' (heap_alloc_new w4 (.cells #[.slice none 0 0, .slice none 0 0, .slice none 0 0, .int .i64 0, .bool false, .int .i64 0, .bool false, .bool false] 33)) zeroDevC hF5) | fail)
              refine hKK.out _ _ ?hS29 (fun hHeld29 => ?rest29)
              case hS29 => first | exact HST.out _ hX5 | exact HST.out _ hX2 | exact HST.out _ (hX2.alloc _) | exact HST.out _ hX1 | exact HST.out _ (hX1.alloc _) | exact HST.out _ hG1
              clear hKK KK
              try simp only [List.getElem_toArray, List.getElem_cons_zero, List.getElem_cons_succ, Act.put, List.setIfInBounds_toArray, List.set_cons_zero, List.set_cons_succ]
              refine wpAnyH_ready (rs := [22]) (by kernel_rfl) (by simp) ?_
              refine AllReadyH.cons (o := _) rfl (fun KK hKK => ?_) (AllReadyH.nil)
              go_simp
              refine hKK.out _ _ ?hS30 (fun hHeld30 => ?rest30)
              case hS30 => first | exact HST.out _ hX5 | exact HST.out _ hX2 | exact HST.out _ (hX2.alloc _) | exact HST.out _ hX1 | exact HST.out _ (hX1.alloc _) | exact HST.out _ hG1
              clear hKK KK
              try simp only [List.getElem_toArray, List.getElem_cons_zero, List.getElem_cons_succ, Act.put, List.setIfInBounds_toArray, List.set_cons_zero, List.set_cons_succ]
              refine wpAnyH_done (by kernel_rfl) ?_ _
              have HX5 := Lib.hid (HXX2.out.fr0 hX5)
              have HV5 := Lib.hid (And.intro hv5 hb5)
              clear hX5 hv5 hb5
              by_cases hw0 : WE = 0
              · have hupk := HWU.out.1 hw0
                clear HWU
                subst hw0
                go_wp2_with (first | ((with_reducible refine at_load 33 (.tmp 13) ?_ HV5.out.2 Tryz.underlying33 rfl (by kernel_rfl) ?_); (focus rfl)) | ((with_reducible refine at_store 33 (.tmp 3) (.tmp 70) (b := w.heap.size) (c' := #[.slice C1 m1 e1, .slice C2 m2 e2, .slice C3 m3 e3, .int .i64 x2, .bool y2, .int .i64 z2', .bool u2, .bool v2]) ?_ ?_ HX5.out.b3 ?_ ?_ ?_ ?_); (focus rfl); (focus rfl); (focus rfl); (focus kernel_rfl); (focus (intro u hu; simp at hu; rcases hu with rfl | rfl | rfl | rfl | rfl | rfl | rfl | rfl <;> rfl)); intro w6 hF6 hb6; have HX6 := Lib.hid (HX5.out.put h3' HV5.out.1 hF6 hb6); clear hF6 hb6))
                go_roundw
                case rel => exact ⟨k + 1, _, by omega, by go_num, HX6.out, hupk⟩
                case measure => simp [intOf]; omega
              · have k1 : (WE == 0) = false := by simpa using hw0
                have k2 : (WE != 0) = true := by simpa using hw0
                have hXR := HWU.out.2 hw0
                clear hw0 HWU
                go_wp2_with (first | ((with_reducible refine at_load 33 (.tmp 13) ?_ HV5.out.2 Tryz.underlying33 rfl (by kernel_rfl) ?_); (focus rfl)) | ((with_reducible refine at_store 33 (.tmp 3) (.tmp 70) (b := w.heap.size) (c' := #[.slice C1 m1 e1, .slice C2 m2 e2, .slice C3 m3 e3, .int .i64 x2, .bool y2, .int .i64 z2', .bool u2, .bool v2]) ?_ ?_ HX5.out.b3 ?_ ?_ ?_ ?_); (focus rfl); (focus rfl); (focus rfl); (focus kernel_rfl); (focus (intro u hu; simp at hu; rcases hu with rfl | rfl | rfl | rfl | rfl | rfl | rfl | rfl <;> rfl)); intro w6 hF6 hb6; have HX6 := Lib.hid (HX5.out.put h3' HV5.out.1 hF6 hb6); clear hF6 hb6) | ((with_reducible refine at_load 33 (.tmp 3) ?_ HX6.out.b3 Tryz.underlying33 rfl (by kernel_rfl) ?_); (focus rfl)) | ((with_reducible refine at_store 33 (.tmp 6) (.tmp 73) (b := w.heap.size + 2) (c' := #[.slice C1 m1 e1, .slice C2 m2 e2, .slice C3 m3 e3, .int .i64 x2, .bool y2, .int .i64 z2', .bool u2, .bool v2]) ?_ ?_ HX6.out.b6 ?_ ?_ ?_ ?_); (focus rfl); (focus rfl); (focus rfl); (focus kernel_rfl); (focus (intro u hu; simp at hu; rcases hu with rfl | rfl | rfl | rfl | rfl | rfl | rfl | rfl <;> rfl)); intro w8 hF8 hb8; have HZ := Lib.hid (And.intro hF8 hb8); clear hF8 hb8))
                refine bodyPost_ret (res_dev (b := w.heap.size + 2) Tryz.results19 HZ.out.2 rfl rfl) rfl ?_
                rw [hXR.1, hXR.2]
                exact ⟨_, rfl, HX6.out.v.frD h3' HX6.out.b6 zeroDevC HZ.out.1, HX6.out.fr.own HZ.out.1 (by omega)⟩
          · go_simp
            refine hKK.out _ _ ?hS31 (fun hHeld31 => ?rest31)
            case hS31 => first | exact HST.out _ hX5 | exact HST.out _ hX2 | exact HST.out _ (hX2.alloc _) | exact HST.out _ hX1 | exact HST.out _ (hX1.alloc _) | exact HST.out _ hG1
            clear hKK KK
            try simp only [List.getElem_toArray, List.getElem_cons_zero, List.getElem_cons_succ, Act.put, List.setIfInBounds_toArray, List.set_cons_zero, List.set_cons_succ]
            refine wpAnyH_ready (rs := [3]) (by kernel_rfl) (by simp) ?_
            refine AllReadyH.cons (o := _) rfl (fun KK hKK => ?_) (AllReadyH.nil)
            go_simp
            (go_at_call 64; (with_reducible refine (HPL.out _).mono ?_); rintro e x1 ⟨rfl, hY1⟩; have hX1 : Fr none_ wr x1 := Fr.trans (by first | exact hG0 | exact hG1) hY1)
            go_wp2_with fail
            refine hKK.out _ _ ?hS32 (fun hHeld32 => ?rest32)
            case hS32 => first | exact HST.out _ hX5 | exact HST.out _ hX2 | exact HST.out _ (hX2.alloc _) | exact HST.out _ hX1 | exact HST.out _ (hX1.alloc _) | exact HST.out _ hG1
            clear hKK KK
            try simp only [List.getElem_toArray, List.getElem_cons_zero, List.getElem_cons_succ, Act.put, List.setIfInBounds_toArray, List.set_cons_zero, List.set_cons_succ]
            refine wpAnyH_take (i := 5) (oi := _) (v := ?v33) rfl (by kernel_rfl) (by kernel_rfl) (by kernel_rfl) (fun _ _ _ h => h) (Or.inl ⟨by rfl, ?hy33⟩) (by assumption) ?rest33
            case hy33 => (intro w hSw; (try dsimp only at hSw); go_simp; try with_reducible rfl)
            try simp only [List.getElem_toArray, List.getElem_cons_zero, List.getElem_cons_succ, Act.put, List.setIfInBounds_toArray, List.set_cons_zero, List.set_cons_succ]
            refine wpAnyH_ready (rs := [16]) (by kernel_rfl) (by simp) ?_
            refine AllReadyH.cons (o := _) rfl (fun KK hKK => ?_) (AllReadyH.nil)
            go_simp
            (go_at_call 9; (with_reducible refine (HWR.out _ (by first | exact hX1 | exact hX1.alloc _)).mono ?_); rintro e w4 ⟨cs2, rfl, hv2, hY2⟩; obtain ⟨C1, m1, e1, C2, m2, e2, C3, m3, e3, x2, y2, z2', u2, v2, hcs2⟩ := hv2.devC; subst hcs2; have hX2 : Fr none_ wr w4 := Fr.trans (by first | exact hX1 | exact hX1.alloc _) hY2; have hzz := hX2.size; have hzy := hX1.size)
            go_wp2_with fail
            refine hKK.out _ _ ?hS34 (fun hHeld34 => ?rest34)
            case hS34 => first | exact HST.out _ hX5 | exact HST.out _ hX2 | exact HST.out _ (hX2.alloc _) | exact HST.out _ hX1 | exact HST.out _ (hX1.alloc _) | exact HST.out _ hG1
            clear hKK KK
            try simp only [List.getElem_toArray, List.getElem_cons_zero, List.getElem_cons_succ, Act.put, List.setIfInBounds_toArray, List.set_cons_zero, List.set_cons_succ]
            refine wpAnyH_take (i := 17) (oi := _) (v := ?v35) rfl (by kernel_rfl) (by kernel_rfl) (by kernel_rfl) (fun _ _ _ h => h) (Or.inl ⟨by rfl, ?hy35⟩) (by assumption) ?rest35
            case hy35 => (intro w hSw; (try dsimp only at hSw); go_simp; try with_reducible rfl)
            try simp only [List.getElem_toArray, List.getElem_cons_zero, List.getElem_cons_succ, Act.put, List.setIfInBounds_toArray, List.set_cons_zero, List.set_cons_succ]
            refine wpAnyH_take (i := 18) (oi := _) (v := ?v36) rfl (by kernel_rfl) (by kernel_rfl) (by kernel_rfl) (fun _ _ _ h => h) (Or.inl ⟨by rfl, ?hy36⟩) (by assumption) ?rest36
            case hy36 => (intro w hSw; (try dsimp only at hSw); go_simp; try with_reducible rfl)
            try simp only [List.getElem_toArray, List.getElem_cons_zero, List.getElem_cons_succ, Act.put, List.setIfInBounds_toArray, List.set_cons_zero, List.set_cons_succ]
            refine wpAnyH_take (i := 19) (oi := _) (v := ?v37) rfl (by kernel_rfl) (by kernel_rfl) (by kernel_rfl) (fun _ _ _ h => h) (Or.inl ⟨by rfl, ?hy37⟩) (by assumption) ?rest37
            case hy37 => (intro w hSw; (try dsimp only at hSw); go_simp; try with_reducible rfl)
            try simp only [List.getElem_toArray, List.getElem_cons_zero, List.getElem_cons_succ, Act.put, List.setIfInBounds_toArray, List.set_cons_zero, List.set_cons_succ]
            refine wpAnyH_ready (rs := [21]) (by kernel_rfl) (by simp) ?_
            refine AllReadyH.cons (o := _) rfl (fun KK hKK => ?_) (AllReadyH.nil)
            (first | (refine step_store_blk (by rfl) 33 _ _ (by rfl) (b := wr.heap.size) (c' := #[.slice C1 m1 e1, .slice C2 m2 e2, .slice C3 m3 e3, .int .i64 x2, .bool y2, .int .i64 z2', .bool u2, .bool v2]) (by rfl) (by rfl) (hY2.heap0 (hY1.heap0 (heap_alloc_new wr (.cells #[.slice none 0 0, .slice none 0 0, .slice none 0 0, .int .i64 0, .bool false, .int .i64 0, .bool false, .bool false] 33)))) (by rfl) (by kernel_rfl) (by intro u hu; simp at hu; rcases hu with rfl | rfl | rfl | rfl | rfl | rfl | rfl | rfl <;> rfl) ?_; intro w5 hF5 hb5; have hX5 : Fr none_ wr w5 := Fr.own hX2 hF5 (by omega); have hv5 : RDV w5 _ _ := RDV.frD hv2 h3' (hY2.heap0 (hY1.heap0 (heap_alloc_new wr (.cells #[.slice none 0 0, .slice none 0 0, .slice none 0 0, .int .i64 0, .bool false, .int .i64 0, .bool false, .bool false] 33)))) zeroDevC hF5) | (refine step_store_blk (by rfl) 33 _ _ (by rfl) (b := x1.heap.size) (c' := #[.slice C1 m1 e1, .slice C2 m2 e2, .slice C3 m3 e3, .int .i64 x2, .bool y2, .int .i64 z2', .bool u2, .bool v2]) (by rfl) (by rfl) (hY2.heap0 (heap_alloc_new x1 (.cells #[.slice none 0 0, .slice none 0 0, .slice none 0 0, .int .i64 0, .bool false, .int .i64 0, .bool false, .bool false] 33))) (by rfl) (by kernel_rfl) (by intro u hu; simp at hu; rcases hu with rfl | rfl | rfl | rfl | rfl | rfl | rfl | rfl <;> rfl) ?_; intro w5 hF5 hb5; have hX5 : Fr none_ wr w5 := Fr.own hX2 hF5 (by omega); have hv5 : RDV w5 _ _ := RDV.frD hv2 h3' (hY2.heap0 (heap_alloc_new x1 (.cells #[.slice none 0 0, .slice none 0 0, .slice none 0 0, .int .i64 0, .bool false, .int .i64 0, .bool false, .bool false] 33))) zeroDevC hF5) | (refine step_store_blk (by rfl) 33 _ _ (by rfl) (b := w4.heap.size) (c' := #[.slice C1 m1 e1, .slice C2 m2 e2, .slice C3 m3 e3, .int .i64 x2, .bool y2, .int .i64 z2', .bool u2, .bool v2]) (by rfl) (by rfl) (heap_alloc_new w4 (.cells #[.slice none 0 0, .slice none 0 0, .slice none 0 0, .int .i64 0, .bool false, .int .i64 0, .bool false, .bool false] 33)) (by rfl) (by kernel_rfl) (by intro u hu; simp at hu; rcases hu with rfl | rfl | rfl | rfl | rfl | rfl | rfl | rfl <;> rfl) ?_; intro w5 hF5 hb5; have hX5 : Fr none_ wr w5 := Fr.own (hX2.alloc _) hF5 (by omega); have hv5 : RDV w5 _ _ := RDV.frD (hv2.fr0 ((Fr.refl _ _).alloc _)) h3' (heap_alloc_new w4 (.cells #[.slice none 0 0, .slice none 0 0, .slice none 0 0, .int .i64 0, .bool false, .int .i64 0, .bool false, .bool false] 33)) zeroDevC hF5) | fail)
            refine hKK.out _ _ ?hS38 (fun hHeld38 => ?rest38)
            case hS38 => first | exact HST.out _ hX5 | exact HST.out _ hX2 | exact HST.out _ (hX2.alloc _) | exact HST.out _ hX1 | exact HST.out _ (hX1.alloc _) | exact HST.out _ hG1
            clear hKK KK
            try simp only [List.getElem_toArray, List.getElem_cons_zero, List.getElem_cons_succ, Act.put, List.setIfInBounds_toArray, List.set_cons_zero, List.set_cons_succ]
            refine wpAnyH_ready (rs := [22]) (by kernel_rfl) (by simp) ?_
            refine AllReadyH.cons (o := _) rfl (fun KK hKK => ?_) (AllReadyH.nil)
            go_simp
            refine hKK.out _ _ ?hS39 (fun hHeld39 => ?rest39)
            case hS39 => first | exact HST.out _ hX5 | exact HST.out _ hX2 | exact HST.out _ (hX2.alloc _) | exact HST.out _ hX1 | exact HST.out _ (hX1.alloc _) | exact HST.out _ hG1
            clear hKK KK
            try simp only [List.getElem_toArray, List.getElem_cons_zero, List.getElem_cons_succ, Act.put, List.setIfInBounds_toArray, List.set_cons_zero, List.set_cons_succ]
            refine wpAnyH_done (by kernel_rfl) ?_ _
            have HX5 := Lib.hid (HXX2.out.fr0 hX5)
            have HV5 := Lib.hid (And.intro hv5 hb5)
            clear hX5 hv5 hb5
            by_cases hw0 : WE = 0
            · have hupk := HWU.out.1 hw0
              clear HWU
              subst hw0
              go_wp2_with (first | ((with_reducible refine at_load 33 (.tmp 13) ?_ HV5.out.2 Tryz.underlying33 rfl (by kernel_rfl) ?_); (focus rfl)) | ((with_reducible refine at_store 33 (.tmp 3) (.tmp 70) (b := w.heap.size) (c' := #[.slice C1 m1 e1, .slice C2 m2 e2, .slice C3 m3 e3, .int .i64 x2, .bool y2, .int .i64 z2', .bool u2, .bool v2]) ?_ ?_ HX5.out.b3 ?_ ?_ ?_ ?_); (focus rfl); (focus rfl); (focus rfl); (focus kernel_rfl); (focus (intro u hu; simp at hu; rcases hu with rfl | rfl | rfl | rfl | rfl | rfl | rfl | rfl <;> rfl)); intro w6 hF6 hb6; have HX6 := Lib.hid (HX5.out.put h3' HV5.out.1 hF6 hb6); clear hF6 hb6))
              go_roundw
              case rel => exact ⟨k + 1, _, by omega, by go_num, HX6.out, hupk⟩
              case measure => simp [intOf]; omega
            · have k1 : (WE == 0) = false := by simpa using hw0
              have k2 : (WE != 0) = true := by simpa using hw0
              have hXR := HWU.out.2 hw0
              clear hw0 HWU
              go_wp2_with (first | ((with_reducible refine at_load 33 (.tmp 13) ?_ HV5.out.2 Tryz.underlying33 rfl (by kernel_rfl) ?_); (focus rfl)) | ((with_reducible refine at_store 33 (.tmp 3) (.tmp 70) (b := w.heap.size) (c' := #[.slice C1 m1 e1, .slice C2 m2 e2, .slice C3 m3 e3, .int .i64 x2, .bool y2, .int .i64 z2', .bool u2, .bool v2]) ?_ ?_ HX5.out.b3 ?_ ?_ ?_ ?_); (focus rfl); (focus rfl); (focus rfl); (focus kernel_rfl); (focus (intro u hu; simp at hu; rcases hu with rfl | rfl | rfl | rfl | rfl | rfl | rfl | rfl <;> rfl)); intro w6 hF6 hb6; have HX6 := Lib.hid (HX5.out.put h3' HV5.out.1 hF6 hb6); clear hF6 hb6) | ((with_reducible refine at_load 33 (.tmp 3) ?_ HX6.out.b3 Tryz.underlying33 rfl (by kernel_rfl) ?_); (focus rfl)) | ((with_reducible refine at_store 33 (.tmp 6) (.tmp 73) (b := w.heap.size + 2) (c' := #[.slice C1 m1 e1, .slice C2 m2 e2, .slice C3 m3 e3, .int .i64 x2, .bool y2, .int .i64 z2', .bool u2, .bool v2]) ?_ ?_ HX6.out.b6 ?_ ?_ ?_ ?_); (focus rfl); (focus rfl); (focus rfl); (focus kernel_rfl); (focus (intro u hu; simp at hu; rcases hu with rfl | rfl | rfl | rfl | rfl | rfl | rfl | rfl <;> rfl)); intro w8 hF8 hb8; have HZ := Lib.hid (And.intro hF8 hb8); clear hF8 hb8))
              refine bodyPost_ret (res_dev (b := w.heap.size + 2) Tryz.results19 HZ.out.2 rfl rfl) rfl ?_
              rw [hXR.1, hXR.2]
              exact ⟨_, rfl, HX6.out.v.frD h3' HX6.out.b6 zeroDevC HZ.out.1, HX6.out.fr.own HZ.out.1 (by omega)⟩
        · have hkc : k = cnt l.length := by unfold cnt at hk ⊢; omega
          have z1 : ¬ ((64 * k : Nat) : Int) < (B.size : Int) := by omega
          have z2 : ¬ (64 : Int) * (k : Int) < (B.size : Int) := by omega
          have z3 : ¬ (64 : Int) * (k : Int) < (l.length : Int) := by omega
          have z4 : IntKind.i64.wrap (64 * (k : Int)) = 64 * (k : Int) := IntWalk.i64_in _ (by omega)
          have z5 : ¬ 64 * k < B.size := by omega
          have h3k : 3 ≤ (R.wrN a l k).now.length := by rw [RefD.wrN_len]; exact h3
          have hend2 := HEND.out
          rw [← hkc] at hend2
          obtain ⟨Rk, hRk⟩ : ∃ Rk, Rk = R.wrN a l k := ⟨_, rfl⟩
          rw [← hRk] at hX h3k HUP hend2
          have hlen : Rk.now.length = R.now.length := by rw [hRk, RefD.wrN_len]
          clear hRk hkc HEND HCUT hk hlt
          obtain ⟨tb, htb⟩ : ∃ tb, tb = tellB (nn + 1) nx l.length := ⟨_, rfl⟩
          rw [← htb] at hend2
          have hup2 : Rk.flush.downB = false := by rw [RefD.flush_downB]; exact HUP.out
          have hfl := fun wx (hx : Fr none_ wr wx) => ref_flush (hX.v.fr0 hx) (by omega)
          have hnd : ¬ (Rk.crashed = true ∨ Rk.gone = true) := by
            have := HUP.out
            unfold RefD.downB at this
            intro h
            rcases h with h | h <;> rw [h] at this <;> simp at this
          rw [if_neg hnd] at hfl
          have hlen2 : Rk.flush.now.length = R.now.length := by rw [RefD.flush_len]; exact hlen
          have hl9 : (l.length : Int) ≤ 1000000 := by omega
          have htbl : tb.length ≤ 64 := by
            rw [htb]
            unfold tellB
            have g1 := behindF_le (nn + 1)
            have g2 := behindF_le l.length
            rw [List.length_append, List.length_cons, encF_len, encF_len]
            omega
          have htl : ∀ wx, Calls Tryz.prog 66 #[.int .u64 (IntKind.u64.wrap ((nn : Int) + 1)), .bool nx, .int .i64 (l.length : Int)] wx fun e w' => (∃ A c, e = .returned (.slice A tb.length c) ∧ CellsAt w' A (tb.map byteV) ∧ (A = none → tb.length = 0 ∧ c = 0)) ∧ Fr none_ wx w' := fun wx => by
            have h9 := rteller_any (w := wx) (nn + 1) (by omega) nx l.length (by omega)
            rw [show IntKind.u64.wrap ((nn : Int) + 1) = ((nn + 1 : Nat) : Int) by rw [IntKind.wrap_u64]; omega]
            refine h9.mono ?_
            rintro e w' ⟨⟨v, rfl, hown⟩, hF⟩
            obtain ⟨A, c, rfl, g1, g2, g3, g4⟩ := ownsRow_read hown
            have he : tellB' (nn + 1) nx l.length = tb := by rw [htb]; rfl
            rw [he] at g1 g3 ⊢
            exact ⟨⟨A, c, rfl, g1, g3⟩, hF⟩
          obtain ⟨WE, hWE⟩ : ∃ WE, WE = Rk.flush.writeE f tb.length := ⟨_, rfl⟩
          obtain ⟨R2, hR2⟩ : ∃ R2, R2 = Rk.flush.write f tb := ⟨_, rfl⟩
          have hra : 0 ≤ f ∧ f < (Rk.flush.now.length : Int) := by rw [hlen2]; omega
          have h3R : 3 ≤ R2.now.length := by rw [hR2, RefD.write_len, hlen2]; exact h3
          rw [← hR2] at hend2
          have hwu : WE = 0 → ¬ (R2.crashed = true ∨ R2.gone = true) ∧ X = R2.flush ∧ XE = 0 := fun h0 => by
            have hx := RefD.writeE_up hra.1 hra.2 htbl (hWE.symm.trans h0)
            rw [← hR2] at hx
            refine ⟨?_, hend2.1, by rw [hend2.2, hx]; rfl⟩
            unfold RefD.downB at hx
            intro h
            rcases h with h | h <;> rw [h] at hx <;> simp at hx
          have hwd : WE ≠ 0 → X = R2 ∧ XE = WE := fun h0 => by
            have hx := RefD.writeE_dn hra.1 hra.2 htbl (by rw [← hWE]; exact h0)
            rw [← hR2] at hx
            exact ⟨by rw [hend2.1, RefD.flush_down hx.1], by rw [hend2.2, hx.1, hWE, hx.2]; rfl⟩
          have HWU := Lib.hid (And.intro hwu hwd)
          have HR2 := Lib.hid (And.intro hWE hR2)
          have HTB := Lib.hid htb
          have HHUP2 := Lib.hid hup2
          have HTL := Lib.hid htl
          have HFL := Lib.hid hfl
          have HXK := Lib.hid hX
          clear hfl hX hnd hwu hwd hWE hR2 htb hend2 hup2 htl HUP
          go_wp2_with (first | ((with_reducible refine at_load 33 (.tmp 3) ?_ HXK.out.b3 Tryz.underlying33 rfl (by kernel_rfl) ?_); (focus rfl)) | ((go_at_call 65); (with_reducible refine (HFL.out _ (Fr.refl _ _)).mono ?_); rintro e w4 ⟨cs2, rfl, hv2, hY2⟩; obtain ⟨B1, n1, d1, B2, n2, d2, B3, n3, d3, x, y, z, u, v, hcs2⟩ := hv2.devC; subst hcs2; have HV2 := Lib.hid (And.intro hv2 hY2); clear hv2 hY2) | ((with_reducible refine at_store 33 (.tmp 3) (.tmp 78) (b := w.heap.size) (c' := #[.slice B1 n1 d1, .slice B2 n2 d2, .slice B3 n3 d3, .int .i64 x, .bool y, .int .i64 z, .bool u, .bool v]) ?_ ?_ (HV2.out.2.heap0 HXK.out.b3) ?_ ?_ ?_ ?_); (focus rfl); (focus rfl); (focus rfl); (focus kernel_rfl); (focus (intro u hu; simp at hu; rcases hu with rfl | rfl | rfl | rfl | rfl | rfl | rfl | rfl <;> rfl)); intro w6 hF6 hb6; have HX6 := Lib.hid ((HXK.out.fr0 HV2.out.2).put (by omega) HV2.out.1 hF6 hb6); clear hF6 hb6))
          have hst : ∀ wx, Fr none_ w6 wx → ((wx.cell? ⟨w.heap.size, 0, none⟩ = some (.slice B1 n1 d1) ∧ wx.cell? ⟨w.heap.size, 1, none⟩ = some (.slice B2 n2 d2) ∧ wx.cell? ⟨w.heap.size, 2, none⟩ = some (.slice B3 n3 d3) ∧ wx.cell? ⟨w.heap.size, 3, none⟩ = some (.int .i64 x) ∧ wx.cell? ⟨w.heap.size, 4, none⟩ = some (.bool y) ∧ wx.cell? ⟨w.heap.size, 5, none⟩ = some (.int .i64 z) ∧ wx.cell? ⟨w.heap.size, 6, none⟩ = some (.bool u) ∧ wx.cell? ⟨w.heap.size, 7, none⟩ = some (.bool v)) ∧ (wx.cell? ⟨w.heap.size + 1, 0, none⟩ = some (.int .i64 f) ∧ wx.cell? ⟨w.heap.size + 1, 1, none⟩ = some (.int .i64 s))) := fun wx hx => by
            have h1 := hx.heap0 HX6.out.b3
            have h2 := hx.heap0 HX6.out.b4
            exact ⟨⟨cell_of_blk h1 0, cell_of_blk h1 1, cell_of_blk h1 2, cell_of_blk h1 3, cell_of_blk h1 4, cell_of_blk h1 5, cell_of_blk h1 6, cell_of_blk h1 7⟩, cell_of_blk h2 0, cell_of_blk h2 1⟩
          have hwr : ∀ wx, Fr none_ w6 wx → Calls Tryz.prog 9 #[.agg #[.slice B1 n1 d1, .slice B2 n2 d2, .slice B3 n3 d3, .int .i64 x, .bool y, .int .i64 z, .bool u, .bool v], .int .i64 f, .string ⟨tb.toArray⟩] wx fun e w' => ∃ cs2, e = .returned (.tuple #[.agg cs2, .int .i64 WE]) ∧ RDV w' cs2 R2 ∧ Fr none_ wx w' := fun wx hx => by
            have := ref_write (HX6.out.v.fr0 hx) f tb
            rw [HR2.out.1, HR2.out.2]
            exact this
          have hfl2 : ¬ (R2.crashed = true ∨ R2.gone = true) → ∀ wx cs3, RDV wx cs3 R2 → Calls Tryz.prog 65 #[.agg cs3] wx fun e w' => RDo wx R2.flush 0 e w' := fun hn wx cs3 hx => by
            have := ref_flush hx (by omega)
            rw [if_neg hn] at this
            exact this
          have hG0 : Fr none_ w6 w6.drew := (Fr.refl _ _).drew
          obtain ⟨⟨c0, c1, c2, c3, c4, c5, c6, c7⟩, hs0⟩ := hst w6.drew hG0
          have HST := Lib.hid hst
          have HWR := Lib.hid hwr
          have HFL2 := Lib.hid hfl2
          clear hst hwr hfl2
          refine wp_region_held_drew (S := (fun W => (W.cell? ⟨w.heap.size + 1, 0, none⟩ = some (.int .i64 f) ∧ W.cell? ⟨w.heap.size + 1, 1, none⟩ = some (.int .i64 s)))) (by kernel_rfl) hs0 (fun hHeld0 => ?_)
          refine wpAnyH_take (i := 1) (oi := _) (v := ?vz1) rfl (by kernel_rfl) (by kernel_rfl) (by kernel_rfl) (fun _ _ _ h => h) (Or.inl ⟨by rfl, ?hyz1⟩) (by assumption) ?restz1
          case hyz1 => (intro w hSw; (try dsimp only at hSw); go_simp; try with_reducible rfl)
          try simp only [List.getElem_toArray, List.getElem_cons_zero, List.getElem_cons_succ, Act.put, List.setIfInBounds_toArray, List.set_cons_zero, List.set_cons_succ]
          refine wpAnyH_take (i := 2) (oi := _) (v := ?vz2) rfl (by kernel_rfl) (by kernel_rfl) (by kernel_rfl) (fun _ _ _ h => h) (Or.inl ⟨by rfl, ?hyz2⟩) (by assumption) ?restz2
          case hyz2 => (intro w hSw; (try dsimp only at hSw); go_simp; try with_reducible rfl)
          try simp only [List.getElem_toArray, List.getElem_cons_zero, List.getElem_cons_succ, Act.put, List.setIfInBounds_toArray, List.set_cons_zero, List.set_cons_succ]
          refine wpAnyH_take (i := 3) (oi := _) (v := ?vz3) rfl (by kernel_rfl) (by kernel_rfl) (by kernel_rfl) (fun _ _ _ h => h) (Or.inl ⟨by rfl, ?hyz3⟩) (by assumption) ?restz3
          case hyz3 => (intro w hSw; (try dsimp only at hSw); go_simp; try with_reducible rfl)
          try simp only [List.getElem_toArray, List.getElem_cons_zero, List.getElem_cons_succ, Act.put, List.setIfInBounds_toArray, List.set_cons_zero, List.set_cons_succ]
          refine wpAnyH_take (i := 4) (oi := _) (v := ?vz4) rfl (by kernel_rfl) (by kernel_rfl) (by kernel_rfl) (fun _ _ _ h => h) (Or.inl ⟨by rfl, ?hyz4⟩) (by assumption) ?restz4
          case hyz4 => (intro w hSw; (try dsimp only at hSw); go_simp; try with_reducible rfl)
          try simp only [List.getElem_toArray, List.getElem_cons_zero, List.getElem_cons_succ, Act.put, List.setIfInBounds_toArray, List.set_cons_zero, List.set_cons_succ]
          refine wpAnyH_take (i := 5) (oi := _) (v := ?vz5) rfl (by kernel_rfl) (by kernel_rfl) (by kernel_rfl) (fun _ _ _ h => h) (Or.inl ⟨by rfl, ?hyz5⟩) (by assumption) ?restz5
          case hyz5 => (intro w hSw; (try dsimp only at hSw); go_simp; try with_reducible rfl)
          try simp only [List.getElem_toArray, List.getElem_cons_zero, List.getElem_cons_succ, Act.put, List.setIfInBounds_toArray, List.set_cons_zero, List.set_cons_succ]
          refine wpAnyH_take (i := 6) (oi := _) (v := ?vz6) rfl (by kernel_rfl) (by kernel_rfl) (by kernel_rfl) (fun _ _ _ h => h) (Or.inl ⟨by rfl, ?hyz6⟩) (by assumption) ?restz6
          case hyz6 => (intro w hSw; (try dsimp only at hSw); go_simp; try with_reducible rfl)
          try simp only [List.getElem_toArray, List.getElem_cons_zero, List.getElem_cons_succ, Act.put, List.setIfInBounds_toArray, List.set_cons_zero, List.set_cons_succ]
          refine wpAnyH_take (i := 7) (oi := _) (v := ?vz7) rfl (by kernel_rfl) (by kernel_rfl) (by kernel_rfl) (fun _ _ _ h => h) (Or.inl ⟨by rfl, ?hyz7⟩) (by assumption) ?restz7
          case hyz7 => (intro w hSw; (try dsimp only at hSw); go_simp; try with_reducible rfl)
          try simp only [List.getElem_toArray, List.getElem_cons_zero, List.getElem_cons_succ, Act.put, List.setIfInBounds_toArray, List.set_cons_zero, List.set_cons_succ]
          refine wpAnyH_ready (rs := [0, 8]) (by kernel_rfl) (by simp) ?_
          refine AllReadyH.cons (o := _) rfl (fun KK hKK => ?_) (AllReadyH.cons (o := _) rfl (fun KK hKK => ?_) (AllReadyH.nil))
          · go_simp
            refine hKK.out _ _ ?hSz8 (fun hHeldz8 => ?restz8)
            case hSz8 => first | exact ⟨cell_of_blk hX8.b4 0, cell_of_blk hX8.b4 1⟩ | exact (HST.out _ hX7).2 | exact (HST.out _ hX1).2 | exact hs0
            clear hKK KK
            try simp only [List.getElem_toArray, List.getElem_cons_zero, List.getElem_cons_succ, Act.put, List.setIfInBounds_toArray, List.set_cons_zero, List.set_cons_succ]
            refine wpAnyH_ready (rs := [8]) (by kernel_rfl) (by simp) ?_
            refine AllReadyH.cons (o := _) rfl (fun KK hKK => ?_) (AllReadyH.nil)
            go_simp
            (go_at_call 66; (with_reducible refine (HTL.out _).mono ?_); rintro e x1 ⟨⟨At, ct, rfl, hAt, hnt⟩, hY1⟩; have hX1 : Fr none_ w6 x1 := Fr.trans hG0 hY1; obtain ⟨⟨e0, e1, e2, e3, e4, e5, e6, e7⟩, hs1⟩ := HST.out x1 hX1; have hcv := conv_bytes (P := Tryz.prog) (src := 37) (dst := 9) (w := x1) Tryz.underlying37 Tryz.underlying5 Tryz.underlying9 rfl hAt hnt)
            go_wp2_with fail
            refine hKK.out _ _ ?hSz9 (fun hHeldz9 => ?restz9)
            case hSz9 => first | exact ⟨cell_of_blk hX8.b4 0, cell_of_blk hX8.b4 1⟩ | exact (HST.out _ hX7).2 | exact (HST.out _ hX1).2 | exact hs0
            clear hKK KK
            try simp only [List.getElem_toArray, List.getElem_cons_zero, List.getElem_cons_succ, Act.put, List.setIfInBounds_toArray, List.set_cons_zero, List.set_cons_succ]
            refine wpAnyH_ready (rs := [9]) (by kernel_rfl) (by simp) ?_
            refine AllReadyH.cons (o := _) rfl (fun KK hKK => ?_) (AllReadyH.nil)
            go_simp
            refine hKK.out _ _ ?hSz10 (fun hHeldz10 => ?restz10)
            case hSz10 => first | exact ⟨cell_of_blk hX8.b4 0, cell_of_blk hX8.b4 1⟩ | exact (HST.out _ hX7).2 | exact (HST.out _ hX1).2 | exact hs0
            clear hKK KK
            try simp only [List.getElem_toArray, List.getElem_cons_zero, List.getElem_cons_succ, Act.put, List.setIfInBounds_toArray, List.set_cons_zero, List.set_cons_succ]
            refine wpAnyH_ready (rs := [10]) (by kernel_rfl) (by simp) ?_
            refine AllReadyH.cons (o := _) rfl (fun KK hKK => ?_) (AllReadyH.nil)
            go_simp
            (go_at_call 9; (with_reducible refine (HWR.out _ hX1).mono ?_); rintro e w7 ⟨cs2, rfl, hv2, hY2⟩; obtain ⟨C1, m1, e1', C2, m2, e2', C3, m3, e3', x2, y2, z2', u2, v2, hcs2⟩ := hv2.devC; subst hcs2; have hX7 : Fr none_ w6 w7 := Fr.trans hX1 hY2)
            go_wp2_with fail
            refine hKK.out _ _ ?hSz11 (fun hHeldz11 => ?restz11)
            case hSz11 => first | exact ⟨cell_of_blk hX8.b4 0, cell_of_blk hX8.b4 1⟩ | exact (HST.out _ hX7).2 | exact (HST.out _ hX1).2 | exact hs0
            clear hKK KK
            try simp only [List.getElem_toArray, List.getElem_cons_zero, List.getElem_cons_succ, Act.put, List.setIfInBounds_toArray, List.set_cons_zero, List.set_cons_succ]
            refine wpAnyH_take (i := 11) (oi := _) (v := ?vz12) rfl (by kernel_rfl) (by kernel_rfl) (by kernel_rfl) (fun _ _ _ h => h) (Or.inl ⟨by rfl, ?hyz12⟩) (by assumption) ?restz12
            case hyz12 => (intro w hSw; (try dsimp only at hSw); go_simp; try with_reducible rfl)
            try simp only [List.getElem_toArray, List.getElem_cons_zero, List.getElem_cons_succ, Act.put, List.setIfInBounds_toArray, List.set_cons_zero, List.set_cons_succ]
            refine wpAnyH_take (i := 12) (oi := _) (v := ?vz13) rfl (by kernel_rfl) (by kernel_rfl) (by kernel_rfl) (fun _ _ _ h => h) (Or.inl ⟨by rfl, ?hyz13⟩) (by assumption) ?restz13
            case hyz13 => (intro w hSw; (try dsimp only at hSw); go_simp; try with_reducible rfl)
            try simp only [List.getElem_toArray, List.getElem_cons_zero, List.getElem_cons_succ, Act.put, List.setIfInBounds_toArray, List.set_cons_zero, List.set_cons_succ]
            refine wpAnyH_take (i := 13) (oi := _) (v := ?vz14) rfl (by kernel_rfl) (by kernel_rfl) (by kernel_rfl) (fun _ _ _ h => h) (Or.inl ⟨by rfl, ?hyz14⟩) (by assumption) ?restz14
            case hyz14 => (intro w hSw; (try dsimp only at hSw); go_simp; try with_reducible rfl)
            try simp only [List.getElem_toArray, List.getElem_cons_zero, List.getElem_cons_succ, Act.put, List.setIfInBounds_toArray, List.set_cons_zero, List.set_cons_succ]
            refine wpAnyH_ready (rs := [14]) (by kernel_rfl) (by simp) ?_
            refine AllReadyH.cons (o := _) rfl (fun KK hKK => ?_) (AllReadyH.nil)
            (refine step_store_blk (by rfl) 33 _ _ (by rfl) (b := w.heap.size) (c' := #[.slice C1 m1 e1', .slice C2 m2 e2', .slice C3 m3 e3', .int .i64 x2, .bool y2, .int .i64 z2', .bool u2, .bool v2]) (by rfl) (by rfl) ((HX6.out.fr0 hX7).b3) (by rfl) (by kernel_rfl) (by intro u hu; simp at hu; rcases hu with rfl | rfl | rfl | rfl | rfl | rfl | rfl | rfl <;> rfl) ?_; intro w8 hF8 hb8; have hX8 := (HX6.out.fr0 hX7).put h3R hv2 hF8 hb8)
            refine hKK.out _ _ ?hSz15 (fun hHeldz15 => ?restz15)
            case hSz15 => first | exact ⟨cell_of_blk hX8.b4 0, cell_of_blk hX8.b4 1⟩ | exact (HST.out _ hX7).2 | exact (HST.out _ hX1).2 | exact hs0
            clear hKK KK
            try simp only [List.getElem_toArray, List.getElem_cons_zero, List.getElem_cons_succ, Act.put, List.setIfInBounds_toArray, List.set_cons_zero, List.set_cons_succ]
            refine wpAnyH_ready (rs := [15]) (by kernel_rfl) (by simp) ?_
            refine AllReadyH.cons (o := _) rfl (fun KK hKK => ?_) (AllReadyH.nil)
            go_simp
            refine hKK.out _ _ ?hSz16 (fun hHeldz16 => ?restz16)
            case hSz16 => first | exact ⟨cell_of_blk hX8.b4 0, cell_of_blk hX8.b4 1⟩ | exact (HST.out _ hX7).2 | exact (HST.out _ hX1).2 | exact hs0
            clear hKK KK
            try simp only [List.getElem_toArray, List.getElem_cons_zero, List.getElem_cons_succ, Act.put, List.setIfInBounds_toArray, List.set_cons_zero, List.set_cons_succ]
            refine wpAnyH_done (by kernel_rfl) ?_ _
            have HX8 := Lib.hid hX8
            clear hX8
            by_cases hw0 : WE = 0
            · have HW2 := Lib.hid (HWU.out.1 hw0)
              clear HWU
              subst hw0
              go_wp2_with (first | ((with_reducible refine at_load 33 (.tmp 3) ?_ HX8.out.b3 Tryz.underlying33 rfl (by kernel_rfl) ?_); (focus rfl)) | ((go_at_call 65); (with_reducible refine (HFL2.out HW2.out.1 _ _ HX8.out.v).mono ?_); rintro e w9 ⟨cs3, rfl, hv3, hY3⟩; obtain ⟨F1, q1, g1, F2, q2, g2, F3, q3, g3, x3, y3, z3, u3, v3, hcs3⟩ := hv3.devC; subst hcs3; have HV3 := Lib.hid (And.intro hv3 hY3); clear hv3 hY3) | ((with_reducible refine at_store 33 (.tmp 6) (.tmp 104) (b := w.heap.size + 2) (c' := #[.slice F1 q1 g1, .slice F2 q2 g2, .slice F3 q3 g3, .int .i64 x3, .bool y3, .int .i64 z3, .bool u3, .bool v3]) ?_ ?_ (HV3.out.2.heap0 HX8.out.b6) ?_ ?_ ?_ ?_); (focus rfl); (focus rfl); (focus rfl); (focus kernel_rfl); (focus (intro u hu; simp at hu; rcases hu with rfl | rfl | rfl | rfl | rfl | rfl | rfl | rfl <;> rfl)); intro w10 hF10 hb10; have HZ := Lib.hid (And.intro hF10 hb10); clear hF10 hb10))
              refine bodyPost_ret (res_dev (b := w.heap.size + 2) Tryz.results19 HZ.out.2 rfl rfl) rfl ?_
              rw [HW2.out.2.1, HW2.out.2.2]
              exact ⟨_, rfl, HV3.out.1.frD (by rw [RefD.flush_len]; exact h3R) (HV3.out.2.heap0 HX8.out.b6) zeroDevC HZ.out.1, (HX8.out.fr.trans HV3.out.2).own HZ.out.1 (by omega)⟩
            · have k1 : (WE == 0) = false := by simpa using hw0
              have k2 : (WE != 0) = true := by simpa using hw0
              have HXR := Lib.hid (HWU.out.2 hw0)
              clear hw0 HWU
              go_wp2_with (first | ((with_reducible refine at_load 33 (.tmp 3) ?_ HX8.out.b3 Tryz.underlying33 rfl (by kernel_rfl) ?_); (focus rfl)) | ((with_reducible refine at_store 33 (.tmp 6) (.tmp 100) (b := w.heap.size + 2) (c' := #[.slice C1 m1 e1', .slice C2 m2 e2', .slice C3 m3 e3', .int .i64 x2, .bool y2, .int .i64 z2', .bool u2, .bool v2]) ?_ ?_ HX8.out.b6 ?_ ?_ ?_ ?_); (focus rfl); (focus rfl); (focus rfl); (focus kernel_rfl); (focus (intro u hu; simp at hu; rcases hu with rfl | rfl | rfl | rfl | rfl | rfl | rfl | rfl <;> rfl)); intro w10 hF10 hb10; have HZ := Lib.hid (And.intro hF10 hb10); clear hF10 hb10))
              refine bodyPost_ret (res_dev (b := w.heap.size + 2) Tryz.results19 HZ.out.2 rfl rfl) rfl ?_
              rw [HXR.out.1, HXR.out.2]
              exact ⟨_, rfl, HX8.out.v.frD h3R HX8.out.b6 zeroDevC HZ.out.1, HX8.out.fr.own HZ.out.1 (by omega)⟩
          · go_simp
            (go_at_call 66; (with_reducible refine (HTL.out _).mono ?_); rintro e x1 ⟨⟨At, ct, rfl, hAt, hnt⟩, hY1⟩; have hX1 : Fr none_ w6 x1 := Fr.trans hG0 hY1; obtain ⟨⟨e0, e1, e2, e3, e4, e5, e6, e7⟩, hs1⟩ := HST.out x1 hX1; have hcv := conv_bytes (P := Tryz.prog) (src := 37) (dst := 9) (w := x1) Tryz.underlying37 Tryz.underlying5 Tryz.underlying9 rfl hAt hnt)
            go_wp2_with fail
            refine hKK.out _ _ ?hSz17 (fun hHeldz17 => ?restz17)
            case hSz17 => first | exact ⟨cell_of_blk hX8.b4 0, cell_of_blk hX8.b4 1⟩ | exact (HST.out _ hX7).2 | exact (HST.out _ hX1).2 | exact hs0
            clear hKK KK
            try simp only [List.getElem_toArray, List.getElem_cons_zero, List.getElem_cons_succ, Act.put, List.setIfInBounds_toArray, List.set_cons_zero, List.set_cons_succ]
            refine wpAnyH_ready (rs := [0, 9]) (by kernel_rfl) (by simp) ?_
            refine AllReadyH.cons (o := _) rfl (fun KK hKK => ?_) (AllReadyH.cons (o := _) rfl (fun KK hKK => ?_) (AllReadyH.nil))
            · go_simp
              refine hKK.out _ _ ?hSz18 (fun hHeldz18 => ?restz18)
              case hSz18 => first | exact ⟨cell_of_blk hX8.b4 0, cell_of_blk hX8.b4 1⟩ | exact (HST.out _ hX7).2 | exact (HST.out _ hX1).2 | exact hs0
              clear hKK KK
              try simp only [List.getElem_toArray, List.getElem_cons_zero, List.getElem_cons_succ, Act.put, List.setIfInBounds_toArray, List.set_cons_zero, List.set_cons_succ]
              refine wpAnyH_ready (rs := [9]) (by kernel_rfl) (by simp) ?_
              refine AllReadyH.cons (o := _) rfl (fun KK hKK => ?_) (AllReadyH.nil)
              go_simp
              refine hKK.out _ _ ?hSz19 (fun hHeldz19 => ?restz19)
              case hSz19 => first | exact ⟨cell_of_blk hX8.b4 0, cell_of_blk hX8.b4 1⟩ | exact (HST.out _ hX7).2 | exact (HST.out _ hX1).2 | exact hs0
              clear hKK KK
              try simp only [List.getElem_toArray, List.getElem_cons_zero, List.getElem_cons_succ, Act.put, List.setIfInBounds_toArray, List.set_cons_zero, List.set_cons_succ]
              refine wpAnyH_ready (rs := [10]) (by kernel_rfl) (by simp) ?_
              refine AllReadyH.cons (o := _) rfl (fun KK hKK => ?_) (AllReadyH.nil)
              go_simp
              (go_at_call 9; (with_reducible refine (HWR.out _ hX1).mono ?_); rintro e w7 ⟨cs2, rfl, hv2, hY2⟩; obtain ⟨C1, m1, e1', C2, m2, e2', C3, m3, e3', x2, y2, z2', u2, v2, hcs2⟩ := hv2.devC; subst hcs2; have hX7 : Fr none_ w6 w7 := Fr.trans hX1 hY2)
              go_wp2_with fail
              refine hKK.out _ _ ?hSz20 (fun hHeldz20 => ?restz20)
              case hSz20 => first | exact ⟨cell_of_blk hX8.b4 0, cell_of_blk hX8.b4 1⟩ | exact (HST.out _ hX7).2 | exact (HST.out _ hX1).2 | exact hs0
              clear hKK KK
              try simp only [List.getElem_toArray, List.getElem_cons_zero, List.getElem_cons_succ, Act.put, List.setIfInBounds_toArray, List.set_cons_zero, List.set_cons_succ]
              refine wpAnyH_take (i := 11) (oi := _) (v := ?vz21) rfl (by kernel_rfl) (by kernel_rfl) (by kernel_rfl) (fun _ _ _ h => h) (Or.inl ⟨by rfl, ?hyz21⟩) (by assumption) ?restz21
              case hyz21 => (intro w hSw; (try dsimp only at hSw); go_simp; try with_reducible rfl)
              try simp only [List.getElem_toArray, List.getElem_cons_zero, List.getElem_cons_succ, Act.put, List.setIfInBounds_toArray, List.set_cons_zero, List.set_cons_succ]
              refine wpAnyH_take (i := 12) (oi := _) (v := ?vz22) rfl (by kernel_rfl) (by kernel_rfl) (by kernel_rfl) (fun _ _ _ h => h) (Or.inl ⟨by rfl, ?hyz22⟩) (by assumption) ?restz22
              case hyz22 => (intro w hSw; (try dsimp only at hSw); go_simp; try with_reducible rfl)
              try simp only [List.getElem_toArray, List.getElem_cons_zero, List.getElem_cons_succ, Act.put, List.setIfInBounds_toArray, List.set_cons_zero, List.set_cons_succ]
              refine wpAnyH_take (i := 13) (oi := _) (v := ?vz23) rfl (by kernel_rfl) (by kernel_rfl) (by kernel_rfl) (fun _ _ _ h => h) (Or.inl ⟨by rfl, ?hyz23⟩) (by assumption) ?restz23
              case hyz23 => (intro w hSw; (try dsimp only at hSw); go_simp; try with_reducible rfl)
              try simp only [List.getElem_toArray, List.getElem_cons_zero, List.getElem_cons_succ, Act.put, List.setIfInBounds_toArray, List.set_cons_zero, List.set_cons_succ]
              refine wpAnyH_ready (rs := [14]) (by kernel_rfl) (by simp) ?_
              refine AllReadyH.cons (o := _) rfl (fun KK hKK => ?_) (AllReadyH.nil)
              (refine step_store_blk (by rfl) 33 _ _ (by rfl) (b := w.heap.size) (c' := #[.slice C1 m1 e1', .slice C2 m2 e2', .slice C3 m3 e3', .int .i64 x2, .bool y2, .int .i64 z2', .bool u2, .bool v2]) (by rfl) (by rfl) ((HX6.out.fr0 hX7).b3) (by rfl) (by kernel_rfl) (by intro u hu; simp at hu; rcases hu with rfl | rfl | rfl | rfl | rfl | rfl | rfl | rfl <;> rfl) ?_; intro w8 hF8 hb8; have hX8 := (HX6.out.fr0 hX7).put h3R hv2 hF8 hb8)
              refine hKK.out _ _ ?hSz24 (fun hHeldz24 => ?restz24)
              case hSz24 => first | exact ⟨cell_of_blk hX8.b4 0, cell_of_blk hX8.b4 1⟩ | exact (HST.out _ hX7).2 | exact (HST.out _ hX1).2 | exact hs0
              clear hKK KK
              try simp only [List.getElem_toArray, List.getElem_cons_zero, List.getElem_cons_succ, Act.put, List.setIfInBounds_toArray, List.set_cons_zero, List.set_cons_succ]
              refine wpAnyH_ready (rs := [15]) (by kernel_rfl) (by simp) ?_
              refine AllReadyH.cons (o := _) rfl (fun KK hKK => ?_) (AllReadyH.nil)
              go_simp
              refine hKK.out _ _ ?hSz25 (fun hHeldz25 => ?restz25)
              case hSz25 => first | exact ⟨cell_of_blk hX8.b4 0, cell_of_blk hX8.b4 1⟩ | exact (HST.out _ hX7).2 | exact (HST.out _ hX1).2 | exact hs0
              clear hKK KK
              try simp only [List.getElem_toArray, List.getElem_cons_zero, List.getElem_cons_succ, Act.put, List.setIfInBounds_toArray, List.set_cons_zero, List.set_cons_succ]
              refine wpAnyH_done (by kernel_rfl) ?_ _
              have HX8 := Lib.hid hX8
              clear hX8
              by_cases hw0 : WE = 0
              · have HW2 := Lib.hid (HWU.out.1 hw0)
                clear HWU
                subst hw0
                go_wp2_with (first | ((with_reducible refine at_load 33 (.tmp 3) ?_ HX8.out.b3 Tryz.underlying33 rfl (by kernel_rfl) ?_); (focus rfl)) | ((go_at_call 65); (with_reducible refine (HFL2.out HW2.out.1 _ _ HX8.out.v).mono ?_); rintro e w9 ⟨cs3, rfl, hv3, hY3⟩; obtain ⟨F1, q1, g1, F2, q2, g2, F3, q3, g3, x3, y3, z3, u3, v3, hcs3⟩ := hv3.devC; subst hcs3; have HV3 := Lib.hid (And.intro hv3 hY3); clear hv3 hY3) | ((with_reducible refine at_store 33 (.tmp 6) (.tmp 104) (b := w.heap.size + 2) (c' := #[.slice F1 q1 g1, .slice F2 q2 g2, .slice F3 q3 g3, .int .i64 x3, .bool y3, .int .i64 z3, .bool u3, .bool v3]) ?_ ?_ (HV3.out.2.heap0 HX8.out.b6) ?_ ?_ ?_ ?_); (focus rfl); (focus rfl); (focus rfl); (focus kernel_rfl); (focus (intro u hu; simp at hu; rcases hu with rfl | rfl | rfl | rfl | rfl | rfl | rfl | rfl <;> rfl)); intro w10 hF10 hb10; have HZ := Lib.hid (And.intro hF10 hb10); clear hF10 hb10))
                refine bodyPost_ret (res_dev (b := w.heap.size + 2) Tryz.results19 HZ.out.2 rfl rfl) rfl ?_
                rw [HW2.out.2.1, HW2.out.2.2]
                exact ⟨_, rfl, HV3.out.1.frD (by rw [RefD.flush_len]; exact h3R) (HV3.out.2.heap0 HX8.out.b6) zeroDevC HZ.out.1, (HX8.out.fr.trans HV3.out.2).own HZ.out.1 (by omega)⟩
              · have k1 : (WE == 0) = false := by simpa using hw0
                have k2 : (WE != 0) = true := by simpa using hw0
                have HXR := Lib.hid (HWU.out.2 hw0)
                clear hw0 HWU
                go_wp2_with (first | ((with_reducible refine at_load 33 (.tmp 3) ?_ HX8.out.b3 Tryz.underlying33 rfl (by kernel_rfl) ?_); (focus rfl)) | ((with_reducible refine at_store 33 (.tmp 6) (.tmp 100) (b := w.heap.size + 2) (c' := #[.slice C1 m1 e1', .slice C2 m2 e2', .slice C3 m3 e3', .int .i64 x2, .bool y2, .int .i64 z2', .bool u2, .bool v2]) ?_ ?_ HX8.out.b6 ?_ ?_ ?_ ?_); (focus rfl); (focus rfl); (focus rfl); (focus kernel_rfl); (focus (intro u hu; simp at hu; rcases hu with rfl | rfl | rfl | rfl | rfl | rfl | rfl | rfl <;> rfl)); intro w10 hF10 hb10; have HZ := Lib.hid (And.intro hF10 hb10); clear hF10 hb10))
                refine bodyPost_ret (res_dev (b := w.heap.size + 2) Tryz.results19 HZ.out.2 rfl rfl) rfl ?_
                rw [HXR.out.1, HXR.out.2]
                exact ⟨_, rfl, HX8.out.v.frD h3R HX8.out.b6 zeroDevC HZ.out.1, HX8.out.fr.own HZ.out.1 (by omega)⟩
            · go_simp
              refine hKK.out _ _ ?hSz26 (fun hHeldz26 => ?restz26)
              case hSz26 => first | exact ⟨cell_of_blk hX8.b4 0, cell_of_blk hX8.b4 1⟩ | exact (HST.out _ hX7).2 | exact (HST.out _ hX1).2 | exact hs0
              clear hKK KK
              try simp only [List.getElem_toArray, List.getElem_cons_zero, List.getElem_cons_succ, Act.put, List.setIfInBounds_toArray, List.set_cons_zero, List.set_cons_succ]
              refine wpAnyH_ready (rs := [0]) (by kernel_rfl) (by simp) ?_
              refine AllReadyH.cons (o := _) rfl (fun KK hKK => ?_) (AllReadyH.nil)
              go_simp
              refine hKK.out _ _ ?hSz27 (fun hHeldz27 => ?restz27)
              case hSz27 => first | exact ⟨cell_of_blk hX8.b4 0, cell_of_blk hX8.b4 1⟩ | exact (HST.out _ hX7).2 | exact (HST.out _ hX1).2 | exact hs0
              clear hKK KK
              try simp only [List.getElem_toArray, List.getElem_cons_zero, List.getElem_cons_succ, Act.put, List.setIfInBounds_toArray, List.set_cons_zero, List.set_cons_succ]
              refine wpAnyH_ready (rs := [10]) (by kernel_rfl) (by simp) ?_
              refine AllReadyH.cons (o := _) rfl (fun KK hKK => ?_) (AllReadyH.nil)
              go_simp
              (go_at_call 9; (with_reducible refine (HWR.out _ hX1).mono ?_); rintro e w7 ⟨cs2, rfl, hv2, hY2⟩; obtain ⟨C1, m1, e1', C2, m2, e2', C3, m3, e3', x2, y2, z2', u2, v2, hcs2⟩ := hv2.devC; subst hcs2; have hX7 : Fr none_ w6 w7 := Fr.trans hX1 hY2)
              go_wp2_with fail
              refine hKK.out _ _ ?hSz28 (fun hHeldz28 => ?restz28)
              case hSz28 => first | exact ⟨cell_of_blk hX8.b4 0, cell_of_blk hX8.b4 1⟩ | exact (HST.out _ hX7).2 | exact (HST.out _ hX1).2 | exact hs0
              clear hKK KK
              try simp only [List.getElem_toArray, List.getElem_cons_zero, List.getElem_cons_succ, Act.put, List.setIfInBounds_toArray, List.set_cons_zero, List.set_cons_succ]
              refine wpAnyH_take (i := 11) (oi := _) (v := ?vz29) rfl (by kernel_rfl) (by kernel_rfl) (by kernel_rfl) (fun _ _ _ h => h) (Or.inl ⟨by rfl, ?hyz29⟩) (by assumption) ?restz29
              case hyz29 => (intro w hSw; (try dsimp only at hSw); go_simp; try with_reducible rfl)
              try simp only [List.getElem_toArray, List.getElem_cons_zero, List.getElem_cons_succ, Act.put, List.setIfInBounds_toArray, List.set_cons_zero, List.set_cons_succ]
              refine wpAnyH_take (i := 12) (oi := _) (v := ?vz30) rfl (by kernel_rfl) (by kernel_rfl) (by kernel_rfl) (fun _ _ _ h => h) (Or.inl ⟨by rfl, ?hyz30⟩) (by assumption) ?restz30
              case hyz30 => (intro w hSw; (try dsimp only at hSw); go_simp; try with_reducible rfl)
              try simp only [List.getElem_toArray, List.getElem_cons_zero, List.getElem_cons_succ, Act.put, List.setIfInBounds_toArray, List.set_cons_zero, List.set_cons_succ]
              refine wpAnyH_take (i := 13) (oi := _) (v := ?vz31) rfl (by kernel_rfl) (by kernel_rfl) (by kernel_rfl) (fun _ _ _ h => h) (Or.inl ⟨by rfl, ?hyz31⟩) (by assumption) ?restz31
              case hyz31 => (intro w hSw; (try dsimp only at hSw); go_simp; try with_reducible rfl)
              try simp only [List.getElem_toArray, List.getElem_cons_zero, List.getElem_cons_succ, Act.put, List.setIfInBounds_toArray, List.set_cons_zero, List.set_cons_succ]
              refine wpAnyH_ready (rs := [14]) (by kernel_rfl) (by simp) ?_
              refine AllReadyH.cons (o := _) rfl (fun KK hKK => ?_) (AllReadyH.nil)
              (refine step_store_blk (by rfl) 33 _ _ (by rfl) (b := w.heap.size) (c' := #[.slice C1 m1 e1', .slice C2 m2 e2', .slice C3 m3 e3', .int .i64 x2, .bool y2, .int .i64 z2', .bool u2, .bool v2]) (by rfl) (by rfl) ((HX6.out.fr0 hX7).b3) (by rfl) (by kernel_rfl) (by intro u hu; simp at hu; rcases hu with rfl | rfl | rfl | rfl | rfl | rfl | rfl | rfl <;> rfl) ?_; intro w8 hF8 hb8; have hX8 := (HX6.out.fr0 hX7).put h3R hv2 hF8 hb8)
              refine hKK.out _ _ ?hSz32 (fun hHeldz32 => ?restz32)
              case hSz32 => first | exact ⟨cell_of_blk hX8.b4 0, cell_of_blk hX8.b4 1⟩ | exact (HST.out _ hX7).2 | exact (HST.out _ hX1).2 | exact hs0
              clear hKK KK
              try simp only [List.getElem_toArray, List.getElem_cons_zero, List.getElem_cons_succ, Act.put, List.setIfInBounds_toArray, List.set_cons_zero, List.set_cons_succ]
              refine wpAnyH_ready (rs := [15]) (by kernel_rfl) (by simp) ?_
              refine AllReadyH.cons (o := _) rfl (fun KK hKK => ?_) (AllReadyH.nil)
              go_simp
              refine hKK.out _ _ ?hSz33 (fun hHeldz33 => ?restz33)
              case hSz33 => first | exact ⟨cell_of_blk hX8.b4 0, cell_of_blk hX8.b4 1⟩ | exact (HST.out _ hX7).2 | exact (HST.out _ hX1).2 | exact hs0
              clear hKK KK
              try simp only [List.getElem_toArray, List.getElem_cons_zero, List.getElem_cons_succ, Act.put, List.setIfInBounds_toArray, List.set_cons_zero, List.set_cons_succ]
              refine wpAnyH_done (by kernel_rfl) ?_ _
              have HX8 := Lib.hid hX8
              clear hX8
              by_cases hw0 : WE = 0
              · have HW2 := Lib.hid (HWU.out.1 hw0)
                clear HWU
                subst hw0
                go_wp2_with (first | ((with_reducible refine at_load 33 (.tmp 3) ?_ HX8.out.b3 Tryz.underlying33 rfl (by kernel_rfl) ?_); (focus rfl)) | ((go_at_call 65); (with_reducible refine (HFL2.out HW2.out.1 _ _ HX8.out.v).mono ?_); rintro e w9 ⟨cs3, rfl, hv3, hY3⟩; obtain ⟨F1, q1, g1, F2, q2, g2, F3, q3, g3, x3, y3, z3, u3, v3, hcs3⟩ := hv3.devC; subst hcs3; have HV3 := Lib.hid (And.intro hv3 hY3); clear hv3 hY3) | ((with_reducible refine at_store 33 (.tmp 6) (.tmp 104) (b := w.heap.size + 2) (c' := #[.slice F1 q1 g1, .slice F2 q2 g2, .slice F3 q3 g3, .int .i64 x3, .bool y3, .int .i64 z3, .bool u3, .bool v3]) ?_ ?_ (HV3.out.2.heap0 HX8.out.b6) ?_ ?_ ?_ ?_); (focus rfl); (focus rfl); (focus rfl); (focus kernel_rfl); (focus (intro u hu; simp at hu; rcases hu with rfl | rfl | rfl | rfl | rfl | rfl | rfl | rfl <;> rfl)); intro w10 hF10 hb10; have HZ := Lib.hid (And.intro hF10 hb10); clear hF10 hb10))
                refine bodyPost_ret (res_dev (b := w.heap.size + 2) Tryz.results19 HZ.out.2 rfl rfl) rfl ?_
                rw [HW2.out.2.1, HW2.out.2.2]
                exact ⟨_, rfl, HV3.out.1.frD (by rw [RefD.flush_len]; exact h3R) (HV3.out.2.heap0 HX8.out.b6) zeroDevC HZ.out.1, (HX8.out.fr.trans HV3.out.2).own HZ.out.1 (by omega)⟩
              · have k1 : (WE == 0) = false := by simpa using hw0
                have k2 : (WE != 0) = true := by simpa using hw0
                have HXR := Lib.hid (HWU.out.2 hw0)
                clear hw0 HWU
                go_wp2_with (first | ((with_reducible refine at_load 33 (.tmp 3) ?_ HX8.out.b3 Tryz.underlying33 rfl (by kernel_rfl) ?_); (focus rfl)) | ((with_reducible refine at_store 33 (.tmp 6) (.tmp 100) (b := w.heap.size + 2) (c' := #[.slice C1 m1 e1', .slice C2 m2 e2', .slice C3 m3 e3', .int .i64 x2, .bool y2, .int .i64 z2', .bool u2, .bool v2]) ?_ ?_ HX8.out.b6 ?_ ?_ ?_ ?_); (focus rfl); (focus rfl); (focus rfl); (focus kernel_rfl); (focus (intro u hu; simp at hu; rcases hu with rfl | rfl | rfl | rfl | rfl | rfl | rfl | rfl <;> rfl)); intro w10 hF10 hb10; have HZ := Lib.hid (And.intro hF10 hb10); clear hF10 hb10))
                refine bodyPost_ret (res_dev (b := w.heap.size + 2) Tryz.results19 HZ.out.2 rfl rfl) rfl ?_
                rw [HXR.out.1, HXR.out.2]
                exact ⟨_, rfl, HX8.out.v.frD h3R HX8.out.b6 zeroDevC HZ.out.1, HX8.out.fr.own HZ.out.1 (by omega)⟩
end Go.Proofs.YtffolfemcllfkaaGreatDoor

import Derived.Test.YtdkjmnhblepkaaaColdArg
import Derived.StillTailTactics
namespace Go.Proofs.Ytdkjmnhblepkaaa
open Go.RowKit
set_option linter.unusedVariables false
set_option linter.unusedSimpArgs false
set_option maxRecDepth 100000

/-! ColdPlaces -/
theorem pD_calm : ∀ D ∈ List.replicate 3 (newD ((12 : Nat) : Int)), Calm D := fun D hD => by rw [List.eq_of_mem_replicate hD]; exact ⟨rfl, rfl⟩
def PEnd (w wx : World) (x lb pb c g s6 : Nat) (ds : List (Nat × Nat × Nat)) : Prop := ∃ Ds C l, PW w wx x lb pb c g s6 ds Ds C l
theorem CL.far {w wr : World} {x lb pb c g b : Nat} {ds : List (Nat × Nat × Nat)} {Ds : List DevS} {C : ColdS} {l : List (PlaceS × Value)} (h : CL w wr x lb pb c g ds Ds C l) {cs : Array Value} {T : TypeId} (hb : wr.heap[b]? = some (.cells cs T (0, 0))) (h1 : T ≠ 76) (h2 : T ≠ 104) (h3 : T ≠ 60) : ¬ coldB ds g pb b := fun e => by
  rcases e with e | e | e
  · exact devsB_cells h.dev hb h1 e
  · subst e
    obtain ⟨cg, hg⟩ := fieldAt_blk h.col.code.fd
    rw [hg] at hb
    exact h2 (Obj.cells.inj (Option.some.inj hb)).2.1.symm
  · subst e
    rw [h.col.pls.blk] at hb
    exact h3 (Obj.cells.inj (Option.some.inj hb)).2.1.symm
theorem first_lt (C : ColdS) (hl : C.places.length = 4) (h : ¬ firstFree C.places = -1) : ∃ k : Nat, k < 4 ∧ firstFree C.places = (k : Int) := by
  rw [← lfN_all C hl] at h ⊢
  have gen : ∀ t, t ≤ 4 → lfN C t = -1 ∨ ∃ k : Nat, k < 4 ∧ lfN C t = (k : Int) := by
    intro t
    induction t with
    | zero => exact fun _ => .inl rfl
    | succ t ih =>
      intro ht
      show (if stv C (3 - t) = 0 then ((3 - t : Nat) : Int) else lfN C t) = -1 ∨ ∃ k : Nat, k < 4 ∧ (if stv C (3 - t) = 0 then ((3 - t : Nat) : Int) else lfN C t) = (k : Int)
      by_cases e : stv C (3 - t) = 0
      · rw [if_pos e]
        exact .inr ⟨3 - t, by omega, rfl⟩
      · rw [if_neg e]
        exact ih (by omega)
  rcases gen 4 (by omega) with e | e
  · exact absurd e h
  · exact e
theorem least_eq (C : ColdS) (t q : Nat) (hq : q = 3 - t) : lfN C (t + 1) = if stv C q = 0 then (q : Int) else lfN C t := by
  subst hq; rfl
set_option maxHeartbeats 16000000 in
theorem places_walk (L : Option Addr) (m cL : Nat) (w : World) (hT : CActsAt w L m) :
    Calls Try.prog 3 #[.slice L m cL] w fun e w' => e = .returned (.bool true) ∧ Fr none_ w w' := by
  have hdv : Calls Try.prog 4 #[.int .i64 3, .int .i64 12] w fun e w' => DevicesP w 12 3 e w' := devices_any 3 12 (by decide) (by decide) w
  have HDV := Lib.hid hdv
  have HT := Lib.hid hT
  have HSURE := Lib.hid (fun W => csure_any W)
  clear hdv hT
  go_enter Try.func3, Try.ntmps3
  go_wp2_with fail
  (with_reducible refine HDV.out.mono ?_)
  rintro e w1 ⟨A1, ca1, ds, rfl, hN, hA, hnil, hty, hF1⟩
  have hl3 := hN.len
  have hnew : Calls Try.prog 5 #[.slice A1 3 ca1, .agg #[.int .i64 2, .int .i64 1, .int .i64 0, .int .i64 4, .int .i64 100]] w1 fun e w' => CNewP w1 (ds.map (·.1)) (newCold 2 1 0 4 100) e w' := by
    have h9 := cnew_ok ds (List.replicate 3 (newD ((12 : Nat) : Int))) hN.at_ A1 ca1 hA 2 1 0 4 100 (by decide) (by decide) (by rw [hN.len]) (by decide) (by decide) (fun i h => by rw [List.getElem_replicate]; decide)
    rw [hN.len] at h9
    exact h9
  have HNEW := Lib.hid hnew
  have HN := Lib.hid (And.intro hN (And.intro hF1 hl3))
  clear hnew hN hA hnil hty hl3 hF1
  go_wp2_with fail
  (with_reducible refine HNEW.out.mono ?_)
  rintro e w2 ⟨⟨x, lb, pb, c, g, rfl, hcol, hx, hlb, hpb, hc, hg⟩, hF2⟩
  have S0 := CL.new HN.out.2.1 HN.out.1 hF2 hcol hpb hg
  have hz0 := S0.fr.size
  obtain ⟨s6, hs6⟩ : ∃ s6, s6 = w2.heap.size := ⟨_, rfl⟩
  obtain ⟨V, hV⟩ : ∃ V, V = w2.alloc (.cells #[.int .i64 0, .int .i64 0, .int .i64 0, .int .i64 0] 3) := ⟨_, rfl⟩
  have hP0 : PW w V x lb pb c g s6 ds (List.replicate 3 (newD ((12 : Nat) : Int))) (newCold 2 1 0 4 100) (List.replicate (newCold 2 1 0 4 100).places.length freeP) :=
    ⟨S0.step0 (by rw [hV]; exact (Fr.refl _ _).alloc _), by rw [hV, hs6]; exact heap_alloc_new _ _, by omega, ⟨rfl, rfl, rfl, rfl, rfl⟩, pD_calm, (fun D hD => by rw [List.eq_of_mem_replicate hD]; rfl), by decide⟩
  have HV := Lib.hid (And.intro hV hs6)
  have HP0 := Lib.hid hP0
  clear hP0 S0 hV hs6 hcol hx hlb hpb hc hg hF2 hz0
  go_wp2_with fail
  try rw [← HV.out.2]
  try rw [← HV.out.1]
  clear HV
  go_loopw [7] (fun iv wr => ∃ i : Nat, i ≤ m ∧ i ≤ 25 ∧ iv = .int .i64 (i : Int) ∧ PEnd w wr x lb pb c g s6 ds) (fun iv _ => m - (intOf iv).toNat)
  case atStart => exact ⟨0, by omega, by omega, rfl, _, _, _, HP0.out⟩
  case round =>
    obtain ⟨i, him, hi25, rfl, Ds, C, l, hS⟩ := hrel
    clear HP0
    by_cases hex : i < m ∧ i < 25
    · obtain ⟨h1, h2⟩ := hex
      obtain ⟨bL, oL, kd, nn, aa, A, nd, ca, d, Ak, nk, ck, kept, rfl, q0, q1, q2, q3, q4, hA, hK⟩ := HT.out i h1
      have h1i : (i : Int) < (m : Int) := by omega
      have h2i : (i : Int) < 25 := by omega
      have hfr := hS.cl.fr
      have e0 := hfr.cell0 q0
      have e1 := hfr.cell0 q1
      have e2 := hfr.cell0 q2
      have e3 := hfr.cell0 q3
      have e4 := hfr.cell0 q4
      obtain ⟨kk, hkk, hkw⟩ := ca_mod kd 13 (by omega) (by omega)
      replace hkw : wrap64 ((IntKind.u64.wrap kd).tmod 13) = (kk : Int) := hkw
      obtain ⟨X, hX⟩ : ∃ X, X = wr.alloc (.cells #[.int .i64 kd, .int .i64 nn, .int .i64 aa, .slice A nd ca, .slice Ak nk ck] 36) := ⟨_, rfl⟩
      have hbx : X.heap[wr.heap.size]? = some (.cells #[.int .i64 kd, .int .i64 nn, .int .i64 aa, .slice A nd ca, .slice Ak nk ck] 36 (0, 0)) := by rw [hX]; exact heap_alloc_new _ _
      have hFX : Fr none_ wr X := by rw [hX]; exact (Fr.refl _ _).alloc _
      have hSX := hS.step0 hFX
      obtain ⟨x17, hx17⟩ : ∃ x17, x17 = wr.heap.size := ⟨_, rfl⟩
      rw [← hx17] at hbx
      have d0 : X.cell? ⟨x17, 0, none⟩ = some (.int .i64 kd) := by rw [cell_of_blk hbx]; rfl
      have d2 : X.cell? ⟨x17, 2, none⟩ = some (.int .i64 aa) := by rw [cell_of_blk hbx]; rfl
      have d3 : X.cell? ⟨x17, 3, none⟩ = some (.slice A nd ca) := by rw [cell_of_blk hbx]; rfl
      have HSX := Lib.hid hSX
      have HXE := Lib.hid (And.intro hX hx17)
      have HA := Lib.hid (And.intro hA hbx)
      have HKW := Lib.hid hkw
      clear hS hSX hfr hbx hFX hX hx17 q0 q1 q2 q3 q4 hA hK hkw
      go_upto_block 2 with fail
      rw [← HXE.out.1, ← HXE.out.2]
      rw [HKW.out]
      clear e0 e1 e2 e3 e4
      go_cut [9, 10, 11, 12, 13, 14, 15, 16] (fun _ _ _ _ _ _ _ _ wx => PEnd w wx x lb pb c g s6 ds)
      case first =>
        have hPX := HSX.out
        by_cases h5 : kk = 5
        · subst h5
          obtain ⟨k, hk, hkw4⟩ := ca_mod aa 4 (by omega) (by omega)
          replace hkw4 : wrap64 ((IntKind.u64.wrap aa).tmod 4) = (k : Int) := hkw4
          have hkw5 : wrap64 ((IntKind.u64.wrap kd).tmod 13) = 5 := HKW.out
          have i4 : (0 : Int) ≤ (k : Int) ∧ (k : Int) < 4 := by omega
          have i5 : k < 4 := hk
          have hll := hPX.ll
          have hlst := hPX.lst k (by omega)
          have hcell := hPX.cell k hk
          by_cases hs1 : stv C k = 1
          · have hrel := release_ok hPX.cl.col k (by omega) (by rw [hlst]; exact hs1)
            rw [errV_0] at hrel
            have HREL := Lib.hid hrel
            clear hPX hll hlst hcell hrel
            go_wp2_with fail
            (with_reducible refine HREL.out.mono ?_)
            rintro e y1 ⟨rfl, hFy, hCy⟩
            obtain ⟨hsy, hPy⟩ := HSX.out.releaseOk hk hFy hCy
            have dy : y1.cell? ⟨s6, k, none⟩ = some (.int .i64 1) := by rw [cell_of_blk hsy, List.getElem?_toArray, sts_get C 0 k hk, if_neg (Nat.not_lt_zero k), hs1]; rfl
            have dyd : y1.drew.cell? ⟨s6, k, none⟩ = some (.int .i64 1) := dy
            have fy : y1.frozen? ⟨s6, k, none⟩ = false := frozen_of_blk hsy k
            have fyd : y1.drew.frozen? ⟨s6, k, none⟩ = false := fy
            have HPY := Lib.hid hPy
            clear hFy hCy hsy hPy hs1
            go_wp2_with fail
            go_still (by kernel_rfl)
            go_wp2_with fail
            go_meet
            first
              | exact ⟨_, _, _, HPY.out⟩
              | exact ⟨_, _, _, HPY.out.step0 (Fr.refl none_ _).drew⟩
          · have hrel := release_none hPX.cl.col (k : Int) (fun h => hs1 ((has_iff C hPX.cfg.2.2.2.2 k hk).1 h))
            rw [errV_n (by decide)] at hrel
            have HREL := Lib.hid hrel
            obtain ⟨sk, hsk⟩ : ∃ sk, sk = stv C k := ⟨_, rfl⟩
            rw [← hsk] at hs1 hcell
            have z1 : ((sk : Int) == 1) = false := by simp; omega
            clear hPX hll hlst hrel hsk
            go_wp2_with fail
            (with_reducible refine HREL.out.mono ?_)
            rintro e y1 ⟨rfl, hFy⟩
            have dy := hFy.cell0 hcell
            have dyd : y1.drew.cell? ⟨s6, k, none⟩ = some (.int .i64 (sk : Int)) := dy
            have HPY := Lib.hid (HSX.out.step0 hFy)
            clear hFy hcell
            go_wp2_with fail
            go_still (by kernel_rfl)
            go_wp2_with fail
            go_meet
            first
              | exact ⟨_, _, _, HPY.out⟩
              | exact ⟨_, _, _, HPY.out.step0 (Fr.refl none_ _).drew⟩
        · have z5 : ((kk : Int) == 5) = false := by simp; omega
          by_cases h6 : kk = 6
          · subst h6
            obtain ⟨k, hk, hkw4⟩ := ca_mod aa 4 (by omega) (by omega)
            replace hkw4 : wrap64 ((IntKind.u64.wrap aa).tmod 4) = (k : Int) := hkw4
            have hkw5 : wrap64 ((IntKind.u64.wrap kd).tmod 13) = 6 := HKW.out
            have hse := settle_any hPX.cl.col
            have HSE := Lib.hid hse
            have HGE := Lib.hid hPX.ge
            clear hPX hse z5 h5
            go_wp2_with fail
            (with_reducible refine HSE.out.mono ?_)
            rintro e y1 ⟨rfl, hFy, hCy⟩
            have HSW := Lib.hid (HSX.out.settled hFy hCy)
            clear hFy hCy
            go_wp2_with fail
            go_loopw [10] (fun jv wx => ∃ j : Nat, j ≤ 4 ∧ jv = .int .i64 (j : Int) ∧ SW w wx x lb pb c g s6 j ds Ds C l) (fun jv _ => 4 - (intOf jv).toNat)
            case atStart => exact ⟨0, by omega, rfl, HSW.out⟩
            case round =>
              obtain ⟨j, hj, rfl, hW⟩ := hrel
              by_cases hj4 : j < 4
              · have p1 : (j : Int) < 4 := by omega
                have p2 : (0 : Int) ≤ (j : Int) ∧ (j : Int) < 4 := by omega
                have cj := hW.cell hj4
                have fj : wr.frozen? ⟨s6, j, none⟩ = false := frozen_of_blk hW.st j
                by_cases hs2 : stv C j = 2
                · have hW2 := hW.next HGE.out hj4 hs2
                  rw [hs2] at cj
                  replace cj : wr.cell? ⟨s6, j, none⟩ = some (.int .i64 2) := cj
                  have HW2 := Lib.hid hW2
                  clear hW hW2 hs2
                  go_wp2_with fail
                  go_roundw
                  case rel => exact ⟨j + 1, by omega, by go_num, HW2.out⟩
                  case measure => simp [intOf]; omega
                · have hW2 := hW.same hs2
                  obtain ⟨sj, hsj⟩ : ∃ sj, sj = stv C j := ⟨_, rfl⟩
                  rw [← hsj] at cj hs2
                  have z1 : ((sj : Int) == 2) = false := by simp; omega
                  have HW2 := Lib.hid hW2
                  clear hW hW2 hsj
                  go_wp2_with fail
                  go_roundw
                  case rel => exact ⟨j + 1, by omega, by go_num, HW2.out⟩
                  case measure => simp [intOf]; omega
              · obtain rfl : j = 4 := by omega
                have HPE := Lib.hid (hW.all HSX.out)
                clear hW
                go_wp2_with fail
                go_roundw
                case rel => exact ⟨i + 1, by omega, by omega, by go_num, _, _, _, HPE.out⟩
                case measure => simp [intOf]; omega
          · have z6 : ((kk : Int) == 6) = false := by simp; omega
            have HCP := Lib.hid hPX.cfg.2.2.2.2
            have hAw : ∀ b, blkOf A b → 0 < d.length → b < w.heap.size := fun b hb h => HA.out.1.cells.lt hb (by rw [List.length_map]; exact h)
            have hln := HA.out.1.len
            have hcp := HA.out.1.cap
            have hsz : C.size = 100 := hPX.cfg.2.2.2.1
            have HAW := Lib.hid hAw
            have HLN := Lib.hid hln
            clear hAw hln
            by_cases hbad : nd = 0 ∨ 100 < nd
            · have hput := put_long hPX.cl.col A nd ca (by rw [hsz]; exact hbad)
              rw [errV_n (by decide)] at hput
              have HPUT := Lib.hid hput
              clear hput hPX hsz
              go_wp2_with fail
              (with_reducible refine HPUT.out.mono ?_)
              rintro e y1 ⟨rfl, hFy⟩
              have dl := hFy.cell0 d3
              have HB6 := Lib.hid (hFy.heap0 HSX.out.st)
              have HPY := Lib.hid (HSX.out.step0 hFy)
              clear hFy d0 d2 d3
              go_wp2_with fail
              go_loopw [14, 15] (fun lv jv wx => wx = y1 ∧ ∃ t : Nat, t ≤ 4 ∧ jv = .int .i64 (3 - (t : Int)) ∧ lv = .int .i64 (lfN C t)) (fun _ jv _ => (intOf jv + 1).toNat)
              case atStart => exact ⟨rfl, 0, by omega, rfl, rfl⟩
              case round =>
                obtain ⟨rfl, t, ht, rfl, rfl⟩ := hrel
                by_cases ht4 : t < 4
                · obtain ⟨q, hq⟩ : ∃ q : Nat, q = 3 - t := ⟨_, rfl⟩
                  have hqi : (3 : Int) - (t : Int) = (q : Int) := by omega
                  have hq2 : (3 : Int) - ((t + 1 : Nat) : Int) = (q : Int) - 1 := by omega
                  rw [hqi]
                  have p1 : (0 : Int) ≤ (q : Int) := by omega
                  have p2 : (0 : Int) ≤ (q : Int) ∧ (q : Int) < 4 := by omega
                  have p3 : q < 4 := by omega
                  have cq : wr.cell? ⟨s6, q, none⟩ = some (.int .i64 (stv C q : Int)) := by rw [cell_of_blk HB6.out, List.getElem?_toArray, sts_get C 0 q p3, if_neg (Nat.not_lt_zero q)]
                  have hl := least_eq C t q hq
                  obtain ⟨lv, hlv⟩ : ∃ lv, lv = lfN C t := ⟨_, rfl⟩
                  rw [← hlv] at hl ⊢
                  have HQ := Lib.hid (And.intro hq hq2)
                  by_cases s0 : stv C q = 0
                  · rw [s0, if_pos rfl] at hl
                    rw [s0] at cq
                    replace cq : wr.cell? ⟨s6, q, none⟩ = some (.int .i64 0) := cq
                    have HLV := Lib.hid hl
                    clear hl hlv hq hq2 hqi s0
                    go_wp2_with fail
                    go_roundw
                    case rel => exact ⟨trivial, t + 1, by omega, by rw [HQ.out.2], by rw [HLV.out]⟩
                    case measure => (have := HQ.out.1; simp [intOf] <;> omega)
                  · rw [if_neg s0] at hl
                    obtain ⟨sq, hsq⟩ : ∃ sq, sq = stv C q := ⟨_, rfl⟩
                    rw [← hsq] at cq s0
                    have z0 : ((sq : Int) == 0) = false := by simp; omega
                    have HLV := Lib.hid hl
                    clear hl hlv hq hq2 hqi hsq
                    go_wp2_with fail
                    go_roundw
                    case rel => exact ⟨trivial, t + 1, by omega, by rw [HQ.out.2], by rw [HLV.out]⟩
                    case measure => (have := HQ.out.1; simp [intOf] <;> omega)
                · obtain rfl : t = 4 := by omega
                  rw [show (3 : Int) - ((4 : Nat) : Int) = -1 by decide, lfN_all C HCP.out]
                  obtain ⟨ff, hff⟩ : ∃ ff, ff = firstFree C.places := ⟨_, rfl⟩
                  rw [← hff]
                  clear hff ht4
                  rcases hbad with q1 | q1
                  · have q2 : ¬ (0 : Int) < (nd : Int) := by omega
                    have q3 : ¬ 0 < nd := by omega
                    go_wp2_with fail
                    go_meet
                    exact ⟨_, _, _, HPY.out⟩
                  · have q2 : (0 : Int) < (nd : Int) := by omega
                    have q3 : 0 < nd := by omega
                    have q4 : ¬ (nd : Int) ≤ 100 := by omega
                    have q5 : ¬ nd ≤ 100 := by omega
                    go_wp2_with fail
                    go_meet
                    exact ⟨_, _, _, HPY.out⟩
            · have n1 : 0 < nd := by omega
              have n2 : nd ≤ 100 := by omega
              have n3 : (0 : Int) < (nd : Int) := by omega
              have n4 : (nd : Int) ≤ 100 := by omega
              clear hbad
              by_cases hff : firstFree C.places = -1
              · have hput := put_full hPX.cl.col A nd ca (by omega) (by rw [hsz]; exact n2) hff
                rw [errV_n (by decide)] at hput
                have HPUT := Lib.hid hput
                have HFF := Lib.hid hff
                clear hput hPX hsz hff
                go_wp2_with fail
                (with_reducible refine HPUT.out.mono ?_)
                rintro e y1 ⟨rfl, hFy⟩
                have dl := hFy.cell0 d3
                have HB6 := Lib.hid (hFy.heap0 HSX.out.st)
                have HPY := Lib.hid (HSX.out.step0 hFy)
                clear hFy d0 d2 d3
                go_wp2_with fail
                go_loopw [14, 15] (fun lv jv wx => wx = y1 ∧ ∃ t : Nat, t ≤ 4 ∧ jv = .int .i64 (3 - (t : Int)) ∧ lv = .int .i64 (lfN C t)) (fun _ jv _ => (intOf jv + 1).toNat)
                case atStart => exact ⟨rfl, 0, by omega, rfl, rfl⟩
                case round =>
                  obtain ⟨rfl, t, ht, rfl, rfl⟩ := hrel
                  by_cases ht4 : t < 4
                  · obtain ⟨q, hq⟩ : ∃ q : Nat, q = 3 - t := ⟨_, rfl⟩
                    have hqi : (3 : Int) - (t : Int) = (q : Int) := by omega
                    have hq2 : (3 : Int) - ((t + 1 : Nat) : Int) = (q : Int) - 1 := by omega
                    rw [hqi]
                    have p1 : (0 : Int) ≤ (q : Int) := by omega
                    have p2 : (0 : Int) ≤ (q : Int) ∧ (q : Int) < 4 := by omega
                    have p3 : q < 4 := by omega
                    have cq : wr.cell? ⟨s6, q, none⟩ = some (.int .i64 (stv C q : Int)) := by rw [cell_of_blk HB6.out, List.getElem?_toArray, sts_get C 0 q p3, if_neg (Nat.not_lt_zero q)]
                    have hl := least_eq C t q hq
                    obtain ⟨lv, hlv⟩ : ∃ lv, lv = lfN C t := ⟨_, rfl⟩
                    rw [← hlv] at hl ⊢
                    have HQ := Lib.hid (And.intro hq hq2)
                    by_cases s0 : stv C q = 0
                    · rw [s0, if_pos rfl] at hl
                      rw [s0] at cq
                      replace cq : wr.cell? ⟨s6, q, none⟩ = some (.int .i64 0) := cq
                      have HLV := Lib.hid hl
                      clear hl hlv hq hq2 hqi s0
                      go_wp2_with fail
                      go_roundw
                      case rel => exact ⟨trivial, t + 1, by omega, by rw [HQ.out.2], by rw [HLV.out]⟩
                      case measure => (have := HQ.out.1; simp [intOf] <;> omega)
                    · rw [if_neg s0] at hl
                      obtain ⟨sq, hsq⟩ : ∃ sq, sq = stv C q := ⟨_, rfl⟩
                      rw [← hsq] at cq s0
                      have z0 : ((sq : Int) == 0) = false := by simp; omega
                      have HLV := Lib.hid hl
                      clear hl hlv hq hq2 hqi hsq
                      go_wp2_with fail
                      go_roundw
                      case rel => exact ⟨trivial, t + 1, by omega, by rw [HQ.out.2], by rw [HLV.out]⟩
                      case measure => (have := HQ.out.1; simp [intOf] <;> omega)
                  · obtain rfl : t = 4 := by omega
                    rw [show (3 : Int) - ((4 : Nat) : Int) = -1 by decide, lfN_all C HCP.out]
                    rw [HFF.out]
                    clear ht4
                    go_wp2_with fail
                    go_meet
                    exact ⟨_, _, _, HPY.out⟩
              · obtain ⟨k, hk4, hfk⟩ : ∃ k : Nat, k < 4 ∧ firstFree C.places = (k : Int) := first_lt C HCP.out hff
                have hll := hPX.ll
                have hput := put_ok hPX.cl.col hPX.cl.dev A ca d ((HA.out.1.cells.fr0 hPX.cl.fr)) (fun b hb h => by have := HAW.out b hb h; have := hPX.cl.ge.2.1; omega) (by have := HLN.out; omega) (by have := HLN.out; omega) (by rw [hsz]; have := HLN.out; omega) k hfk (by omega) hPX.calm hPX.fit
                rw [← HLN.out] at hput
                have HPUT := Lib.hid hput
                have HFF := Lib.hid hfk
                clear hput hPX hsz hff hfk hll
                go_wp2_with fail
                (with_reducible refine HPUT.out.mono ?_)
                rintro e y1 hpo
                obtain ⟨rfl, hFy, hb6, Ds', C', l', hPy⟩ := HSX.out.putOk hk4 hpo
                have dl : y1.cell? ⟨x17, 3, none⟩ = some (.slice A nd ca) := by
                  rw [cell_of_blk (hFy.heap HA.out.2 (HSX.out.cl.far HA.out.2 (by decide) (by decide) (by decide)))]; rfl
                have fk : y1.frozen? ⟨s6, k, none⟩ = false := frozen_of_blk hb6 k
                have ck : y1.cell? ⟨s6, k, none⟩ = some (.int .i64 (stv C k : Int)) := by rw [cell_of_blk hb6, List.getElem?_toArray, sts_get C 0 k hk4, if_neg (Nat.not_lt_zero k)]
                obtain ⟨sk, hsk⟩ : ∃ sk, sk = stv C k := ⟨_, rfl⟩
                rw [← hsk] at ck
                have HB6 := Lib.hid hb6
                have HPY := Lib.hid hPy
                clear hFy hb6 hpo hPy hsk d0 d2 d3
                go_wp2_with fail
                go_loopw [14, 15] (fun lv jv wx => wx = y1 ∧ ∃ t : Nat, t ≤ 4 ∧ jv = .int .i64 (3 - (t : Int)) ∧ lv = .int .i64 (lfN C t)) (fun _ jv _ => (intOf jv + 1).toNat)
                case atStart => exact ⟨rfl, 0, by omega, rfl, rfl⟩
                case round =>
                  obtain ⟨rfl, t, ht, rfl, rfl⟩ := hrel
                  by_cases ht4 : t < 4
                  · obtain ⟨q, hq⟩ : ∃ q : Nat, q = 3 - t := ⟨_, rfl⟩
                    have hqi : (3 : Int) - (t : Int) = (q : Int) := by omega
                    have hq2 : (3 : Int) - ((t + 1 : Nat) : Int) = (q : Int) - 1 := by omega
                    rw [hqi]
                    have p1 : (0 : Int) ≤ (q : Int) := by omega
                    have p2 : (0 : Int) ≤ (q : Int) ∧ (q : Int) < 4 := by omega
                    have p3 : q < 4 := by omega
                    have cq : wr.cell? ⟨s6, q, none⟩ = some (.int .i64 (stv C q : Int)) := by rw [cell_of_blk HB6.out, List.getElem?_toArray, sts_get C 0 q p3, if_neg (Nat.not_lt_zero q)]
                    have hl := least_eq C t q hq
                    obtain ⟨lv, hlv⟩ : ∃ lv, lv = lfN C t := ⟨_, rfl⟩
                    rw [← hlv] at hl ⊢
                    have HQ := Lib.hid (And.intro hq hq2)
                    by_cases s0 : stv C q = 0
                    · rw [s0, if_pos rfl] at hl
                      rw [s0] at cq
                      replace cq : wr.cell? ⟨s6, q, none⟩ = some (.int .i64 0) := cq
                      have HLV := Lib.hid hl
                      clear hl hlv hq hq2 hqi s0
                      go_wp2_with fail
                      go_roundw
                      case rel => exact ⟨trivial, t + 1, by omega, by rw [HQ.out.2], by rw [HLV.out]⟩
                      case measure => (have := HQ.out.1; simp [intOf] <;> omega)
                    · rw [if_neg s0] at hl
                      obtain ⟨sq, hsq⟩ : ∃ sq, sq = stv C q := ⟨_, rfl⟩
                      rw [← hsq] at cq s0
                      have z0 : ((sq : Int) == 0) = false := by simp; omega
                      have HLV := Lib.hid hl
                      clear hl hlv hq hq2 hqi hsq
                      go_wp2_with fail
                      go_roundw
                      case rel => exact ⟨trivial, t + 1, by omega, by rw [HQ.out.2], by rw [HLV.out]⟩
                      case measure => (have := HQ.out.1; simp [intOf] <;> omega)
                  · obtain rfl : t = 4 := by omega
                    rw [show (3 : Int) - ((4 : Nat) : Int) = -1 by decide, lfN_all C HCP.out]
                    rw [HFF.out]
                    clear ht4
                    have i1 : (0 : Int) ≤ (k : Int) := by omega
                    have i2 : (0 : Int) ≤ (k : Int) ∧ (k : Int) < 4 := by omega
                    have i3 : ((k : Int) != (k : Int)) = false := by simp
                    go_wp2_with fail
                    go_meet
                    exact ⟨_, _, _, HPY.out⟩
      case rest =>
        obtain ⟨Ds2, C2, l2, hP2⟩ := hcut
        obtain ⟨cd, cm, cf, cs, cp⟩ := hP2.cfg
        have hrm := fun (W : World) (hW : Fr none_ wc W) => room_any (hP2.cl.col.fr0 hW)
        have hus := fun (W : World) (hW : Fr none_ wc W) => used_any (hP2.cl.col.fr0 hW)
        rw [cp] at hrm hus
        have hcell := fun j (hj : j < 4) => hP2.cell j hj
        have hfs : ∀ j, j < 4 → freeN C2.places (j + 1) = freeN C2.places j + if stv C2 j = 0 then 1 else 0 := fun j hj => by rw [stv_at C2 j (by omega)]; exact freeN_succ C2.places j (by omega)
        have hus2 : ∀ j, j < 4 → usedL C2.places (j + 1) = usedL C2.places j ++ if stv C2 j = 1 then [j] else [] := fun j hj => by rw [stv_at C2 j (by omega)]; exact usedL_succ C2.places j (by omega)
        have hul := fun j => usedL_len C2.places j
        have hfl := fun j => freeN_le C2.places j
        have HC := Lib.hid (And.intro hP2 (And.intro hrm (And.intro hus (And.intro hcell (And.intro hfs (And.intro hus2 (And.intro hul hfl)))))))
        clear hP2 hrm hus hcell hfs hus2 hul hfl cd cm cf cs cp HSX d0 d2 d3
        go_wp2_with fail
        go_loopw [17, 18, 19] (fun fv uv jv wr => ∃ j : Nat, j ≤ 4 ∧ jv = .int .i64 (j : Int) ∧ fv = .int .i64 (freeN C2.places j : Nat) ∧ Fr none_ wc wr ∧ wr.ownsRow wc.heap.size 3 1 uv (usedL C2.places j).length ((usedL C2.places j).map natV)) (fun _ _ jv _ => 4 - (intOf jv).toNat)
        case atStart => exact ⟨0, by omega, rfl, rfl, Fr.refl _ _, World.ownsRow_nil _ _ _ _⟩
        case round =>
          obtain ⟨j, hj, rfl, rfl, hF, ho⟩ := hrel
          obtain ⟨hP2, hrm, hus, hcell, hfs, hus2, hul, hfl⟩ := HC.out
          by_cases hj4 : j < 4
          · have p1 : (j : Int) < 4 := by omega
            have p2 : (0 : Int) ≤ (j : Int) ∧ (j : Int) < 4 := by omega
            have cj := hF.cell0 (hcell j hj4)
            have f1 := hfs j hj4
            have f2 := hus2 j hj4
            have f3 := hfl j
            have f4 := hul j
            obtain ⟨fj, hfj⟩ : ∃ fj, fj = freeN C2.places j := ⟨_, rfl⟩
            obtain ⟨U, hU⟩ : ∃ U, U = usedL C2.places j := ⟨_, rfl⟩
            rw [← hfj] at f1 f3 ⊢
            rw [← hU] at f2 f4 ho
            have hsz := hF.size
            by_cases s0 : stv C2 j = 0
            · rw [s0, if_pos rfl] at f1
              rw [s0, if_neg (by decide), List.append_nil] at f2
              rw [s0] at cj
              replace cj : wr.cell? ⟨s6, j, none⟩ = some (.int .i64 0) := cj
              have HF := Lib.hid (And.intro f1 (And.intro f2 (And.intro hF ho)))
              clear f1 f2 f4 hF ho s0 hP2 hrm hus hcell hfs hus2 hul hfl hfj hU hsz
              go_wp2_with fail
              go_roundw
              case rel => exact ⟨j + 1, by omega, by go_num, by rw [HF.out.1]; go_num, HF.out.2.2.1, by rw [HF.out.2.1]; exact HF.out.2.2.2⟩
              case measure => simp [intOf]; omega
            · rw [if_neg s0] at f1
              by_cases s1 : stv C2 j = 1
              · rw [s1, if_pos rfl] at f2
                rw [s1] at cj
                replace cj : wr.cell? ⟨s6, j, none⟩ = some (.int .i64 1) := cj
                have howna := ownsRow_fr0 ho ((Fr.refl none_ wr).alloc (.cells #[.int .i64 (j : Int)] 3))
                have hFa := hF.alloc (.cells #[.int .i64 (j : Int)] 3)
                have HAZ := Lib.hid (CellsAt.one wr (.int .i64 (j : Int)) 3)
                have HF := Lib.hid (And.intro f1 (And.intro f2 (And.intro hF ho)))
                clear f1 f2 hF ho s0 s1 hP2 hrm hus hcell hfs hus2 hul hfl hfj hU
                go_wp2_with ((with_reducible refine at_append (.tmp 160) (.tmp 162) 32 wc.heap.size 3 (.int .i64 0) 1 8 (n := U.length) (A := some ⟨wr.heap.size, 0, none⟩) (m := 1) (c := 1) (news := [.int .i64 (j : Int)]) Try.underlying32 info_intC ?_ ?_ ?_ ?_ howna HAZ.out ?_ ?_ ?_ ?_ ?_ ?_ ?_); (focus rfl); (focus decide); (focus rfl); (focus rfl); (focus (intro h; cases h)); (focus rfl); (focus (intro u hu; rw [List.mem_singleton.1 hu]; rfl)); (focus (unfold maxLen; omega)); (focus omega); (focus (rw [World.size_alloc]; omega)); intro v' w4 hown4 hg4; have H4 := Lib.hid (And.intro hown4 (Fr.grown hFa hg4 howna (Nat.le_refl _))); clear hown4 hg4)
                go_roundw
                case rel => exact ⟨j + 1, by omega, by go_num, by rw [HF.out.1]; rfl, H4.out.2, by rw [HF.out.2.1, List.map_append, List.length_append]; exact H4.out.1⟩
                case measure => simp [intOf]; omega
              · rw [if_neg s1, List.append_nil] at f2
                obtain ⟨sj, hsj⟩ : ∃ sj, sj = stv C2 j := ⟨_, rfl⟩
                rw [← hsj] at cj s0 s1
                have z0 : ((sj : Int) == 0) = false := by simp; omega
                have z1 : ((sj : Int) == 1) = false := by simp; omega
                have HF := Lib.hid (And.intro f1 (And.intro f2 (And.intro hF ho)))
                clear f1 f2 f4 hF ho hP2 hrm hus hcell hfs hus2 hul hfl hfj hU hsz hsj
                go_wp2_with fail
                go_roundw
                case rel => exact ⟨j + 1, by omega, by go_num, by rw [HF.out.1]; rfl, HF.out.2.2.1, by rw [HF.out.2.1]; exact HF.out.2.2.2⟩
                case measure => simp [intOf]; omega
          · obtain rfl : j = 4 := by omega
            obtain ⟨Au, cu, rfl, u1, u2, u3, u4⟩ := ownsRow_read ho
            have hrmc := hrm wr hF
            have husc := fun W (hW : Fr none_ wr W) => hus W (hF.trans hW)
            obtain ⟨fj, hfj⟩ : ∃ fj, fj = freeN C2.places 4 := ⟨_, rfl⟩
            obtain ⟨U, hU⟩ : ∃ U, U = usedL C2.places 4 := ⟨_, rfl⟩
            have hUl := hul 4
            rw [← hfj] at hrmc ⊢
            rw [← hU] at husc u1 hUl ⊢
            have HRM := Lib.hid hrmc
            have HUS := Lib.hid husc
            have HU := Lib.hid (And.intro u1 (And.intro hF hUl))
            have z1 : ((fj : Int) != (fj : Int)) = false := by simp
            clear hrmc husc u1 u2 u3 u4 hF hUl ho hP2 hrm hus hcell hfs hus2 hul hfl hfj hU
            go_wp2_with fail
            (with_reducible refine HRM.out.mono ?_)
            rintro e y1 ⟨rfl, hY1⟩
            go_wp2_with fail
            (with_reducible refine (HUS.out y1 hY1).mono ?_)
            rintro e y2 ⟨Av, cv, rfl, hv1, hv2, hY2⟩
            have hin := ints_any (w := y2) Av Au cv cu U.length U.length U U rfl rfl hv1 ((HU.out.1.fr0 hY1).fr0 hY2) (by have := HU.out.2.2; omega) (by have := HU.out.2.2; omega)
            rw [show decide (U = U) = true by simp] at hin
            have HIN := Lib.hid hin
            clear hin hv1 hv2
            go_wp2_with fail
            (with_reducible refine HIN.out.mono ?_)
            rintro e y3 ⟨rfl, hY3⟩
            go_wp2_with fail
            go_roundw
            case rel => exact ⟨i + 1, by omega, by omega, by go_num, _, _, _, HC.out.1.step0 (((HU.out.2.1.trans hY1).trans hY2).trans hY3)⟩
            case measure => simp [intOf]; omega
    · have HPE := Lib.hid hS.cl.fr
      clear hS
      by_cases h1 : i < m
      · have h1i : (i : Int) < (m : Int) := by omega
        have h2i : ¬ (i : Int) < 25 := by omega
        have h2n : ¬ i < 25 := by omega
        go_wp2_with fail
        (with_reducible refine (HSURE.out _).mono ?_)
        rintro e y1 ⟨rfl, hY1⟩
        go_wp2_with fail
        go_ret
        exact ⟨rfl, HPE.out.trans hY1⟩
      · have h1i : ¬ (i : Int) < (m : Int) := by omega
        go_wp2_with fail
        (with_reducible refine (HSURE.out _).mono ?_)
        rintro e y1 ⟨rfl, hY1⟩
        go_wp2_with fail
        go_ret
        exact ⟨rfl, HPE.out.trans hY1⟩
end Go.Proofs.Ytdkjmnhblepkaaa

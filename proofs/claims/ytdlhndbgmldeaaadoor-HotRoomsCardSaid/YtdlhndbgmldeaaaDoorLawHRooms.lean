import Derived.Test.YtdlhndbgmldeaaaDoorHLocs
import Derived.Test.YtdlhndbgmldeaaaDoorLawNum17
namespace Go.Proofs.YtdlhndbgmldeaaaDoor
open Go.RowKit
set_option linter.unusedVariables false
set_option linter.unusedSimpArgs false
set_option maxRecDepth 100000

/-! HotRooms -/
structure RmW (w w2 wr : World) (h bx p m1 m2 : Nat) (H : HotS) (D : DevS) (ls : List LocS) (v : Value) : Prop where
  st : HS w wr h bx p m1 m2 H D
  inv : RmInv H ls
  own : wr.ownsRow w2.heap.size 37 4 v ls.length (ls.flatMap locC)
  grow : w2.heap.size ≤ wr.heap.size
theorem RmW.step0 {w w2 wr w' : World} {h bx p m1 m2 : Nat} {H : HotS} {D : DevS} {ls : List LocS} {v : Value} (R : RmW w w2 wr h bx p m1 m2 H D ls v) (hF : Fr none_ wr w') : RmW w w2 w' h bx p m1 m2 H D ls v :=
  ⟨R.st.step0 hF, R.inv, ownsRow_fr0 R.own hF, Nat.le_trans R.grow hF.size⟩
theorem RmW.put0 {w w2 wr w' : World} {h bx p m1 m2 : Nat} {H : HotS} {D : DevS} {ls : List LocS} {v : Value} (R : RmW w w2 wr h bx p m1 m2 H D ls v) (hb : bx < w2.heap.size) (hd : ∀ i, devBlks p m1 m2 i → i < w2.heap.size) (S' : HS w w' h bx p m1 m2 H D) (hF : Fr (fun k => k = bx ∨ devBlks p m1 m2 k) wr w') : RmW w w2 w' h bx p m1 m2 H D ls v :=
  ⟨S', R.inv, ownsRow_far R.own hF (fun k e => by rcases e with e | e; omega; exact hd k e), Nat.le_trans R.grow hF.size⟩
set_option maxHeartbeats 16000000 in
theorem hrooms_walk (L : Option Addr) (m cL : Nat) (w : World) (hg : ErrT w) (hT : HActsAt w L m) :
    Calls Tryd.prog 3 #[.slice L m cL] w fun e w' => e = .returned (.bool true) ∧ Fr none_ w w' := by
  have hnum : ∀ w', Fr none_ w w' → Calls Tryd.prog 10 #[errV 10] w' fun e w'' => e = .returned (.int .i64 10) ∧ Fr none_ w' w'' := fun w' hF => num17_any 10 w' (hg.fr0 hF)
  rw [errV_n (by decide)] at hnum
  have HN := Lib.hid hnum
  have HT := Lib.hid hT
  clear hnum hT hg
  go_enter Tryd.func3, Tryd.ntmps3
  go_wp2_with fail
  (with_reducible refine (new_ok 12 _ (by decide) (by decide)).mono ?_)
  rintro e w1 ⟨p, m1, m2, rfl, hF1, hD1, hfr⟩
  rw [errV_0]
  have hF1' : Fr none_ w (w1.alloc (.cells #[.int .i64 2, .int .i64 5, .int .i64 2] 29)) := hF1.alloc _
  have hD1' := hD1.fr0 ((Fr.refl none_ w1).alloc (.cells #[.int .i64 2, .int .i64 5, .int .i64 2] 29))
  have hnew : Calls Tryd.prog 7 #[ptr p, .agg #[.int .i64 2, .int .i64 5, .int .i64 2]] (w1.alloc (.cells #[.int .i64 2, .int .i64 5, .int .i64 2] 29)) fun e w' => HotNew (w1.alloc (.cells #[.int .i64 2, .int .i64 5, .int .i64 2] 29)) p (newH 2 5 2) e w' := hnew_any hD1' 2 5 2 (by decide) (by decide) (by decide) (by decide) made5
  have HNEW := Lib.hid hnew
  clear hnew
  go_wp2_with fail
  (with_reducible refine HNEW.out.mono ?_)
  rintro e w2 ⟨⟨h, bx, rfl, hh, g1, g2⟩, hF2⟩
  rw [errV_0]
  have S0 := hs_new hD1' hF1' hfr (by decide) hh g1 g2 hF2
  have hrm : Calls Tryd.prog 8 #[ptr h] w2 fun e w' => e = .returned (.int .i64 640) ∧ Fr none_ w2 w' := hroom_any S0.hd.hot S0.ok
  have HRM := Lib.hid hrm
  have hbB := blk_lt S0.hd.hot.bxs
  have hhB := blk_lt S0.hd.hot.blk
  have hdB := S0.hd.dev.lt
  have hwB := S0.fr.size
  clear hrm hh g1 g2 hD1 hD1' hF1' hF2 hfr hF1
  go_wp2_with fail
  (with_reducible refine HRM.out.mono ?_)
  rintro e w3 ⟨rfl, hF3⟩
  have R0 : RmW w w2 w3 h bx p m1 m2 (newH 2 5 2) (newD 12) [] (.slice none 0 0) := ⟨S0.step0 hF3, rm_new, by simpa using World.ownsRow_nil _ _ _ _, hF3.size⟩
  clear S0 hF3
  go_wp2_with fail
  go_loopw [8, 9] (fun v i wr => ∃ k : Nat, ∃ H D ls, k ≤ m ∧ k ≤ 30 ∧ ls.length ≤ k ∧ i = .int .i64 (k : Int) ∧ RmW w w2 wr h bx p m1 m2 H D ls v) (fun _ i _ => m - (intOf i).toNat)
  case atStart => exact ⟨0, _, _, [], by omega, by omega, by simp, rfl, R0⟩
  case round =>
    obtain ⟨k, H, D, ls, hkm, hk30, hlk, rfl, hR⟩ := hrel
    clear R0
    by_cases hex : k < m ∧ k < 30
    · obtain ⟨h1, h2⟩ := hex
      obtain ⟨bL, oL, kd, nn, A, n, c, l, rfl, hc0, hc1, hc2, hTx⟩ := HT.out k h1
      have h1i : (k : Int) < (m : Int) := by omega
      have h2i : (k : Int) < 30 := by omega
      have hfr := hR.st.fr
      have e2 := hfr.cell0 hc2
      have hl := hTx.len
      have hsz : H.sectors * 64 = 128 := by rw [hR.inv.sectors]
      have HL := Lib.hid hl
      clear hl
      have hu128 : ∀ j, (H.bx j).used ≤ 128 := fun j => by have := (ok_bx hR.st.ok j).1; omega
      by_cases hbad : n = 0 ∨ 128 < n
      · have hput := hR.st.put_long A n c (by omega)
        have HP := Lib.hid hput
        clear hput
        go_wp2_with fail
        (with_reducible refine HP.out.mono ?_)
        rintro e w4 ⟨rfl, S4, hF4⟩
        rw [errV_n (by decide)]
        have R4 := hR.put0 hbB hdB S4 hF4
        obtain ⟨V, hV⟩ : ∃ V, V = w4.alloc (.cells #[.int .i64 0, .int .i64 0, .int .i64 0, .int .u32 0] 37) := ⟨_, rfl⟩
        have R5 := R4.step0 (hV ▸ (Fr.refl none_ w4).alloc _ : Fr none_ w4 V)
        have e3 := R5.st.fr.cell0 hc2
        go_upto_region 11 with fail
        rw [← hV]
        clear hV S4 hF4 R4 hR e2
        rcases hbad with q1 | q1
        · have q2 : ¬ (0 : Int) < (n : Int) := by omega
          have q3 : ¬ 0 < n := by omega
          go_wp2_with fail
          go_roundw
          case rel => exact ⟨k + 1, H, D, ls, by omega, by omega, by omega, by go_num, R5⟩
          case measure => simp [intOf]; omega
        · have q2 : (0 : Int) < (n : Int) := by omega
          have q3 : 0 < n := by omega
          have q4 : ¬ (n : Int) ≤ 128 := by omega
          have q5 : ¬ n ≤ 128 := by omega
          go_wp2_with fail
          go_roundw
          case rel => exact ⟨k + 1, H, D, ls, by omega, by omega, by omega, by go_num, R5⟩
          case measure => simp [intOf]; omega
      · have n1 : 0 < n := by omega
        have n2 : n ≤ 128 := by omega
        have n3 : (0 : Int) < (n : Int) := by omega
        have n4 : (n : Int) ≤ 128 := by omega
        clear hbad
        cases hp : H.prep n with
        | none =>
          have hput := hR.st.put_full A n c n1 (by omega) hp
          have hfull := hR.inv.full hp
          have HP := Lib.hid hput
          clear hput hp
          go_wp2_with fail
          (with_reducible refine HP.out.mono ?_)
          rintro e w4 ⟨rfl, S4, hF4⟩
          rw [errV_n (by decide)]
          have R4 := hR.put0 hbB hdB S4 hF4
          obtain ⟨V, hV⟩ : ∃ V, V = w4.alloc (.cells #[.int .i64 0, .int .i64 0, .int .i64 0, .int .u32 0] 37) := ⟨_, rfl⟩
          have R5 := R4.step0 (hV ▸ (Fr.refl none_ w4).alloc _ : Fr none_ w4 V)
          have e3 := R5.st.fr.cell0 hc2
          go_upto_region 11 with fail
          rw [← hV]
          clear hV S4 hF4 R4 hR e2
          go_wp2_with fail
          (with_reducible refine (HN.out _ R5.st.fr).mono ?_)
          rintro e w5 ⟨rfl, hF5⟩
          have R6 := R5.step0 hF5
          have hrm := hroom_any R6.st.hd.hot R6.st.ok
          have HRM2 := Lib.hid hrm
          obtain ⟨rn, hrn⟩ : ∃ rn, rn = H.roomN := ⟨_, rfl⟩
          rw [← hrn] at hfull
          have HRN := Lib.hid hrn
          have q1 : ¬ (256 : Int) ≤ (rn : Int) := by omega
          have q2 : ¬ 256 ≤ rn := by omega
          clear hrm hrn
          go_wp2_with fail
          (with_reducible refine HRM2.out.mono ?_)
          rintro e w6 ⟨rfl, hF6⟩
          rw [← HRN.out]
          have R7 := R6.step0 hF6
          go_wp2_with fail
          go_roundw
          case rel => exact ⟨k + 1, H, D, ls, by omega, by omega, by omega, by go_num, R7⟩
          case measure => simp [intOf]; omega
        | some x =>
          obtain ⟨H1, i_⟩ := x
          have hAp : Apart bx p m1 m2 A := hR.st.apart_old (fun b hb => hTx.cells.lt hb (by rw [List.length_map]; have := HL.out; omega))
          have hput := hR.st.put A n c l HL.out n1 (by omega) (hTx.cells.fr0 hfr) hAp H1 i_ hp
          have hPB := putB_of hR.inv.tidy hp
          have hap := hR.inv.apart hp
          have hinv := hR.inv.put n1 hp (sumF l)
          obtain ⟨u, hu⟩ : ∃ u, u = (H1.bx i_).used := ⟨_, rfl⟩
          have hu1 : u + n ≤ 128 := by
            have := prep_some hR.st.ok (by omega) hp
            have h2 := this.fit
            rw [this.sectors] at h2
            omega
          rw [← hu] at hput hap hinv
          have hi5 : i_ < 5 := by have := hPB.lt; rw [hR.inv.len] at this; exact this
          obtain ⟨H2, hH2⟩ : ∃ H2, H2 = H1.after i_ n := ⟨_, rfl⟩
          obtain ⟨D2, hD2⟩ : ∃ D2, D2 = hwrite D H1 i_ u l := ⟨_, rfl⟩
          rw [← hH2] at hput hinv
          rw [← hD2] at hput
          obtain ⟨sm, hsm⟩ : ∃ sm, sm = sumF l := ⟨_, rfl⟩
          rw [← hsm] at hput hinv
          have HP := Lib.hid hput
          have HAP := Lib.hid hap
          have HINV := Lib.hid hinv
          clear hput hap hinv hu hH2 hD2 hsm hPB hp hAp
          go_wp2_with fail
          (with_reducible refine HP.out.mono ?_)
          rintro e w4 ⟨rfl, S4, hF4⟩
          rw [errV_0]
          have own4 := ownsRow_far hR.own hF4 (fun k e => by rcases e with e | e; omega; exact hdB k e)
          have gr4 := Nat.le_trans hR.grow hF4.size
          have hlocs := hR.inv.locs
          have HLC := Lib.hid hlocs
          obtain ⟨V, hV⟩ : ∃ V, V = w4.alloc (.cells #[.int .i64 (i_ : Int), .int .i64 (u : Int), .int .i64 (n : Int), .int .u32 (sm : Int)] 37) := ⟨_, rfl⟩
          have hFV : Fr none_ w4 V := hV ▸ (Fr.refl none_ w4).alloc _
          have hxV : V.heap[w4.heap.size]? = some (.cells #[.int .i64 (i_ : Int), .int .i64 (u : Int), .int .i64 (n : Int), .int .u32 (sm : Int)] 37 (0, 0)) := hV ▸ heap_alloc_new _ _
          have S5 := S4.step0 hFV
          have own5 := ownsRow_fr0 own4 hFV
          have gr5 := Nat.le_trans gr4 hFV.size
          clear hR hlocs S4 own4 gr4 hFV e2
          obtain ⟨A', c', rfl, hA', hc', hnil', hbl'⟩ := ownsRow_read own5
          go_wp2_with fail
          rw [← hV]
          clear hV
          have hlen30 : ls.length ≤ 30 := by omega
          obtain ⟨x0, x1, x2, x3⟩ := res_cell4 hxV
          obtain ⟨q, hq⟩ : ∃ q, q = ls.length := ⟨_, rfl⟩
          rw [← hq]
          have HQ := Lib.hid hq
          have HS5 := Lib.hid S5
          have HOWN := Lib.hid own5
          clear x0 x1 x2 x3 hq S5 own5
          go_loopw [12] (fun i wq => ∃ j : Nat, j ≤ q ∧ i = .int .i64 (j : Int) ∧ Fr none_ V wq) (fun i _ => q - (intOf i).toNat)
          case atStart => exact ⟨0, by omega, rfl, Fr.refl _ _⟩
          case round =>
            obtain ⟨j, hj, rfl, hFq⟩ := hrel
            by_cases hjl : j < q
            · have hjl2 : j < ls.length := by have := HQ.out; omega
              obtain ⟨ga, oa, rfl⟩ := hA'.addr (by rw [flatMap_len locC 4 (fun _ => rfl)]; omega)
              obtain ⟨y0, y1, y2, y3⟩ := loc_cells (hA'.fr0 hFq) j hjl2
              have xa := fun o => res_cell4 (heap_alloc_old (hFq.heap0 hxV) o)
              have x0 := fun o => (xa o).1
              have x1 := fun o => (xa o).2.1
              have x2 := fun o => (xa o).2.2.1
              clear xa
              have hy := HLC.out ls[j] (List.getElem_mem _)
              have hya := HAP.out ls[j] (List.getElem_mem _)
              obtain ⟨y, hyy⟩ : ∃ y, y = ls[j] := ⟨_, rfl⟩
              rw [← hyy] at y0 y1 y2 y3 hy hya
              have hyu := hu128 y.box
              have hyb : y.fr + y.n ≤ 128 := by omega
              obtain ⟨yb, hb0⟩ : ∃ yb, yb = y.box := ⟨_, rfl⟩
              obtain ⟨yf, hf0⟩ : ∃ yf, yf = y.fr := ⟨_, rfl⟩
              obtain ⟨yn, hn0⟩ : ∃ yn, yn = y.n := ⟨_, rfl⟩
              rw [← hb0] at y0 hya
              rw [← hf0] at y1 hya hyb
              rw [← hn0] at y2 hya hyb
              clear hyy hyu hy hb0 hf0 hn0
              have j1 : (j : Int) < (q : Int) := by omega
              have j2 : (0 : Int) ≤ (j : Int) := by omega
              by_cases hbox : yb = i_
              · have hge := hya hbox
                subst hbox
                have p1 : ¬ (u : Int) < (yf : Int) + (yn : Int) := by omega
                have p2 : ¬ u < yf + yn := by omega
                clear hya
                have p3 : (yf : Int) < (u : Int) + (n : Int) := by omega
                have p4 : yf < u + n := by omega
                go_wp2_with fail
                go_roundw
                case rel => exact ⟨j + 1, by omega, by go_num, hFq.alloc _⟩
                case measure => simp [intOf]; omega
              · have p1 : ¬ (yb : Int) = (i_ : Int) := by omega
                have p2 : ((yb : Int) == (i_ : Int)) = false := by rw [beq_eq_false_iff_ne]; exact p1
                clear hya
                go_wp2_with fail
                go_roundw
                case rel => exact ⟨j + 1, by omega, by go_num, hFq.alloc _⟩
                case measure => simp [intOf]; omega
            · have hjq : ¬ (j : Int) < (q : Int) := by omega
              obtain ⟨x0, x1, x2, x3⟩ := res_cell4 (hFq.heap0 hxV)
              have S6 := HS5.out.step0 hFq
              have own6 := ownsRow_fr0 HOWN.out hFq
              have gr6 := Nat.le_trans gr5 hFq.size
              have hal := (Fr.refl none_ wr).alloc (.cells #[.int .i64 (i_ : Int), .int .i64 (u : Int), .int .i64 (n : Int), .int .u32 (sm : Int)] 37)
              have own7 := ownsRow_fr0 own6 hal
              have hA7 : CellsAt (wr.alloc (.cells #[.int .i64 (i_ : Int), .int .i64 (u : Int), .int .i64 (n : Int), .int .u32 (sm : Int)] 37)) (some ⟨wr.heap.size, 0, none⟩) (locC ⟨i_, u, n, sm⟩) := CellsAt.whole (heap_alloc_new _ _)
              have S7 := S6.step0 hal
              have hq30 : ls.length ≤ 30 := hlen30
              have HHV := Lib.hid hA7
              clear hA7
              go_upto_region 21 with ((with_reducible refine at_append (.tmp 129) (.tmp 131) 34 w2.heap.size 37 (.agg #[.int .i64 0, .int .i64 0, .int .i64 0, .int .u32 0]) 4 32 (n := ls.length) (A := some ⟨wr.heap.size, 0, none⟩) (m := 1) (c := 1) (news := locC ⟨i_, u, n, sm⟩) Tryd.underlying34 info_loc ?_ ?_ ?_ ?_ own7 HHV.out ?_ ?_ ?_ ?_ ?_ ?_ ?_); (focus rfl); (focus decide); (focus rw [HQ.out]; rfl); (focus rfl); (focus (intro h; cases h)); (focus rfl); (focus exact locC_one1 _); (focus unfold maxLen; omega); (focus omega); (focus rw [World.size_alloc]; omega); intro v' w7 hown7 hg7)
              have hF7 := Fr.of_grown hg7
              have hlow : ∀ k, (Value.slice A' ls.length c').ownBlock = some k → w2.heap.size ≤ k := fun k e => (ownsRow_lt own7 e).1
              have S8 := S7.far hF7 hlow hhB hbB hdB hwB
              have gr8 : w2.heap.size ≤ w7.heap.size := by have := hF7.size; rw [World.size_alloc] at this; omega
              have R8 : RmW w w2 w7 h bx p m1 m2 H2 D2 (ls ++ [⟨i_, u, n, sm⟩]) v' := ⟨S8, HINV.out, by rw [List.length_append, List.flatMap_append]; simpa using hown7, gr8⟩
              clear hF7 hlow S8 gr8 hown7 hg7 own7 S7 HHV hal S6 own6 gr6 x0 x1 x2 x3 hA' hc' hnil' hbl' hFq hxV gr5
              go_wp2_with fail
              go_loopw [14, 15] (fun r i wq => ∃ j s : Nat, j ≤ 5 ∧ i = .int .i64 (j : Int) ∧ r = .int .i64 (s : Int) ∧ s = (H2.boxes.take j).foldl (roomStep 128) 0 ∧ Fr none_ w7 wq) (fun _ i _ => 5 - (intOf i).toNat)
              case atStart => exact ⟨0, 0, by omega, rfl, rfl, rfl, Fr.refl _ _⟩
              case round =>
                obtain ⟨j, s, hj, rfl, rfl, hs, hFq⟩ := hrel
                have hlen5 := R8.inv.len
                have hsb : s ≤ 640 := by
                  have := roomFold_le 128 (H2.boxes.take j) 0
                  rw [← hs, List.length_take] at this
                  omega
                by_cases hj5 : j < 5
                · have hjl : j < H2.boxes.length := by omega
                  have hst := stat_any (R8.st.step0 hFq).hd.hot j hjl
                  have hstep := foldl_take_succ (roomStep 128) 0 H2.boxes j hjl
                  rw [← hs] at hstep
                  have hlive := R8.inv.live j
                  have huse := (ok_bx R8.st.ok j).1
                  rw [R8.inv.sectors] at huse
                  rw [bx_eq hjl] at hlive huse
                  obtain ⟨x, hx⟩ : ∃ x, x = H2.boxes[j] := ⟨_, rfl⟩
                  rw [← hx] at hst hstep hlive huse
                  rw [hlive] at hst
                  obtain ⟨xu, hxu⟩ : ∃ xu, xu = x.used := ⟨_, rfl⟩
                  obtain ⟨xs, hxs⟩ : ∃ xs, xs = x.state := ⟨_, rfl⟩
                  rw [← hxu, ← hxs] at hst
                  have hst2 : (H2.boxes.take (j + 1)).foldl (roomStep 128) 0 = s + if xs = 1 ∨ xs = 0 then 128 - xu else 0 := by rw [hstep, hxu, hxs]; rfl
                  have hxb : xu ≤ 128 := by omega
                  have HST := Lib.hid hst
                  have HST2 := Lib.hid hst2
                  have HSS := Lib.hid hs
                  clear hst hstep hst2 hlive huse hx hxu hxs hs hlen5
                  have j1 : (j : Int) < 5 := by omega
                  have j2 : ¬ (128 : Int) < (xu : Int) := by omega
                  have j3 : ¬ 128 < xu := by omega
                  go_wp2_with fail
                  (with_reducible refine HST.out.mono ?_)
                  rintro e w8 ⟨rfl, hF8⟩
                  rw [errV_0]
                  have hFr := hFq.trans hF8
                  by_cases hcs : xs = 1 ∨ xs = 0
                  · have hv : (H2.boxes.take (j + 1)).foldl (roomStep 128) 0 = s + (128 - xu) := by rw [HST2.out, if_pos hcs]
                    have HV := Lib.hid hv
                    clear hv
                    rcases hcs with rfl | rfl
                    all_goals
                      go_wp2_with fail
                      go_roundw
                      case rel => exact ⟨j + 1, s + (128 - xu), by omega, by go_num, by congr 1; omega, HV.out.symm, hFr⟩
                      case measure => simp [intOf]; omega
                  · have hv : (H2.boxes.take (j + 1)).foldl (roomStep 128) 0 = s := by rw [HST2.out, if_neg hcs]; rfl
                    have HV := Lib.hid hv
                    clear hv
                    have q1 : ¬ xs = 1 := fun e => hcs (.inl e)
                    have q2 : ¬ xs = 0 := fun e => hcs (.inr e)
                    have q3 : (xs == 1) = false := by simpa using q1
                    have q4 : (xs == 0) = false := by simpa using q2
                    clear hcs
                    go_wp2_with fail
                    go_roundw
                    case rel => exact ⟨j + 1, s, by omega, by go_num, rfl, HV.out.symm, hFr⟩
                    case measure => simp [intOf]; omega
                · have hj6 : j = 5 := by omega
                  have R9 := R8.step0 hFq
                  have hrm := hroom_any R9.st.hd.hot R9.st.ok
                  have hrn : H2.roomN = s := by
                    unfold HotS.roomN
                    rw [R8.inv.sectors, hs, hj6, ← hlen5, List.take_length]
                  rw [hrn] at hrm
                  have HRM2 := Lib.hid hrm
                  have hqn : ¬ (j : Int) < 5 := by omega
                  clear hrm hrn hs hlen5
                  go_wp2_with fail
                  (with_reducible refine HRM2.out.mono ?_)
                  rintro e w8 ⟨rfl, hF8⟩
                  go_wp2_with fail
                  go_roundw
                  case rel => exact ⟨k + 1, H2, D2, _, by omega, by omega, by rw [List.length_append]; simp; omega, by go_num, R9.step0 hF8⟩
                  case measure => simp [intOf]; omega
    · have hcond : ¬ (k : Int) < (m : Int) ∨ ((k : Int) < (m : Int) ∧ ¬ (k : Int) < 30) := by omega
      have hfr := hR.st.fr
      clear hex hkm hk30 hR
      rcases hcond with q1 | ⟨q1, q2⟩
      all_goals
        go_wp2_with fail
        (with_reducible refine (hsure_any _).mono ?_)
        rintro e w4 ⟨rfl, hF4⟩
        go_wp2_with fail
        go_ret
        exact ⟨rfl, hfr.trans hF4⟩
end Go.Proofs.YtdlhndbgmldeaaaDoor

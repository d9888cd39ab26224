import Derived.Test.YtniiokhkmdknaaaDoorNewP
import Derived.Test.YtniiokhkmdknaaaDoorLawNum04
import Derived.Deep.RegionHeld3
namespace Go.Proofs.YtniiokhkmdknaaaDoor
open Go.RowKit
set_option linter.unusedVariables false
set_option linter.unusedSimpArgs false

/-! ToggleNewest -/
def d13 (x0 x1 : UInt8) : DevS := ((newD 13).put 1 [x0]).put 12 [x1]
theorem d13_calm (x0 x1 : UInt8) : Calm (d13 x0 x1) := ((calm_new 13).put _ _).put _ _
theorem d13_w1 (x0 : UInt8) : (newD 13).write 1 [x0] = (newD 13).put 1 [x0] := (calm_new 13).write (by decide) (by decide) (by simp)
theorem d13_w2 (x0 x1 : UInt8) : ((newD 13).put 1 [x0]).write 12 [x1] = d13 x0 x1 := ((calm_new 13).put _ _).write (by decide) (show (12 : Int) < 13 by decide) (by simp)
theorem d13_e1 (x0 : UInt8) : (newD 13).writeE 1 [x0].length = 0 := by rw [writeE_eq _ _ (by decide) (by decide) _ (by simp), d13_w1]; rfl
theorem d13_e2 (x0 x1 : UInt8) : ((newD 13).put 1 [x0]).writeE 12 [x1].length = 0 := by rw [writeE_eq _ _ (by decide) (show (12 : Int) < 13 by decide) _ (by simp), d13_w2]; rfl
set_option maxHeartbeats 8000000 in
set_option maxRecDepth 100000 in
theorem newest_walk (L : Option Addr) (m cL : Nat) (x0 x1 : UInt8) (w : World) (hg : ErrT w) (hT : TextsAt w L m) :
    Calls Tryd.prog 3 #[.slice L m cL, .agg #[byteV x0, byteV x1]] w fun e w' => e = .returned (.bool true) ∧ Fr none_ w w' := by
  have hnum : ∀ n w', Fr none_ w w' → Calls Tryd.prog 9 #[errV n] w' fun e w'' => e = .returned (.int .i64 n) ∧ Fr none_ w' w'' := fun n w' hF => num04_any n w' (hg.fr0 hF)
  have HN := Lib.hid hnum
  have HT := Lib.hid hT
  clear hnum hT hg
  go_enter Tryd.func3, Tryd.ntmps3
  go_wp2_with fail
  (with_reducible refine (new_ok 13 _ (by decide) (by decide)).mono ?_)
  rintro e w1 ⟨p, m1, m2, rfl, hF1, hD1, hfr⟩
  rw [errV_0]
  have hbx := hF1.heap0 (heap_alloc_new w (.cells #[byteV x0, byteV x1] 23))
  have hsz1 := hF1.size
  rw [World.size_alloc] at hsz1
  have hnew : ∀ i, devBlks p m1 m2 i → w.heap.size + 1 ≤ i := fun i hi => by have := hfr i hi; rwa [World.size_alloc] at this
  have hbd : ¬ devBlks p m1 m2 w.heap.size := fun h => by have := hnew _ h; omega
  have had : ¬ devBlks p m1 m2 w1.heap.size := hD1.new (Nat.le_refl _)
  have hb2 := heap_alloc_old hbx (.cells #[.int .i64 2, .int .i64 10] 30)
  have hD2 := hD1.fr0 ((Fr.refl none_ w1).alloc (.cells #[.int .i64 2, .int .i64 10] 30))
  have hw1 := write_any hD2 1 (some ⟨w.heap.size, 0, none⟩) 1 2 [x0] rfl (CellsAt.of_blk hb2 0 1 (by simp)) (fun b hb _ hd => by have := blkOf_some hb; subst this; exact hbd hd)
  rw [d13_e1, d13_w1, errV_0] at hw1
  have HW1 := Lib.hid hw1
  clear hw1
  go_wp2_with fail
  (with_reducible refine HW1.out.mono ?_)
  rintro e w2 ⟨rfl, hF2, hD3⟩
  have hb3 := hF2.heap hb2 hbd
  have ha3 := hF2.heap (heap_alloc_new w1 (.cells #[.int .i64 2, .int .i64 10] 30)) had
  have hw2 := write_any hD3 12 (some ⟨w.heap.size, 1, none⟩) 1 1 [x1] rfl (CellsAt.of_blk hb3 1 1 (by simp)) (fun b hb _ hd => by have := blkOf_some hb; subst this; exact hbd hd)
  rw [d13_e2, d13_w2, errV_0] at hw2
  have HW2 := Lib.hid hw2
  clear hw2 hb2 hD2 hbx
  go_wp2_with fail
  (with_reducible refine HW2.out.mono ?_)
  rintro e w3 ⟨rfl, hF3, hD4⟩
  have hF4 : Fr none_ w w3 := (((Fr.refl none_ w).alloc _).trans hF1).trans' (((Fr.of0 ((Fr.refl none_ w1).alloc _)).trans hF2).trans hF3) (fun k hk hs => by have := hnew k hs; omega)
  have hN0 : Nw w w3 p m1 m2 w1.heap.size x0 x1 none (d13 x0 x1) := ⟨hF4, hD4, fun i hi => by have := hnew i hi; omega, d13_calm x0 x1, rfl, rfl, rfl, rfl, hF3.heap ha3 had, hF3.heap hb3 hbd, had, hbd⟩
  clear hF1 hD1 hfr hnew hD3 hF2 hF3 hD4 hb3 ha3 hF4 HW1 HW2
  go_wp2_with fail
  go_loopw [8, 9, 10] (fun n s i wr => ∃ k : Nat, ∃ o D, k ≤ m ∧ k ≤ 20 ∧ i = .int .i64 k ∧ n = .int .u64 (oN o : Nat) ∧ s = strOf (oT o) ∧ oN o ≤ k ∧ Nw w wr p m1 m2 w1.heap.size x0 x1 o D) (fun _ _ i _ => m - (intOf i).toNat)
  case atStart => exact ⟨0, none, _, by omega, by omega, rfl, rfl, rfl, Nat.le_refl _, hN0⟩
  case round =>
    obtain ⟨k, o, D, hkm, hk20, rfl, rfl, rfl, hok, hR⟩ := hrel
    by_cases hex : k < m ∧ k < 20
    · obtain ⟨h1, h2⟩ := hex
      obtain ⟨bL, oL, A, n, c, l, rfl, hcell, hTx⟩ := HT.out k h1
      have h1i : (k : Int) < (m : Int) := by omega
      have h2i : (k : Int) < 20 := by omega
      have hsec := hR.sec
      have hst : ∀ wx o D, Nw w wx p m1 m2 w1.heap.size x0 x1 o D → ((wx.cell? ⟨w1.heap.size, 0, none⟩ = some (.int .i64 2) ∧ wx.cell? ⟨w1.heap.size, 1, none⟩ = some (.int .i64 10)) ∧ wx.cell? ⟨bL, oL + k, none⟩ = some (.slice A n c)) := fun wx o D h =>
        ⟨⟨by rw [cell_of_blk h.ar]; rfl, by rw [cell_of_blk h.ar]; rfl⟩, h.fr.cell0 hcell⟩
      have hR0 := hR.step0 (Fr.refl none_ wr).drew
      have hs0 := hst _ _ _ hR0
      have HST := Lib.hid hst
      have hap : ∀ b, blkOf A b → 0 < l.length → ¬ devBlks p m1 m2 b := fun b hb hl hd => by have := hTx.cells.lt hb (by simpa using hl); have := hR.new b hd; omega
      have hA0 := hTx.cells.fr0 hR0.fr
      by_cases hle : l.length ≤ 256
      · have hsv : Calls Tryd.prog 8 #[ptr p, area 2 10, .slice A n c] wr.drew fun e w' => e = .returned .nilIface ∧ Nw w w' p m1 m2 w1.heap.size x0 x1 (some (nextT o l)) (saveT D 2 10 (nextT o l)) := by
          refine (tsave_any hR0.dev 2 10 hR0.calm.up (by decide) (by decide) (by omega) A n c l hTx.len hA0 hap (hTx.len ▸ hTx.cap) (by omega) hR0.tg).mono ?_
          rintro e w' ⟨h1, h2, h3⟩
          have hN := hR0.save l hle (by omega) h2 h3
          exact ⟨by rw [h1, hN.calm.up]; rfl, hN⟩
        have HSV := Lib.hid hsv
        have hlei : (n : Int) ≤ 256 := by have := hTx.len; omega
        clear hst hsv hap hA0
        go_wp2_with fail
        go_region_held3 (fun w' => (w'.cell? ⟨w1.heap.size, 0, none⟩ = some (.int .i64 2) ∧ w'.cell? ⟨w1.heap.size, 1, none⟩ = some (.int .i64 10)) ∧ w'.cell? ⟨bL, oL + k, none⟩ = some (.slice A n c)) (first | exact hs0 | exact HST.out _ _ _ hY1) (first
          | (go_at_call 8; (with_reducible refine HSV.out.mono ?_); rintro e y1 ⟨rfl, hY1⟩))
        have ce := (HST.out _ _ _ hY1).2
        have hY2 := hY1.step0 (Fr.refl none_ y1).drew
        have ce2 : y1.drew.cell? ⟨bL, oL + k, none⟩ = some (.slice A n c) := ce
        have kcv := conv_bytes (P := Tryd.prog) (src := 32) (dst := 9) (w := y1.drew) Tryd.underlying32 Tryd.underlying5 Tryd.underlying9 hTx.len (hTx.cells.fr0 hY2.fr) hTx.nil
        go_wp2_with fail
        go_still (by kernel_rfl)
        go_wp2_with fail
        go_roundw
        case rel =>
          refine ⟨k + 1, some (nextT o l), _, by omega, by omega, by go_num, ?_, ?_, ?_, hY2⟩
          · show _ = Value.int .u64 ((nextT o l).n : Nat)
            rw [next_n]
            go_num
          · show _ = strOf (nextT o l).text
            rw [nextT_text]
            rfl
          · show (nextT o l).n ≤ _
            rw [next_n]
            omega
        case measure => simp [intOf]; omega
      · have hsv : Calls Tryd.prog 8 #[ptr p, area 2 10, .slice A n c] wr.drew fun e w' => e = .returned (errV 2) ∧ Fr none_ wr.drew w' :=
          tsave_over hR0.dev 2 10 hR0.calm.up (by decide) (by decide) (by omega) A n c l hTx.len hA0 hap (hTx.len ▸ hTx.cap) (by omega) hR0.tg
        rw [errV_n (by decide)] at hsv
        have HSV := Lib.hid hsv
        have hnum2 := HN.out 2
        rw [errV_n (by decide)] at hnum2
        have HN2 := Lib.hid hnum2
        clear hst hsv hap hA0 hnum2
        go_wp2_with fail
        go_region_held3 (fun w' => (w'.cell? ⟨w1.heap.size, 0, none⟩ = some (.int .i64 2) ∧ w'.cell? ⟨w1.heap.size, 1, none⟩ = some (.int .i64 10)) ∧ w'.cell? ⟨bL, oL + k, none⟩ = some (.slice A n c)) (first | exact hs0 | exact HST.out _ _ _ hY1) (first
          | (go_at_call 8; (with_reducible refine HSV.out.mono ?_); rintro e y1 ⟨rfl, hG1⟩; have hY1 := hR0.step0 hG1))
        have hY2 := hY1.step0 (Fr.refl none_ y1).drew
        have ce2 : y1.drew.cell? ⟨bL, oL + k, none⟩ = some (.slice A n c) := (HST.out _ _ _ hY1).2
        go_wp2_with fail
        have hlei : ¬ (n : Int) ≤ 256 := by have := hTx.len; omega
        have hlen : ¬ n ≤ 256 := by have := hTx.len; omega
        go_region_held3 (fun w' => w'.cell? ⟨bL, oL + k, none⟩ = some (.slice A n c)) (first | exact ce2 | exact (HST.out _ _ _ hY3).2) (first
          | (go_at_call 9; (with_reducible refine (HN2.out _ hY2.fr).mono ?_); rintro e y3 ⟨rfl, hG3⟩; have hY3 := hY2.step0 hG3))
        go_wp2_with fail
        go_roundw
        case rel => exact ⟨k + 1, o, _, by omega, by omega, by go_num, rfl, rfl, by omega, hY3⟩
        case measure => simp [intOf]; omega
    · have hsec := hR.sec
      have hE1 := atE_up hR.calm.up (s := 1) (by decide) (by omega)
      have hE12 := atE_up hR.calm.up (s := 12) (by decide) (by omega)
      have c0 : wr.cell? ⟨w1.heap.size, 0, none⟩ = some (.int .i64 2) := by rw [cell_of_blk hR.ar]; rfl
      have c1 : wr.cell? ⟨w1.heap.size, 1, none⟩ = some (.int .i64 10) := by rw [cell_of_blk hR.ar]; rfl
      have hld := tload_any hR.dev 2 10 hR.calm.up (by decide) (by decide) (by omega) hR.tg
      have hcond : ¬ (k : Int) < (m : Int) ∨ ((k : Int) < (m : Int) ∧ ¬ (k : Int) < 20) := by omega
      clear hex hkm hk20
      cases o with
      | none =>
        have HLD := Lib.hid hld
        have hnum8 := HN.out 8
        rw [errV_n (by decide)] at hnum8
        have HN8 := Lib.hid hnum8
        rw [show oN none = 0 from rfl]
        clear hld hnum8 hok
        rcases hcond with q1 | ⟨q1, q2⟩
        all_goals
          go_wp2_with fail
          (with_reducible refine HLD.out.mono ?_)
          rintro e y1 ⟨rfl, hG1⟩
          rw [errV_n (by decide)]
          have hY1 := hR.step0 hG1
          go_wp2_with fail
          (with_reducible refine (read_ok hY1.dev 1 hE1).mono ?_)
          rintro e y2 ⟨g1, rfl, hg1, hG2, hb1⟩
          rw [errV_0]
          have hY2 := hY1.step0 hG2
          go_wp2_with fail
          (with_reducible refine (read_ok hY2.dev 12 hE12).mono ?_)
          rintro e y3 ⟨g2, rfl, hg2, hG3, hb2⟩
          rw [errV_0]
          have hY3 := hY2.step0 hG3
          have hb1 := hG3.heap0 hb1
          rw [hR.g1] at hb1
          rw [hR.g12] at hb2
          have k1 : y3.drew.cell? ⟨g1, 0, none⟩ = some (.int .u8 (x0.toNat : Int)) := by show y3.cell? _ = _; rw [cell_of_blk hb1]; rfl
          have k2 : y3.drew.cell? ⟨g2, 0, none⟩ = some (.int .u8 (x1.toNat : Int)) := by show y3.cell? _ = _; rw [cell_of_blk hb2]; rfl
          have k3 : y3.drew.cell? ⟨w.heap.size, 0, none⟩ = some (.int .u8 (x0.toNat : Int)) := by show y3.cell? _ = _; rw [cell_of_blk hY3.bx]; rfl
          have k4 : y3.drew.cell? ⟨w.heap.size, 1, none⟩ = some (.int .u8 (x1.toNat : Int)) := by show y3.cell? _ = _; rw [cell_of_blk hY3.bx]; rfl
          have hY4 := hY3.step0 (Fr.refl none_ y3).drew
          go_wp2_with fail
          go_still (by kernel_rfl)
          go_wp2_with fail
          (with_reducible refine (HN8.out _ hY4.fr).mono ?_)
          rintro e y5 ⟨rfl, hG5⟩
          have hY5 := hY4.step0 hG5
          go_wp2_with fail
          (with_reducible refine (tsure_any _).mono ?_)
          rintro e y6 ⟨rfl, hG6⟩
          go_wp2_with fail
          go_ret
          exact ⟨rfl, hY5.fr.trans hG6⟩
      | some t =>
        have hpos : ¬ (t.n : Int) = 0 := by have := (show Kept 2 10 D t from hR.tg).n; omega
        have hld : Calls Tryd.prog 10 #[ptr p, area 2 10] wr fun e w' => Loaded wr t.text t.n e w' := hld
        have HLD := Lib.hid hld
        rw [show oN (some t) = t.n from rfl, show strOf (oT (some t)) = .string ⟨t.text.toArray⟩ from rfl]
        clear hld hok
        rcases hcond with q1 | ⟨q1, q2⟩
        all_goals
          go_wp2_with fail
          (with_reducible refine HLD.out.mono ?_)
          rintro e y1 ⟨A', c', rfl, hA', hnil', hbl', hG1⟩
          rw [errV_0]
          have hY1 := hR.step0 hG1
          go_wp2_with fail
          (with_reducible refine (read_ok hY1.dev 1 hE1).mono ?_)
          rintro e y2 ⟨g1, rfl, hg1, hG2, hb1⟩
          rw [errV_0]
          have hY2 := hY1.step0 hG2
          go_wp2_with fail
          (with_reducible refine (read_ok hY2.dev 12 hE12).mono ?_)
          rintro e y3 ⟨g2, rfl, hg2, hG3, hb2⟩
          rw [errV_0]
          have hY3 := hY2.step0 hG3
          have hb1 := hG3.heap0 hb1
          rw [hR.g1] at hb1
          rw [hR.g12] at hb2
          have k1 : y3.drew.cell? ⟨g1, 0, none⟩ = some (.int .u8 (x0.toNat : Int)) := by show y3.cell? _ = _; rw [cell_of_blk hb1]; rfl
          have k2 : y3.drew.cell? ⟨g2, 0, none⟩ = some (.int .u8 (x1.toNat : Int)) := by show y3.cell? _ = _; rw [cell_of_blk hb2]; rfl
          have k3 : y3.drew.cell? ⟨w.heap.size, 0, none⟩ = some (.int .u8 (x0.toNat : Int)) := by show y3.cell? _ = _; rw [cell_of_blk hY3.bx]; rfl
          have k4 : y3.drew.cell? ⟨w.heap.size, 1, none⟩ = some (.int .u8 (x1.toNat : Int)) := by show y3.cell? _ = _; rw [cell_of_blk hY3.bx]; rfl
          have hY4 := hY3.step0 (Fr.refl none_ y3).drew
          have kcv := conv_bytes (P := Tryd.prog) (src := 32) (dst := 9) (w := y3.drew) Tryd.underlying32 Tryd.underlying5 Tryd.underlying9 rfl (hA'.fr0 ((hG2.trans hG3).drew)) hnil'
          go_wp2_with fail
          go_still (by kernel_rfl)
          go_wp2_with fail
          (with_reducible refine (tsure_any _).mono ?_)
          rintro e y6 ⟨rfl, hG6⟩
          go_wp2_with fail
          go_ret
          exact ⟨rfl, hY4.fr.trans hG6⟩
end Go.Proofs.YtniiokhkmdknaaaDoor

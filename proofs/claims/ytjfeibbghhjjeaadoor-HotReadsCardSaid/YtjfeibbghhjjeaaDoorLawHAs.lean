import Derived.Test.YtjfeibbghhjjeaaDoorRef17By
import Derived.Test.YtjfeibbghhjjeaaDoorLawNum17
import Derived.Test.YtjfeibbghhjjeaaDoorHotSure
namespace Go.Proofs.YtjfeibbghhjjeaaDoor
open Go.RowKit
set_option linter.unusedVariables false
set_option linter.unusedSimpArgs false
set_option maxRecDepth 100000

/-! HotReads: do all boxes tell the same? -/
/-- both boxes, side by side -/
structure Both (w : World) (g h bx p m1 m2 : Nat) (A1 : Option Addr) (c1 : Nat) (A2 : Option Addr) (c2 : Nat) (A3 : Option Addr) (c3 b : Nat) (H : HotS) : Prop where
  play : w.heap[g]? = some (.cells #[ptr p, ptr h, (.slice A1 (newRef 12).now.length c1), (.slice A2 (newRef 12).now.length c2), (.slice A3 (newRef 12).now.length c3), (.int .i64 (newRef 12).writes), (.bool (newRef 12).armed), (.int .i64 (newRef 12).left), (.bool (newRef 12).crashed), (.bool (newRef 12).gone), (.int .i64 H.first), (.int .i64 (H.boxes.length : Int)), (.int .i64 (H.sectors : Int)), (.slice (some ⟨b, 0, none⟩) H.boxes.length H.boxes.length), .slice none 0 0] 50 (0, 0))
  hd : Hd w h bx p m1 m2 H (newD 12)
  dev : RDV w #[(.slice A1 (newRef 12).now.length c1), (.slice A2 (newRef 12).now.length c2), (.slice A3 (newRef 12).now.length c3), (.int .i64 (newRef 12).writes), (.bool (newRef 12).armed), (.int .i64 (newRef 12).left), (.bool (newRef 12).crashed), (.bool (newRef 12).gone)] (newRef 12)
  hot : RHot w (.agg #[(.int .i64 H.first), (.int .i64 (H.boxes.length : Int)), (.int .i64 (H.sectors : Int)), (.slice (some ⟨b, 0, none⟩) H.boxes.length H.boxes.length)]) b H
  ok : H.Ok
  few : H.boxes.length ≤ 12
  err : ErrT w
theorem Both.fr0 {w w' : World} {g h bx p m1 m2 : Nat} {A1 : Option Addr} {c1 : Nat} {A2 : Option Addr} {c2 : Nat} {A3 : Option Addr} {c3 b : Nat} {H : HotS} (B : Both w g h bx p m1 m2 A1 c1 A2 c2 A3 c3 b H) (hF : Fr none_ w w') : Both w' g h bx p m1 m2 A1 c1 A2 c2 A3 c3 b H :=
  ⟨hF.heap0 B.play, B.hd.fr0 hF, B.dev.fr0 hF, ⟨B.hot.rep, hF.heap0 B.hot.blk⟩, B.ok, B.few, B.err.fr0 hF⟩
/-- what both Bytes tell -/
def Tells (w : World) (h : Nat) (DC HC : Array Value) (j : Int) (l : List UInt8) (er : Int) : Prop :=
  (∀ W, Fr none_ w W → Calls Tryd.prog 29 #[ptr h, .int .i64 j] W fun e w' => HBy W l er e w') ∧
  (∀ W, Fr none_ w W → Calls Tryd.prog 30 #[.agg HC, .agg DC, .int .i64 j] W fun e w' => e = .returned (.tuple #[.string ⟨l.toArray⟩, .int .i64 er]) ∧ Fr none_ W w')
theorem both_tell {w : World} {g h bx p m1 m2 : Nat} {A1 : Option Addr} {c1 : Nat} {A2 : Option Addr} {c2 : Nat} {A3 : Option Addr} {c3 b : Nat} {H : HotS} (B : Both w g h bx p m1 m2 A1 c1 A2 c2 A3 c3 b H) (j : Int) : ∃ l er, Tells w h #[(.slice A1 (newRef 12).now.length c1), (.slice A2 (newRef 12).now.length c2), (.slice A3 (newRef 12).now.length c3), (.int .i64 (newRef 12).writes), (.bool (newRef 12).armed), (.int .i64 (newRef 12).left), (.bool (newRef 12).crashed), (.bool (newRef 12).gone)] #[(.int .i64 H.first), (.int .i64 (H.boxes.length : Int)), (.int .i64 (H.sectors : Int)), (.slice (some ⟨b, 0, none⟩) H.boxes.length H.boxes.length)] j l er := by
  by_cases hno : NoBox H j
  · exact ⟨[], 4, fun W hW => hbytes_bad (B.fr0 hW).hd.hot j hno, fun W hW => rbytes17_bad (B.fr0 hW).dev (B.fr0 hW).hot j hno⟩
  · have h1 : 0 ≤ j ∧ j < H.boxes.length := by
      unfold NoBox at hno
      constructor
      · exact Classical.byContradiction (fun h => hno (.inl (by omega)))
      · exact Classical.byContradiction (fun h => hno (.inr (.inl (by omega))))
    obtain ⟨k, rfl⟩ : ∃ k : Nat, j = (k : Int) := ⟨j.toNat, by omega⟩
    have hk : k < H.boxes.length := by omega
    have hs : H.boxes[k].state ≠ 0 := fun e => hno (.inr (.inr (by rw [Int.toNat_natCast, bx_eq hk]; exact e)))
    have hu := B.ok.used k hk
    refine ⟨List.replicate H.boxes[k].used 0, 0, fun W hW => ?_, fun W hW => ?_⟩
    · have := hbytes_ok (B.fr0 hW).hd k hk hs hu
      rw [bytesAt_zero] at this
      by_cases h0 : H.boxes[k].used = 0
      · rw [if_pos h0] at this; rw [h0]; exact this
      · rw [if_neg h0] at this; exact this
    · exact rbytes17_ok (B.fr0 hW).dev (B.fr0 hW).hot k hk B.hd.hot.firstIn.1 B.hd.fit (by decide) B.hd.hot.most.2 hs hu
set_option maxHeartbeats 16000000 in
theorem as_any {w : World} {g h bx p m1 m2 : Nat} {A1 : Option Addr} {c1 : Nat} {A2 : Option Addr} {c2 : Nat} {A3 : Option Addr} {c3 b : Nat} {H : HotS} (B : Both w g h bx p m1 m2 A1 c1 A2 c2 A3 c3 b H) :
    Calls Tryd.prog 10 #[ptr g] w fun e w' => e = .returned (.bool true) ∧ Fr none_ w w' := by
  obtain ⟨n, hn⟩ : ∃ n, n = H.boxes.length := ⟨_, rfl⟩
  have hfew := B.few
  have hb := B.play
  have hmin : min (n : Int) 12 = (n : Int) := by omega
  rw [← hn] at hfew
  have c13 : w.cell? ⟨g, 13, none⟩ = some (.slice (some ⟨b, 0, none⟩) n n) := by rw [cell_of_blk hb, hn]; rfl
  have HB := Lib.hid B
  have HN := Lib.hid hn
  clear B hb hn
  go_enter Tryd.func10, Tryd.ntmps10
  go_wp2_with fail
  go_loopw [3] (fun iv wr => ∃ j : Int, -1 ≤ j ∧ j ≤ n + 1 ∧ iv = .int .i64 j ∧ Fr none_ w wr) (fun iv _ => (n + 1 - intOf iv).toNat)
  case atStart => exact ⟨-1, by omega, by omega, rfl, Fr.refl _ _⟩
  case round =>
    obtain ⟨j, hj1, hj2, rfl, hF⟩ := hrel
    have BW := HB.out.fr0 hF
    obtain ⟨l, er, hT1, hT2⟩ := both_tell BW j
    have w13 := hF.cell0 c13
    have w1 : wr.cell? ⟨g, 1, none⟩ = some (ptr h) := by rw [cell_of_blk BW.play]; rfl
    by_cases hlt : j ≤ (n : Int)
    · have hle : j ≤ min (n : Int) 12 := by omega
      have HT1 := Lib.hid hT1
      have HT2 := Lib.hid hT2
      clear hT1 hT2
      by_cases hin : 0 ≤ j ∧ j < n
      · obtain ⟨k, rfl⟩ : ∃ k : Nat, j = (k : Int) := ⟨j.toNat, by omega⟩
        have hk : k < H.boxes.length := by rw [← HN.out]; omega
        have hstat := stat_any BW.hd.hot k hk
        obtain ⟨bb0, bb1, bb2⟩ := box_cells BW.hot.blk k hk
        obtain ⟨st, hst0⟩ : ∃ st, st = H.boxes[k].state := ⟨_, rfl⟩
        obtain ⟨u, hu0⟩ : ∃ u, u = H.boxes[k].used := ⟨_, rfl⟩
        obtain ⟨v, hv0⟩ : ∃ v, v = H.boxes[k].live := ⟨_, rfl⟩
        rw [← hst0, ← hu0, ← hv0, errV_0] at hstat
        rw [← hst0] at bb0
        rw [← hu0] at bb1
        rw [← hv0] at bb2
        have HSTAT := Lib.hid hstat
        have i1 : ¬ (k : Int) < 0 := by omega
        have i2 : ¬ (n : Int) ≤ (k : Int) := by omega
        have i3 : ¬ n ≤ k := by omega
        have i4 : (k : Int) < (n : Int) := by omega
        have i5 : (0 : Int) ≤ (k : Int) := by omega
        clear hstat hst0 hu0 hv0 BW hin hj1 hj2 hlt hle
        have hle : (k : Int) ≤ min (n : Int) 12 := by omega
        go_upto_region 11 with (first | ((with_reducible refine HSTAT.out.mono ?_); rintro e y1 ⟨rfl, hY1⟩; have z13 := hY1.cell0 w13; have z1 := hY1.cell0 w1; have zb0 := hY1.cell0 bb0; have zb1 := hY1.cell0 bb1; have zb2 := hY1.cell0 bb2) | ((with_reducible refine (HT1.out _ hY1).mono ?_); rintro e y2 ⟨⟨P, pn, pc, rfl, hpn, hPA, hPn⟩, hY2⟩; have hPP := Lib.hid (And.intro hpn (And.intro hPA hPn)); clear hpn hPA hPn))
        have hF2 := (hF.trans hY1).trans hY2
        have B2 := HB.out.fr0 hF2
        have hst : ∀ W, Fr none_ y2 W → (W.cell? ⟨g, 2, none⟩ = some (.slice A1 (newRef 12).now.length c1) ∧ W.cell? ⟨g, 3, none⟩ = some (.slice A2 (newRef 12).now.length c2) ∧ W.cell? ⟨g, 4, none⟩ = some (.slice A3 (newRef 12).now.length c3) ∧ W.cell? ⟨g, 5, none⟩ = some (.int .i64 (newRef 12).writes) ∧ W.cell? ⟨g, 6, none⟩ = some (.bool (newRef 12).armed) ∧ W.cell? ⟨g, 7, none⟩ = some (.int .i64 (newRef 12).left) ∧ W.cell? ⟨g, 8, none⟩ = some (.bool (newRef 12).crashed) ∧ W.cell? ⟨g, 9, none⟩ = some (.bool (newRef 12).gone) ∧ W.cell? ⟨g, 10, none⟩ = some (.int .i64 H.first) ∧ W.cell? ⟨g, 11, none⟩ = some (.int .i64 (H.boxes.length : Int)) ∧ W.cell? ⟨g, 12, none⟩ = some (.int .i64 (H.sectors : Int)) ∧ W.cell? ⟨g, 13, none⟩ = some (.slice (some ⟨b, 0, none⟩) H.boxes.length H.boxes.length)) := fun W hW => by
          have hz := (B2.fr0 hW).play
          exact ⟨by rw [cell_of_blk hz]; rfl, by rw [cell_of_blk hz]; rfl, by rw [cell_of_blk hz]; rfl, by rw [cell_of_blk hz]; rfl, by rw [cell_of_blk hz]; rfl, by rw [cell_of_blk hz]; rfl, by rw [cell_of_blk hz]; rfl, by rw [cell_of_blk hz]; rfl, by rw [cell_of_blk hz]; rfl, by rw [cell_of_blk hz]; rfl, by rw [cell_of_blk hz]; rfl, by rw [cell_of_blk hz]; rfl⟩
        have HST := Lib.hid hst
        have hs0 := hst y2.drew (Fr.refl none_ y2).drew
        clear hst B2
        go_region_held3 (fun W => (W.cell? ⟨g, 2, none⟩ = some (.slice A1 (newRef 12).now.length c1) ∧ W.cell? ⟨g, 3, none⟩ = some (.slice A2 (newRef 12).now.length c2) ∧ W.cell? ⟨g, 4, none⟩ = some (.slice A3 (newRef 12).now.length c3) ∧ W.cell? ⟨g, 5, none⟩ = some (.int .i64 (newRef 12).writes) ∧ W.cell? ⟨g, 6, none⟩ = some (.bool (newRef 12).armed) ∧ W.cell? ⟨g, 7, none⟩ = some (.int .i64 (newRef 12).left) ∧ W.cell? ⟨g, 8, none⟩ = some (.bool (newRef 12).crashed) ∧ W.cell? ⟨g, 9, none⟩ = some (.bool (newRef 12).gone) ∧ W.cell? ⟨g, 10, none⟩ = some (.int .i64 H.first) ∧ W.cell? ⟨g, 11, none⟩ = some (.int .i64 (H.boxes.length : Int)) ∧ W.cell? ⟨g, 12, none⟩ = some (.int .i64 (H.sectors : Int)) ∧ W.cell? ⟨g, 13, none⟩ = some (.slice (some ⟨b, 0, none⟩) H.boxes.length H.boxes.length))) (first | exact hs0 | exact HST.out _ ((Fr.refl none_ y2).drew.trans hY3)) ((go_at_call 30; (with_reducible refine (HT2.out _ ((hY1.trans hY2).trans (Fr.refl none_ y2).drew)).mono ?_); rintro e x1 ⟨rfl, hY3⟩))
        have hF3 := (hF2.trans (Fr.refl none_ y2).drew).trans hY3
        have hcv := conv_bytes (P := Tryd.prog) (src := 24) (dst := 9) (w := x1) Tryd.underlying24 Tryd.underlying5 Tryd.underlying9 hPP.out.1 (hPP.out.2.1.fr0 ((Fr.refl none_ y2).drew.trans hY3)) hPP.out.2.2
        have hnum := num17_any er x1 (HB.out.err.fr0 hF3)
        have HNUM := Lib.hid hnum
        clear hnum
        go_wp2_with ((with_reducible refine HNUM.out.mono ?_); rintro e x2 ⟨rfl, hY4⟩)
        go_roundw
        case rel => exact ⟨(k : Int) + 1, by omega, by omega, by go_num, hF3.trans hY4⟩
        case measure => simp [intOf]; omega
      · have hbad : j < 0 ∨ (H.boxes.length : Int) ≤ j := by rw [← HN.out]; omega
        have hstat := stat_bad BW.hd.hot j hbad
        have HE4 := Lib.hid (errV_n (show (4 : Int) ≠ 0 by decide))
        rw [HE4.out] at hstat
        have HSTAT := Lib.hid hstat
        clear hstat BW hbad
        by_cases hj0 : j < 0
        · clear hin
          go_upto_region 11 with (first | ((with_reducible refine HSTAT.out.mono ?_); rintro e y1 ⟨rfl, hY1⟩; have z13 := hY1.cell0 w13; have z1 := hY1.cell0 w1; have hnum4 := num17_any 4 y1 (HB.out.err.fr0 (hF.trans hY1)); rw [HE4.out] at hnum4; have HN4 := Lib.hid hnum4; clear hnum4) | ((with_reducible refine HN4.out.mono ?_); rintro e y1b ⟨rfl, hY1b⟩; have z13b := hY1b.cell0 z13; have z1b := hY1b.cell0 z1) | ((with_reducible refine (HT1.out _ (hY1.trans hY1b)).mono ?_); rintro e y2 ⟨⟨P, pn, pc, rfl, hpn, hPA, hPn⟩, hY2⟩; have hPP := Lib.hid (And.intro hpn (And.intro hPA hPn)); clear hpn hPA hPn))
          have hF2 := ((hF.trans hY1).trans hY1b).trans hY2
          have B2 := HB.out.fr0 hF2
          have hst : ∀ W, Fr none_ y2 W → (W.cell? ⟨g, 2, none⟩ = some (.slice A1 (newRef 12).now.length c1) ∧ W.cell? ⟨g, 3, none⟩ = some (.slice A2 (newRef 12).now.length c2) ∧ W.cell? ⟨g, 4, none⟩ = some (.slice A3 (newRef 12).now.length c3) ∧ W.cell? ⟨g, 5, none⟩ = some (.int .i64 (newRef 12).writes) ∧ W.cell? ⟨g, 6, none⟩ = some (.bool (newRef 12).armed) ∧ W.cell? ⟨g, 7, none⟩ = some (.int .i64 (newRef 12).left) ∧ W.cell? ⟨g, 8, none⟩ = some (.bool (newRef 12).crashed) ∧ W.cell? ⟨g, 9, none⟩ = some (.bool (newRef 12).gone) ∧ W.cell? ⟨g, 10, none⟩ = some (.int .i64 H.first) ∧ W.cell? ⟨g, 11, none⟩ = some (.int .i64 (H.boxes.length : Int)) ∧ W.cell? ⟨g, 12, none⟩ = some (.int .i64 (H.sectors : Int)) ∧ W.cell? ⟨g, 13, none⟩ = some (.slice (some ⟨b, 0, none⟩) H.boxes.length H.boxes.length)) := fun W hW => by
            have hz := (B2.fr0 hW).play
            exact ⟨by rw [cell_of_blk hz]; rfl, by rw [cell_of_blk hz]; rfl, by rw [cell_of_blk hz]; rfl, by rw [cell_of_blk hz]; rfl, by rw [cell_of_blk hz]; rfl, by rw [cell_of_blk hz]; rfl, by rw [cell_of_blk hz]; rfl, by rw [cell_of_blk hz]; rfl, by rw [cell_of_blk hz]; rfl, by rw [cell_of_blk hz]; rfl, by rw [cell_of_blk hz]; rfl, by rw [cell_of_blk hz]; rfl⟩
          have HST := Lib.hid hst
          have hs0 := hst y2.drew (Fr.refl none_ y2).drew
          clear hst B2
          go_region_held3 (fun W => (W.cell? ⟨g, 2, none⟩ = some (.slice A1 (newRef 12).now.length c1) ∧ W.cell? ⟨g, 3, none⟩ = some (.slice A2 (newRef 12).now.length c2) ∧ W.cell? ⟨g, 4, none⟩ = some (.slice A3 (newRef 12).now.length c3) ∧ W.cell? ⟨g, 5, none⟩ = some (.int .i64 (newRef 12).writes) ∧ W.cell? ⟨g, 6, none⟩ = some (.bool (newRef 12).armed) ∧ W.cell? ⟨g, 7, none⟩ = some (.int .i64 (newRef 12).left) ∧ W.cell? ⟨g, 8, none⟩ = some (.bool (newRef 12).crashed) ∧ W.cell? ⟨g, 9, none⟩ = some (.bool (newRef 12).gone) ∧ W.cell? ⟨g, 10, none⟩ = some (.int .i64 H.first) ∧ W.cell? ⟨g, 11, none⟩ = some (.int .i64 (H.boxes.length : Int)) ∧ W.cell? ⟨g, 12, none⟩ = some (.int .i64 (H.sectors : Int)) ∧ W.cell? ⟨g, 13, none⟩ = some (.slice (some ⟨b, 0, none⟩) H.boxes.length H.boxes.length))) (first | exact hs0 | exact HST.out _ ((Fr.refl none_ y2).drew.trans hY3)) ((go_at_call 30; (with_reducible refine (HT2.out _ (((hY1.trans hY1b).trans hY2).trans (Fr.refl none_ y2).drew)).mono ?_); rintro e x1 ⟨rfl, hY3⟩))
          have hF3 := (hF2.trans (Fr.refl none_ y2).drew).trans hY3
          have hcv := conv_bytes (P := Tryd.prog) (src := 24) (dst := 9) (w := x1) Tryd.underlying24 Tryd.underlying5 Tryd.underlying9 hPP.out.1 (hPP.out.2.1.fr0 ((Fr.refl none_ y2).drew.trans hY3)) hPP.out.2.2
          have hnum := num17_any er x1 (HB.out.err.fr0 hF3)
          have HNUM := Lib.hid hnum
          clear hnum
          go_wp2_with ((with_reducible refine HNUM.out.mono ?_); rintro e x2 ⟨rfl, hY4⟩)
          go_roundw
          case rel => exact ⟨j + 1, by omega, by omega, by go_num, hF3.trans hY4⟩
          case measure => simp [intOf]; omega
        · have i2 : (n : Int) ≤ j := by omega
          clear hin
          go_upto_region 11 with (first | ((with_reducible refine HSTAT.out.mono ?_); rintro e y1 ⟨rfl, hY1⟩; have z13 := hY1.cell0 w13; have z1 := hY1.cell0 w1; have hnum4 := num17_any 4 y1 (HB.out.err.fr0 (hF.trans hY1)); rw [HE4.out] at hnum4; have HN4 := Lib.hid hnum4; clear hnum4) | ((with_reducible refine HN4.out.mono ?_); rintro e y1b ⟨rfl, hY1b⟩; have z13b := hY1b.cell0 z13; have z1b := hY1b.cell0 z1) | ((with_reducible refine (HT1.out _ (hY1.trans hY1b)).mono ?_); rintro e y2 ⟨⟨P, pn, pc, rfl, hpn, hPA, hPn⟩, hY2⟩; have hPP := Lib.hid (And.intro hpn (And.intro hPA hPn)); clear hpn hPA hPn))
          have hF2 := ((hF.trans hY1).trans hY1b).trans hY2
          have B2 := HB.out.fr0 hF2
          have hst : ∀ W, Fr none_ y2 W → (W.cell? ⟨g, 2, none⟩ = some (.slice A1 (newRef 12).now.length c1) ∧ W.cell? ⟨g, 3, none⟩ = some (.slice A2 (newRef 12).now.length c2) ∧ W.cell? ⟨g, 4, none⟩ = some (.slice A3 (newRef 12).now.length c3) ∧ W.cell? ⟨g, 5, none⟩ = some (.int .i64 (newRef 12).writes) ∧ W.cell? ⟨g, 6, none⟩ = some (.bool (newRef 12).armed) ∧ W.cell? ⟨g, 7, none⟩ = some (.int .i64 (newRef 12).left) ∧ W.cell? ⟨g, 8, none⟩ = some (.bool (newRef 12).crashed) ∧ W.cell? ⟨g, 9, none⟩ = some (.bool (newRef 12).gone) ∧ W.cell? ⟨g, 10, none⟩ = some (.int .i64 H.first) ∧ W.cell? ⟨g, 11, none⟩ = some (.int .i64 (H.boxes.length : Int)) ∧ W.cell? ⟨g, 12, none⟩ = some (.int .i64 (H.sectors : Int)) ∧ W.cell? ⟨g, 13, none⟩ = some (.slice (some ⟨b, 0, none⟩) H.boxes.length H.boxes.length)) := fun W hW => by
            have hz := (B2.fr0 hW).play
            exact ⟨by rw [cell_of_blk hz]; rfl, by rw [cell_of_blk hz]; rfl, by rw [cell_of_blk hz]; rfl, by rw [cell_of_blk hz]; rfl, by rw [cell_of_blk hz]; rfl, by rw [cell_of_blk hz]; rfl, by rw [cell_of_blk hz]; rfl, by rw [cell_of_blk hz]; rfl, by rw [cell_of_blk hz]; rfl, by rw [cell_of_blk hz]; rfl, by rw [cell_of_blk hz]; rfl, by rw [cell_of_blk hz]; rfl⟩
          have HST := Lib.hid hst
          have hs0 := hst y2.drew (Fr.refl none_ y2).drew
          clear hst B2
          go_region_held3 (fun W => (W.cell? ⟨g, 2, none⟩ = some (.slice A1 (newRef 12).now.length c1) ∧ W.cell? ⟨g, 3, none⟩ = some (.slice A2 (newRef 12).now.length c2) ∧ W.cell? ⟨g, 4, none⟩ = some (.slice A3 (newRef 12).now.length c3) ∧ W.cell? ⟨g, 5, none⟩ = some (.int .i64 (newRef 12).writes) ∧ W.cell? ⟨g, 6, none⟩ = some (.bool (newRef 12).armed) ∧ W.cell? ⟨g, 7, none⟩ = some (.int .i64 (newRef 12).left) ∧ W.cell? ⟨g, 8, none⟩ = some (.bool (newRef 12).crashed) ∧ W.cell? ⟨g, 9, none⟩ = some (.bool (newRef 12).gone) ∧ W.cell? ⟨g, 10, none⟩ = some (.int .i64 H.first) ∧ W.cell? ⟨g, 11, none⟩ = some (.int .i64 (H.boxes.length : Int)) ∧ W.cell? ⟨g, 12, none⟩ = some (.int .i64 (H.sectors : Int)) ∧ W.cell? ⟨g, 13, none⟩ = some (.slice (some ⟨b, 0, none⟩) H.boxes.length H.boxes.length))) (first | exact hs0 | exact HST.out _ ((Fr.refl none_ y2).drew.trans hY3)) ((go_at_call 30; (with_reducible refine (HT2.out _ (((hY1.trans hY1b).trans hY2).trans (Fr.refl none_ y2).drew)).mono ?_); rintro e x1 ⟨rfl, hY3⟩))
          have hF3 := (hF2.trans (Fr.refl none_ y2).drew).trans hY3
          have hcv := conv_bytes (P := Tryd.prog) (src := 24) (dst := 9) (w := x1) Tryd.underlying24 Tryd.underlying5 Tryd.underlying9 hPP.out.1 (hPP.out.2.1.fr0 ((Fr.refl none_ y2).drew.trans hY3)) hPP.out.2.2
          have hnum := num17_any er x1 (HB.out.err.fr0 hF3)
          have HNUM := Lib.hid hnum
          clear hnum
          go_wp2_with ((with_reducible refine HNUM.out.mono ?_); rintro e x2 ⟨rfl, hY4⟩)
          go_roundw
          case rel => exact ⟨j + 1, by omega, by omega, by go_num, hF3.trans hY4⟩
          case measure => simp [intOf]; omega
    · clear hT1 hT2 BW
      have hle : ¬ j ≤ min (n : Int) 12 := by omega
      go_wp2_with fail
      go_ret
      exact ⟨rfl, hF⟩
end Go.Proofs.YtjfeibbghhjjeaaDoor

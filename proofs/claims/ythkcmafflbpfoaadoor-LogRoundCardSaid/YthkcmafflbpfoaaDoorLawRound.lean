import Derived.Test.YthkcmafflbpfoaaDoorLogCalm
import Derived.Test.YthkcmafflbpfoaaDoorLogArg
import Derived.Test.YthkcmafflbpfoaaDoorLogSure
import Derived.Test.YthkcmafflbpfoaaDoorLawNum16
namespace Go.Proofs.YthkcmafflbpfoaaDoor
open Go.RowKit
set_option linter.unusedVariables false
set_option linter.unusedSimpArgs false
set_option maxRecDepth 100000

/-! LogRound -/
structure LrS (W wr : World) (p m1 m2 b ab n at_ k : Nat) (D : DevS) : Prop where
  g : LrG W wr p m1 m2 b ⟨0, n, at_, k + 1, [], 0⟩ D
  calm : Calm D
  tags : Tags D k
  secs : D.sectors = (n : Int)
  area : areaAt wr ab 0 n
theorem LrS.fr0 {W wr w' : World} {p m1 m2 b ab n at_ k : Nat} {D : DevS} (h : LrS W wr p m1 m2 b ab n at_ k D) (hF : Fr none_ wr w') : LrS W w' p m1 m2 b ab n at_ k D :=
  ⟨h.g.fr0 hF, h.calm, h.tags, h.secs, h.g.area hF (fun i e => e.elim) h.area⟩
/-- what the device holds behind a record that was appended and flushed -/
def lrD (D : DevS) (n at_ k : Nat) (d : List UInt8) : DevS := { apN D ⟨0, n, at_, k + 1, [], 0⟩ 0 (k + 1) (seaB d (k + 1)) (recN d (k + 1)) with loose := [] }
theorem lr_plain {D : DevS} (hl : ∀ i, (D.get i).length = 64) (hc : Calm D) {n at_ k : Nat} (hT : Tags D k) (h2 : 2 ≤ n) (hat : at_ < n) (hn : D.sectors = (n : Int)) (d : List UInt8) (hd : d.length ≤ 65536) (hk : k ≤ 1000000) (hN : recN d (k + 1) + 1 ≤ n) (hl2 : ∀ i, ((lrD D n at_ k d).get i).length = 64) :
    Calm (lrD D n at_ k d) ∧ Tags (lrD D n at_ k d) (k + 1) ∧ (lrD D n at_ k d).sectors = (n : Int) ∧ Scan (ringB (lrD D n at_ k d) 0 n at_ n) (k + 1) [(d, recN d (k + 1))] := by
  have hfit : (((LogS.mk 0 n at_ (k + 1) [] 0).first + (LogS.mk 0 n at_ (k + 1) [] 0).secs : Nat) : Int) ≤ D.sectors := by show ((0 + n : Nat) : Int) ≤ _; omega
  have hcA := apN_calm hc ⟨0, n, at_, k + 1, [], 0⟩ h2 hfit 0 (k + 1) (seaB d (k + 1)) (recN d (k + 1))
  refine ⟨⟨hcA.up, hcA.armed⟩, hT.append hc ⟨0, n, at_, k + 1, [], 0⟩ h2 hfit 0 (seaB d (k + 1)) (recN d (k + 1)), (apN_sectors _ _ _ _ _ _).trans hn, ?_⟩
  exact scan_one hl hc hT ⟨0, n, at_, k + 1, [], 0⟩ h2 hat hfit d hd hk hN hl2
theorem lr_n (x : Int) : ∃ n : Nat, 4 ≤ n ∧ n ≤ 12 ∧ wrap64 (4 + wrap64 ((IntKind.u64.wrap x).tmod 9)) = (n : Int) := by
  have h : 0 ≤ IntKind.u64.wrap x := by rw [IntKind.wrap_u64]; omega
  generalize IntKind.u64.wrap x = y at *
  have h1 : y.tmod 9 = y % 9 := Int.tmod_eq_emod_of_nonneg h
  have h2 : 0 ≤ y % 9 ∧ y % 9 < 9 := by omega
  rw [h1]
  generalize y % 9 = z at *
  rw [IntWalk.wrap64_in z (by omega), IntWalk.wrap64_in _ (by omega)]
  exact ⟨(4 + z).toNat, by omega, by omega, by omega⟩
set_option maxHeartbeats 16000000 in
theorem lround_walk (x : Int) (L : Option Addr) (m cL : Nat) (w : World) (hg : ErrT w) (hT : LTxts w L m) :
    Calls Tryd.prog 4 #[.int .i64 x, .slice L m cL] w fun e w' => e = .returned (.bool true) ∧ Fr none_ w w' := by
  have hnum : ∀ n, n = 2 ∨ n = 10 → ∀ w', Fr none_ w w' → Calls Tryd.prog 9 #[errV n] w' fun e w'' => e = .returned (.int .i64 n) ∧ Fr none_ w' w'' := fun n _ w' hF => num16_any n w' (hg.fr0 hF)
  obtain ⟨n, hn4, hn12, hn⟩ := lr_n x
  have HNUM := Lib.hid hnum
  have HT := Lib.hid hT
  have HSURE := Lib.hid (fun W => lsure_any W)
  clear hnum hT hg
  go_enter Tryd.func4, Tryd.ntmps4
  go_wp2_with fail
  try rw [hn]
  clear hn
  (with_reducible refine (new_ok (n : Int) _ (by omega) (by omega)).mono ?_)
  rintro e w1 ⟨p, m1, m2, rfl, hF1, hD1, hfr⟩
  rw [errV_0]
  have hal := (Fr.refl none_ w1).alloc (.cells #[.int .i64 0, .int .i64 (n : Int)] 33)
  have hab : (w1.alloc (.cells #[.int .i64 0, .int .i64 (n : Int)] 33)).heap[w1.heap.size]? = some (.cells #[.int .i64 0, .int .i64 (n : Int)] 33 (0, 0)) := heap_alloc_new _ _
  have hD2 := hD1.fr0 hal
  have hop : Calls Tryd.prog 6 #[ptr p, areaV 0 n, .int .i64 ((0 : Nat) : Int), .int .i64 ((1 : Nat) : Int)] (w1.alloc (.cells #[.int .i64 0, .int .i64 (n : Int)] 33)) fun e w' => LOpen (w1.alloc (.cells #[.int .i64 0, .int .i64 (n : Int)] 33)) p m1 m2 (newD (n : Int)) 0 n 0 1 [] e w' :=
    lopen_calm hD2 (calm_new _) 0 n 0 1 (by omega) (by show ((0 : Nat) : Int) + (n : Int) ≤ (n : Int); omega) (by omega) (by omega) (by omega) [] (scan_none (fun i => rfl) 0 n 0 1 0 (tags_new _) (by omega) (by omega) (by omega))
  unfold areaV at hop
  rw [show ((0 : Nat) : Int) = 0 from rfl, show ((1 : Nat) : Int) = 1 from rfl] at hop
  have hnd1 := hD1.new (Nat.le_refl w1.heap.size)
  have HOP := Lib.hid hop
  have HAB := Lib.hid hab
  have HF1 := Lib.hid (And.intro hF1 (And.intro hfr hal))
  clear hop hab hD1 hD2 hF1 hfr hal
  go_wp2_with fail
  (with_reducible refine HOP.out.mono ?_)
  rintro e w2 ⟨⟨b, vo, D2, rfl, hL2, hb2, hs2, hO2, hDv2, hc2, ht2, hsec2⟩, hF2⟩
  obtain ⟨hF1, hfr, hal⟩ := HF1.out
  have hS0 : LrS w w2 p m1 m2 b w1.heap.size n 0 0 D2 := by
    have hsz1 := hF1.size
    have hsz2 := hal.size
    exact ⟨⟨hDv2, hL2, ((hF1.trans hal).trans' hF2 (fun i hi e => by have := hfr i e; omega)), hfr, by omega, fun i hi => by have := hs2 i hi; omega⟩, hc2, ht2 0 (tags_new _), hsec2, hF2.heap HAB.out hnd1⟩
  clear hL2 hb2 hs2 hO2 hDv2 hc2 ht2 hsec2 hF2 hF1 hfr hal
  go_wp2_with fail
  go_loopw [12, 13] (fun kv iv wr => ∃ i k at_ : Nat, ∃ D, i ≤ m ∧ i ≤ 30 ∧ k ≤ i ∧ iv = .int .i64 (i : Int) ∧ kv = .int .i64 (k : Int) ∧ LrS w wr p m1 m2 b w1.heap.size n at_ k D) (fun _ iv _ => m - (intOf iv).toNat)
  case atStart => exact ⟨0, 0, 0, _, by omega, by omega, by omega, rfl, rfl, hS0⟩
  case round =>
    obtain ⟨i, k, at_, D, him, hi30, hki, rfl, rfl, hS⟩ := hrel
    clear hS0
    by_cases hex : i < m ∧ i < 30
    · obtain ⟨h1, h2⟩ := hex
      obtain ⟨bL, oL, A, nn, c, d, rfl, hc0, hTx⟩ := HT.out i h1
      have h1i : (i : Int) < (m : Int) := by omega
      have h2i : (i : Int) < 30 := by omega
      have hfr := hS.g.fr
      have e0 := hfr.cell0 hc0
      have hnn47 : nn ≤ 140737488355328 := Nat.le_trans hTx.cap hTx.most
      obtain ⟨NF, hNF⟩ : ∃ NF, NF = needF (nn : Int) ((k + 1 : Nat) : Int) := ⟨_, rfl⟩
      have hnd : ∀ W, Calls Tryd.prog 12 #[.int .i64 (nn : Int), .int .i64 ((k : Int) + 1)] W fun e w' => e = .returned (.int .i64 (NF : Int)) ∧ Fr none_ W w' := fun W => by
        have := need_any (nn : Int) ((k + 1 : Nat) : Int) W
        rw [← hNF, show ((k + 1 : Nat) : Int) = (k : Int) + 1 by omega] at this
        exact this
      have HND := Lib.hid hnd
      have HTX := Lib.hid hTx
      have HC0 := Lib.hid hc0
      clear hnd hc0
      by_cases hlong : 65536 < nn
      · have hN0 : NF = 0 := by rw [hNF]; unfold needF; rw [if_pos (by omega)]
        subst hN0
        have hap : ∀ W, Fr none_ wr W → Calls Tryd.prog 7 #[ptr b, .slice A nn c] W fun e w' => e = .returned (.tuple #[.int .i64 0, errV 2]) ∧ Fr none_ W w' := fun W hF => append_long (hS.g.log.fr0 hF) rfl A nn c hlong hnn47
        have HAP := Lib.hid hap
        clear hap hNF
        go_wp2_with fail
        (with_reducible refine (HND.out _).mono ?_)
        rintro e y1 ⟨rfl, hG1⟩
        have e1 := (hfr.trans hG1).cell0 HC0.out
        go_wp2_with fail
        (with_reducible refine (HAP.out y1 hG1).mono ?_)
        rintro e y2 ⟨rfl, hG2⟩
        have hG02 := hG1.trans hG2
        have hn2 := HNUM.out 2 (.inl rfl) y2 (hfr.trans hG02)
        rw [errV_n (by decide)] at hn2 ⊢
        have HN2 := Lib.hid hn2
        clear hn2
        go_wp2_with fail
        (with_reducible refine HN2.out.mono ?_)
        rintro e y3 ⟨rfl, hG3⟩
        have hS3 := hS.fr0 (hG02.trans hG3)
        have HS3 := Lib.hid hS3
        clear hS3
        go_wp2_with fail
        go_roundw
        case rel => exact ⟨i + 1, k, at_, D, by omega, by omega, by omega, by go_num, rfl, HS3.out⟩
        case measure => simp [intOf]; omega
      · have hdl : d.length ≤ 65536 := by have := hTx.len; omega
        have hNr : NF = recN d (k + 1) := by rw [hNF, hTx.len]; exact needF_rec d (k + 1) hdl (by omega) (by omega)
        have hN1 : 1 ≤ NF := by rw [hNr]; exact recN_pos d (k + 1)
        have hN16 : NF ≤ 16384 := by rw [hNr]; exact recN_le d (k + 1) hdl
        have q1 : (0 : Int) < (NF : Int) := by omega
        by_cases hfull : n < NF + 1
        · have q2 : ¬ (NF : Int) ≤ (n : Int) - 1 := by omega
          have q3 : (n : Int) - 1 < (NF : Int) := by omega
          have hap : ∀ W, Fr none_ wr W → Calls Tryd.prog 7 #[ptr b, .slice A nn c] W fun e w' => e = .returned (.tuple #[.int .i64 0, errV 10]) ∧ Fr none_ W w' := fun W hF => append_full (hS.g.log.fr0 hF) rfl A nn c (by omega) (k + 1) rfl (by omega) NF hNF hN16 (by show n < NF + sumN [] + 1; simp [sumN]; omega)
          have HAP := Lib.hid hap
          clear hap hNF hNr
          go_wp2_with fail
          (with_reducible refine (HND.out _).mono ?_)
          rintro e y1 ⟨rfl, hG1⟩
          have e1 := (hfr.trans hG1).cell0 HC0.out
          go_wp2_with fail
          (with_reducible refine (HAP.out y1 hG1).mono ?_)
          rintro e y2 ⟨rfl, hG2⟩
          have hG02 := hG1.trans hG2
          have hn2 := HNUM.out 10 (.inr rfl) y2 (hfr.trans hG02)
          rw [errV_n (by decide)] at hn2 ⊢
          have HN2 := Lib.hid hn2
          clear hn2
          go_wp2_with fail
          (with_reducible refine HN2.out.mono ?_)
          rintro e y3 ⟨rfl, hG3⟩
          have hS3 := hS.fr0 (hG02.trans hG3)
          have HS3 := Lib.hid hS3
          clear hS3
          go_wp2_with fail
          go_roundw
          case rel => exact ⟨i + 1, k, at_, D, by omega, by omega, by omega, by go_num, rfl, HS3.out⟩
          case measure => simp [intOf]; omega
        · have hroom : recN d (k + 1) + 1 ≤ n := by omega
          have hsn : D.sectors = (n : Int) := hS.secs
          have hfit : (((LogS.mk 0 n at_ (k + 1) [] 0).first + (LogS.mk 0 n at_ (k + 1) [] 0).secs : Nat) : Int) ≤ D.sectors := by show ((0 + n : Nat) : Int) ≤ _; omega
          have hap : ∀ W, Fr none_ wr W → Calls Tryd.prog 7 #[ptr b, .slice A nn c] W fun e w' => e = .returned (.tuple #[.int .i64 ((k : Int) + 1), .nilIface]) ∧ LApp W p m1 m2 b ⟨0, n, at_, k + 1, [], 0⟩ D (k + 1) (recN d (k + 1)) d e w' := fun W hF => by
            refine (lappend_calm (hS.g.log.fr0 hF) rfl (hS.g.dev.fr0 hF) hS.calm hfit A nn c d hTx.len (hTx.cells.fr0 (hfr.trans hF)) hTx.nil hdl (k + 1) rfl (by omega) (by omega) (by show recN d (k + 1) + sumN [] + 1 ≤ n; simp [sumN]; omega) (by show 0 < 16384; omega)).mono ?_
            intro e w' hA
            exact ⟨by rw [hA.ret, show ((k + 1 : Nat) : Int) = (k : Int) + 1 by omega], hA⟩
          have HAP := Lib.hid hap
          have HR := Lib.hid (And.intro hroom (And.intro hdl (And.intro hfit hsn)))
          clear hap hNF hNr hroom hdl hfit hsn
          go_wp2_with fail
          (with_reducible refine (HND.out _).mono ?_)
          rintro e y1 ⟨rfl, hG1⟩
          have e1 := (hfr.trans hG1).cell0 HC0.out
          go_wp2_with fail
          (with_reducible refine (HAP.out y1 hG1).mono ?_)
          rintro e y2 ⟨rfl, hA2⟩
          have hS1 := hS.fr0 hG1
          have hg2 := hS1.g.app hA2
          have hcA := apN_calm hS.calm ⟨0, n, at_, k + 1, [], 0⟩ (show 2 ≤ n by omega) HR.out.2.2.1 (sumN []) (k + 1) (seaB d (k + 1)) (recN d (k + 1))
          have hfl := lflush_ok hg2.log rfl hg2.dev hcA.up
          have ha2 := hS1.g.area hA2.fr (fun i e => e) hS1.area
          have HG2 := Lib.hid (And.intro hg2 (And.intro ha2 hS))
          have HFL := Lib.hid hfl
          clear hfl hA2 hS hS1 hg2 hcA ha2 hfr
          go_wp2_with fail
          (with_reducible refine HFL.out.mono ?_)
          rintro e y3 ⟨rfl, hL3, hD3, hG3, hz3⟩
          rw [errV_0]
          obtain ⟨hg2, ha2, hS⟩ := HG2.out
          have hg3 : LrG w y3 p m1 m2 b ⟨0, n, at_, k + 1, [recN d (k + 1)], 0⟩ (lrD D n at_ k d) := hg2.flushed hL3 hD3 hG3 hz3
          have ha3 := hg2.area hG3 (fun i e => by rcases e with e | e <;> simp [e]) ha2
          have hat3 := lat_any hg3.log
          rw [show (((LogS.mk 0 n at_ (k + 1) [recN d (k + 1)] 0).seq : Nat) : Int) = (k : Int) + 1 by rfl] at hat3
          obtain ⟨pc, pt, ps, psc⟩ := lr_plain hS.g.dev.get_len hS.calm hS.tags (show 2 ≤ n by omega) hS.g.log.most.2.2.2.1 hS.secs d HR.out.2.1 (by omega) HR.out.1 hg3.dev.get_len
          have HAT := Lib.hid hat3
          have H3 := Lib.hid (And.intro hg3 (And.intro ha3 (And.intro pc (And.intro pt (And.intro ps (And.intro psc hS.g.log.most.2.2.2.1))))))
          clear hat3 hL3 hD3 hG3 hz3 hg2 ha2 hS hg3 ha3 pc pt ps psc
          go_wp2_with fail
          (with_reducible refine HAT.out.mono ?_)
          rintro e y4 ⟨rfl, hG4⟩
          obtain ⟨hg3, ha3, pc, pt, ps, psc, hatn⟩ := H3.out
          have hg4 := hg3.fr0 hG4
          have ha4 : areaAt y4 w1.heap.size 0 n := hg3.area hG4 (fun i e => e.elim) ha3
          have a0 : y4.cell? ⟨w1.heap.size, 0, none⟩ = some (.int .i64 0) := by unfold areaAt at ha4; rw [cell_of_blk ha4]; rfl
          have a1 : y4.cell? ⟨w1.heap.size, 1, none⟩ = some (.int .i64 (n : Int)) := by unfold areaAt at ha4; rw [cell_of_blk ha4]; rfl
          have hop : Calls Tryd.prog 6 #[ptr p, .agg #[.int .i64 0, .int .i64 (n : Int)], .int .i64 (at_ : Int), .int .i64 ((k : Int) + 1)] y4 fun e w' => LOpen y4 p m1 m2 (lrD D n at_ k d) 0 n at_ (k + 1) [(d, recN d (k + 1))] e w' := by
            have := lopen_calm hg4.dev pc 0 n at_ (k + 1) (by omega) (by rw [ps]; omega) hatn (by omega) (by omega) _ psc
            unfold areaV at this
            rw [show ((k + 1 : Nat) : Int) = (k : Int) + 1 by omega, show ((0 : Nat) : Int) = 0 from rfl] at this
            exact this
          have HOP2 := Lib.hid hop
          have H4 := Lib.hid (And.intro hg4 (And.intro ha4 (And.intro pt ps)))
          clear hop hg3 ha3 pc pt ps psc hg4 ha4 hG4
          go_wp2_with fail
          (with_reducible refine HOP2.out.mono ?_)
          rintro e y5 ⟨⟨b5, vo5, D5, rfl, hL5, hb5, hs5, hO5, hDv5, hc5, ht5, hsec5⟩, hF5⟩
          obtain ⟨hg4, ha4, pt, ps⟩ := H4.out
          have hg5 := hg4.dev_step hF5 hDv5
          have ha5 := hg4.area hF5 (fun i e => .inl e) ha4
          obtain ⟨vs, hvl, hrow, hdat⟩ := hO5.vs
          obtain ⟨v0, rfl⟩ := la_one vs hvl
          obtain ⟨vi, hv1, hv2⟩ := hdat 0 (by simp)
          obtain rfl : v0 = vi := by simpa using hv1
          obtain ⟨A6, c6, rfl, hA6, hc6, hnil6, _⟩ := ownsRow_read hv2
          obtain ⟨A7, c7, rfl, hA7, hc7, hnil7, _⟩ := ownsRow_read hrow
          obtain ⟨g7, o7, rfl⟩ := hA7.addr (by rw [outC_len]; simp)
          have r0 : y5.drew.cell? ⟨g7, o7, none⟩ = some (.int .i64 ((k : Int) + 1)) := by
            have := hA7.get 0 (by rw [outC_len]; simp)
            simpa [outC] using this
          have r1 : y5.drew.cell? ⟨g7, o7 + 1, none⟩ = some (.slice A6 d.length c6) := by
            have := hA7.get 1 (by rw [outC_len]; simp)
            simpa [outC] using this
          have e5 : y5.drew.cell? ⟨bL, oL + i, none⟩ = some (.slice A nn c) := hg5.fr.cell0 HC0.out
          have kc1 : (convert 36 9 (.slice A6 d.length c6)).run Tryd.prog y5.drew = .ok (.string ⟨d.toArray⟩) y5.drew := conv_bytes (P := Tryd.prog) (src := 36) (dst := 9) (w := y5.drew) Tryd.underlying36 Tryd.underlying5 Tryd.underlying9 rfl (hA6.drew) hnil6
          have kc2 : (convert 36 9 (.slice A nn c)).run Tryd.prog y5.drew = .ok (.string ⟨d.toArray⟩) y5.drew := conv_bytes (P := Tryd.prog) (src := 36) (dst := 9) (w := y5.drew) Tryd.underlying36 Tryd.underlying5 Tryd.underlying9 HTX.out.len ((HTX.out.cells.fr0 hg5.fr).drew) HTX.out.nil
          have htr := ltrim_ok (hg5.fr0 (Fr.refl none_ y5).drew).log rfl 1 (by simp) (by show k + 1 + 1 ≤ _; omega)
          rw [show (((LogS.mk 0 n at_ (k + 1) [recN d (k + 1)] 0).seq + 1 : Nat) : Int) = (k : Int) + 1 + 1 by rfl] at htr
          have HTR := Lib.hid htr
          have H5 := Lib.hid (And.intro hg5 (And.intro ha5 (And.intro hc5 (And.intro (ht5 _ pt) (hsec5.trans ps)))))
          clear htr hg4 ha4 pt ps hF5 hL5 hb5 hs5 hO5 hDv5 hc5 ht5 hsec5 hg5 ha5 hdat hv1 hv2 hrow hA6 hA7 hvl
          go_wp2_with fail
          go_still (by kernel_rfl)
          clear r0 r1 e5 kc1 kc2
          go_wp2_with fail
          (with_reducible refine HTR.out.mono ?_)
          rintro e y6 ⟨rfl, hL6, hF6, hz6⟩
          obtain ⟨hg5, ha5, hc5, ht5, hsec5⟩ := H5.out
          have hg5d := hg5.fr0 (Fr.refl none_ y5).drew
          have ha5d := hg5.area (Fr.refl none_ y5).drew (fun i e => e.elim) ha5
          have hg6 := hg5d.trimmed hL6 hF6 hz6
          have ha6 := hg5d.area hF6 (fun i e => .inr (.inl e)) ha5d
          have hl6 : trimL ⟨0, n, at_, k + 1, [recN d (k + 1)], 0⟩ 1 = ⟨0, n, (at_ + recN d (k + 1)) % n, k + 1 + 1, [], 0⟩ := by
            unfold trimL; simp [sumN]
          rw [hl6] at hg6
          have hfr6 := free_any hg6.log
          rw [show (((LogS.mk 0 n ((at_ + recN d (k + 1)) % n) (k + 1 + 1) [] 0).secs : Int) - (sumN (LogS.mk 0 n ((at_ + recN d (k + 1)) % n) (k + 1 + 1) [] 0).sizes : Nat)) = (n : Int) by show (n : Int) - ((sumN [] : Nat) : Int) = n; simp [sumN]] at hfr6
          have HFR := Lib.hid hfr6
          have H6 := Lib.hid (And.intro hg6 (And.intro ha6 (And.intro hc5 (And.intro ht5 hsec5))))
          clear hfr6 hg6 ha6 hc5 ht5 hsec5 hg5 ha5 hg5d ha5d hL6 hF6 hz6 hl6
          go_wp2_with fail
          (with_reducible refine HFR.out.mono ?_)
          rintro e y7 ⟨rfl, hG7⟩
          have HS7 : Hid (LrS w y7 p m1 m2 b w1.heap.size n ((at_ + recN d (k + 1)) % n) (k + 1) D5) := Lib.hid (by
            obtain ⟨hg6, ha6, hc5, ht5, hsec5⟩ := H6.out
            exact (LrS.mk hg6 hc5 ht5 hsec5 ha6).fr0 hG7)
          go_wp2_with fail
          go_roundw
          case rel => exact ⟨i + 1, k + 1, _, D5, by omega, by omega, by omega, by go_num, by go_num, HS7.out⟩
          case measure => simp [intOf]; omega
    · have hS2 := Lib.hid hS
      clear hS
      by_cases h1 : i < m
      · have h1i : (i : Int) < (m : Int) := by omega
        have h2i : ¬ (i : Int) < 30 := by omega
        go_wp2_with fail
        (with_reducible refine (HSURE.out _).mono ?_)
        rintro e y1 ⟨rfl, hG1⟩
        go_wp2_with fail
        go_ret
        exact ⟨rfl, hS2.out.g.fr.trans hG1⟩
      · have h1i : ¬ (i : Int) < (m : Int) := by omega
        go_wp2_with fail
        (with_reducible refine (HSURE.out _).mono ?_)
        rintro e y1 ⟨rfl, hG1⟩
        go_wp2_with fail
        go_ret
        exact ⟨rfl, hS2.out.g.fr.trans hG1⟩
end Go.Proofs.YthkcmafflbpfoaaDoor

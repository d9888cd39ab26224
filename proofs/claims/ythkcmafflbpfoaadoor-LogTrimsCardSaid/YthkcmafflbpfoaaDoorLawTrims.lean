import Derived.Test.YthkcmafflbpfoaaDoorLawTrimsA
import Derived.Test.YthkcmafflbpfoaaDoorLogSure
import Derived.Test.YthkcmafflbpfoaaDoorLawNum16
import Derived.Deep.DeepCutAuto
import Derived.Deep.CutBlock
namespace Go.Proofs.YthkcmafflbpfoaaDoor
open Go.RowKit
set_option linter.unusedVariables false
set_option linter.unusedSimpArgs false
set_option maxRecDepth 100000

/-! LogTrims -/
set_option maxHeartbeats 16000000 in
theorem ltrims_walk (x : Int) (L : Option Addr) (m cL : Nat) (w : World) (hg : ErrT w) (hT : LTxts w L m) :
    Calls Tryd.prog 3 #[.slice L m cL, .int .i64 x] w fun e w' => e = .returned (.bool true) ∧ Fr none_ w w' := by
  have hnum : ∀ w', Fr none_ w w' → Calls Tryd.prog 9 #[errV 4] w' fun e w'' => e = .returned (.int .i64 4) ∧ Fr none_ w' w'' := fun w' hF => num16_any 4 w' (hg.fr0 hF)
  rw [errV_n (by decide)] at hnum
  have HNUM := Lib.hid hnum
  have HT := Lib.hid hT
  have HSURE := Lib.hid (fun W => lsure_any W)
  clear hnum hT hg
  go_enter Tryd.func3, Tryd.ntmps3
  go_wp2_with fail
  (with_reducible refine (new_ok 40 _ (by decide) (by decide)).mono ?_)
  rintro e w1 ⟨p, m1, m2, rfl, hF1, hD1, hfr⟩
  rw [errV_0]
  have hop := lopen_new hD1
  have HOP := Lib.hid hop
  have HF1 := Lib.hid (And.intro hF1 hfr)
  clear hop hD1 hF1 hfr
  go_wp2_with fail
  (with_reducible refine HOP.out.mono ?_)
  rintro e w2 ⟨⟨b, vo, D2, rfl, hL2, hb2, hs2, hDv2, hP2⟩, hF2⟩
  obtain ⟨hF1, hfr⟩ := HF1.out
  have hS0 : LtS w w2 p m1 m2 b w2.heap.size D2 [] (.slice none 0 0) := by
    have hsz1 := hF1.size
    have hsz2 := hF2.size
    refine ⟨⟨hDv2, hL2, hF1.trans' hF2 (fun i hi e => by have := hfr i e; omega), hfr, by omega, fun i hi => by have := hs2 i hi; omega⟩, hP2, ⟨[], rfl, by simpa using World.ownsRow_nil _ _ _ _, fun j hj => absurd hj (by simp)⟩, by omega, Nat.le_refl _⟩
  have hB : w2.heap.size = w2.heap.size := rfl
  obtain ⟨base, hbase⟩ : ∃ base, base = w2.heap.size := ⟨_, rfl⟩
  rw [← hbase] at hS0
  clear hbase hB hL2 hb2 hs2 hDv2 hP2 hF2 hF1 hfr
  go_upto_block 0 with fail
  go_cut [10, 11, 12, 13] (fun va _ _ _ wx => ∃ D ds, LtS w wx p m1 m2 b base D ds va)
  case first =>
    go_wp2_with fail
    go_loopw [10, 11] (fun va iv wr => ∃ i : Nat, ∃ D ds, i ≤ m ∧ i ≤ 12 ∧ ds.length ≤ i ∧ iv = .int .i64 (i : Int) ∧ LtS w wr p m1 m2 b base D ds va) (fun _ iv _ => m - (intOf iv).toNat)
    case atStart => exact ⟨0, _, [], by omega, by omega, by simp, rfl, hS0⟩
    case round =>
      obtain ⟨i, D, ds, him, hi12, hdi, rfl, hS⟩ := hrel
      clear hS0
      by_cases hex : i < m ∧ i < 12
      · obtain ⟨h1, h2⟩ := hex
        obtain ⟨bL, oL, A, nn, c, d, rfl, hc0, hTx⟩ := HT.out i h1
        have h1i : (i : Int) < (m : Int) := by omega
        have h2i : (i : Int) < 12 := by omega
        have hfr := hS.g.fr
        have e0 := hfr.cell0 hc0
        have hnn47 : nn ≤ 140737488355328 := Nat.le_trans hTx.cap hTx.most
        have HTX := Lib.hid hTx
        have HC0 := Lib.hid hc0
        clear hc0
        by_cases hlong : 65536 < nn
        · have hap := append_long hS.g.log rfl A nn c hlong hnn47
          have HAP := Lib.hid hap
          clear hap
          go_wp2_with fail
          (with_reducible refine HAP.out.mono ?_)
          rintro e y1 ⟨rfl, hG1⟩
          rw [errV_n (by decide)]
          have HS3 := Lib.hid (hS.fr0 hG1)
          go_wp2_with fail
          go_roundw
          case rel => exact ⟨i + 1, D, ds, by omega, by omega, by omega, by go_num, HS3.out⟩
          case measure => simp [intOf]; omega
        · have hdl : d.length ≤ 65536 := by have := hTx.len; omega
          have hln : (szs 7 ds).length = ds.length := szs_len 7 ds
          by_cases hfull : 30 < recN d (7 + ds.length) + sumN (szs 7 ds) + 1
          · have hap := append_full hS.g.log rfl A nn c (by omega) (7 + ds.length) (by show _ = 7 + (szs 7 ds).length; rw [hln]) (by omega) (recN d (7 + ds.length)) (by rw [hTx.len]; exact (needF_rec d (7 + ds.length) hdl (by omega) (by omega)).symm) (recN_le d _ hdl) hfull
            have HAP := Lib.hid hap
            clear hap
            go_wp2_with fail
            (with_reducible refine HAP.out.mono ?_)
            rintro e y1 ⟨rfl, hG1⟩
            rw [errV_n (by decide)]
            have HS3 := Lib.hid (hS.fr0 hG1)
            go_wp2_with fail
            go_roundw
            case rel => exact ⟨i + 1, D, ds, by omega, by omega, by omega, by go_num, HS3.out⟩
            case measure => simp [intOf]; omega
          · have hap := lappend_calm hS.g.log rfl hS.g.dev hS.pl.calm (by rw [hS.pl.secs]; show ((3 + 30 : Nat) : Int) ≤ 40; decide) A nn c d hTx.len (hTx.cells.fr0 hfr) hTx.nil hdl (7 + ds.length) (by show _ = 7 + (szs 7 ds).length; rw [hln]) (by omega) (by omega) (by show recN d (7 + ds.length) + sumN (szs 7 ds) + 1 ≤ 30; omega) (by show (szs 7 ds).length < 16384; rw [hln]; omega)
            have HAP := Lib.hid hap
            clear hap
            go_wp2_with fail
            (with_reducible refine HAP.out.mono ?_)
            rintro e y1 hA1
            obtain rfl := hA1.ret
            have hg1 := hS.g.app hA1
            have hl1 : ({ (ltL ds) with sizes := (ltL ds).sizes ++ [recN d (7 + ds.length)] } : LogS) = ltL (ds ++ [d]) := by unfold ltL; rw [szs_append]; rfl
            rw [hl1] at hg1
            have hp1 := hS.pl.push d hdl (by omega) (by omega)
            have ha1 := hS.all.frG hS.g hA1.fr (fun i e => e)
            have hle1 : base ≤ y1.heap.size := Nat.le_trans hS.le.2 hA1.fr.size
            have e1 := hg1.fr.cell0 HC0.out
            obtain ⟨vs, hv1, hv2, hv3⟩ := ha1.row
            have hal := (Fr.refl none_ y1).alloc (.cells #[.slice A nn c] 36)
            have hown := ownsRow_fr0 hv2 hal
            have hcw := CellsAt.whole (l := [.slice A nn c]) (heap_alloc_new y1 (.cells #[.slice A nn c] 36))
            have HZZ := Lib.hid (And.intro hown (And.intro hcw (show base ≤ (y1.alloc (.cells #[.slice A nn c] 36)).heap.size from Nat.le_trans hle1 hal.size)))
            have HY := Lib.hid (And.intro hg1 (And.intro hp1 (And.intro hS.le.1 (And.intro hv1 (And.intro hv3 hal)))))
            have hd12 : ds.length ≤ 12 := hS.pl.many
            clear hA1 hg1 hp1 ha1 hv1 hv2 hv3 hal hown hcw hS hfr hle1 hl1 hln
            go_wp2_with ((with_reducible refine at_append (.tmp 63) (.tmp 68) 22 base 36 (.slice none 0 0) 1 24 (n := ds.length) (A := some ⟨y1.heap.size, 0, none⟩) (m := 1) (c := 1) (news := [.slice A nn c]) Tryd.underlying22 info_txt ?_ ?_ ?_ ?_ HZZ.out.1 HZZ.out.2.1 ?_ ?_ ?_ ?_ ?_ ?_ ?_); (focus rfl); (focus decide); (focus rfl); (focus rfl); (focus (intro h; cases h)); (focus rfl); (focus (intro u hu; rw [List.mem_singleton.1 hu]; rfl)); (focus unfold maxLen; omega); (focus omega); (focus exact HZZ.out.2.2); intro v5 w5 hown5 hg5; have HG5 := Lib.hid (And.intro hown5 hg5); clear hown5 hg5)
            go_roundw
            case rel =>
              obtain ⟨hg1, hp1, hle, hv1, hv3, hal⟩ := HY.out
              exact ⟨i + 1, _, ds ++ [d], by omega, by omega, by rw [List.length_append, List.length_singleton]; omega, by go_num, LtS.pushed (hg1.fr0 hal) hp1 ⟨hle, HZZ.out.2.2⟩ hv1 HZZ.out.1 hv3 HTX.out HG5.out.1 HG5.out.2⟩
            case measure => simp [intOf]; omega
      · have hS2 := Lib.hid hS
        clear hS
        by_cases h1 : i < m
        · have h1i : (i : Int) < (m : Int) := by omega
          have h2i : ¬ (i : Int) < 12 := by omega
          go_wp2_with fail
          go_meet
          exact ⟨D, ds, hS2.out⟩
        · have h1i : ¬ (i : Int) < (m : Int) := by omega
          go_wp2_with fail
          go_meet
          exact ⟨D, ds, hS2.out⟩
  case rest =>
    obtain ⟨D, ds, hS⟩ := hcut
    clear hS0
    obtain ⟨vs, hv1, hv2, hv3⟩ := hS.all.row
    obtain ⟨A6, c6, rfl, hA6, hc6, hnil6, _⟩ := ownsRow_read hv2
    obtain ⟨q, hq⟩ : ∃ q, q = ds.length := ⟨_, rfl⟩
    have hq12 : q ≤ 12 := by rw [hq]; exact hS.pl.many
    rw [← hq] at hc6 hnil6 ⊢
    obtain ⟨k, hk, hkw⟩ := lt_k x q hq12
    have hz : ¬ ((q : Int) + 1) = 0 := by omega
    have HV := Lib.hid (And.intro hv1 (And.intro hA6 hv3))
    have HQ := Lib.hid hq
    have HS := Lib.hid hS
    clear hv1 hv2 hv3 hA6 hq hS hnil6
    go_wp2_with fail
    rw [hkw]
    clear hkw hz
    have hS := HS.out
    have hqe := HQ.out
    have hln : (szs 7 ds).length = q := by rw [szs_len, hqe]
    have htr := ltrim_ok hS.g.log rfl k (by show k ≤ (szs 7 ds).length; omega) (by show 7 + (szs 7 ds).length ≤ _; omega)
    rw [show (((ltL ds).seq + k : Nat) : Int) = 7 + (k : Int) by show ((7 + k : Nat) : Int) = _; omega] at htr
    have HTR := Lib.hid htr
    clear htr
    (with_reducible refine HTR.out.mono ?_)
    rintro e y1 ⟨rfl, hL1, hG1, hz1⟩
    have hg1 := hS.g.trimmed hL1 hG1 hz1
    have ha1 := hS.all.frG hS.g hG1 (fun i e => .inr (.inl e))
    have hl1s : (trimL (ltL ds) k).sizes.length = q - k := by show ((szs 7 ds).drop k).length = _; rw [List.length_drop, hln]
    have ht6 : ∀ W, Fr none_ y1 W → Calls Tryd.prog 8 #[ptr b, .int .i64 (6 + (k : Int))] W fun e w' => e = .returned (errV 4) ∧ Fr none_ W w' := fun W hF => by
      have := ltrim_bad (hL1.fr0 hF) rfl (6 + k) (by omega) (.inl (by show 6 + k < 7 + k; omega))
      rw [show ((6 + k : Nat) : Int) = 6 + (k : Int) by omega] at this
      exact this
    have ht8 : ∀ W, Fr none_ y1 W → Calls Tryd.prog 8 #[ptr b, .int .i64 (8 + (q : Int))] W fun e w' => e = .returned (errV 4) ∧ Fr none_ W w' := fun W hF => by
      have := ltrim_bad (hL1.fr0 hF) rfl (8 + q) (by omega) (.inr (by rw [hl1s]; show 7 + k + (q - k) < 8 + q; omega))
      rw [show ((8 + q : Nat) : Int) = 8 + (q : Int) by omega] at this
      exact this
    rw [errV_n (by decide)] at ht6 ht8
    have HT6 := Lib.hid ht6
    have HT8 := Lib.hid ht8
    have HY1 := Lib.hid (And.intro hg1 (And.intro ha1 hS.pl))
    have hfr1 := hg1.fr
    clear ht6 ht8 hL1 hG1 hz1 hg1 ha1 hl1s hln hqe hS
    go_wp2_with fail
    (with_reducible refine (HT6.out y1 (Fr.refl _ _)).mono ?_)
    rintro e y2 ⟨rfl, hG2⟩
    go_wp2_with fail
    (with_reducible refine (HNUM.out y2 (hfr1.trans hG2)).mono ?_)
    rintro e y3 ⟨rfl, hG3⟩
    have hG13 := hG2.trans hG3
    go_wp2_with fail
    (with_reducible refine (HT8.out y3 hG13).mono ?_)
    rintro e y4 ⟨rfl, hG4⟩
    have hG14 := hG13.trans hG4
    go_wp2_with fail
    (with_reducible refine (HNUM.out y4 (hfr1.trans hG14)).mono ?_)
    rintro e y5 ⟨rfl, hG5⟩
    obtain ⟨hg1, ha1, hP⟩ := HY1.out
    have hG15 := hG14.trans hG5
    have hg5 := hg1.fr0 hG15
    have ha5 := ha1.fr hG15 (fun k c e => e.elim)
    have hat := lat_any hg5.log
    obtain ⟨at', hat'⟩ : ∃ at', at' = (5 + sumN ((szs 7 ds).take k)) % 30 := ⟨_, rfl⟩
    rw [show (((trimL (ltL ds) k).at_ : Nat) : Int) = (at' : Int) by rw [hat']; rfl, show (((trimL (ltL ds) k).seq : Nat) : Int) = 7 + (k : Int) by show ((7 + k : Nat) : Int) = _; omega] at hat
    have HAT := Lib.hid hat
    have HY5 := Lib.hid (And.intro hg5 (And.intro ha5 (And.intro hP hat')))
    clear hat hg1 ha1 hP hat' hg5 ha5 hG2 hG3 hG4 hG5 hG13 hG14
    go_wp2_with fail
    (with_reducible refine HAT.out.mono ?_)
    rintro e y6 ⟨rfl, hG6⟩
    obtain ⟨hg5, ha5, hP, hat'⟩ := HY5.out
    have hg6 := hg5.fr0 hG6
    have ha6 := ha5.fr hG6 (fun k c e => e.elim)
    have hsc := hP.scan hg6.dev.get_len k (by have := HQ.out; omega)
    rw [← hat'] at hsc
    have hop : Calls Tryd.prog 6 #[ptr p, .agg #[.int .i64 3, .int .i64 30], .int .i64 (at' : Int), .int .i64 (7 + (k : Int))] y6 fun e w' => LOpen y6 p m1 m2 D 3 30 at' (7 + k) ((ds.drop k).zip (szs (7 + k) (ds.drop k))) e w' := by
      have := lopen_calm hg6.dev hP.calm 3 30 at' (7 + k) (by omega) (by rw [hP.secs]; decide) (by rw [hat']; exact Nat.mod_lt _ (by omega)) (by omega) (by omega) _ hsc
      unfold areaV at this
      rw [show ((7 + k : Nat) : Int) = 7 + (k : Int) by omega] at this
      exact this
    have HOP2 := Lib.hid hop
    have HY6 := Lib.hid (And.intro hg6 ha6)
    clear hop hsc hg5 ha5 hP hat' hg6 ha6 hG6
    go_wp2_with fail
    (with_reducible refine HOP2.out.mono ?_)
    rintro e y7 ⟨⟨b7, vo7, D7, rfl, hL7, hb7, hs7, hO7, hDv7, hc7, ht7, hsec7⟩, hF7⟩
    obtain ⟨hg6, ha6⟩ := HY6.out
    have hg7 := hg6.dev_step hF7 hDv7
    have ha7 := ha6.frG hg6 hF7 (fun i e => .inl e)
    obtain ⟨r, hr⟩ : ∃ r, r = q - k := ⟨_, rfl⟩
    have hrl : ((ds.drop k).zip (szs (7 + k) (ds.drop k))).length = r := by rw [zip_szs_len, List.length_drop, ← HQ.out, hr]
    obtain ⟨vs7, hv71, hv72, hv73⟩ := hO7.vs
    rw [hrl] at hv71 hv72
    obtain ⟨A7, c7, rfl, hA7, hc77, hnil7, _⟩ := ownsRow_read hv72
    obtain ⟨vs6, hw1, hw2, hw3⟩ := ha7.row
    rw [← HQ.out] at hw1 hw2
    have kx : wrap64 ((q : Int) - (k : Int)) = (r : Int) := by rw [show (q : Int) - (k : Int) = (r : Int) by omega, IntWalk.wrap64_in _ (by omega)]
    have hr12 : r ≤ 12 := by omega
    have kd : (q : Int) - (k : Int) = (r : Int) := by omega
    clear kx
    have HR := Lib.hid hr
    have HY7 := Lib.hid (And.intro hg7 (And.intro ha7 (And.intro hv71 (And.intro hA7 (And.intro hv73 hrl)))))
    clear hg6 ha6 hL7 hb7 hs7 hO7 hDv7 hc7 ht7 hsec7 hF7 hg7 ha7 hv71 hv72 hv73 hA7 hr hrl hw1 hw2 hw3 hnil7
    go_wp2_with fail
    clear kd
    go_loopw [20] (fun iv wr => ∃ j : Nat, j ≤ r ∧ iv = .int .i64 (j : Int) ∧ Fr none_ y7 wr) (fun iv _ => r - (intOf iv).toNat)
    case atStart => exact ⟨0, Nat.zero_le _, rfl, Fr.refl _ _⟩
    case round =>
      obtain ⟨j, hj, rfl, hFj⟩ := hrel
      by_cases hlt : j < r
      · have h1i : (j : Int) < (r : Int) := by omega
        obtain ⟨hg7, ha7, hv71, hA7, hv73, hrl⟩ := HY7.out
        have hqr := HR.out
        have hkj : k + j < q := by omega
        have hFd : Fr none_ y7 wr.drew := hFj.drew
        obtain ⟨vi, hvi, hown⟩ := hv73 j (by rw [hrl]; exact hlt)
        obtain ⟨x1, x2⟩ := outC_get (7 + k) vs7 j vi hvi
        have hA7d := hA7.fr0 hFd
        obtain ⟨g7, o7, rfl⟩ := hA7d.addr (by rw [outC_len]; omega)
        obtain ⟨A8, c8, rfl, hA8, hc8, hnil8, hbx8⟩ := ownsRow_read hown
        clear hbx8
        have hdj : ((ds.drop k).zip (szs (7 + k) (ds.drop k)))[j].1 = (ds.drop k)[j]'(by rw [List.length_drop, ← HQ.out]; omega) := zip_szs_get (7 + k) (ds.drop k) j _ _
        obtain ⟨d, hd⟩ : ∃ d, d = ((ds.drop k).zip (szs (7 + k) (ds.drop k)))[j].1 := ⟨_, rfl⟩
        rw [← hd] at hA8 hnil8 hvi x2 hdj
        have r0 : wr.drew.cell? ⟨g7, o7 + j * 2, none⟩ = some (.int .i64 (7 + (k : Int) + (j : Int))) := by
          obtain ⟨hl, he⟩ := List.getElem?_eq_some_iff.1 x1
          have := hA7d.get (j * 2) hl
          rw [he, show ((7 + k + j : Nat) : Int) = 7 + (k : Int) + (j : Int) by omega] at this
          exact this
        have r1 : wr.drew.cell? ⟨g7, o7 + j * 2 + 1, none⟩ = some (.slice A8 d.length c8) := by
          obtain ⟨hl, he⟩ := List.getElem?_eq_some_iff.1 x2
          have := hA7d.get (j * 2 + 1) hl
          rw [he] at this
          exact this
        obtain ⟨vs6', hw1, hw2, hw3⟩ := ha7.row
        rw [← HQ.out] at hw1 hw2
        obtain ⟨A6', c6', hv6, hA6, hc66, hnil6, hbx6⟩ := ownsRow_read hw2
        clear hbx6
        cases hv6
        have hA6d := hA6.fr0 hFd
        obtain ⟨g6, o6, rfl⟩ := hA6d.addr (by omega)
        obtain ⟨kj, hkje⟩ : ∃ kj, kj = k + j := ⟨_, rfl⟩
        obtain ⟨A, n, c, e6, hTx⟩ := hw3 kj (by rw [← HQ.out]; omega)
        have e6c : wr.drew.cell? ⟨g6, o6 + kj, none⟩ = some (.slice A n c) := by
          obtain ⟨hl, he⟩ := List.getElem?_eq_some_iff.1 e6
          have := hA6d.get kj hl
          rw [he] at this
          exact this
        have hdd : ds[kj]'(by rw [← HQ.out]; omega) = d := by
          rw [hdj, List.getElem_drop]
          congr 1
        rw [hdd] at hTx
        have kc1 : (convert 36 9 (.slice A8 d.length c8)).run Tryd.prog wr.drew = .ok (.string ⟨d.toArray⟩) wr.drew := conv_bytes (P := Tryd.prog) (src := 36) (dst := 9) (w := wr.drew) Tryd.underlying36 Tryd.underlying5 Tryd.underlying9 rfl (hA8.fr0 hFd) hnil8
        have kc2 : (convert 36 9 (.slice A n c)).run Tryd.prog wr.drew = .ok (.string ⟨d.toArray⟩) wr.drew := conv_bytes (P := Tryd.prog) (src := 36) (dst := 9) (w := wr.drew) Tryd.underlying36 Tryd.underlying5 Tryd.underlying9 hTx.len (hTx.cells.fr0 (hg7.fr.trans hFd)) hTx.nil
        have w1' : IntKind.i64.wrap (7 + (k : Int) + (j : Int)) = 7 + (k : Int) + (j : Int) := by rw [IntWalk.i64_in _ (by omega)]
        have w2' : IntKind.i64.wrap ((k : Int) + (j : Int)) = (kj : Int) := by rw [hkje, sec_i1 k j (by omega)]
        have i1 : (kj : Int) < (q : Int) := by omega
        have i2 : kj < q := by omega
        have FJ := Lib.hid hFj
        clear hg7 ha7 hv71 hA7 hv73 hrl hqr hkj hFd hvi hown x1 x2 hA7d hA8 hc8 hnil8 hdj hd hw1 hw2 hw3 hA6 hA6d hc66 hnil6 hkje e6 hTx hdd hFj
        go_wp2_with fail
        go_still (by kernel_rfl)
        clear r0 r1 e6c kc1 kc2 w1' w2'
        go_wp2_with fail
        go_roundw
        case rel => exact ⟨j + 1, by omega, by go_num, FJ.out.drew⟩
        case measure => simp [intOf]; omega
      · have h1i : ¬ (j : Int) < (r : Int) := by omega
        have hfr7 := HY7.out.1.fr.trans hFj
        go_wp2_with fail
        (with_reducible refine (HSURE.out _).mono ?_)
        rintro e z1 ⟨rfl, hG⟩
        go_wp2_with fail
        go_ret
        exact ⟨rfl, hfr7.trans hG⟩
end Go.Proofs.YthkcmafflbpfoaaDoor

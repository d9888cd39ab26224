import Derived.Test.YtniiokhkmdknaaaDoorWholeK
import Derived.Test.YtniiokhkmdknaaaDoorLawNum04
import Derived.Deep.RegionHeld3
namespace Go.Proofs.YtniiokhkmdknaaaDoor
open Go.RowKit
set_option linter.unusedVariables false
set_option linter.unusedSimpArgs false

/-! ToggleWhole -/
set_option maxHeartbeats 16000000 in
set_option maxRecDepth 100000 in
theorem whole_walk (L : Option Addr) (m cL : Nat) (B : Option Addr) (nb cb : Nat) (arms : List Int) (K : Option Addr) (nk ck : Nat) (kept : List Bool) (w : World) (hg : ErrT w) (hT : TextsAt w L m)
    (hnb : nb = arms.length) (hB : CellsAt w B (arms.map intV)) (hnk : nk = kept.length) (hK : CellsAt w K (kept.map Value.bool)) (hKn : K = none → nk = 0 ∧ ck = 0) (hkp : kept.length ≤ 140737488351232) :
    Calls Tryd.prog 5 #[.slice L m cL, .slice B nb cb, .slice K nk ck] w fun e w' => e = .returned (.bool true) ∧ Fr none_ w w' := by
  subst hnb hnk
  have hnum : ∀ n w', Fr none_ w w' → Calls Tryd.prog 9 #[errV n] w' fun e w'' => e = .returned (.int .i64 n) ∧ Fr none_ w' w'' := fun n w' hF => num04_any n w' (hg.fr0 hF)
  have hnum13 := hnum 13
  have hnum8 := hnum 8
  rw [errV_n (by decide)] at hnum13 hnum8
  have HN13 := Lib.hid hnum13
  have HN8 := Lib.hid hnum8
  have HT := Lib.hid hT
  have HB := Lib.hid hB
  have hown := fun w' (hF : Fr none_ w w') => own_any w' K _ ck kept rfl (hK.fr0 hF) hKn hkp
  have HOWN := Lib.hid hown
  clear hnum hnum13 hnum8 hT hg hB hown hK hKn
  go_enter Tryd.func5, Tryd.ntmps5
  go_wp2_with fail
  (with_reducible refine (new_ok 11 _ (by decide) (by decide)).mono ?_)
  rintro e w1 ⟨p, m1, m2, rfl, hF1, hD1, hfr⟩
  rw [errV_0]
  have had : ¬ devBlks p m1 m2 w1.heap.size := hD1.new (Nat.le_refl _)
  have hal := heap_alloc_new w1 (.cells #[.int .i64 1, .int .i64 10] 30)
  have hW0 : Wh w (w1.alloc (.cells #[.int .i64 1, .int .i64 10] 30)) p m1 m2 w1.heap.size none (newD 11) := ⟨hF1.alloc _, hD1.fr0 ((Fr.refl _ _).alloc _), hfr, rfl, rfl, rfl, rfl, hal, had⟩
  clear hF1 hD1 hfr hal had
  go_wp2_with fail
  go_loopw [10, 11, 12] (fun s b i wr => ∃ k : Nat, ∃ o D, k ≤ m ∧ k ≤ 20 ∧ i = .int .i64 k ∧ b = .bool (Option.isSome o) ∧ s = strOf (oT o) ∧ oN o ≤ k ∧ Wh w wr p m1 m2 w1.heap.size o D) (fun _ _ i _ => m - (intOf i).toNat)
  case atStart => exact ⟨0, none, _, by omega, by omega, rfl, rfl, rfl, Nat.le_refl _, hW0⟩
  case round =>
    obtain ⟨k, o, D, hkm, hk20, rfl, rfl, rfl, hok, hR⟩ := hrel
    by_cases hex : k < m ∧ k < 20
    · obtain ⟨h1, h2⟩ := hex
      obtain ⟨bL, oL, A, n, c, l, rfl, hcell, hTx⟩ := HT.out k h1
      have h1i : (k : Int) < (m : Int) := by omega
      have h2i : (k : Int) < 20 := by omega
      by_cases ka : k < arms.length
      · have kai : (k : Int) < (arms.length : Int) := by omega
        obtain ⟨bB, oB, rfl, hcb⟩ := HB.out k (by simpa using ka)
        obtain ⟨na, hna⟩ : ∃ na, na = arms[k] := ⟨_, rfl⟩
        have hcb : wr.cell? ⟨bB, oB + k, none⟩ = some (.int .i64 na) := by rw [hR.fr.cell0 hcb, List.getElem_map, hna]; rfl
        clear hna
        go_wp2_with fail
        (with_reducible refine (arm_any hR.dev _).mono ?_)
        rintro e w2 ⟨rfl, hF2, hD2⟩
        rw [arm_E0 hR.up (arm9 na).1, errV_0]
        have hR := hR.arm (arm9 na).1 hF2 hD2
        clear hcb hF2 hD2
        have hsec := hR.sec
        have hst : ∀ w', w'.heap[w1.heap.size]? = some (.cells #[.int .i64 1, .int .i64 10] 30 (0, 0)) → Fr none_ w w' → ((w'.cell? ⟨w1.heap.size, 0, none⟩ = some (.int .i64 1) ∧ w'.cell? ⟨w1.heap.size, 1, none⟩ = some (.int .i64 10)) ∧ w'.cell? ⟨bL, oL + k, none⟩ = some (.slice A n c)) := fun w' ha hF => ⟨⟨by rw [cell_of_blk ha]; rfl, by rw [cell_of_blk ha]; rfl⟩, hF.cell0 hcell⟩
        have hR0 := hR.step0 (Fr.refl none_ w2).drew
        have hs0 := hst _ hR0.ar hR0.fr
        have HST := Lib.hid hst
        have hap : ∀ b, blkOf A b → 0 < l.length → ¬ devBlks p m1 m2 b := fun b hb hl hd => by have := hTx.cells.lt hb (by simpa using hl); have := hR.new b hd; omega
        have hA0 := hTx.cells.fr0 hR0.fr
        obtain ⟨E, hE⟩ : ∃ E, E = D.arm (wrap64 ((IntKind.u64.wrap na).tmod 9)) := ⟨_, rfl⟩
        rw [← hE] at hR0 hsec
        clear hE hst hR
        by_cases hle : l.length ≤ 256
        · by_cases hdn : (saveT E 1 10 (nextT o l)).down = true
          · have hsv : Calls Tryd.prog 8 #[ptr p, area 1 10, .slice A n c] w2.drew fun e w' => e = .returned (errV 13) ∧ Cr w w' p m1 m2 w1.heap.size o l E := by
              refine (tsave_any hR0.dev 1 10 hR0.up (by decide) (by decide) (by omega) A n c l hTx.len hA0 hap (hTx.len ▸ hTx.cap) (by omega) hR0.tg).mono ?_
              rintro e w' ⟨h1, h2, h3⟩
              exact ⟨by rw [h1, hdn]; rfl, hR0.crash h2 h3 hdn⟩
            rw [errV_n (by decide)] at hsv
            have HSV := Lib.hid hsv
            clear hsv hap hA0
            cases o with
            | none =>
              rw [show Option.isSome (none : Option Text) = false from rfl, show strOf (oT none) = .string ⟨#[]⟩ from rfl]
              go_wp2_with fail
              go_region_held3 (fun w' => ((w'.cell? ⟨w1.heap.size, 0, none⟩ = some (.int .i64 1) ∧ w'.cell? ⟨w1.heap.size, 1, none⟩ = some (.int .i64 10)) ∧ w'.cell? ⟨bL, oL + k, none⟩ = some (.slice A n c))) (first | exact hs0 | exact HST.out _ hY1.ar hY1.fr) (first
                | (go_at_call 8; (with_reducible refine HSV.out.mono ?_); rintro e y1 ⟨rfl, hY1⟩))
              go_wp2_with fail
              (with_reducible refine (down_any hY1.dev).mono ?_)
              rintro e y2 ⟨rfl, rfl⟩
              rw [hY1.down]
              go_wp2_with fail
              (with_reducible refine (HN13.out _ hY1.fr).mono ?_)
              rintro e y3 ⟨rfl, hG3⟩
              have hY3 := hY1.step0 hG3
              go_wp2_with fail
              (with_reducible refine (HOWN.out _ hY3.fr).mono ?_)
              rintro e y4 ⟨A4, c4, rfl, hA4, hbl4, hG4⟩
              have hY4 := hY3.step0 hG4
              have hst4 := start_any hY4.dev A4 kept.length c4 kept rfl hA4 (fun x hx _ hd => by have := hbl4 x hx; have := hY3.dev.lt x hd; omega) hkp
              have HST4 := Lib.hid hst4
              clear hst4 hA4 hbl4
              go_wp2_with fail
              (with_reducible refine HST4.out.mono ?_)
              rintro e y6 ⟨rfl, hF6, hD6⟩
              have hY6 := hY4.start hle kept hF6 hD6
              have a0 : y6.cell? ⟨w1.heap.size, 0, none⟩ = some (.int .i64 1) := by rw [cell_of_blk hY6.ar]; rfl
              have a1 : y6.cell? ⟨w1.heap.size, 1, none⟩ = some (.int .i64 10) := by rw [cell_of_blk hY6.ar]; rfl
              have hld := tload_any hY6.dev 1 10 hY6.up (by decide) (by decide) (by have := hY6.sec; omega) hY6.tg
              have HLD := Lib.hid hld
              clear hld
              go_wp2_with fail
              (with_reducible refine HLD.out.mono ?_)
              rintro e y7 ⟨rfl, hG7⟩
              rw [errV_n (by decide)]
              have hY7 := hY6.step0 hG7
              go_wp2_with fail
              (with_reducible refine (HN8.out _ hY7.fr).mono ?_)
              rintro e y8 ⟨rfl, hG8⟩
              have hY8 := hY7.step0 hG8
              go_wp2_with fail
              go_roundw
              case rel => exact ⟨k + 1, none, _, by omega, by omega, by go_num, rfl, rfl, by omega, hY8⟩
              case measure => simp [intOf]; omega
            | some t =>
              rw [show Option.isSome (some t) = true from rfl, show strOf (oT (some t)) = .string ⟨t.text.toArray⟩ from rfl]
              go_wp2_with fail
              go_region_held3 (fun w' => ((w'.cell? ⟨w1.heap.size, 0, none⟩ = some (.int .i64 1) ∧ w'.cell? ⟨w1.heap.size, 1, none⟩ = some (.int .i64 10)) ∧ w'.cell? ⟨bL, oL + k, none⟩ = some (.slice A n c))) (first | exact hs0 | exact HST.out _ hY1.ar hY1.fr) (first
                | (go_at_call 8; (with_reducible refine HSV.out.mono ?_); rintro e y1 ⟨rfl, hY1⟩))
              go_wp2_with fail
              (with_reducible refine (down_any hY1.dev).mono ?_)
              rintro e y2 ⟨rfl, rfl⟩
              rw [hY1.down]
              go_wp2_with fail
              (with_reducible refine (HN13.out _ hY1.fr).mono ?_)
              rintro e y3 ⟨rfl, hG3⟩
              have hY3 := hY1.step0 hG3
              go_wp2_with fail
              (with_reducible refine (HOWN.out _ hY3.fr).mono ?_)
              rintro e y4 ⟨A4, c4, rfl, hA4, hbl4, hG4⟩
              have hY4 := hY3.step0 hG4
              have hst4 := start_any hY4.dev A4 kept.length c4 kept rfl hA4 (fun x hx _ hd => by have := hbl4 x hx; have := hY3.dev.lt x hd; omega) hkp
              have HST4 := Lib.hid hst4
              clear hst4 hA4 hbl4
              go_wp2_with fail
              (with_reducible refine HST4.out.mono ?_)
              rintro e y6 ⟨rfl, hF6, hD6⟩
              have hY6 := hY4.start hle kept hF6 hD6
              have a0 : y6.cell? ⟨w1.heap.size, 0, none⟩ = some (.int .i64 1) := by rw [cell_of_blk hY6.ar]; rfl
              have a1 : y6.cell? ⟨w1.heap.size, 1, none⟩ = some (.int .i64 10) := by rw [cell_of_blk hY6.ar]; rfl
              have hld : Calls Tryd.prog 10 #[ptr p, area 1 10] y6 fun e w' => Loaded y6 t.text t.n e w' := tload_any hY6.dev 1 10 hY6.up (by decide) (by decide) (by have := hY6.sec; omega) hY6.tg
              have HLD := Lib.hid hld
              clear hld
              go_wp2_with fail
              (with_reducible refine HLD.out.mono ?_)
              rintro e y7 ⟨A', c', rfl, hA', hnil', hbl', hG7⟩
              rw [errV_0]
              have hY7 := hY6.step0 hG7
              have kcv := conv_bytes (P := Tryd.prog) (src := 32) (dst := 9) (w := y7) Tryd.underlying32 Tryd.underlying5 Tryd.underlying9 rfl hA' hnil'
              clear hA' hnil' hbl'
              go_wp2_with fail
              go_roundw
              case rel => exact ⟨k + 1, some t, _, by omega, by omega, by go_num, rfl, rfl, by omega, hY7⟩
              case measure => simp [intOf]; omega
          · have hsv : Calls Tryd.prog 8 #[ptr p, area 1 10, .slice A n c] w2.drew fun e w' => e = .returned .nilIface ∧ Wh w w' p m1 m2 w1.heap.size (some (nextT o l)) (saveT E 1 10 (nextT o l)) := by
              refine (tsave_any hR0.dev 1 10 hR0.up (by decide) (by decide) (by omega) A n c l hTx.len hA0 hap (hTx.len ▸ hTx.cap) (by omega) hR0.tg).mono ?_
              rintro e w' ⟨h1, h2, h3⟩
              exact ⟨by rw [h1, if_neg hdn]; rfl, hR0.save l hle (by omega) h2 h3 (by simpa using hdn)⟩
            have HSV := Lib.hid hsv
            have hlei : (n : Int) ≤ 256 := by have := hTx.len; omega
            clear hsv hap hA0
            go_wp2_with fail
            go_region_held3 (fun w' => ((w'.cell? ⟨w1.heap.size, 0, none⟩ = some (.int .i64 1) ∧ w'.cell? ⟨w1.heap.size, 1, none⟩ = some (.int .i64 10)) ∧ w'.cell? ⟨bL, oL + k, none⟩ = some (.slice A n c))) (first | exact hs0 | exact HST.out _ hY1.ar hY1.fr) (first
              | (go_at_call 8; (with_reducible refine HSV.out.mono ?_); rintro e y1 ⟨rfl, hY1⟩))
            have ce := (HST.out _ hY1.ar hY1.fr).2
            have hY2 := hY1.step0 (Fr.refl none_ y1).drew
            have ce2 : y1.drew.cell? ⟨bL, oL + k, none⟩ = some (.slice A n c) := ce
            have kcv := conv_bytes (P := Tryd.prog) (src := 32) (dst := 9) (w := y1.drew) Tryd.underlying32 Tryd.underlying5 Tryd.underlying9 hTx.len (hTx.cells.fr0 hY2.fr) hTx.nil
            go_wp2_with fail
            (with_reducible refine (down_any hY1.dev).mono ?_)
            rintro e y2 ⟨rfl, rfl⟩
            rw [hY1.up]
            go_wp2_with fail
            go_still (by kernel_rfl)
            go_wp2_with fail
            go_roundw
            case rel =>
              refine ⟨k + 1, some (nextT o l), _, by omega, by omega, by go_num, rfl, ?_, ?_, hY2⟩
              · show _ = strOf (nextT o l).text
                rw [nextT_text]
                rfl
              · show (nextT o l).n ≤ _
                rw [next_n]
                omega
            case measure => simp [intOf]; omega
        · have hsv : Calls Tryd.prog 8 #[ptr p, area 1 10, .slice A n c] w2.drew fun e w' => e = .returned (errV 2) ∧ Fr none_ w2.drew w' :=
            tsave_over hR0.dev 1 10 hR0.up (by decide) (by decide) (by omega) A n c l hTx.len hA0 hap (hTx.len ▸ hTx.cap) (by omega) hR0.tg
          rw [errV_n (by decide)] at hsv
          have HSV := Lib.hid hsv
          clear hsv hap hA0
          go_wp2_with fail
          go_region_held3 (fun w' => ((w'.cell? ⟨w1.heap.size, 0, none⟩ = some (.int .i64 1) ∧ w'.cell? ⟨w1.heap.size, 1, none⟩ = some (.int .i64 10)) ∧ w'.cell? ⟨bL, oL + k, none⟩ = some (.slice A n c))) (first | exact hs0 | exact HST.out _ hY1.ar hY1.fr) (first
            | (go_at_call 8; (with_reducible refine HSV.out.mono ?_); rintro e y1 ⟨rfl, hG1⟩; have hY1 := hR0.step0 hG1))
          have hY2 := hY1.step0 (Fr.refl none_ y1).drew
          have ce := (HST.out _ hY1.ar hY1.fr).2
          have ce2 : y1.drew.cell? ⟨bL, oL + k, none⟩ = some (.slice A n c) := ce
          go_wp2_with fail
          (with_reducible refine (down_any hY1.dev).mono ?_)
          rintro e y2 ⟨rfl, rfl⟩
          rw [hY1.up]
          go_wp2_with fail
          have hlei : ¬ (n : Int) ≤ 256 := by have := hTx.len; omega
          have hlen : ¬ n ≤ 256 := by have := hTx.len; omega
          go_still (by kernel_rfl)
          go_wp2_with fail
          go_roundw
          case rel => exact ⟨k + 1, o, _, by omega, by omega, by go_num, rfl, rfl, by omega, hY2⟩
          case measure => simp [intOf]; omega
      · have kai : ¬ (k : Int) < (arms.length : Int) := by omega
        have hsec := hR.sec
        have hst : ∀ w', w'.heap[w1.heap.size]? = some (.cells #[.int .i64 1, .int .i64 10] 30 (0, 0)) → Fr none_ w w' → ((w'.cell? ⟨w1.heap.size, 0, none⟩ = some (.int .i64 1) ∧ w'.cell? ⟨w1.heap.size, 1, none⟩ = some (.int .i64 10)) ∧ w'.cell? ⟨bL, oL + k, none⟩ = some (.slice A n c)) := fun w' ha hF => ⟨⟨by rw [cell_of_blk ha]; rfl, by rw [cell_of_blk ha]; rfl⟩, hF.cell0 hcell⟩
        have hR0 := hR.step0 (Fr.refl none_ wr).drew
        have hs0 := hst _ hR0.ar hR0.fr
        have HST := Lib.hid hst
        have hap : ∀ b, blkOf A b → 0 < l.length → ¬ devBlks p m1 m2 b := fun b hb hl hd => by have := hTx.cells.lt hb (by simpa using hl); have := hR.new b hd; omega
        have hA0 := hTx.cells.fr0 hR0.fr
        obtain ⟨E, hE⟩ : ∃ E, E = D := ⟨_, rfl⟩
        rw [← hE] at hR0 hsec
        clear hE hst hR
        by_cases hle : l.length ≤ 256
        · by_cases hdn : (saveT E 1 10 (nextT o l)).down = true
          · have hsv : Calls Tryd.prog 8 #[ptr p, area 1 10, .slice A n c] wr.drew fun e w' => e = .returned (errV 13) ∧ Cr w w' p m1 m2 w1.heap.size o l E := by
              refine (tsave_any hR0.dev 1 10 hR0.up (by decide) (by decide) (by omega) A n c l hTx.len hA0 hap (hTx.len ▸ hTx.cap) (by omega) hR0.tg).mono ?_
              rintro e w' ⟨h1, h2, h3⟩
              exact ⟨by rw [h1, hdn]; rfl, hR0.crash h2 h3 hdn⟩
            rw [errV_n (by decide)] at hsv
            have HSV := Lib.hid hsv
            clear hsv hap hA0
            cases o with
            | none =>
              rw [show Option.isSome (none : Option Text) = false from rfl, show strOf (oT none) = .string ⟨#[]⟩ from rfl]
              go_wp2_with fail
              go_region_held3 (fun w' => ((w'.cell? ⟨w1.heap.size, 0, none⟩ = some (.int .i64 1) ∧ w'.cell? ⟨w1.heap.size, 1, none⟩ = some (.int .i64 10)) ∧ w'.cell? ⟨bL, oL + k, none⟩ = some (.slice A n c))) (first | exact hs0 | exact HST.out _ hY1.ar hY1.fr) (first
                | (go_at_call 8; (with_reducible refine HSV.out.mono ?_); rintro e y1 ⟨rfl, hY1⟩))
              go_wp2_with fail
              (with_reducible refine (down_any hY1.dev).mono ?_)
              rintro e y2 ⟨rfl, rfl⟩
              rw [hY1.down]
              go_wp2_with fail
              (with_reducible refine (HN13.out _ hY1.fr).mono ?_)
              rintro e y3 ⟨rfl, hG3⟩
              have hY3 := hY1.step0 hG3
              go_wp2_with fail
              (with_reducible refine (HOWN.out _ hY3.fr).mono ?_)
              rintro e y4 ⟨A4, c4, rfl, hA4, hbl4, hG4⟩
              have hY4 := hY3.step0 hG4
              have hst4 := start_any hY4.dev A4 kept.length c4 kept rfl hA4 (fun x hx _ hd => by have := hbl4 x hx; have := hY3.dev.lt x hd; omega) hkp
              have HST4 := Lib.hid hst4
              clear hst4 hA4 hbl4
              go_wp2_with fail
              (with_reducible refine HST4.out.mono ?_)
              rintro e y6 ⟨rfl, hF6, hD6⟩
              have hY6 := hY4.start hle kept hF6 hD6
              have a0 : y6.cell? ⟨w1.heap.size, 0, none⟩ = some (.int .i64 1) := by rw [cell_of_blk hY6.ar]; rfl
              have a1 : y6.cell? ⟨w1.heap.size, 1, none⟩ = some (.int .i64 10) := by rw [cell_of_blk hY6.ar]; rfl
              have hld := tload_any hY6.dev 1 10 hY6.up (by decide) (by decide) (by have := hY6.sec; omega) hY6.tg
              have HLD := Lib.hid hld
              clear hld
              go_wp2_with fail
              (with_reducible refine HLD.out.mono ?_)
              rintro e y7 ⟨rfl, hG7⟩
              rw [errV_n (by decide)]
              have hY7 := hY6.step0 hG7
              go_wp2_with fail
              (with_reducible refine (HN8.out _ hY7.fr).mono ?_)
              rintro e y8 ⟨rfl, hG8⟩
              have hY8 := hY7.step0 hG8
              go_wp2_with fail
              go_roundw
              case rel => exact ⟨k + 1, none, _, by omega, by omega, by go_num, rfl, rfl, by omega, hY8⟩
              case measure => simp [intOf]; omega
            | some t =>
              rw [show Option.isSome (some t) = true from rfl, show strOf (oT (some t)) = .string ⟨t.text.toArray⟩ from rfl]
              go_wp2_with fail
              go_region_held3 (fun w' => ((w'.cell? ⟨w1.heap.size, 0, none⟩ = some (.int .i64 1) ∧ w'.cell? ⟨w1.heap.size, 1, none⟩ = some (.int .i64 10)) ∧ w'.cell? ⟨bL, oL + k, none⟩ = some (.slice A n c))) (first | exact hs0 | exact HST.out _ hY1.ar hY1.fr) (first
                | (go_at_call 8; (with_reducible refine HSV.out.mono ?_); rintro e y1 ⟨rfl, hY1⟩))
              go_wp2_with fail
              (with_reducible refine (down_any hY1.dev).mono ?_)
              rintro e y2 ⟨rfl, rfl⟩
              rw [hY1.down]
              go_wp2_with fail
              (with_reducible refine (HN13.out _ hY1.fr).mono ?_)
              rintro e y3 ⟨rfl, hG3⟩
              have hY3 := hY1.step0 hG3
              go_wp2_with fail
              (with_reducible refine (HOWN.out _ hY3.fr).mono ?_)
              rintro e y4 ⟨A4, c4, rfl, hA4, hbl4, hG4⟩
              have hY4 := hY3.step0 hG4
              have hst4 := start_any hY4.dev A4 kept.length c4 kept rfl hA4 (fun x hx _ hd => by have := hbl4 x hx; have := hY3.dev.lt x hd; omega) hkp
              have HST4 := Lib.hid hst4
              clear hst4 hA4 hbl4
              go_wp2_with fail
              (with_reducible refine HST4.out.mono ?_)
              rintro e y6 ⟨rfl, hF6, hD6⟩
              have hY6 := hY4.start hle kept hF6 hD6
              have a0 : y6.cell? ⟨w1.heap.size, 0, none⟩ = some (.int .i64 1) := by rw [cell_of_blk hY6.ar]; rfl
              have a1 : y6.cell? ⟨w1.heap.size, 1, none⟩ = some (.int .i64 10) := by rw [cell_of_blk hY6.ar]; rfl
              have hld : Calls Tryd.prog 10 #[ptr p, area 1 10] y6 fun e w' => Loaded y6 t.text t.n e w' := tload_any hY6.dev 1 10 hY6.up (by decide) (by decide) (by have := hY6.sec; omega) hY6.tg
              have HLD := Lib.hid hld
              clear hld
              go_wp2_with fail
              (with_reducible refine HLD.out.mono ?_)
              rintro e y7 ⟨A', c', rfl, hA', hnil', hbl', hG7⟩
              rw [errV_0]
              have hY7 := hY6.step0 hG7
              have kcv := conv_bytes (P := Tryd.prog) (src := 32) (dst := 9) (w := y7) Tryd.underlying32 Tryd.underlying5 Tryd.underlying9 rfl hA' hnil'
              clear hA' hnil' hbl'
              go_wp2_with fail
              go_roundw
              case rel => exact ⟨k + 1, some t, _, by omega, by omega, by go_num, rfl, rfl, by omega, hY7⟩
              case measure => simp [intOf]; omega
          · have hsv : Calls Tryd.prog 8 #[ptr p, area 1 10, .slice A n c] wr.drew fun e w' => e = .returned .nilIface ∧ Wh w w' p m1 m2 w1.heap.size (some (nextT o l)) (saveT E 1 10 (nextT o l)) := by
              refine (tsave_any hR0.dev 1 10 hR0.up (by decide) (by decide) (by omega) A n c l hTx.len hA0 hap (hTx.len ▸ hTx.cap) (by omega) hR0.tg).mono ?_
              rintro e w' ⟨h1, h2, h3⟩
              exact ⟨by rw [h1, if_neg hdn]; rfl, hR0.save l hle (by omega) h2 h3 (by simpa using hdn)⟩
            have HSV := Lib.hid hsv
            have hlei : (n : Int) ≤ 256 := by have := hTx.len; omega
            clear hsv hap hA0
            go_wp2_with fail
            go_region_held3 (fun w' => ((w'.cell? ⟨w1.heap.size, 0, none⟩ = some (.int .i64 1) ∧ w'.cell? ⟨w1.heap.size, 1, none⟩ = some (.int .i64 10)) ∧ w'.cell? ⟨bL, oL + k, none⟩ = some (.slice A n c))) (first | exact hs0 | exact HST.out _ hY1.ar hY1.fr) (first
              | (go_at_call 8; (with_reducible refine HSV.out.mono ?_); rintro e y1 ⟨rfl, hY1⟩))
            have ce := (HST.out _ hY1.ar hY1.fr).2
            have hY2 := hY1.step0 (Fr.refl none_ y1).drew
            have ce2 : y1.drew.cell? ⟨bL, oL + k, none⟩ = some (.slice A n c) := ce
            have kcv := conv_bytes (P := Tryd.prog) (src := 32) (dst := 9) (w := y1.drew) Tryd.underlying32 Tryd.underlying5 Tryd.underlying9 hTx.len (hTx.cells.fr0 hY2.fr) hTx.nil
            go_wp2_with fail
            (with_reducible refine (down_any hY1.dev).mono ?_)
            rintro e y2 ⟨rfl, rfl⟩
            rw [hY1.up]
            go_wp2_with fail
            go_still (by kernel_rfl)
            go_wp2_with fail
            go_roundw
            case rel =>
              refine ⟨k + 1, some (nextT o l), _, by omega, by omega, by go_num, rfl, ?_, ?_, hY2⟩
              · show _ = strOf (nextT o l).text
                rw [nextT_text]
                rfl
              · show (nextT o l).n ≤ _
                rw [next_n]
                omega
            case measure => simp [intOf]; omega
        · have hsv : Calls Tryd.prog 8 #[ptr p, area 1 10, .slice A n c] wr.drew fun e w' => e = .returned (errV 2) ∧ Fr none_ wr.drew w' :=
            tsave_over hR0.dev 1 10 hR0.up (by decide) (by decide) (by omega) A n c l hTx.len hA0 hap (hTx.len ▸ hTx.cap) (by omega) hR0.tg
          rw [errV_n (by decide)] at hsv
          have HSV := Lib.hid hsv
          clear hsv hap hA0
          go_wp2_with fail
          go_region_held3 (fun w' => ((w'.cell? ⟨w1.heap.size, 0, none⟩ = some (.int .i64 1) ∧ w'.cell? ⟨w1.heap.size, 1, none⟩ = some (.int .i64 10)) ∧ w'.cell? ⟨bL, oL + k, none⟩ = some (.slice A n c))) (first | exact hs0 | exact HST.out _ hY1.ar hY1.fr) (first
            | (go_at_call 8; (with_reducible refine HSV.out.mono ?_); rintro e y1 ⟨rfl, hG1⟩; have hY1 := hR0.step0 hG1))
          have hY2 := hY1.step0 (Fr.refl none_ y1).drew
          have ce := (HST.out _ hY1.ar hY1.fr).2
          have ce2 : y1.drew.cell? ⟨bL, oL + k, none⟩ = some (.slice A n c) := ce
          go_wp2_with fail
          (with_reducible refine (down_any hY1.dev).mono ?_)
          rintro e y2 ⟨rfl, rfl⟩
          rw [hY1.up]
          go_wp2_with fail
          have hlei : ¬ (n : Int) ≤ 256 := by have := hTx.len; omega
          have hlen : ¬ n ≤ 256 := by have := hTx.len; omega
          go_still (by kernel_rfl)
          go_wp2_with fail
          go_roundw
          case rel => exact ⟨k + 1, o, _, by omega, by omega, by go_num, rfl, rfl, by omega, hY2⟩
          case measure => simp [intOf]; omega
    · have hsec := hR.sec
      have c0 : wr.cell? ⟨w1.heap.size, 0, none⟩ = some (.int .i64 1) := by rw [cell_of_blk hR.ar]; rfl
      have c1 : wr.cell? ⟨w1.heap.size, 1, none⟩ = some (.int .i64 10) := by rw [cell_of_blk hR.ar]; rfl
      have hld := tload_any hR.dev 1 10 hR.up (by decide) (by decide) (by omega) hR.tg
      have hcond : ¬ (k : Int) < (m : Int) ∨ ((k : Int) < (m : Int) ∧ ¬ (k : Int) < 20) := by omega
      clear hex hkm hk20
      cases o with
      | none =>
        have HLD := Lib.hid hld
        rw [show Option.isSome (none : Option Text) = false from rfl, show strOf (oT none) = .string ⟨#[]⟩ from rfl]
        clear hld hok
        rcases hcond with q1 | ⟨q1, q2⟩
        all_goals
          go_wp2_with fail
          (with_reducible refine HLD.out.mono ?_)
          rintro e y1 ⟨rfl, hG1⟩
          rw [errV_n (by decide)]
          have hY1 := hR.step0 hG1
          have kcv : (convert 32 9 (.slice none 0 0)).run Tryd.prog y1 = .ok (.string ⟨#[]⟩) y1 := conv_bytes (P := Tryd.prog) (src := 32) (dst := 9) (w := y1) Tryd.underlying32 Tryd.underlying5 Tryd.underlying9 (A := none) (n := 0) (c := 0) (l := []) rfl (CellsAt.nil _ _) (fun _ => ⟨rfl, rfl⟩)
          go_wp2_with fail
          (with_reducible refine (tsure_any _).mono ?_)
          rintro e y6 ⟨rfl, hG6⟩
          go_wp2_with fail
          go_ret
          exact ⟨rfl, hY1.fr.trans hG6⟩
      | some t =>
        have hld : Calls Tryd.prog 10 #[ptr p, area 1 10] wr fun e w' => Loaded wr t.text t.n e w' := hld
        have HLD := Lib.hid hld
        rw [show Option.isSome (some t) = true from rfl, show strOf (oT (some t)) = .string ⟨t.text.toArray⟩ from rfl]
        clear hld hok
        rcases hcond with q1 | ⟨q1, q2⟩
        all_goals
          go_wp2_with fail
          (with_reducible refine HLD.out.mono ?_)
          rintro e y1 ⟨A', c', rfl, hA', hnil', hbl', hG1⟩
          rw [errV_0]
          have hY1 := hR.step0 hG1
          have kcv := conv_bytes (P := Tryd.prog) (src := 32) (dst := 9) (w := y1) Tryd.underlying32 Tryd.underlying5 Tryd.underlying9 rfl hA' hnil'
          go_wp2_with fail
          (with_reducible refine (tsure_any _).mono ?_)
          rintro e y6 ⟨rfl, hG6⟩
          go_wp2_with fail
          go_ret
          exact ⟨rfl, hY1.fr.trans hG6⟩
end Go.Proofs.YtniiokhkmdknaaaDoor

import Derived.Test.YthkcmafflbpfoaaLogSafeAll
import Derived.Test.YthkcmafflbpfoaaLogSure
import Derived.Deep.DeepCutAuto
import Derived.Deep.CutBlock
namespace Go.Proofs.Ythkcmafflbpfoaa
open Go.RowKit
set_option linter.unusedVariables false
set_option linter.unusedSimpArgs false
set_option maxRecDepth 100000

/-! LogSafe -/
def SfAct (W wx : World) (p m1 m2 b ab x : Nat) (cs : Array Value) (n i kk : Nat) (va atv fv sv : Value) : Prop :=
  ∃ at_ first safe : Nat, ∃ all D, all.length ≤ i + 1 ∧ atv = .int .i64 (at_ : Int) ∧ fv = .int .i64 (first : Int) ∧ sv = .int .i64 (safe : Int) ∧
    ((kk < 6 ∧ SfS W wx p m1 m2 b (kpX ab n x cs) ab n at_ first safe all va D) ∨ ((6 ≤ kk ∨ D.down = true) ∧ SfD W wx p m1 m2 (kpX ab n x cs) ab n at_ first safe all va D))
theorem start_unarmed (D : DevS) (hl : D.lost = false) (kept : List Bool) : (D.start kept).armed = false := by unfold DevS.start; rw [if_neg (by rw [hl]; simp)]
theorem sub_new (n : Nat) (h3 : 3 ≤ n) (h14 : n ≤ 14) : Sub (newD (n : Int)) n 0 1 (recs [] 1) (0 + 1 - 1) := by
  refine ⟨⟨by omega, h3, by omega, (fun d hd => by cases hd), by show sumN (szs 1 []) < n; simp [szs, sumN]; omega, Nat.zero_le _, Nat.le_refl _, by decide⟩, rfl, rfl, ⟨fun j i hi he => .inr ⟨zero_low (Nat.le_refl _), by simp [szs, sumN]⟩, fun j x hx => by cases hx⟩⟩
set_option maxHeartbeats 40000000 in
theorem lsafe_walk (x : Int) (L : Option Addr) (m cL : Nat) (w : World) (hT : SActsAt w L m) :
    Calls Try.prog 3 #[.int .i64 x, .slice L m cL] w fun e w' => e = .returned (.bool true) ∧ Fr none_ w w' := by
  obtain ⟨n, hn3, hn14, hn⟩ := sa_n x
  have HT := Lib.hid hT
  have HSURE := Lib.hid (fun W => lsure_any W)
  clear hT
  go_enter Try.func3, Try.ntmps3
  go_wp2_with fail
  try rw [hn]
  clear hn
  (with_reducible refine (new_ok (n : Int) _ (by omega) (by omega)).mono ?_)
  rintro e w1 ⟨p, m1, m2, rfl, hF1, hD1, hfr⟩
  rw [errV_0]
  have hal := (Fr.refl none_ w1).alloc (.cells #[.int .i64 0, .int .i64 (n : Int)] 30)
  have hab : (w1.alloc (.cells #[.int .i64 0, .int .i64 (n : Int)] 30)).heap[w1.heap.size]? = some (.cells #[.int .i64 0, .int .i64 (n : Int)] 30 (0, 0)) := heap_alloc_new _ _
  have hS0 : SfD w (w1.alloc (.cells #[.int .i64 0, .int .i64 (n : Int)] 30)) p m1 m2 (kpA w1.heap.size n) w1.heap.size n 0 1 0 [] (.slice none 0 0) (newD (n : Int)) :=
    ⟨hD1.fr0 hal, hF1.trans hal, hfr, sub_new n hn3 hn14, ⟨[], rfl, by simpa using World.ownsRow_nil _ _ _ _, fun j hj => absurd hj (by simp)⟩, ⟨hF1.size, hal.size⟩, Keep.area hab, ⟨Nat.le_refl _, Nat.le_refl _, Nat.le_refl _⟩⟩
  have hop := sf_open hS0 rfl rfl
  rw [show ((0 : Nat) : Int) = 0 from rfl, show ((1 : Nat) : Int) = 1 from rfl] at hop
  have HOP := Lib.hid hop
  clear hop hS0 hab hal hF1 hD1 hfr
  go_wp2_with fail
  (with_reducible refine HOP.out.mono ?_)
  rintro e w2 ⟨b0, vo, D2, hsd, ⟨ha, _⟩ | ⟨c, rfl, hO⟩⟩
  · cases ha
  have hS1 : SfS w w2 p m1 m2 b0 (kpA w1.heap.size n) w1.heap.size n 0 1 0 [] (.slice none 0 0) D2 := by
    have hg := hO.g
    have hf := hO.full
    rw [show (recs [] 1).take c = [] from List.take_nil] at hg hf
    exact ⟨hsd, hg, hO.up, hf⟩
  clear hsd hO
  go_wp2_with fail
  go_loopw [9, 12, 13, 14, 15, 16] (fun bv va atv fv sv iv wr => ∃ i b at_ first safe : Nat, ∃ all D, i ≤ m ∧ i ≤ 40 ∧ all.length ≤ i ∧ bv = ptr b ∧ atv = .int .i64 (at_ : Int) ∧ fv = .int .i64 (first : Int) ∧ sv = .int .i64 (safe : Int) ∧ iv = .int .i64 (i : Int) ∧ SfS w wr p m1 m2 b (kpA w1.heap.size n) w1.heap.size n at_ first safe all va D) (fun _ _ _ _ _ iv _ => m - (intOf iv).toNat)
  case atStart => exact ⟨0, b0, 0, 1, 0, [], D2, by omega, by omega, by simp, rfl, rfl, rfl, rfl, rfl, hS1⟩
  case round =>
    obtain ⟨i, b, at_, first, safe, all, D, him, hi40, hai, rfl, rfl, rfl, rfl, rfl, hS⟩ := hrel
    clear hS1
    by_cases hex : i < m ∧ i < 40
    · obtain ⟨h1, h2⟩ := hex
      obtain ⟨bL, oL, kd, nn, aa, A, nd, c, d, Ak, nk, ck, kept, rfl, q0, q1, q2, q3, q4, hA, hK⟩ := HT.out i h1
      have h1i : (i : Int) < (m : Int) := by omega
      have h2i : (i : Int) < 40 := by omega
      have hfr := hS.g.fr
      have e0 := hfr.cell0 q0
      have e1 := hfr.cell0 q1
      have e2 := hfr.cell0 q2
      have e3 := hfr.cell0 q3
      have e4 := hfr.cell0 q4
      have HAA := Lib.hid (And.intro hA hK)
      clear q0 q1 q2 q3 q4 hK
      by_cases hlong : 1000 < nd
      · have hli : (1000 : Int) < (nd : Int) := by omega
        have HS := Lib.hid (hS.fr0 ((Fr.refl none_ wr).alloc (.cells #[.int .i64 kd, .int .i64 nn, .int .i64 aa, .slice A nd c, .slice Ak nk ck] 39)))
        clear hS hfr
        go_wp2_with fail
        go_roundw
        case rel => exact ⟨i + 1, b, at_, first, safe, all, D, by omega, by omega, by omega, rfl, rfl, rfl, rfl, by go_num, HS.out⟩
        case measure => simp [intOf]; omega
      · have hli : ¬ (1000 : Int) < (nd : Int) := by omega
        obtain ⟨kk, hkk, hkw⟩ := sa_mod kd 8 (by omega) (by omega)
        replace hkw : wrap64 ((IntKind.u64.wrap kd).tmod 8) = (kk : Int) := hkw
        obtain ⟨X, hX⟩ : ∃ X, X = wr.alloc (.cells #[.int .i64 kd, .int .i64 nn, .int .i64 aa, .slice A nd c, .slice Ak nk ck] 39) := ⟨_, rfl⟩
        have hbx : X.heap[wr.heap.size]? = some (.cells #[.int .i64 kd, .int .i64 nn, .int .i64 aa, .slice A nd c, .slice Ak nk ck] 39 (0, 0)) := by rw [hX]; exact heap_alloc_new _ _
        have hFX : Fr none_ wr X := by rw [hX]; exact (Fr.refl _ _).alloc _
        have hSX0 := hS.fr0 hFX
        have hSX := hSX0.rekeep (hSX0.sd.keep.act hbx)
        obtain ⟨x17, hx17⟩ : ∃ x17, x17 = wr.heap.size := ⟨_, rfl⟩
        obtain ⟨vs, hv1, hv2, hv3⟩ := hSX.sd.txt.row
        obtain ⟨A6, c6, rfl, hA6, hc6, hnil6, hbb6⟩ := ownsRow_read hv2
        clear hbb6 hA6 hnil6 hv1 hv2 hv3
        have d0 : X.cell? ⟨x17, 0, none⟩ = some (.int .i64 kd) := by rw [hx17, cell_of_blk hbx]; rfl
        have d1 : X.cell? ⟨x17, 1, none⟩ = some (.int .i64 nn) := by rw [hx17, cell_of_blk hbx]; rfl
        have d3 : X.cell? ⟨x17, 3, none⟩ = some (.slice A nd c) := by rw [hx17, cell_of_blk hbx]; rfl
        have d4 : X.cell? ⟨x17, 4, none⟩ = some (.slice Ak nk ck) := by rw [hx17, cell_of_blk hbx]; rfl
        rw [← hx17] at hSX
        have HSX := Lib.hid hSX
        have HX17 := Lib.hid hx17
        have HXE := Lib.hid hX
        clear hS hSX0 hSX hfr hbx hFX hX hx17
        go_upto_block 2 with fail
        rw [← HXE.out, ← HX17.out]
        rw [hkw]
        clear e0 e1 e2 e3 e4
        go_cut [12, 13, 14, 15, 18, 19, 20] (fun va atv fv sv _ _ _ wx => SfAct w wx p m1 m2 b w1.heap.size x17 #[.int .i64 kd, .int .i64 nn, .int .i64 aa, .slice A nd c, .slice Ak nk ck] n i kk va atv fv sv)
        case first =>
          clear HXE HX17
          have k17 : X.cell? ⟨x17, 0, none⟩ = some (.int .i64 kd) := d0
          obtain rfl | rfl | rfl | h67 | hk3 : kk = 3 ∨ kk = 4 ∨ kk = 5 ∨ (kk = 6 ∨ kk = 7) ∨ kk < 3 := by omega
          · as_aux_lemma =>
              have hfl := sf_flush HSX.out
              have HFL := Lib.hid hfl
              clear hfl
              go_wp2_with fail
              (with_reducible refine HFL.out.mono ?_)
              rintro e y1 ⟨rfl, hS1⟩
              have HS1 := Lib.hid hS1
              clear hS1
              go_wp2_with fail
              go_meet
              exact ⟨at_, first, all.length, all, _, by omega, rfl, rfl, rfl, .inl ⟨by omega, HS1.out⟩⟩
          · as_aux_lemma =>
              obtain ⟨k3, hk3, hkw3⟩ := sa_mod nn 3 (by omega) (by omega)
              replace hkw3 : wrap64 ((IntKind.u64.wrap nn).tmod 3) = (k3 : Int) := hkw3
              have hnum := HSX.out.sd.num
              by_cases hks : first + k3 ≤ safe + 1
              · as_aux_lemma =>
                  have c1 : (first : Int) + (k3 : Int) ≤ (safe : Int) + 1 := by omega
                  have htr := sf_trim HSX.out k3 hks
                  rw [show ((first + k3 : Nat) : Int) = (first : Int) + (k3 : Int) by omega] at htr
                  have HTR := Lib.hid htr
                  have hb1 : first ≤ 50 ∧ safe ≤ 50 := by omega
                  obtain ⟨hb11, hb12⟩ := hb1
                  clear htr hnum hks
                  go_wp2_with fail
                  (with_reducible refine HTR.out.mono ?_)
                  rintro e y1 ⟨rfl, hS1⟩
                  have hat := lat_any hS1.g.log
                  obtain ⟨at2, hat2⟩ : ∃ at2, at2 = (at_ + sumN (szs first ((recs all first).take k3))) % n := ⟨_, rfl⟩
                  rw [← hat2] at hS1 hat
                  rw [show (((lsL n at2 (first + k3) (recs all (first + k3))).seq : Nat) : Int) = (first : Int) + (k3 : Int) by show ((first + k3 : Nat) : Int) = _; omega, show (((lsL n at2 (first + k3) (recs all (first + k3))).at_ : Nat) : Int) = (at2 : Int) from rfl] at hat
                  have HAT := Lib.hid hat
                  have HS1 := Lib.hid hS1
                  clear hS1 hat hat2
                  go_wp2_with fail
                  (with_reducible refine HAT.out.mono ?_)
                  rintro e y2 ⟨rfl, hG2⟩
                  have HS2 := Lib.hid (HS1.out.fr0 hG2)
                  clear hG2
                  go_wp2_with fail
                  go_meet
                  exact ⟨at2, first + k3, safe, all, _, by omega, rfl, by go_num, rfl, .inl ⟨by omega, HS2.out⟩⟩
              · as_aux_lemma =>
                  have c1 : ¬ (first : Int) + (k3 : Int) ≤ (safe : Int) + 1 := by omega
                  have hb1 : first ≤ 50 ∧ safe ≤ 50 := by omega
                  obtain ⟨hb11, hb12⟩ := hb1
                  clear hnum hks
                  go_wp2_with fail
                  go_meet
                  exact ⟨at_, first, safe, all, _, by omega, rfl, rfl, rfl, .inl ⟨by omega, HSX.out⟩⟩
          · as_aux_lemma =>
              obtain ⟨k8, hk8, hkw8⟩ := sa_mod nn 8 (by omega) (by omega)
              replace hkw8 : wrap64 ((IntKind.u64.wrap nn).tmod 8) = (k8 : Int) := hkw8
              have har := sf_armS HSX.out (k8 : Int) (by omega)
              have HAR := Lib.hid har
              clear har
              go_wp2_with fail
              (with_reducible refine HAR.out.mono ?_)
              rintro e y1 ⟨rfl, hS1⟩
              rw [errV_0]
              have HS1 := Lib.hid hS1
              clear hS1
              go_wp2_with fail
              go_meet
              exact ⟨at_, first, safe, all, _, by omega, rfl, rfl, rfl, .inl ⟨by omega, HS1.out⟩⟩
          · as_aux_lemma =>
              have hst := sf_start HSX.out.sd Ak nk ck kept HAA.out.2
              have HST := Lib.hid hst
              clear hst
              have HSX2 := Lib.hid HSX.out.sd
              rcases h67 with rfl | rfl
              · as_aux_lemma =>
                  go_wp2_with fail
                  (with_reducible refine HST.out.mono ?_)
                  rintro e y1 ⟨rfl, hF1, hS1⟩
                  have HS1 := Lib.hid hS1
                  clear hS1 hF1
                  go_wp2_with fail
                  go_meet
                  exact ⟨at_, first, safe, all, _, by omega, rfl, rfl, rfl, .inr ⟨.inl (by omega), HS1.out⟩⟩
              · as_aux_lemma =>
                  go_wp2_with fail
                  (with_reducible refine HST.out.mono ?_)
                  rintro e y1 ⟨rfl, hF1, hS1⟩
                  have HS1 := Lib.hid hS1
                  clear hS1 hF1
                  go_wp2_with fail
                  go_meet
                  exact ⟨at_, first, safe, all, _, by omega, rfl, rfl, rfl, .inr ⟨.inl (by omega), HS1.out⟩⟩
          · as_aux_lemma =>
              have z3 : ((kk : Int) == 3) = false := by rw [beq_eq_false_iff_ne]; omega
              have z4 : ((kk : Int) == 4) = false := by rw [beq_eq_false_iff_ne]; omega
              have z5 : ((kk : Int) == 5) = false := by rw [beq_eq_false_iff_ne]; omega
              have z6 : ((kk : Int) == 6) = false := by rw [beq_eq_false_iff_ne]; omega
              have z7 : ((kk : Int) == 7) = false := by rw [beq_eq_false_iff_ne]; omega
              have hdl : d.length ≤ 65536 := by have := hA.len; omega
              have hal41 : all.length ≤ 41 := by omega
              by_cases hfull : n < recN d (all.length + 1) + sumN (szs first (recs all first)) + 1
              · as_aux_lemma =>
                  have hap := sf_full HSX.out A nd c d hA hdl (by omega) hfull
                  have HAP := Lib.hid hap
                  have hdn := HSX.out.up
                  clear hap hfull
                  go_wp2_with fail
                  (with_reducible refine HAP.out.mono ?_)
                  rintro e y1 ⟨rfl, hG1⟩
                  rw [errV_n (by decide)]
                  have hS1 := HSX.out.fr0 hG1
                  have hdw := down_any hS1.g.dev
                  rw [hdn] at hdw
                  have HDW := Lib.hid hdw
                  have HS1 := Lib.hid hS1
                  clear hdw hS1 hdn
                  go_wp2_with fail
                  (with_reducible refine HDW.out.mono ?_)
                  rintro e y2 ⟨rfl, hy2⟩
                  subst hy2
                  go_wp2_with fail
                  go_meet
                  exact ⟨at_, first, safe, all, _, by omega, rfl, rfl, rfl, .inl ⟨by omega, HS1.out⟩⟩
              · as_aux_lemma =>
                  have hap := sf_append HSX.out A nd c d hA hdl (by omega) (by omega)
                  have HAP := Lib.hid hap
                  clear hap hfull
                  go_wp2_with fail
                  (with_reducible refine HAP.out.mono ?_)
                  rintro e y1 ⟨D1, hP, ⟨hdn, rfl, hg, hfu⟩ | ⟨hdn, rfl⟩⟩
                  · have hd0 : y1.cell? ⟨x17, 3, none⟩ = some (.slice A nd c) := by rw [cell_of_blk (hP.keep.at_ x17 _ _ (.inr ⟨rfl, rfl, rfl⟩))]; rfl
                    obtain ⟨vs, hv1, hv2, hv3⟩ := hP.txt.row
                    have hal := (Fr.refl none_ y1).alloc (.cells #[.slice A nd c] 36)
                    have hown := ownsRow_fr0 hv2 hal
                    have hcw := CellsAt.whole (l := [.slice A nd c]) (heap_alloc_new y1 (.cells #[.slice A nd c] 36))
                    have HZZ := Lib.hid (And.intro hown (And.intro hcw (show w1.heap.size ≤ (y1.alloc (.cells #[.slice A nd c] 36)).heap.size from Nat.le_trans hP.le.2 hal.size)))
                    have HP := Lib.hid (And.intro hP (And.intro hv1 (And.intro hv3 (And.intro hal (And.intro hdn (And.intro hg hfu))))))
                    clear hP hv1 hv2 hv3 hal hown hcw hdn hg hfu
                    go_wp2_with ((with_reducible refine at_append (.tmp 88) (.tmp 91) 35 w1.heap.size 36 (.slice none 0 0) 1 24 (n := all.length) (A := some ⟨y1.heap.size, 0, none⟩) (m := 1) (c := 1) (news := [.slice A nd c]) Try.underlying35 info_txt ?_ ?_ ?_ ?_ HZZ.out.1 HZZ.out.2.1 ?_ ?_ ?_ ?_ ?_ ?_ ?_); (focus rfl); (focus decide); (focus rfl); (focus rfl); (focus (intro h; cases h)); (focus rfl); (focus (intro u hu; rw [List.mem_singleton.1 hu]; rfl)); (focus unfold maxLen; omega); (focus omega); (focus exact HZZ.out.2.2); intro v5 w5 hown5 hg5; have HG5 := Lib.hid (And.intro hown5 hg5); clear hown5 hg5)
                    go_meet
                    obtain ⟨hP, hv1, hv3, hal, hdn, hg, hfu⟩ := HP.out
                    obtain ⟨r1, r2⟩ := (hP.fr0 hal).push hv1 HZZ.out.1 hv3 hA HG5.out.1 HG5.out.2
                    exact ⟨at_, first, safe, all ++ [d], D1, by rw [List.length_append, List.length_singleton]; omega, rfl, rfl, rfl, .inl ⟨by omega, ⟨r1, r2 _ _ (hg.fr0 hal), hdn, hfu⟩⟩⟩
                  · rw [errV_n (by decide)]
                    have hd0 : y1.cell? ⟨x17, 3, none⟩ = some (.slice A nd c) := by rw [cell_of_blk (hP.keep.at_ x17 _ _ (.inr ⟨rfl, rfl, rfl⟩))]; rfl
                    obtain ⟨vs, hv1, hv2, hv3⟩ := hP.txt.row
                    have hal := (Fr.refl none_ y1).alloc (.cells #[.slice A nd c] 36)
                    have hown := ownsRow_fr0 hv2 hal
                    have hcw := CellsAt.whole (l := [.slice A nd c]) (heap_alloc_new y1 (.cells #[.slice A nd c] 36))
                    have HZZ := Lib.hid (And.intro hown (And.intro hcw (show w1.heap.size ≤ (y1.alloc (.cells #[.slice A nd c] 36)).heap.size from Nat.le_trans hP.le.2 hal.size)))
                    have hdw := down_any hP.dev
                    rw [hdn] at hdw
                    have HDW := Lib.hid hdw
                    have HP := Lib.hid (And.intro hP (And.intro hv1 (And.intro hv3 (And.intro hal hdn))))
                    clear hP hv1 hv2 hv3 hal hown hcw hdn hdw
                    go_wp2_with fail
                    (with_reducible refine HDW.out.mono ?_)
                    rintro e y2 ⟨rfl, hy2⟩
                    subst hy2
                    go_wp2_with ((with_reducible refine at_append (.tmp 95) (.tmp 98) 35 w1.heap.size 36 (.slice none 0 0) 1 24 (n := all.length) (A := some ⟨y1.heap.size, 0, none⟩) (m := 1) (c := 1) (news := [.slice A nd c]) Try.underlying35 info_txt ?_ ?_ ?_ ?_ HZZ.out.1 HZZ.out.2.1 ?_ ?_ ?_ ?_ ?_ ?_ ?_); (focus rfl); (focus decide); (focus rfl); (focus rfl); (focus (intro h; cases h)); (focus rfl); (focus (intro u hu; rw [List.mem_singleton.1 hu]; rfl)); (focus unfold maxLen; omega); (focus omega); (focus exact HZZ.out.2.2); intro v5 w5 hown5 hg5; have HG5 := Lib.hid (And.intro hown5 hg5); clear hown5 hg5)
                    go_meet
                    obtain ⟨hP, hv1, hv3, hal, hdn⟩ := HP.out
                    obtain ⟨r1, r2⟩ := (hP.fr0 hal).push hv1 HZZ.out.1 hv3 hA HG5.out.1 HG5.out.2
                    exact ⟨at_, first, safe, all ++ [d], D1, by rw [List.length_append, List.length_singleton]; omega, rfl, rfl, rfl, .inr ⟨.inr hdn, r1⟩⟩
        case rest =>
          obtain ⟨at2, first2, safe2, all2, D2, hal2, rfl, rfl, rfl, hcase⟩ := hcut
          have hsd : SfD w wc p m1 m2 (kpX w1.heap.size n x17 #[.int .i64 kd, .int .i64 nn, .int .i64 aa, .slice A nd c, .slice Ak nk ck]) w1.heap.size n at2 first2 safe2 all2 u12 D2 := by
            rcases hcase with ⟨_, h⟩ | ⟨_, h⟩
            · exact h.sd
            · exact h
          obtain ⟨vs2, hv21, hv22, hv23⟩ := hsd.txt.row
          obtain ⟨A8, c8, rfl, hA8, hc8, hnil8, hbb8⟩ := ownsRow_read hv22
          have hbx := hsd.keep.at_ x17 _ _ (.inr ⟨rfl, rfl, rfl⟩)
          have f0 : wc.cell? ⟨x17, 0, none⟩ = some (.int .i64 kd) := by rw [cell_of_blk hbx]; rfl
          have hdw := down_any hsd.dev
          have HDW := Lib.hid hdw
          have HC := Lib.hid hcase
          have HSD := Lib.hid hsd
          have HVS := Lib.hid (And.intro hv21 (And.intro hv22 (And.intro hv23 (And.intro hA8 hnil8))))
          clear hdw hcase hsd hv21 hv22 hv23 hA8 hnil8 hbb8 hbx d0 d1 d3 d4 HSX HXE HX17
          go_upto_region 36 with fail
          go_cut [157] (fun cv wx => cv = .bool (decide (kk < 6 ∧ D2.down = false)) ∧ wx = wc)
          case first =>
            as_aux_lemma =>
              by_cases h6 : kk < 6
              · have k6 : (kk : Int) < 6 := by omega
                go_wp2_with fail
                (with_reducible refine HDW.out.mono ?_)
                rintro e y1 ⟨rfl, hy1⟩
                subst hy1
                go_wp2_with fail
                go_meet
                exact ⟨by cases hD : D2.down <;> simp [h6], rfl⟩
              · have k6 : ¬ (kk : Int) < 6 := by omega
                go_wp2_with fail
                go_meet
                exact ⟨by simp [h6], rfl⟩
          case rest =>
            obtain ⟨rfl, hwc⟩ := hcut
            subst hwc
            by_cases hrun : kk < 6 ∧ D2.down = false
            · as_aux_lemma =>
                rw [decide_eq_true hrun]
                have hSS : SfS w wc p m1 m2 b (kpA w1.heap.size n) w1.heap.size n at2 first2 safe2 all2 (.slice A8 all2.length c8) D2 := by
                  rcases HC.out with ⟨_, h⟩ | ⟨h1, _⟩
                  · exact h.rekeep h.sd.keep.less
                  · rcases h1 with h1 | h1
                    · omega
                    · rw [hrun.2] at h1; cases h1
                have HSS := Lib.hid hSS
                clear hSS hrun
                go_wp2_with fail
                go_roundw
                case rel => exact ⟨i + 1, b, at2, first2, safe2, all2, D2, by omega, by omega, hal2, rfl, rfl, rfl, rfl, by go_num, HSS.out⟩
                case measure => simp [intOf]; omega
            · rw [decide_eq_false hrun]
              clear hrun
              have hnum2 := HSD.out.num
              have hb21 : first2 ≤ 50 := by omega
              have hb22 : safe2 ≤ 50 := by omega
              clear hnum2
              go_upto_block 3 with fail
              go_cut [9, 11, 21, 22] (fun bv ev rv _ wx => ∃ b2 c2 base2 : Nat, ∃ D3, ev = .nilIface ∧ bv = ptr b2 ∧ SfD w wx p m1 m2 (kpX w1.heap.size n x17 #[.int .i64 kd, .int .i64 nn, .int .i64 aa, .slice A nd c, .slice Ak nk ck]) w1.heap.size n at2 first2 safe2 all2 (.slice A8 all2.length c8) D3 ∧ SfO w wx p m1 m2 b2 base2 n at2 first2 safe2 c2 all2 rv D3)
              case first =>
                as_aux_lemma =>
                  go_wp2_with fail
                  go_loopw [9, 11, 21, 22] (fun _ _ _ kv wr => ∃ k : Nat, ∃ D3, k ≤ 4 ∧ kv = .int .i64 (k : Int) ∧ SfD w wr p m1 m2 (kpX w1.heap.size n x17 #[.int .i64 kd, .int .i64 nn, .int .i64 aa, .slice A nd c, .slice Ak nk ck]) w1.heap.size n at2 first2 safe2 all2 (.slice A8 all2.length c8) D3) (fun _ _ _ kv _ => 5 - (intOf kv).toNat)
                  case atStart => exact ⟨0, D2, by omega, rfl, HSD.out⟩
                  case round =>
                    obtain ⟨k, D3, hk4, rfl, hS3⟩ := hrel
                    have k5 : (k : Int) < 5 := by omega
                    have hbx := hS3.keep.at_ x17 _ _ (.inr ⟨rfl, rfl, rfl⟩)
                    have g4 : wr.cell? ⟨x17, 4, none⟩ = some (.slice Ak nk ck) := by rw [cell_of_blk hbx]; rfl
                    have hst := sf_start hS3 Ak nk ck kept HAA.out.2
                    obtain ⟨s1, s2, s3⟩ := hS3.sub.start kept
                    have s4 := start_unarmed D3 hS3.sub.lost kept
                    have HST := Lib.hid hst
                    clear hst hbx hS3 s1
                    go_wp2_with fail
                    (with_reducible refine HST.out.mono ?_)
                    rintro e y1 ⟨rfl, hF1, hS4⟩
                    clear hF1
                    by_cases hk : k < 4
                    · have k4 : (k : Int) < 4 := by omega
                      have har := sf_armD hS4 s2 (k : Int) (by omega)
                      have HAR := Lib.hid har
                      clear har hS4
                      go_wp2_with fail
                      (with_reducible refine HAR.out.mono ?_)
                      rintro e y2 ⟨rfl, hS5⟩
                      rw [errV_0]
                      have hba := hS5.keep.at_ w1.heap.size _ _ (.inl ⟨rfl, rfl, rfl⟩)
                      have a0 : y2.cell? ⟨w1.heap.size, 0, none⟩ = some (.int .i64 0) := by rw [cell_of_blk hba]; rfl
                      have a1 : y2.cell? ⟨w1.heap.size, 1, none⟩ = some (.int .i64 (n : Int)) := by rw [cell_of_blk hba]; rfl
                      have hop := sf_open hS5 s2 s3
                      have HOP2 := Lib.hid hop
                      clear hop hba hS5
                      go_wp2_with fail
                      (with_reducible refine HOP2.out.mono ?_)
                      rintro e y3 ⟨b3, vo3, D4, hS6, ⟨_, hdn, rfl⟩ | ⟨c3, rfl, hO⟩⟩
                      · rw [errV_n (by decide)]
                        have HS6 := Lib.hid hS6
                        clear hS6 hdn
                        go_wp2_with fail
                        go_roundw
                        case rel => exact ⟨k + 1, D4, by omega, by go_num, HS6.out⟩
                        case measure => simp [intOf]; omega
                      · have hdw := down_any hS6.dev
                        rw [hO.up] at hdw
                        have HDW2 := Lib.hid hdw
                        have HS6 := Lib.hid (And.intro hS6 hO)
                        clear hS6 hO hdw
                        go_wp2_with fail
                        (with_reducible refine HDW2.out.mono ?_)
                        rintro e y4 ⟨rfl, hy4⟩
                        subst hy4
                        go_wp2_with fail
                        go_meet
                        exact ⟨b3, c3, _, D4, rfl, rfl, HS6.out.1, HS6.out.2⟩
                    · have k4 : ¬ (k : Int) < 4 := by omega
                      have hba := hS4.keep.at_ w1.heap.size _ _ (.inl ⟨rfl, rfl, rfl⟩)
                      have a0 : y1.cell? ⟨w1.heap.size, 0, none⟩ = some (.int .i64 0) := by rw [cell_of_blk hba]; rfl
                      have a1 : y1.cell? ⟨w1.heap.size, 1, none⟩ = some (.int .i64 (n : Int)) := by rw [cell_of_blk hba]; rfl
                      have hop := sf_open hS4 s2 s3
                      have HOP2 := Lib.hid hop
                      clear hop hba hS4
                      go_wp2_with fail
                      (with_reducible refine HOP2.out.mono ?_)
                      rintro e y3 ⟨b3, vo3, D4, hS6, ⟨harm, _⟩ | ⟨c3, rfl, hO⟩⟩
                      · rw [s4] at harm; cases harm
                      · have hdw := down_any hS6.dev
                        rw [hO.up] at hdw
                        have HDW2 := Lib.hid hdw
                        have HS6 := Lib.hid (And.intro hS6 hO)
                        clear hS6 hO hdw
                        go_wp2_with fail
                        (with_reducible refine HDW2.out.mono ?_)
                        rintro e y4 ⟨rfl, hy4⟩
                        subst hy4
                        go_wp2_with fail
                        go_meet
                        exact ⟨b3, c3, _, D4, rfl, rfl, HS6.out.1, HS6.out.2⟩
              case rest =>
                obtain ⟨b2, c2, base2, D3, rfl, rfl, hS3, hO⟩ := hcut
                have hst := sf_start hS3 none 0 0 [] ⟨rfl, by simp, CellsAt.nil _ _⟩
                have HST := Lib.hid hst
                have HO := Lib.hid (And.intro hO hS3.sub.lost)
                clear hst hS3 hO
                go_wp2_with fail
                (with_reducible refine HST.out.mono ?_)
                rintro e y1 ⟨rfl, hF1, hS4⟩
                obtain ⟨hO, hlo3⟩ := HO.out
                have hn4 := hS4.num
                have hr4 := recs_len hn4.1 (by omega : first2 ≤ all2.length + 1)
                have hc2l := hO.lo
                have hc2h := hO.hi
                obtain ⟨q, hq⟩ : ∃ q, q + 1 = first2 + c2 := ⟨first2 + c2 - 1, by omega⟩
                have hout := hO.out.fr hF1 (fun k hk => .inl (hO.bl k hk))
                have hrl : (((recs all2 first2).take c2).zip (szs first2 ((recs all2 first2).take c2))).length = c2 := by rw [zip_szs_len, List.length_take, Nat.min_eq_left hc2h]
                obtain ⟨vs7, hv71, hv72, hv73⟩ := hout.vs
                rw [hrl] at hv71 hv72
                obtain ⟨A7, c7, rfl, hA7, hc77, hnil7, hbb7⟩ := ownsRow_read hv72
                have hag := sf_again (base := w1.heap.size) hO hlo3 hF1 hS4 hq
                have hql : (first2 : Int) + (c2 : Int) - 1 = (q : Int) := by omega
                have l1 : ¬ (q : Int) < (safe2 : Int) := by omega
                have l2 : ¬ (all2.length : Int) < (q : Int) := by omega
                have l1d : decide ((q : Int) < (safe2 : Int)) = false := decide_eq_false l1
                have l2d : decide ((all2.length : Int) < (q : Int)) = false := decide_eq_false l2
                have l1e : decide (q < safe2) = false := decide_eq_false (by omega)
                have l2e : decide (all2.length < q) = false := decide_eq_false (by omega)
                have l3 : c2 ≤ 50 := by omega
                have l4 : q ≤ all2.length := by omega
                have l5 : 1 ≤ first2 := hn4.1
                have HAG := Lib.hid hag
                have HO7 := Lib.hid (And.intro hv71 (And.intro hA7 (And.intro hv73 hrl)))
                have HS4 := Lib.hid hS4
                have HR4 := Lib.hid (And.intro hr4 (And.intro hc2h hq))
                clear hag hO hlo3 hn4 hr4 hc2l hc2h hout hrl hv71 hv72 hv73 hA7 hnil7 hbb7 hF1 hS4 hq
                go_wp2_with fail
                have L4 := Lib.hid l4
                clear l1 l2 l1d l2d l1e l2e l4
                go_loopw [23] (fun jv wr => ∃ j : Nat, j ≤ c2 ∧ jv = .int .i64 (j : Int) ∧ Fr none_ y1 wr) (fun jv _ => c2 - (intOf jv).toNat)
                case atStart => exact ⟨0, Nat.zero_le _, rfl, Fr.refl _ _⟩
                case round =>
                  obtain ⟨j, hj, rfl, hFj⟩ := hrel
                  by_cases hlt : j < c2
                  · as_aux_lemma =>
                      have h1i : (j : Int) < (c2 : Int) := by omega
                      obtain ⟨hv71, hA7, hv73, hrl⟩ := HO7.out
                      obtain ⟨hr4, hc2h, hq⟩ := HR4.out
                      have hFd : Fr none_ y1 wr.drew := hFj.drew
                      obtain ⟨vi, hvi, hown⟩ := hv73 j (by rw [hrl]; exact hlt)
                      obtain ⟨x1, x2⟩ := outC_get first2 vs7 j vi hvi
                      have hA7d := hA7.fr0 hFd
                      obtain ⟨g7, o7, rfl⟩ := hA7d.addr (by rw [outC_len]; omega)
                      obtain ⟨A9, c9, rfl, hA9, hc9, hnil9, hbx9⟩ := ownsRow_read hown
                      clear hbx9
                      obtain ⟨d9, hd9⟩ : ∃ d9, d9 = (((recs all2 first2).take c2).zip (szs first2 ((recs all2 first2).take c2)))[j].1 := ⟨_, rfl⟩
                      have hdj : d9 = ((recs all2 first2).take c2)[j]'(by rw [List.length_take]; omega) := hd9.trans (zip_szs_get first2 ((recs all2 first2).take c2) j _ _)
                      rw [← hd9] at hA9 hnil9 hvi x2
                      obtain ⟨fj, hfj⟩ : ∃ fj, fj = first2 + j := ⟨_, rfl⟩
                      obtain ⟨qj, hqj⟩ : ∃ qj, qj + 1 = fj := ⟨first2 + j - 1, by omega⟩
                      have r0 : wr.drew.cell? ⟨g7, o7 + j * 2, none⟩ = some (.int .i64 (fj : Int)) := by
                        obtain ⟨hl, he⟩ := List.getElem?_eq_some_iff.1 x1
                        have := hA7d.get (j * 2) hl
                        rw [he, ← hfj] at this
                        exact this
                      have r1 : wr.drew.cell? ⟨g7, o7 + j * 2 + 1, none⟩ = some (.slice A9 d9.length c9) := by
                        obtain ⟨hl, he⟩ := List.getElem?_eq_some_iff.1 x2
                        have := hA7d.get (j * 2 + 1) hl
                        rw [he] at this
                        exact this
                      obtain ⟨vs6, hw1, hw2, hw3⟩ := HS4.out.txt.row
                      obtain ⟨A6', c6', hv6, hA6', hc66, hnil6', hbx6⟩ := ownsRow_read hw2
                      cases hv6
                      clear hbx6
                      have hA6d := hA6'.fr0 hFd
                      obtain ⟨g6, o6, rfl⟩ := hA6d.addr (by omega)
                      obtain ⟨At, nt, ct, e6, hTx⟩ := hw3 qj (by omega)
                      have e6c : wr.drew.cell? ⟨g6, o6 + qj, none⟩ = some (.slice At nt ct) := by
                        obtain ⟨hl, he⟩ := List.getElem?_eq_some_iff.1 e6
                        have := hA6d.get qj hl
                        rw [he] at this
                        exact this
                      have hdd : all2[qj]'(by omega) = d9 := by
                        rw [hdj, List.getElem_take]
                        unfold recs
                        rw [List.getElem_drop]
                        congr 1
                        omega
                      rw [hdd] at hTx
                      have kc1 : (convert 36 9 (.slice A9 d9.length c9)).run Try.prog wr.drew = .ok (.string ⟨d9.toArray⟩) wr.drew := conv_bytes (P := Try.prog) (src := 36) (dst := 9) (w := wr.drew) Try.underlying36 Try.underlying5 Try.underlying9 rfl (hA9.fr0 hFd) hnil9
                      have kc2 : (convert 36 9 (.slice At nt ct)).run Try.prog wr.drew = .ok (.string ⟨d9.toArray⟩) wr.drew := conv_bytes (P := Try.prog) (src := 36) (dst := 9) (w := wr.drew) Try.underlying36 Try.underlying5 Try.underlying9 hTx.len (hTx.cells.fr0 (HS4.out.fr.trans hFd)) hTx.nil
                      have w1' : IntKind.i64.wrap ((first2 : Int) + (j : Int)) = (fj : Int) := by rw [hfj, sec_i1 first2 j (by omega)]
                      have w2' : IntKind.i64.wrap ((fj : Int) - 1) = (qj : Int) := by rw [show (fj : Int) - 1 = (qj : Int) by omega, IntWalk.i64_in _ (by omega)]
                      have i1 : (qj : Int) < (all2.length : Int) := by omega
                      have i2 : qj < all2.length := by omega
                      have FJ := Lib.hid hFj
                      clear hv71 hA7 hv73 hrl hr4 hc2h hq hFd hvi hown x1 x2 hA7d hA9 hc9 hnil9 hdj hd9 hw1 hw2 hw3 hA6' hA6d hc66 hnil6' e6 hTx hdd hFj hfj hqj
                      go_wp2_with fail
                      go_still (by kernel_rfl)
                      clear r0 r1 e6c kc1 kc2 w1' w2'
                      go_wp2_with fail
                      go_roundw
                      case rel => exact ⟨j + 1, by omega, by go_num, FJ.out.drew⟩
                      case measure => simp [intOf]; omega
                  · as_aux_lemma =>
                      have h1i : ¬ (j : Int) < (c2 : Int) := by omega
                      obtain ⟨hss0, hlq⟩ := HAG.out
                      have hss := hss0.fr0 hFj
                      have hfl := sf_flush (hss.rekeep hss.sd.keep.less)
                      rw [hlq] at hfl
                      have HFL := Lib.hid hfl
                      have HLQ := Lib.hid hlq
                      have i0 : (0 : Int) ≤ (q : Int) := by omega
                      have l4 := L4.out
                      have i1 : (q : Int) ≤ (c8 : Int) := by omega
                      have i2 : q ≤ c8 := by omega
                      have hni : A8 = none → q = 0 ∧ c8 = 0 := fun h => by
                        obtain ⟨z1, z2⟩ := HVS.out.2.2.2.2 h
                        exact ⟨by omega, z2⟩
                      clear hss0 hss hfl hlq hFj l4
                      cases A8 with
                      | none =>
                        obtain ⟨rfl, rfl⟩ := hni rfl
                        clear hni
                        go_wp2_with fail
                        (with_reducible refine HFL.out.mono ?_)
                        rintro e y2 ⟨rfl, hS5⟩
                        have HS5 := Lib.hid hS5
                        clear hS5
                        go_wp2_with fail
                        go_roundw
                        case rel => exact ⟨i + 1, b2, at2, first2, 0, all2.take 0, _, by omega, by omega, by rw [HLQ.out]; have := L4.out; omega, rfl, rfl, rfl, rfl, by go_num, HS5.out⟩
                        case measure => simp [intOf]; omega
                      | some a8 =>
                        clear hni
                        go_wp2_with fail
                        (with_reducible refine HFL.out.mono ?_)
                        rintro e y2 ⟨rfl, hS5⟩
                        have HS5 := Lib.hid hS5
                        clear hS5
                        go_wp2_with fail
                        go_roundw
                        case rel => exact ⟨i + 1, b2, at2, first2, q, all2.take q, _, by omega, by omega, by rw [HLQ.out]; have := L4.out; omega, rfl, rfl, rfl, rfl, by go_num, HS5.out⟩
                        case measure => simp [intOf]; omega
    · have hS2 := Lib.hid hS
      clear hS
      by_cases h1 : i < m
      · have h1i : (i : Int) < (m : Int) := by omega
        have h2i : ¬ (i : Int) < 40 := by omega
        go_wp2_with fail
        (with_reducible refine (HSURE.out _).mono ?_)
        rintro e y1 ⟨rfl, hG1⟩
        go_wp2_with fail
        go_ret
        exact ⟨rfl, hS2.out.g.fr.trans hG1⟩
      · have h1i : ¬ (i : Int) < (m : Int) := by omega
        go_wp2_with fail
        (with_reducible refine (HSURE.out _).mono ?_)
        rintro e y1 ⟨rfl, hG1⟩
        go_wp2_with fail
        go_ret
        exact ⟨rfl, hS2.out.g.fr.trans hG1⟩
end Go.Proofs.Ythkcmafflbpfoaa

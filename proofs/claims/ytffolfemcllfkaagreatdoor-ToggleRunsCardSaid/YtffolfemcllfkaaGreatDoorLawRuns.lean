import Derived.Test.YtffolfemcllfkaaGreatDoorRunsA
import Derived.Deep.CutBlock
import Derived.Deep.DeepCutAuto
namespace Go.Proofs.YtffolfemcllfkaaGreatDoor
open Go.RowKit
set_option linter.unusedVariables false
set_option linter.unusedSimpArgs false
set_option maxRecDepth 100000

/-! ToggleRuns: the walk. -/
abbrev devZ : Array Value := #[.slice none 0 0, .slice none 0 0, .slice none 0 0, .int .i64 0, .bool false, .int .i64 0, .bool false, .bool false]
def kpR (b2 b9 : Nat) (f s : Int) : KPT := fun g c T => (g = b2 ∧ c = #[.int .i64 f, .int .i64 s] ∧ T = 23) ∨ (g = b9 ∧ c = #[.int .i64 f, .int .i64 s] ∧ T = 36)
structure RunE (W wr : World) (p m1 m2 b : Nat) (K : KPT) (cs : Array Value) (D : DevS) (R : RefD) : Prop where
  h : RunH W wr p m1 m2 b K cs D R
  rd : RD D R
  fine : Fine D
theorem RunE.fr0 {W wr w' : World} {p m1 m2 b : Nat} {K : KPT} {cs : Array Value} {D : DevS} {R : RefD} (h : RunE W wr p m1 m2 b K cs D R) (hF : Fr none_ wr w') : RunE W w' p m1 m2 b K cs D R := ⟨h.h.fr0 hF, h.rd, h.fine⟩
theorem ref_new14 (w : World) : Calls Tryz.prog 7 #[.int .i64 14] w fun e w' => ∃ cs, e = .returned (.tuple #[.agg cs, .int .i64 0]) ∧ RDV w' cs (newRef 14) ∧ Fr none_ w w' := ref_new (n := 14) (by decide) w
set_option maxHeartbeats 16000000 in
theorem runs_walk (f s : Int) (L : Option Addr) (m c : Nat) (W : World) (hg : ErrT W) (hT : TActsAt W L m) :
    Calls Tryz.prog 3 #[area f s, .slice L m c] W fun e w' => e = .returned (.bool true) ∧ Fr none_ W w' := by
  have HG := Lib.hid hg
  have HT := Lib.hid hT
  clear hg hT
  go_enter Tryz.func3, Tryz.ntmps3
  unfold area
  go_wp2_with fail
  obtain ⟨W1, hW1⟩ : ∃ W1, W1 = W.alloc (.cells #[.int .i64 f, .int .i64 s] 23) := ⟨_, rfl⟩
  have hb2 : W1.heap[W.heap.size]? = some (.cells #[.int .i64 f, .int .i64 s] 23 (0, 0)) := by rw [hW1]; exact heap_alloc_new _ _
  have hFW : Fr none_ W W1 := by rw [hW1]; exact (Fr.refl _ _).alloc _
  rw [← hW1]
  clear hW1
  (with_reducible refine (new_ok 14 _ (by decide) (by decide)).mono ?_)
  rintro e w1 ⟨p, m1, m2, rfl, hF1, hD1, hn1⟩
  rw [errV_0]
  go_wp2_with fail
  (with_reducible refine (ref_new14 _).mono ?_)
  rintro e w2 ⟨cs0, rfl, hv2, hF2⟩
  obtain ⟨A1, n1, d1, A2, n2, d2, A3, n3, d3, x, y, z, u, v, hcs0⟩ := hv2.devC
  subst hcs0
  have hF02 : Fr none_ W1 w2 := hF1.trans hF2
  have hb2' := hF02.heap0 hb2
  have a0 : w2.cell? ⟨W.heap.size, 0, none⟩ = some (.int .i64 f) := by rw [cell_of_blk hb2']; rfl
  have a1 : w2.cell? ⟨W.heap.size, 1, none⟩ = some (.int .i64 s) := by rw [cell_of_blk hb2']; rfl
  have H0 := Lib.hid (And.intro hFW (And.intro hF02 (And.intro hF1 (And.intro hF2 (And.intro hD1 (And.intro hn1 (And.intro hv2 (And.intro hb2 hb2'))))))))
  have hs2 : W.heap.size < w2.heap.size := blk_lt hb2'
  clear hFW hF02 hF1 hF2 hD1 hn1 hv2 hb2 hb2'
  obtain ⟨V, hV⟩ : ∃ V, V = w2.alloc (.cells devZ 33) := ⟨_, rfl⟩
  have hVb : V.heap[w2.heap.size]? = some (.cells devZ 33 (0, 0)) := by rw [hV]; exact heap_alloc_new _ _
  have hVF : Fr none_ w2 V := by rw [hV]; exact (Fr.refl _ _).alloc _
  have HV := Lib.hid (And.intro hV (And.intro hVb hVF))
  clear hV hVb hVF
  go_upto_block 0 with (first | (rw [← HV.out.1]; (with_reducible refine at_store 33 (.tmp 7) (.tmp 32) (b := w2.heap.size) (c' := #[.slice A1 n1 d1, .slice A2 n2 d2, .slice A3 n3 d3, .int .i64 x, .bool y, .int .i64 z, .bool u, .bool v]) ?_ ?_ HV.out.2.1 ?_ ?_ ?_ ?_); (focus rfl); (focus rfl); (focus rfl); (focus kernel_rfl); (focus (intro u hu; simp at hu; rcases hu with rfl | rfl | rfl | rfl | rfl | rfl | rfl | rfl <;> rfl)); intro w3 hF3 hb3; have b0 : w3.cell? ⟨W.heap.size, 0, none⟩ = some (.int .i64 f) := hF3.cell (HV.out.2.2.cell0 a0) (by omega); have b1 : w3.cell? ⟨W.heap.size, 1, none⟩ = some (.int .i64 s) := hF3.cell (HV.out.2.2.cell0 a1) (by omega); have H3 := Lib.hid (And.intro hF3 hb3); clear hF3 hb3))
  obtain ⟨w4, hw4⟩ : ∃ w4, w4 = w3.alloc (.cells #[.int .i64 f, .int .i64 s] 36) := ⟨_, rfl⟩
  have hE0 : RunE W w4 p m1 m2 w2.heap.size (kpR W.heap.size w3.heap.size f s) #[.slice A1 n1 d1, .slice A2 n2 d2, .slice A3 n3 d3, .int .i64 x, .bool y, .int .i64 z, .bool u, .bool v] (newD 14) (newRef 14) := by
    obtain ⟨hFW, hF02, hF1, hF2, hD1, hn1, hv2, hb2, hb2'⟩ := H0.out
    obtain ⟨hV, hVb, hVF⟩ := HV.out
    obtain ⟨hF3, hb3⟩ := H3.out
    have hF34 : Fr none_ w3 w4 := by rw [hw4]; exact (Fr.refl _ _).alloc _
    have hb9 : w4.heap[w3.heap.size]? = some (.cells #[.int .i64 f, .int .i64 s] 36 (0, 0)) := by rw [hw4]; exact heap_alloc_new _ _
    have hD2 := hD1.fr0 hF2
    have hDV := hD2.fr0 hVF
    have hsz1 := hFW.size
    have hszV := hVF.size
    have hlt3 := blk_lt hb3
    have hD3 := hDV.fr hF3 (fun i hi e => by have := hD2.lt i hi; omega)
    refine ⟨⟨hD3.fr0 hF34, (RDV.frD (hv2.fr0 hVF) (by decide) hVb ⟨none, 0, 0, none, 0, 0, none, 0, 0, 0, false, 0, false, false, rfl⟩ hF3).fr0 hF34, hF34.heap0 hb3, fun g c T hk => ?_, ?_, fun i hi => by have := hn1 i hi; omega, by have := hF02.size; omega, rfl⟩, RD.new 14, Fine.new 14⟩
    · rcases hk with ⟨rfl, rfl, rfl⟩ | ⟨rfl, rfl, rfl⟩
      · exact ⟨hF34.heap0 (hF3.heap (hVF.heap0 hb2') (by omega)), by decide, by omega⟩
      · exact ⟨hb9, by decide, by omega⟩
    · exact (((hFW.trans hF02).trans hVF).own hF3 (by have := hF02.size; omega)).trans hF34
  have HE0 := Lib.hid hE0
  rw [← hw4]
  clear hw4 hE0 b0 b1 a0 a1 H0 HV H3
  obtain ⟨b, hb⟩ : ∃ b, b = w2.heap.size := ⟨_, rfl⟩
  rw [← hb] at HE0 ⊢
  clear hb hs2
  obtain ⟨b9, hb9⟩ : ∃ b9, b9 = w3.heap.size := ⟨_, rfl⟩
  rw [← hb9] at HE0 ⊢
  clear hb9
  go_cut [] (fun wx => ∃ (cs : Array Value) (D : DevS) (R : RefD), RunE W wx p m1 m2 b (kpR W.heap.size b9 f s) cs D R)
  case first =>
      go_wp2_with fail
      go_loopw [10] (fun i wr => ∃ (k : Nat) (cs : Array Value) (D : DevS) (R : RefD), k ≤ m ∧ i = .int .i64 k ∧ RunE W wr p m1 m2 b (kpR W.heap.size b9 f s) cs D R) (fun i _ => m - (intOf i).toNat)
      case atStart => exact ⟨0, _, _, _, by omega, rfl, HE0.out⟩
      case round =>
        obtain ⟨k, cs, D, R, hk, rfl, hE⟩ := hrel
        by_cases hkm : k < m ∧ k < 30
        · obtain ⟨hkm, hk30⟩ := hkm
          obtain ⟨ab, ao, kd, aa, A, n, cc, l, Ak, nk, ck, kept, hLe, c0, c1, c2, c3, hA, hK⟩ := HT.out k hkm
          subst hLe
          replace c0 := hE.h.fr.cell0 c0
          replace c1 := hE.h.fr.cell0 c1
          replace c2 := hE.h.fr.cell0 c2
          replace c3 := hE.h.fr.cell0 c3
          have HA := Lib.hid (And.intro hA hK)
          clear hA hK
          obtain ⟨B1, n1, d1, B2, n2, d2, B3, n3, d3, x, y, z, u, v, hcs⟩ := hE.h.ref.devC
          subst hcs
          obtain ⟨q, hq, hqe⟩ := ra_mod kd 9 (by omega) (by omega)
          replace hqe : wrap64 ((IntKind.u64.wrap kd).tmod 9) = (q : Int) := hqe
          have z1 : (k : Int) < (m : Int) := by omega
          have z2 : (k : Int) < 30 := by omega
          have hX0 := hE.h.blk
          have hXs := blk_lt hX0
          obtain ⟨w5, hw5⟩ : ∃ w5, w5 = wr.alloc (.cells #[.int .i64 kd, .int .i64 aa, .slice A n cc, .slice Ak nk ck] 39) := ⟨_, rfl⟩
          have hF5 : Fr none_ wr w5 := by rw [hw5]; exact (Fr.refl _ _).alloc _
          have hb5 : w5.heap[wr.heap.size]? = some (.cells #[.int .i64 kd, .int .i64 aa, .slice A n cc, .slice Ak nk ck] 39 (0, 0)) := by rw [hw5]; exact heap_alloc_new _ _
          have hE5 : RunE W w5 p m1 m2 b (fun g' c' T' => kpR W.heap.size b9 f s g' c' T' ∨ (g' = wr.heap.size ∧ c' = #[.int .i64 kd, .int .i64 aa, .slice A n cc, .slice Ak nk ck] ∧ T' = 39)) #[.slice B1 n1 d1, .slice B2 n2 d2, .slice B3 n3 d3, .int .i64 x, .bool y, .int .i64 z, .bool u, .bool v] D R :=
            ⟨(hE.h.fr0 hF5).add hb5 (by decide) (by omega), hE.rd, hE.fine⟩
          have g0 : w5.cell? ⟨wr.heap.size, 0, none⟩ = some (.int .i64 kd) := by rw [cell_of_blk hb5]; rfl
          have g1 : w5.cell? ⟨wr.heap.size, 1, none⟩ = some (.int .i64 aa) := by rw [cell_of_blk hb5]; rfl
          have g2 : w5.cell? ⟨wr.heap.size, 2, none⟩ = some (.slice A n cc) := by rw [cell_of_blk hb5]; rfl
          have g3 : w5.cell? ⟨wr.heap.size, 3, none⟩ = some (.slice Ak nk ck) := by rw [cell_of_blk hb5]; rfl
          have HE := Lib.hid hE5
          have a0 : w5.cell? ⟨W.heap.size, 0, none⟩ = some (.int .i64 f) := by rw [cell_of_blk (hE5.h.keep _ _ _ (.inl (.inl ⟨rfl, rfl, rfl⟩))).1]; rfl
          have a1 : w5.cell? ⟨W.heap.size, 1, none⟩ = some (.int .i64 s) := by rw [cell_of_blk (hE5.h.keep _ _ _ (.inl (.inl ⟨rfl, rfl, rfl⟩))).1]; rfl
          have t0 : w5.cell? ⟨b9, 0, none⟩ = some (.int .i64 f) := by rw [cell_of_blk (hE5.h.keep _ _ _ (.inl (.inr ⟨rfl, rfl, rfl⟩))).1]; rfl
          have t1 : w5.cell? ⟨b9, 1, none⟩ = some (.int .i64 s) := by rw [cell_of_blk (hE5.h.keep _ _ _ (.inl (.inr ⟨rfl, rfl, rfl⟩))).1]; rfl
          have HW5 := Lib.hid hw5
          clear hw5 hF5 hb5 hE5 hE hX0 hXs HE0
          go_upto_block 2 with fail
          rw [← HW5.out]
          try rw [hqe]
          clear hqe
          go_cut [12, 13] (fun va vb wx => ∃ (er : Int) (cs' : Array Value) (D' : DevS) (R' : RefD), va = errV er ∧ vb = .int .i64 er ∧ RunE W wx p m1 m2 b (kpR W.heap.size b9 f s) cs' D' R')
          case first =>
            obtain rfl | rfl | rfl | rfl | rfl | hq4 : q = 4 ∨ q = 5 ∨ q = 6 ∨ q = 7 ∨ q = 8 ∨ q < 4 := by omega
            · as_aux_lemma =>
                have hwr := write_any HE.out.h.dev aa A n cc l HA.out.1.len (HA.out.1.cells.fr0 HE.out.h.fr) (fun bb hb hl hd => by have := HA.out.1.cells.lt hb (by rw [List.length_map]; exact hl); have := HE.out.h.nd bb hd; omega)
                have HW := Lib.hid hwr
                clear hwr
                go_wp2_with fail
                (with_reducible refine HW.out.mono ?_)
                rintro e w6 ⟨rfl, hF6, hD6⟩
                have H6 := HE.out.h.devStep hF6 hD6
                clear g0 g1 g2 g3
                have g0 : w6.cell? ⟨wr.heap.size, 0, none⟩ = some (.int .i64 kd) := by rw [cell_of_blk (H6.keep _ _ _ (.inr ⟨rfl, rfl, rfl⟩)).1]; rfl
                have g1 : w6.cell? ⟨wr.heap.size, 1, none⟩ = some (.int .i64 aa) := by rw [cell_of_blk (H6.keep _ _ _ (.inr ⟨rfl, rfl, rfl⟩)).1]; rfl
                have g2 : w6.cell? ⟨wr.heap.size, 2, none⟩ = some (.slice A n cc) := by rw [cell_of_blk (H6.keep _ _ _ (.inr ⟨rfl, rfl, rfl⟩)).1]; rfl
                have g3 : w6.cell? ⟨wr.heap.size, 3, none⟩ = some (.slice Ak nk ck) := by rw [cell_of_blk (H6.keep _ _ _ (.inr ⟨rfl, rfl, rfl⟩)).1]; rfl
                have hcv := conv_bytes (P := Tryz.prog) (src := 37) (dst := 9) (w := w6) Tryz.underlying37 Tryz.underlying5 Tryz.underlying9 HA.out.1.len (HA.out.1.cells.fr0 H6.fr) HA.out.1.nil
                have hr := ref_write H6.ref aa l
                rw [HE.out.rd.writeE] at hr
                unfold strOf at hr
                have HR := Lib.hid hr
                clear hr hF6 hD6
                have H6h := Lib.hid H6
                clear H6
                go_wp2_with (first | ((with_reducible refine at_load 33 (.tmp 7) ?_ H6h.out.blk Tryz.underlying33 rfl (by kernel_rfl) ?_); (focus rfl)) | ((go_at_call 9); (with_reducible refine HR.out.mono ?_); rintro e w7 ⟨cs7, rfl, hv7, hF7⟩; obtain ⟨C1, m1', e1, C2, m2', e2, C3, m3', e3, x2, y2, z2, u2, v2, hcs2⟩ := hv7.devC; subst hcs2; have HV7 := Lib.hid (And.intro hv7 hF7); clear hv7 hF7) | ((with_reducible refine at_store 33 (.tmp 7) (.tmp 98) (b := b) (c' := #[.slice C1 m1' e1, .slice C2 m2' e2, .slice C3 m3' e3, .int .i64 x2, .bool y2, .int .i64 z2, .bool u2, .bool v2]) ?_ ?_ (HV7.out.2.heap0 H6h.out.blk) ?_ ?_ ?_ ?_); (focus rfl); (focus rfl); (focus rfl); (focus kernel_rfl); (focus (intro u hu; simp at hu; rcases hu with rfl | rfl | rfl | rfl | rfl | rfl | rfl | rfl <;> rfl)); intro w8 hF8 hb8; have H8 := Lib.hid (H6h.out.refStep HV7.out.2 HV7.out.1 (by rw [RefD.write_len]; exact HE.out.h.len) hF8 hb8); clear hF8 hb8))
                try simp only [Act.put]
                go_meet
                exact ⟨D.writeE aa l.length, _, _, _, rfl, rfl, H8.out.less (fun _ _ _ h => .inl h), HE.out.rd.write _ _, HE.out.fine.write _ _⟩
            · as_aux_lemma =>
                obtain ⟨k5, hk5, hkw5⟩ := ra_mod aa 12 (by omega) (by omega)
                replace hkw5 : wrap64 ((IntKind.u64.wrap aa).tmod 12) = (k5 : Int) := hkw5
                have hwr := arm_any HE.out.h.dev (k5 : Int)
                have HW := Lib.hid hwr
                clear hwr
                go_wp2_with fail
                (with_reducible refine HW.out.mono ?_)
                rintro e w6 ⟨rfl, hF6, hD6⟩
                have H6 := HE.out.h.devStep hF6 hD6
                obtain ⟨v0, v1, v2, hcf⟩ := H6.ref.fields
                have hrd := HE.out.rd.arm' (k5 : Int) (by omega)
                have hfi := HE.out.fine.arm (k5 : Int)
                have hrc := HE.out.rd.crashed
                have hrg := HE.out.rd.gone
                have hle := HE.out.h.len
                have harm : D.armE (k5 : Int) = if R.crashed = true ∨ R.gone = true then 13 else 0 := by
                  unfold DevS.armE DevS.down
                  rw [if_neg (by omega), ← hrc, ← hrg]
                  cases R.crashed <;> cases R.gone <;> rfl
                rw [hcf] at H6
                clear hF6 hD6 hcf hrc hrg
                have c4 : w6.cell? ⟨b, 4, none⟩ = some (.bool R.armed) := by rw [cell_of_blk H6.blk]; rfl
                have c5 : w6.cell? ⟨b, 5, none⟩ = some (.int .i64 R.left) := by rw [cell_of_blk H6.blk]; rfl
                have c6 : w6.cell? ⟨b, 6, none⟩ = some (.bool R.crashed) := by rw [cell_of_blk H6.blk]; rfl
                have c7 : w6.cell? ⟨b, 7, none⟩ = some (.bool R.gone) := by rw [cell_of_blk H6.blk]; rfl
                have f4 : w6.frozen? ⟨b, 4, none⟩ = false := frozen_of_blk H6.blk _
                have f5 : w6.frozen? ⟨b, 5, none⟩ = false := frozen_of_blk H6.blk _
                have H6h := Lib.hid H6
                clear H6
                rw [harm]
                have hrd2 := Lib.hid (And.intro hrd hfi)
                clear harm hrd hfi
                by_cases hdn : R.crashed = true ∨ R.gone = true
                · rw [if_pos hdn]
                  have hh := H6h.out
                  have hrd3 := hrd2.out
                  rw [if_pos hdn] at hrd3
                  have HH := Lib.hid (And.intro hh hrd3)
                  clear hh hrd3 hrd2
                  have hdn2 : (R.crashed = true) ∨ (R.crashed = false ∧ R.gone = true) := by
                    rcases hdn with h | h
                    · exact .inl h
                    · cases hc : R.crashed
                      · exact .inr ⟨rfl, h⟩
                      · exact .inl rfl
                  clear hdn
                  rcases hdn2 with h | ⟨h, h'⟩
                  · rw [h] at c6
                    clear h
                    go_wp2_with fail
                    go_meet
                    exact ⟨13, _, _, _, rfl, rfl, HH.out.1.less (fun _ _ _ h => .inl h), HH.out.2.1, HH.out.2.2⟩
                  · rw [h] at c6
                    rw [h'] at c7
                    clear h h'
                    go_wp2_with fail
                    go_meet
                    exact ⟨13, _, _, _, rfl, rfl, HH.out.1.less (fun _ _ _ h => .inl h), HH.out.2.1, HH.out.2.2⟩
                · rw [if_neg hdn]
                  have hc : R.crashed = false := by cases h : R.crashed; rfl; exact absurd (.inl h) hdn
                  have hgn : R.gone = false := by cases h : R.gone; rfl; exact absurd (.inr h) hdn
                  have hh := H6h.out
                  have hrd3 := hrd2.out
                  rw [if_neg hdn] at hrd3
                  have hv := hh.ref.armed (k5 : Int)
                  have HH := Lib.hid (And.intro hh (And.intro hrd3 hv))
                  rw [hc] at c6
                  rw [hgn] at c7
                  clear hh hrd3 hrd2 hv hdn hc hgn H6h
                  go_wp2_with fail
                  go_meet
                  exact ⟨0, _, _, _, rfl, rfl, (HH.out.1.refStep (Fr.refl _ _) HH.out.2.2 hle ((Fr.set _ b 4 _).setCell (p := ⟨b, 5, none⟩) (fun _ => rfl) _) (by rw [heap_setCell_same (heap_setCell_same HH.out.1.blk _) _]; rfl)).less (fun _ _ _ h => .inl h), HH.out.2.1.1, HH.out.2.1.2⟩
            · as_aux_lemma =>
                have hown := own_any w5 Ak nk ck kept HA.out.2.len (HA.out.2.cells.fr0 HE.out.h.fr) HA.out.2.nil HA.out.2.most
                have HO := Lib.hid hown
                clear hown
                go_wp2_with fail
                (with_reducible refine HO.out.mono ?_)
                rintro e w55 ⟨Ao, co, rfl, hAo, hAb, hF55⟩
                have HE55 := Lib.hid (HE.out.fr0 hF55)
                have hsz := hF55.size
                have hlt := HE.out.h.dev.lt
                have hwr := start_any HE55.out.h.dev Ao kept.length co kept rfl hAo (fun bb hb hl hd => by have := hAb bb hb; have := hlt bb hd; omega) HA.out.2.most
                have HW := Lib.hid hwr
                clear hwr hlt
                go_wp2_with fail
                (with_reducible refine HW.out.mono ?_)
                rintro e w6 ⟨rfl, hF6, hD6⟩
                have hnd6 := HE55.out.h.dev
                have H6 := HE55.out.h.devStep hF6 hD6
                clear g0 g1 g2 g3
                have g0 : w6.cell? ⟨wr.heap.size, 0, none⟩ = some (.int .i64 kd) := by rw [cell_of_blk (H6.keep _ _ _ (.inr ⟨rfl, rfl, rfl⟩)).1]; rfl
                have g1 : w6.cell? ⟨wr.heap.size, 1, none⟩ = some (.int .i64 aa) := by rw [cell_of_blk (H6.keep _ _ _ (.inr ⟨rfl, rfl, rfl⟩)).1]; rfl
                have g2 : w6.cell? ⟨wr.heap.size, 2, none⟩ = some (.slice A n cc) := by rw [cell_of_blk (H6.keep _ _ _ (.inr ⟨rfl, rfl, rfl⟩)).1]; rfl
                have g3 : w6.cell? ⟨wr.heap.size, 3, none⟩ = some (.slice Ak nk ck) := by rw [cell_of_blk (H6.keep _ _ _ (.inr ⟨rfl, rfl, rfl⟩)).1]; rfl
                have hr := ref_start H6.ref (by rw [H6.len]; decide) kept Ak nk ck HA.out.2.len (HA.out.2.cells.fr0 H6.fr)
                have HR := Lib.hid hr
                have hst := HE.out.rd.start (by have := HE.out.h.dev.loose.nodup; unfold mapV at this; rw [List.map_map] at this; exact this) HE.out.h.dev.keys kept
                have HST := Lib.hid hst
                clear hr hF6 hD6 hst hnd6
                have H6h := Lib.hid H6
                clear H6
                go_wp2_with (first | ((with_reducible refine at_load 33 (.tmp 7) ?_ H6h.out.blk Tryz.underlying33 rfl (by kernel_rfl) ?_); (focus rfl)) | ((go_at_call 13); (with_reducible refine HR.out.mono ?_); rintro e w7 ⟨cs7, rfl, hv7, hF7⟩; obtain ⟨C1, m1', e1, C2, m2', e2, C3, m3', e3, x2, y2, z2, u2, v2, hcs2⟩ := hv7.devC; subst hcs2; have HV7 := Lib.hid (And.intro hv7 hF7); clear hv7 hF7) | ((with_reducible refine at_store 33 (.tmp 7) (.tmp 129) (b := b) (c' := #[.slice C1 m1' e1, .slice C2 m2' e2, .slice C3 m3' e3, .int .i64 x2, .bool y2, .int .i64 z2, .bool u2, .bool v2]) ?_ ?_ (HV7.out.2.heap0 H6h.out.blk) ?_ ?_ ?_ ?_); (focus rfl); (focus rfl); (focus rfl); (focus kernel_rfl); (focus (intro u hu; simp at hu; rcases hu with rfl | rfl | rfl | rfl | rfl | rfl | rfl | rfl <;> rfl)); intro w8 hF8 hb8; have H8 := Lib.hid (H6h.out.refStep HV7.out.2 HV7.out.1 (by rw [RefD.start_len]; exact HE.out.h.len) hF8 hb8); clear hF8 hb8))
                try simp only [Act.put]
                go_meet
                exact ⟨0, _, _, _, rfl, rfl, H8.out.less (fun _ _ _ h => .inl h), HST.out, HE.out.fine.start _⟩
            · as_aux_lemma =>
                have hwr := lose_any HE.out.h.dev
                have HW := Lib.hid hwr
                clear hwr
                go_wp2_with fail
                (with_reducible refine HW.out.mono ?_)
                rintro e w6 ⟨rfl, hF6, hD6⟩
                have H6 := HE.out.h.devStep hF6 hD6
                have hr := ref_lose H6.ref (by rw [H6.len]; decide)
                have HR := Lib.hid hr
                clear hr hF6 hD6
                have H6h := Lib.hid H6
                clear H6
                go_wp2_with (first | ((with_reducible refine at_load 33 (.tmp 7) ?_ H6h.out.blk Tryz.underlying33 rfl (by kernel_rfl) ?_); (focus rfl)) | ((go_at_call 15); (with_reducible refine HR.out.mono ?_); rintro e w7 ⟨cs7, rfl, hv7, hF7⟩; obtain ⟨C1, m1', e1, C2, m2', e2, C3, m3', e3, x2, y2, z2, u2, v2, hcs2⟩ := hv7.devC; subst hcs2; have HV7 := Lib.hid (And.intro hv7 hF7); clear hv7 hF7) | ((with_reducible refine at_store 33 (.tmp 7) (.tmp 135) (b := b) (c' := #[.slice C1 m1' e1, .slice C2 m2' e2, .slice C3 m3' e3, .int .i64 x2, .bool y2, .int .i64 z2, .bool u2, .bool v2]) ?_ ?_ (HV7.out.2.heap0 H6h.out.blk) ?_ ?_ ?_ ?_); (focus rfl); (focus rfl); (focus rfl); (focus kernel_rfl); (focus (intro u hu; simp at hu; rcases hu with rfl | rfl | rfl | rfl | rfl | rfl | rfl | rfl <;> rfl)); intro w8 hF8 hb8; have H8 := Lib.hid (H6h.out.refStep HV7.out.2 HV7.out.1 HE.out.h.len hF8 hb8); clear hF8 hb8))
                try simp only [Act.put]
                go_meet
                exact ⟨0, _, _, _, rfl, rfl, H8.out.less (fun _ _ _ h => .inl h), HE.out.rd.lose, Fine.lose _⟩
            · as_aux_lemma =>
                have hwr := replace_any HE.out.h.dev
                have HW := Lib.hid hwr
                clear hwr
                go_wp2_with fail
                (with_reducible refine HW.out.mono ?_)
                rintro e w6 ⟨rfl, hF6, hD6⟩
                have H6 := HE.out.h.devStep hF6 hD6
                have hr := ref_replace H6.ref (by rw [H6.len]; decide)
                have HR := Lib.hid hr
                clear hr hF6 hD6
                have H6h := Lib.hid H6
                clear H6
                go_wp2_with (first | ((with_reducible refine at_load 33 (.tmp 7) ?_ H6h.out.blk Tryz.underlying33 rfl (by kernel_rfl) ?_); (focus rfl)) | ((go_at_call 17); (with_reducible refine HR.out.mono ?_); rintro e w7 ⟨cs7, rfl, hv7, hF7⟩; obtain ⟨C1, m1', e1, C2, m2', e2, C3, m3', e3, x2, y2, z2, u2, v2, hcs2⟩ := hv7.devC; subst hcs2; have HV7 := Lib.hid (And.intro hv7 hF7); clear hv7 hF7) | ((with_reducible refine at_store 33 (.tmp 7) (.tmp 141) (b := b) (c' := #[.slice C1 m1' e1, .slice C2 m2' e2, .slice C3 m3' e3, .int .i64 x2, .bool y2, .int .i64 z2, .bool u2, .bool v2]) ?_ ?_ (HV7.out.2.heap0 H6h.out.blk) ?_ ?_ ?_ ?_); (focus rfl); (focus rfl); (focus rfl); (focus kernel_rfl); (focus (intro u hu; simp at hu; rcases hu with rfl | rfl | rfl | rfl | rfl | rfl | rfl | rfl <;> rfl)); intro w8 hF8 hb8; have H8 := Lib.hid (H6h.out.refStep HV7.out.2 HV7.out.1 (by rw [RefD.replace_len]; exact HE.out.h.len) hF8 hb8); clear hF8 hb8))
                try simp only [Act.put]
                go_meet
                exact ⟨0, _, _, _, rfl, rfl, H8.out.less (fun _ _ _ h => .inl h), HE.out.rd.replace HE.out.fine, HE.out.fine.replace⟩
            · as_aux_lemma =>
                have k4 : ((q : Int) == 4) = false := by simpa using (show ¬ (q : Int) = 4 by omega)
                have k5 : ((q : Int) == 5) = false := by simpa using (show ¬ (q : Int) = 5 by omega)
                have k6 : ((q : Int) == 6) = false := by simpa using (show ¬ (q : Int) = 6 by omega)
                have k7 : ((q : Int) == 7) = false := by simpa using (show ¬ (q : Int) = 7 by omega)
                have k8 : ((q : Int) == 8) = false := by simpa using (show ¬ (q : Int) = 8 by omega)
                have hnl := HA.out.1.len
                by_cases hbig : 5000 < n
                · have z1 : (5000 : Int) < (n : Int) := by omega
                  go_wp2_with fail
                  go_roundw
                  case rel => exact ⟨k + 1, _, D, R, by omega, by go_num, HE.out.h.less (fun _ _ _ h => .inl h), HE.out.rd, HE.out.fine⟩
                  case measure => simp [intOf]; omega
                · have z1 : ¬ (5000 : Int) < (n : Int) := by omega
                  have hwr := tsave_all HE.out.h.dev f s A n cc l HA.out.1.len (HA.out.1.cells.fr0 HE.out.h.fr) (fun bb hb hl hd => by have := HA.out.1.cells.lt hb (by rw [List.length_map]; exact hl); have := HE.out.h.nd bb hd; omega) (by have := HA.out.1.cap; omega)
                  have HW := Lib.hid hwr
                  clear hwr hnl
                  go_wp2_with fail
                  (with_reducible refine HW.out.mono ?_)
                  rintro e w6 ⟨rfl, hF6, hD6⟩
                  have H6 := HE.out.h.devStep hF6 hD6
                  clear g0 g1 g2 g3
                  have g0 : w6.cell? ⟨wr.heap.size, 0, none⟩ = some (.int .i64 kd) := by rw [cell_of_blk (H6.keep _ _ _ (.inr ⟨rfl, rfl, rfl⟩)).1]; rfl
                  have g1 : w6.cell? ⟨wr.heap.size, 1, none⟩ = some (.int .i64 aa) := by rw [cell_of_blk (H6.keep _ _ _ (.inr ⟨rfl, rfl, rfl⟩)).1]; rfl
                  have g2 : w6.cell? ⟨wr.heap.size, 2, none⟩ = some (.slice A n cc) := by rw [cell_of_blk (H6.keep _ _ _ (.inr ⟨rfl, rfl, rfl⟩)).1]; rfl
                  have g3 : w6.cell? ⟨wr.heap.size, 3, none⟩ = some (.slice Ak nk ck) := by rw [cell_of_blk (H6.keep _ _ _ (.inr ⟨rfl, rfl, rfl⟩)).1]; rfl
                  have a0 : w6.cell? ⟨W.heap.size, 0, none⟩ = some (.int .i64 f) := by rw [cell_of_blk (H6.keep _ _ _ (.inl (.inl ⟨rfl, rfl, rfl⟩))).1]; rfl
                  have a1 : w6.cell? ⟨W.heap.size, 1, none⟩ = some (.int .i64 s) := by rw [cell_of_blk (H6.keep _ _ _ (.inl (.inl ⟨rfl, rfl, rfl⟩))).1]; rfl
                  have hcv := conv_bytes (P := Tryz.prog) (src := 37) (dst := 9) (w := w6) Tryz.underlying37 Tryz.underlying5 Tryz.underlying9 HA.out.1.len (HA.out.1.cells.fr0 H6.fr) HA.out.1.nil
                  have hr := rsave_any H6.ref (by rw [H6.len]; decide) (HE.out.rd.sec64 HE.out.h.dev.get_len) f s l
                  rw [HE.out.rd.saveAE] at hr
                  unfold strOf at hr
                  have HR := Lib.hid hr
                  clear hr hF6 hD6
                  have H6h := Lib.hid H6
                  clear H6
                  go_wp2_with (first | ((with_reducible refine at_load 33 (.tmp 7) ?_ H6h.out.blk Tryz.underlying33 rfl (by kernel_rfl) ?_); (focus rfl)) | ((go_at_call 19); (with_reducible refine HR.out.mono ?_); rintro e w7 ⟨cs7, rfl, hv7, hF7⟩; obtain ⟨C1, m1', e1, C2, m2', e2, C3, m3', e3, x2, y2, z2, u2, v2, hcs2⟩ := hv7.devC; subst hcs2; have HV7 := Lib.hid (And.intro hv7 hF7); clear hv7 hF7) | ((with_reducible refine at_store 33 (.tmp 7) (.tmp 80) (b := b) (c' := #[.slice C1 m1' e1, .slice C2 m2' e2, .slice C3 m3' e3, .int .i64 x2, .bool y2, .int .i64 z2, .bool u2, .bool v2]) ?_ ?_ (HV7.out.2.heap0 H6h.out.blk) ?_ ?_ ?_ ?_); (focus rfl); (focus rfl); (focus rfl); (focus kernel_rfl); (focus (intro u hu; simp at hu; rcases hu with rfl | rfl | rfl | rfl | rfl | rfl | rfl | rfl <;> rfl)); intro w8 hF8 hb8; have H8 := Lib.hid (H6h.out.refStep HV7.out.2 HV7.out.1 (by rw [RefD.saveA_len]; exact HE.out.h.len) hF8 hb8); clear hF8 hb8))
                  try simp only [Act.put]
                  go_meet
                  exact ⟨Go.Proofs.YtffolfemcllfkaaGreatDoor.saveAE D f s l, _, _, _, rfl, rfl, H8.out.less (fun _ _ _ h => .inl h), HE.out.rd.saveA _ _ _, HE.out.fine.saveA _ _ _⟩
          case rest =>
            obtain ⟨er, cs', D', R', rfl, rfl, hE'⟩ := hcut
            obtain ⟨C1, m1', e1, C2, m2', e2, C3, m3', e3, x2, y2, z2', u2, v2, hcs2⟩ := hE'.h.ref.devC
            subst hcs2
            clear g0 g1 g2 g3 a0 a1 t0 t1 c0 c1 c2 c3 HE HW5 HA
            have a0 : wc.cell? ⟨W.heap.size, 0, none⟩ = some (.int .i64 f) := by rw [cell_of_blk (hE'.h.keep _ _ _ (.inl ⟨rfl, rfl, rfl⟩)).1]; rfl
            have a1 : wc.cell? ⟨W.heap.size, 1, none⟩ = some (.int .i64 s) := by rw [cell_of_blk (hE'.h.keep _ _ _ (.inl ⟨rfl, rfl, rfl⟩)).1]; rfl
            have t0 : wc.cell? ⟨b9, 0, none⟩ = some (.int .i64 f) := by rw [cell_of_blk (hE'.h.keep _ _ _ (.inr ⟨rfl, rfl, rfl⟩)).1]; rfl
            have t1 : wc.cell? ⟨b9, 1, none⟩ = some (.int .i64 s) := by rw [cell_of_blk (hE'.h.keep _ _ _ (.inr ⟨rfl, rfl, rfl⟩)).1]; rfl
            have hld := tload_all hE'.h.dev f s
            have HLD := Lib.hid hld
            have HE2 := Lib.hid hE'
            clear hld hE'
            go_wp2_with fail
            (with_reducible refine HLD.out.mono ?_)
            rintro e w6 ⟨⟨A6, c6, rfl, hA6, hn6⟩, hF6⟩
            have hr := rload_any (HE2.out.h.fr0 hF6).ref (HE2.out.rd.sec64 HE2.out.h.dev.get_len) f s
            unfold RLoadP at hr
            rw [HE2.out.rd.loadT HE2.out.h.dev.most.2, HE2.out.rd.look] at hr
            obtain ⟨T, hTe⟩ : ∃ T, T = loadT D' f s := ⟨_, rfl⟩
            obtain ⟨nn, hnn⟩ : ∃ nn, nn = (lookD D' f s).n := ⟨_, rfl⟩
            obtain ⟨ek, hek⟩ : ∃ ek, ek = (lookD D' f s).err := ⟨_, rfl⟩
            rw [← hTe, ← hnn, ← hek] at hr
            rw [← hTe] at hA6 hn6 ⊢
            rw [← hnn, ← hek]
            unfold strOf at hr
            have HR := Lib.hid hr
            have H6 := Lib.hid (And.intro hA6 (And.intro hn6 hF6))
            have HF6 := Lib.hid (HE2.out.fr0 hF6)
            clear hTe hnn hek hr hA6 hn6
            replace a0 := hF6.cell0 a0
            replace a1 := hF6.cell0 a1
            clear hF6
            go_wp2_with (first | ((with_reducible refine at_load 33 (.tmp 7) ?_ HF6.out.h.blk Tryz.underlying33 rfl (by kernel_rfl) ?_); (focus rfl)))
            (with_reducible refine HR.out.mono ?_)
            rintro e w7 ⟨rfl, hF7⟩
            have HF7 := Lib.hid (And.intro hF7 (HF6.out.fr0 hF7))
            clear hF7
            go_wp2_with fail
            (with_reducible refine (num04_any er _ (HG.out.fr0 HF7.out.2.h.fr)).mono ?_)
            rintro e w8 ⟨rfl, hF8⟩
            have HF8 := Lib.hid (And.intro hF8 (HF7.out.2.fr0 hF8))
            have hcv := conv_bytes (P := Tryz.prog) (src := 37) (dst := 9) (w := w8) Tryz.underlying37 Tryz.underlying5 Tryz.underlying9 rfl ((H6.out.1.fr0 HF7.out.1).fr0 hF8) H6.out.2.1
            clear hF8
            go_wp2_with fail
            (with_reducible refine (num04_any ek _ (HG.out.fr0 HF8.out.2.h.fr)).mono ?_)
            rintro e w9 ⟨rfl, hF9⟩
            have HF9 := Lib.hid (HF8.out.2.fr0 hF9)
            clear hF9
            go_wp2_with fail
            go_roundw
            case rel => exact ⟨k + 1, _, D', R', by omega, by go_num, HF9.out⟩
            case measure => simp [intOf]; omega
        · have HE2 := Lib.hid hE
          clear hE HE0
          by_cases hkm2 : k < m
          · have z1 : (k : Int) < (m : Int) := by omega
            have z2 : ¬ (k : Int) < 30 := by omega
            go_wp2_with fail
            go_meet
            exact ⟨_, _, _, HE2.out⟩
          · have z1 : ¬ (k : Int) < (m : Int) := by omega
            go_wp2_with fail
            go_meet
            exact ⟨_, _, _, HE2.out⟩
  case rest =>
    obtain ⟨cs, D, R, hE⟩ := hcut
    clear HE0
    obtain ⟨B1, n1, d1, B2, n2, d2, B3, n3, d3, x, y, z, u, v, hcs⟩ := hE.h.ref.devC
    subst hcs
    have hBL := hE.h.blk
    have HBL := Lib.hid (And.intro hE.rd (And.intro hE.h.dev.get_len hE.h.len))
    have HE := Lib.hid hE
    clear hE hBL
    go_wp2_with fail
    go_loopw [21] (fun i wr => ∃ k : Nat, k ≤ 14 ∧ i = .int .i64 k ∧ RunE W wr p m1 m2 b (kpR W.heap.size b9 f s) #[.slice B1 n1 d1, .slice B2 n2 d2, .slice B3 n3 d3, .int .i64 x, .bool y, .int .i64 z, .bool u, .bool v] D R) (fun i _ => 14 - (intOf i).toNat)
    case atStart => exact ⟨0, by omega, rfl, HE.out⟩
    case round =>
      obtain ⟨k, hk, rfl, hE⟩ := hrel
      by_cases hlt : k < 14
      · have z1 : (k : Int) < 14 := by omega
        have HE2 := Lib.hid hE
        clear hE
        have hre := HE2.out.rd.readE (k : Int)
        by_cases hE0 : D.atE (k : Int) = 0
        · have hrb := HE2.out.rd.readB (k : Int) hE0
          have hrd := read_ok HE2.out.h.dev (k : Int) hE0
          have HRD := Lib.hid hrd
          have hl64 := HE2.out.h.dev.get_len (k : Int)
          clear hrd
          go_wp2_with fail
          (with_reducible refine HRD.out.mono ?_)
          rintro e w6 ⟨g, rfl, hg6, hF6, hb6⟩
          have HF6 := Lib.hid (HE2.out.fr0 hF6)
          have hr := ref_read HF6.out.h.ref (k : Int)
          rw [hrb, hre, hE0] at hr
          obtain ⟨T, hTe⟩ : ∃ T, T = D.get (k : Int) := ⟨_, rfl⟩
          rw [← hTe] at hr hb6 hl64
          unfold strOf at hr
          have HR := Lib.hid hr
          have H6 := Lib.hid hb6
          clear hr hTe hb6 hF6 hrb hre hE0
          rw [errV_0]
          go_wp2_with (first | ((with_reducible refine at_load 33 (.tmp 7) ?_ HF6.out.h.blk Tryz.underlying33 rfl (by kernel_rfl) ?_); (focus rfl)))
          (with_reducible refine HR.out.mono ?_)
          rintro e w7 ⟨rfl, hF7⟩
          have HF7 := Lib.hid (And.intro hF7 (HF6.out.fr0 hF7))
          clear hF7
          go_wp2_with fail
          have hn0 := num04_any 0 w7 (HG.out.fr0 HF7.out.2.h.fr)
          rw [errV_0] at hn0
          (with_reducible refine hn0.mono ?_)
          clear hn0
          rintro e w8 ⟨rfl, hF8⟩
          have HF8 := Lib.hid (HF7.out.2.fr0 hF8)
          have hcells : CellsAt w8 (some ⟨g, 0, none⟩) (T.map byteV) := ((CellsAt.whole H6.out).fr0 HF7.out.1).fr0 hF8
          have hcv := conv_bytes (P := Tryz.prog) (src := 37) (dst := 9) (w := w8) (n := 64) (c := 64) Tryz.underlying37 Tryz.underlying5 Tryz.underlying9 hl64.symm hcells (fun h => by cases h)
          clear hF8 hcells
          go_wp2_with fail
          go_roundw
          case rel => exact ⟨k + 1, by omega, by go_num, HF8.out⟩
          case measure => simp [intOf]; omega
        · have hrd := read_err HE2.out.h.dev (k : Int) hE0
          obtain ⟨er, her⟩ : ∃ er, er = D.atE (k : Int) := ⟨_, rfl⟩
          rw [← her] at hrd hre hE0
          have HRD := Lib.hid hrd
          clear hrd her
          go_wp2_with fail
          (with_reducible refine HRD.out.mono ?_)
          rintro e w6 ⟨rfl, hw6⟩
          subst hw6
          have hr := ref_read HE2.out.h.ref (k : Int)
          rw [hre] at hr
          unfold strOf at hr
          have HR := Lib.hid hr
          clear hr hre
          go_wp2_with (first | ((with_reducible refine at_load 33 (.tmp 7) ?_ HE2.out.h.blk Tryz.underlying33 rfl (by kernel_rfl) ?_); (focus rfl)))
          (with_reducible refine HR.out.mono ?_)
          rintro e w7 ⟨rfl, hF7⟩
          have HF7 := Lib.hid (HE2.out.fr0 hF7)
          clear hF7
          go_wp2_with fail
          (with_reducible refine (num04_any er _ (HG.out.fr0 HF7.out.h.fr)).mono ?_)
          rintro e w8 ⟨rfl, hF8⟩
          have HF8 := Lib.hid (HF7.out.fr0 hF8)
          have k9 : (er == 0) = false := by simpa using hE0
          clear hF8 hE0
          go_wp2_with fail
          go_roundw
          case rel => exact ⟨k + 1, by omega, by go_num, HF8.out⟩
          case measure => simp [intOf]; omega
      · have z1 : ¬ (k : Int) < 14 := by omega
        have HE2 := Lib.hid hE
        clear hE
        go_wp2_with fail
        (with_reducible refine (tsure_any _).mono ?_)
        rintro e w9 ⟨rfl, hF9⟩
        go_wp2_with fail
        go_ret
        exact ⟨rfl, HE2.out.h.fr.trans hF9⟩
end Go.Proofs.YtffolfemcllfkaaGreatDoor

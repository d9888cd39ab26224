import Derived.Test.YtdlhndbgmldeaaaThereK
import Derived.Deep.DeepCutAuto
import Derived.Deep.CutBlock
namespace Go.Proofs.Ytdlhndbgmldeaaa
open Go.RowKit
set_option linter.unusedVariables false
set_option linter.unusedSimpArgs false
set_option maxRecDepth 100000

/-! HotThere -/
abbrev confO : Obj := .cells #[.int .i64 2, .int .i64 5, .int .i64 2] 29
structure ThX (w : World) (B cb : Nat) (wr : World) (h bx p m1 m2 : Nat) (H : HotS) (D : DevS) (zs : List (LocS × List UInt8)) (vL vT : Value) : Prop where
  r : ThW w B wr h bx p m1 m2 H D zs vL vT
  conf : wr.heap[cb]? = some confO
theorem ThX.step0 {w wr w' : World} {B cb h bx p m1 m2 : Nat} {H : HotS} {D : DevS} {zs : List (LocS × List UInt8)} {vL vT : Value} (X : ThX w B cb wr h bx p m1 m2 H D zs vL vT) (hF : Fr none_ wr w') : ThX w B cb w' h bx p m1 m2 H D zs vL vT :=
  ⟨X.r.step0 hF, hF.heap0 X.conf⟩
theorem ne_type {w : World} {a b : Nat} {c d : Array Value} {S T : TypeId} {f g : Nat × Nat} (h1 : w.heap[a]? = some (.cells c S f)) (h2 : w.heap[b]? = some (.cells d T g)) (hne : S ≠ T) : a ≠ b := fun e => by
  subst e
  rw [h1] at h2
  cases h2
  exact hne rfl
theorem ThX.cb_bx {w wr : World} {B cb h bx p m1 m2 : Nat} {H : HotS} {D : DevS} {zs : List (LocS × List UInt8)} {vL vT : Value} (X : ThX w B cb wr h bx p m1 m2 H D zs vL vT) : cb ≠ bx := ne_type X.conf X.r.st.hd.hot.bxs (by decide)
theorem ThX.chB {w wr w' : World} {B cb h bx p m1 m2 : Nat} {H : HotS} {D : DevS} {zs : List (LocS × List UInt8)} {vL vT : Value} (X : ThX w B cb wr h bx p m1 m2 H D zs vL vT) (hd : ∀ i, devBlks p m1 m2 i → i < B) {H2 : HotS} (C : ChB wr h bx p H2 w') (I : ThInv H2 D zs) : ThX w B cb w' h bx p m1 m2 H2 D zs vL vT :=
  ⟨X.r.chB hd C I, C.fr.heap X.conf X.cb_bx⟩
theorem mkZ (w : World) : (Instr.makeSlice 35 (.int .i64 64) (.int .i64 64)).run Try.prog w = .ok (.slice (some ⟨w.heap.size, 0, none⟩) 64 64) (w.alloc (.cells (zeroB.map byteV).toArray 5)) := by
  obtain ⟨i, hi, hzz⟩ := Option.map_eq_some_iff.1 info_u8h
  simp only [Prod.mk.injEq] at hzz
  obtain ⟨hz, hs, hb⟩ := hzz
  have h := run_make (P := Try.prog) w 35 5 i _ Try.underlying35 hi hz .i64 .i64 64 64 (by omega) (by omega) (by rw [hb]; omega) (by omega)
  rw [hs] at h
  rw [show (zeroB.map byteV).toArray = madeCells (Value.int .u8 0).cells ((64 : Int).toNat * 1) by kernel_rfl]
  exact h
def ThAt (w : World) (B cb p m1 m2 k : Nat) (vh vL vT : Value) (wr : World) : Prop := ∃ h bx H D zs, vh = ptr h ∧ zs.length ≤ k ∧ ThX w B cb wr h bx p m1 m2 H D zs vL vT
set_option maxHeartbeats 16000000 in
theorem there_walk (L : Option Addr) (m cL : Nat) (w : World) (hT : ActsAll w L m) :
    Calls Try.prog 3 #[.slice L m cL] w fun e w' => e = .returned (.bool true) ∧ Fr none_ w w' := by
  have HT := Lib.hid hT
  clear hT
  go_enter Try.func3, Try.ntmps3
  go_wp2_with fail
  (with_reducible refine (new_ok 12 _ (by decide) (by decide)).mono ?_)
  rintro e w1 ⟨p, m1, m2, rfl, hF1, hD1, hfr⟩
  rw [errV_0]
  have hF1' : Fr none_ w (w1.alloc confO) := hF1.alloc _
  have hD1' := hD1.fr0 ((Fr.refl none_ w1).alloc confO)
  have hcd : ¬ devBlks p m1 m2 w1.heap.size := hD1.new (Nat.le_refl _)
  have hnew : Calls Try.prog 5 #[ptr p, .agg #[.int .i64 2, .int .i64 5, .int .i64 2]] (w1.alloc confO) fun e w' => HotNew (w1.alloc confO) p (newH 2 5 2) e w' := hnew_any hD1' 2 5 2 (by decide) (by decide) (by decide) (by decide) made5
  have HNEW := Lib.hid hnew
  clear hnew
  go_wp2_with fail
  (with_reducible refine HNEW.out.mono ?_)
  rintro e w2 ⟨⟨h, bx, rfl, hh, g1, g2⟩, hF2⟩
  rw [errV_0]
  have S0 := hs_new hD1' hF1' hfr (by decide) hh g1 g2 hF2
  have hdB := S0.hd.dev.lt
  have hwB := S0.fr.size
  have hc2 := hF2.heap0 (heap_alloc_new w1 confO)
  have hcB := blk_lt hc2
  have hR0 : ThAt w w2.heap.size w1.heap.size p m1 m2 0 (ptr h) (.slice none 0 0) (.slice none 0 0) w2 :=
    ⟨h, bx, _, _, [], rfl, Nat.le_refl _, ⟨⟨S0, th_new, World.ownsRow_nil _ _ _ _, World.ownsRow_nil _ _ _ _, Nat.le_refl _, rfl⟩, hc2⟩⟩
  clear S0 hh g1 g2 hD1 hD1' hF1' hF2 hfr hF1 hc2
  go_wp2_with fail
  go_loopw [6, 8, 9, 10] (fun vh vL vT i wr => ∃ k : Nat, k ≤ m ∧ k ≤ 40 ∧ i = .int .i64 (k : Int) ∧ ThAt w w2.heap.size w1.heap.size p m1 m2 k vh vL vT wr) (fun _ _ _ i _ => m - (intOf i).toNat)
  case atStart => exact ⟨0, by omega, by omega, rfl, hR0⟩
  case round =>
    obtain ⟨k, hkm, hk40, rfl, h, bx, H, D, zs, rfl, hzl, hX⟩ := hrel
    clear hR0
    by_cases hex : k < m ∧ k < 40
    · obtain ⟨h1, h2⟩ := hex
      obtain ⟨bL, oL, kd, nn, A, n, c, l, x0, x1, x2, x3, rfl, hact⟩ := HT.out k h1
      have h1i : (k : Int) < (m : Int) := by omega
      have h2i : (k : Int) < 40 := by omega
      have hfr := hX.r.st.fr
      have e0 := hfr.cell0 hact.c0
      have e1 := hfr.cell0 hact.c1
      have e2 := hfr.cell0 hact.c2
      have e3 := hfr.cell0 hact.c3
      have e4 := hfr.cell0 hact.c4
      have e5 := hfr.cell0 hact.c5
      have e6 := hfr.cell0 hact.c6
      obtain ⟨kk, hkk, hmod⟩ := modK kd 8 (by decide) (by decide)
      obtain ⟨V, hV⟩ : ∃ V, V = wr.alloc (.cells #[.int .i64 kd, .int .i64 nn, .slice A n c, .int .i64 x0, .int .i64 x1, .int .i64 x2, .int .u32 x3] 40) := ⟨_, rfl⟩
      have HV := Lib.hid hV
      replace hmod : wrap64 ((IntKind.u64.wrap kd).tmod 8) = (kk : Int) := hmod
      have HMOD := Lib.hid hmod
      have HACT := Lib.hid hact
      clear hV hmod hact
      go_upto_block 2 with fail
      rw [HMOD.out, ← HV.out]
      go_cut [6, 8, 9] (fun vh vL vT wx => ThAt w w2.heap.size w1.heap.size p m1 m2 (k + 1) vh vL vT wx)
      case first =>
        have hb11 : V.heap[wr.heap.size]? = some (.cells #[.int .i64 kd, .int .i64 nn, .slice A n c, .int .i64 x0, .int .i64 x1, .int .i64 x2, .int .u32 x3] 40 (0, 0)) := by rw [HV.out]; exact heap_alloc_new _ _
        have hXV := hX.step0 (HV.out ▸ (Fr.refl none_ wr).alloc _ : Fr none_ wr V)
        have hc11 : ∀ W : World, W.heap[wr.heap.size]? = some (.cells #[.int .i64 kd, .int .i64 nn, .slice A n c, .int .i64 x0, .int .i64 x1, .int .i64 x2, .int .u32 x3] 40 (0, 0)) → W.cell? ⟨wr.heap.size, 1, none⟩ = some (.int .i64 nn) ∧ W.cell? ⟨wr.heap.size, 2, none⟩ = some (.slice A n c) := fun W h => ⟨by rw [cell_of_blk h]; rfl, by rw [cell_of_blk h]; rfl⟩
        have HC11 := Lib.hid hc11
        have hgrow := hX.r.grow
        clear hc11 hX e0 e1 e2 e3 e4 e5 e6 hfr
        have hI := hXV.r.inv
        have hS := hXV.r.st
        have hXWB : Hid (w2.heap.size ≤ wr.heap.size) := Lib.hid hgrow
        clear hgrow
        have hcases : kk = 3 ∨ kk = 4 ∨ kk = 5 ∨ kk = 6 ∨ kk = 7 ∨ (¬ kk = 3 ∧ ¬ kk = 4 ∧ ¬ kk = 5 ∧ ¬ kk = 6 ∧ ¬ kk = 7) := by omega
        clear hkk
        rcases hcases with rfl | rfl | rfl | rfl | rfl | hno
        · as_aux_lemma =>
            have hq40 : zs.length ≤ 40 := by omega
            obtain ⟨A1, c1, rfl, hA1, hc1, hnil1, hbl1⟩ := ownsRow_read hXV.r.ownL
            obtain ⟨q, hq⟩ : ∃ q, q = zs.length := ⟨_, rfl⟩
            obtain ⟨d1, d2⟩ := HC11.out V hb11
            have HXV := Lib.hid hXV
            rw [← hq] at hq40 ⊢
            have HQ := Lib.hid hq
            clear hq hc1 hnil1 hbl1 hXV
            by_cases hq0 : 0 < q
            · obtain ⟨i_, hi_, hmq⟩ := modK nn q hq0 (by omega)
              have hjz : i_ < zs.length := by have := HQ.out; omega
              have hz1 : (zs.map (·.1)).length = zs.length := List.length_map _
              have hO := hI.locs zs[i_] (List.getElem_mem _)
              obtain ⟨ga, oa, rfl⟩ := hA1.addr (by unfold locsC; rw [flatMap_len locC 4 (fun _ => rfl)]; omega)
              obtain ⟨y0, y1, y2, y3⟩ := loc_cells (ls := zs.map (·.1)) hA1 i_ (by omega)
              rw [List.getElem_map] at y0 y1 y2 y3
              obtain ⟨z, hzz⟩ : ∃ z, z = zs[i_] := ⟨_, rfl⟩
              rw [← hzz] at hO y0 y1 y2 y3
              obtain ⟨y, t⟩ := z
              simp only at hO y0 y1 y2 y3
              have g := hI.snd.good y.box
              have gu := g.used
              rw [hI.sectors] at gu
              have hdp := hdrop_any hS.hd.hot y.box y.fr y.n y.sum hO.lt hO.st hO.pos hO.fit (by omega) g.live
              have HDP := Lib.hid hdp
              have HOO := Lib.hid hO
              have hu64 : IntKind.u64.wrap (q : Int) = (q : Int) := IntWalk.u64_in _ (by omega)
              have q1 : (0 : Int) < (q : Int) := by omega
              have q2 : (i_ : Int) < (q : Int) := by omega
              have q3 : (0 : Int) ≤ (i_ : Int) := by omega
              have q4 : ¬ (q : Int) = 0 := by omega
              clear hdp hO hzz hz1 g gu
              go_wp2_with fail
              (with_reducible refine HDP.out.mono ?_)
              rintro e w5 ⟨⟨rv, rfl⟩, hC5⟩
              clear hmq hu64
              go_wp2_with fail
              go_meet
              exact ⟨h, bx, _, D, zs, rfl, by have := HQ.out; omega, by rw [HQ.out]; exact HXV.out.chB hdB hC5 (hI.drop _ _ HOO.out.lt HOO.out.pos)⟩
            · have q1 : ¬ (0 : Int) < (q : Int) := by omega
              go_wp2_with fail
              go_meet
              exact ⟨h, bx, H, D, zs, rfl, by have := HQ.out; omega, by rw [HQ.out]; exact HXV.out⟩
        · as_aux_lemma =>
            have hsl := seal_any hS.hd.hot
            have HSL := Lib.hid hsl
            clear hsl
            go_wp2_with fail
            (with_reducible refine HSL.out.mono ?_)
            rintro e w5 ⟨rfl, hF5, hs5⟩
            go_wp2_with fail
            go_meet
            exact ⟨h, bx, H.seal, D, zs, rfl, by omega, hXV.chB hdB ⟨hF5, hs5⟩ hI.seal⟩
        · as_aux_lemma =>
            obtain ⟨i_, hi_, hm5⟩ := modK nn 5 (by decide) (by decide)
            replace hm5 : wrap64 ((IntKind.u64.wrap nn).tmod 5) = (i_ : Int) := hm5
            have HM5 := Lib.hid hm5
            have hrl := hrelease_any hS.hd.hot i_ (by rw [hI.len]; exact hi_)
            have HRL := Lib.hid hrl
            obtain ⟨d1, d2⟩ := HC11.out V hb11
            clear hm5 hrl
            go_wp2_with fail
            rw [HM5.out]
            (with_reducible refine HRL.out.mono ?_)
            rintro e w5 ⟨⟨rv, rfl⟩, hC5⟩
            go_wp2_with fail
            go_meet
            exact ⟨h, bx, _, D, zs, rfl, by omega, hXV.chB hdB hC5 (hI.release i_ (by rw [hI.len]; exact hi_))⟩
        · as_aux_lemma =>
            have hse := hsettle_any hS.hd.hot
            have hI2 := hI.settle
            have HSE := Lib.hid hse
            have hzl40 : zs.length ≤ 40 := by omega
            obtain ⟨A1, c1, rfl, hA1, hc1, hnil1, hbl1⟩ := ownsRow_read hXV.r.ownL
            obtain ⟨A2, c2, rfl, hA2, hc2, hnil2, hbl2⟩ := ownsRow_read hXV.r.ownT
            have hlt5 : ∀ z, z ∈ zs → z.1.box < H.settle.boxes.length := fun z hz => by rw [settle_len]; exact (hI.locs z hz).lt
            obtain ⟨q, hq⟩ : ∃ q, q = zs.length := ⟨_, rfl⟩
            have HXV := Lib.hid hXV
            rw [← hq] at hzl40 ⊢
            have HQ := Lib.hid hq
            have HLT := Lib.hid hlt5
            clear hse hc1 hnil1 hbl1 hc2 hnil2 hbl2 hq hXV hlt5 hb11
            go_wp2_with fail
            (with_reducible refine HSE.out.mono ?_)
            rintro e w5 ⟨rfl, hC5⟩
            obtain ⟨S5, ownL5, ownT5, gr5⟩ := HXV.out.r.stB hdB hC5 hI2
            have hcf5 := hC5.fr.heap HXV.out.conf HXV.out.cb_bx
            obtain ⟨A1', c1', e1', hA15, _, _, _⟩ := ownsRow_read ownL5
            obtain ⟨A2', c2', e2', hA25, _, _, _⟩ := ownsRow_read ownT5
            obtain ⟨rfl, _, rfl⟩ : A1' = A1 ∧ zs.length = zs.length ∧ c1' = c1 := by cases e1'; exact ⟨rfl, rfl, rfl⟩
            obtain ⟨rfl, _, rfl⟩ : A2' = A2 ∧ zs.length = zs.length ∧ c2' = c2 := by cases e2'; exact ⟨rfl, rfl, rfl⟩
            have HC5 := Lib.hid hC5
            clear hA1 hA2 e1' e2' ownL5 ownT5 hC5
            have hR0 : StR w5 w5 [] (.slice none 0 0) (.slice none 0 0) := ⟨Fr.refl _ _, World.ownsRow_nil _ _ _ _, World.ownsRow_nil _ _ _ _⟩
            obtain ⟨fz, hfz⟩ : ∃ fz : List (LocS × List UInt8) → List (LocS × List UInt8), fz = List.filter (fun z => (H.settle.bx z.1.box).state != 0) := ⟨_, rfl⟩
            have hf0 : fz [] = [] := by rw [hfz]; rfl
            have hfs : ∀ j (hj : j < zs.length), fz (zs.take (j + 1)) = fz (zs.take j) ++ if (H.settle.bx zs[j].1.box).state = 0 then [] else [zs[j]] := fun j hj => by
              rw [List.take_succ_eq_append_getElem hj, hfz, List.filter_append]
              congr 1
              by_cases h : (H.settle.bx zs[j].1.box).state = 0 <;> simp [List.filter_cons, h]
            have hfl : ∀ l, (fz l).length ≤ l.length := fun l => by rw [hfz]; exact List.length_filter_le _ _
            have hfall : fz zs = zs.filter (fun z => (H.settle.bx z.1.box).state != 0) := by rw [hfz]
            have HFS := Lib.hid hfs
            have HFL := Lib.hid hfl
            have HFA := Lib.hid hfall
            have HF0 := Lib.hid hf0
            clear hfz hfs hfl hfall hf0
            go_wp2_with fail
            go_loopw [12, 13, 14] (fun va vb i wq => ∃ j : Nat, j ≤ q ∧ i = .int .i64 (j : Int) ∧ StR w5 wq (fz (zs.take j)) va vb) (fun _ _ i _ => q - (intOf i).toNat)
            case atStart => exact ⟨0, by omega, rfl, by rw [List.take_zero, HF0.out]; exact hR0⟩
            case round =>
              obtain ⟨j, hj, rfl, hR⟩ := hrel
              clear hR0
              by_cases hjl : j < q
              · have hjz : j < zs.length := by have := HQ.out; omega
                have hz1 : (zs.map (·.1)).length = zs.length := List.length_map _
                obtain ⟨ga, oa, rfl⟩ := hA15.addr (by unfold locsC; rw [flatMap_len locC 4 (fun _ => rfl)]; omega)
                obtain ⟨gt, ot, rfl⟩ := hA25.addr (by unfold textsC; rw [List.length_map, List.length_map]; omega)
                obtain ⟨y0, y1, y2, y3⟩ := loc_cells (ls := zs.map (·.1)) (hA15.fr0 hR.fr) j (by omega)
                have ht0 := (hA25.fr0 hR.fr).get j (by unfold textsC; rw [List.length_map, List.length_map]; omega)
                have htv : (textsC zs)[j]'(by unfold textsC; rw [List.length_map, List.length_map]; omega) = strV zs[j].2 := by simp [textsC]
                rw [htv] at ht0
                rw [List.getElem_map] at y0 y1 y2 y3
                have hlt := HLT.out zs[j] (List.getElem_mem _)
                have hsc := HFS.out j hjz
                have hlen := HFL.out (zs.take j)
                rw [List.length_take] at hlen
                obtain ⟨fj, hfj⟩ : ∃ fj, fj = fz (zs.take j) := ⟨_, rfl⟩
                rw [← hfj] at hR hsc hlen
                obtain ⟨z, hzz⟩ : ∃ z, z = zs[j] := ⟨_, rfl⟩
                rw [← hzz] at hlt hsc ht0 y0 y1 y2 y3
                obtain ⟨⟨yb, yf, yn, ys⟩, t⟩ := z
                simp only at hlt hsc ht0 y0 y1 y2 y3
                have hst := stat_any (S5.step0 hR.fr).hd.hot yb hlt
                rw [← bx_eq hlt] at hst
                obtain ⟨bb, hbb⟩ : ∃ bb, bb = H.settle.bx yb := ⟨_, rfl⟩
                obtain ⟨s0, hs0⟩ : ∃ s0, s0 = (H.settle.bx yb).state := ⟨_, rfl⟩
                rw [← hs0] at hst hsc
                rw [← hbb] at hst
                have HST := Lib.hid hst
                have HSC := Lib.hid hsc
                have j1 : (j : Int) < (q : Int) := by omega
                have j2 : (0 : Int) ≤ (j : Int) := by omega
                have hfn : fj.length ≤ 40 := by omega
                clear hst hsc hzz htv hz1 hfj hbb hs0 hlt
                by_cases h0 : s0 = 0
                · have hsc2 := HSC.out
                  rw [if_pos h0, List.append_nil] at hsc2
                  have HSC2 := Lib.hid hsc2
                  clear hsc2
                  subst h0
                  go_wp2_with fail
                  (with_reducible refine HST.out.mono ?_)
                  rintro e w6 ⟨rfl, hF6⟩
                  rw [errV_0]
                  go_wp2_with fail
                  go_roundw
                  case rel => exact ⟨j + 1, by omega, by go_num, by rw [HSC2.out]; exact ⟨hR.fr.trans hF6, ownsRow_fr0 hR.a hF6, ownsRow_fr0 hR.b hF6⟩⟩
                  case measure => simp [intOf]; omega
                · have o1 : (s0 == 0) = false := by simpa using h0
                  have hsc2 := HSC.out
                  rw [if_neg h0] at hsc2
                  have HSC2 := Lib.hid hsc2
                  clear hsc2
                  go_wp2_with fail
                  (with_reducible refine HST.out.mono ?_)
                  rintro e w6 ⟨rfl, hF6⟩
                  rw [errV_0]
                  have y06 := hF6.cell0 y0
                  have y16 := hF6.cell0 y1
                  have y26 := hF6.cell0 y2
                  have y36 := hF6.cell0 y3
                  have hal := (Fr.refl none_ w6).alloc (.cells #[.int .i64 (yb : Int), .int .i64 (yf : Int), .int .i64 (yn : Int), .int .u32 (ys : Int)] 43)
                  have ownA := ownsRow_fr0 (ownsRow_fr0 hR.a hF6) hal
                  have ownB := ownsRow_fr0 (ownsRow_fr0 hR.b hF6) hal
                  have hAa : CellsAt (w6.alloc (.cells #[.int .i64 (yb : Int), .int .i64 (yf : Int), .int .i64 (yn : Int), .int .u32 (ys : Int)] 43)) (some ⟨w6.heap.size, 0, none⟩) (locC ⟨yb, yf, yn, ys⟩) := CellsAt.whole (heap_alloc_new _ _)
                  have hFa := (hR.fr.trans hF6).trans hal
                  have hgr : w5.heap.size ≤ w6.heap.size := (hR.fr.trans hF6).size
                  have HAA := Lib.hid hAa
                  clear hAa
                  go_upto_region 37 with ((with_reducible refine at_append (.tmp 176) (.tmp 181) 33 w5.heap.size 43 (.agg #[.int .i64 0, .int .i64 0, .int .i64 0, .int .u32 0]) 4 32 (n := fj.length) (A := some ⟨w6.heap.size, 0, none⟩) (m := 1) (c := 1) (news := locC ⟨yb, yf, yn, ys⟩) Try.underlying33 info_loc ?_ ?_ ?_ ?_ ownA HAA.out ?_ ?_ ?_ ?_ ?_ ?_ ?_); (focus rfl); (focus decide); (focus rfl); (focus rfl); (focus (intro h; cases h)); (focus rfl); (focus exact locC_one1 _); (focus unfold maxLen; omega); (focus omega); (focus rw [World.size_alloc]; omega); intro va9 w9 hown9 hg9)
                  have hF9 : Fr none_ w5 w9 := Fr.grown hFa hg9 ownA (Nat.le_refl _)
                  have ownB9 := ownsRow_fr ownB (Fr.of_grown hg9) (fun k hk => rows_apart ownB ownA (by decide) k hk)
                  have ht9 : w9.cell? ⟨gt, ot + j, none⟩ = some (.string ⟨t.toArray⟩) := by
                    have := (hA25.fr0 hF9).get j (by unfold textsC; rw [List.length_map, List.length_map]; omega)
                    have h5 := hA25.get j (by unfold textsC; rw [List.length_map, List.length_map]; omega)
                    have h6 := hR.fr.cell0 h5
                    rw [ht0] at h6
                    rw [this, ← Option.some.inj h6]
                    rfl
                  have hal9 := (Fr.refl none_ w9).alloc (.cells #[.string ⟨t.toArray⟩] 9)
                  have ownBb := ownsRow_fr0 ownB9 hal9
                  have ownAb := ownsRow_fr0 hown9 hal9
                  have hAb : CellsAt (w9.alloc (.cells #[.string ⟨t.toArray⟩] 9)) (some ⟨w9.heap.size, 0, none⟩) [strV t] := CellsAt.whole (l := [strV t]) (heap_alloc_new _ _)
                  have hF9a := hF9.trans hal9
                  have hgr9 : w5.heap.size ≤ w9.heap.size := hF9.size
                  have HAB := Lib.hid hAb
                  clear hAb ownA ownB hFa hal hown9 hg9
                  go_wp2_with ((with_reducible refine at_append (.tmp 183) (.tmp 188) 34 w5.heap.size 9 (.string ⟨#[]⟩) 1 16 (n := fj.length) (A := some ⟨w9.heap.size, 0, none⟩) (m := 1) (c := 1) (news := [strV t]) Try.underlying34 info_str ?_ ?_ ?_ ?_ ownBb HAB.out ?_ ?_ ?_ ?_ ?_ ?_ ?_); (focus rfl); (focus decide); (focus rfl); (focus rfl); (focus (intro h; cases h)); (focus rfl); (focus exact strV_one [t]); (focus unfold maxLen; omega); (focus omega); (focus rw [World.size_alloc]; omega); intro vb10 w10 hown10 hg10)
                  have hF10 : Fr none_ w5 w10 := Fr.grown hF9a hg10 ownBb (Nat.le_refl _)
                  have ownA10 := ownsRow_fr ownAb (Fr.of_grown hg10) (fun k hk => rows_apart ownAb ownBb (by decide) k hk)
                  go_roundw
                  case rel =>
                    refine ⟨j + 1, by omega, by go_num, ?_⟩
                    rw [HSC2.out]
                    refine ⟨hF10, ?_, ?_⟩
                    · rw [List.length_append, locsC_app]; exact ownA10
                    · rw [List.length_append, textsC_app]; exact hown10
                  case measure => simp [intOf]; omega
              · have hjq : j = zs.length := by have := HQ.out; omega
                have hjn : ¬ (j : Int) < (q : Int) := by have := HQ.out; omega
                rw [hjq, List.take_length] at hR
                have hln := HFL.out zs
                have HR := Lib.hid hR
                clear hR hjq
                go_wp2_with fail
                go_meet
                have hF := HR.out.fr
                have hcf : Fr none_ w5 wr := hF
                exact ⟨h, bx, H.settle, D, fz zs, rfl, by have := HQ.out; omega, ⟨⟨S5.step0 hF, by rw [HFA.out]; exact hI2, ownsRow_mono HR.out.a gr5, ownsRow_mono HR.out.b gr5, Nat.le_trans gr5 hF.size, HXV.out.r.sec⟩, hF.heap0 hcf5⟩⟩
        · as_aux_lemma =>
            have hen := fun W (hW : Fr none_ V W) => hencode_any (hS.step0 hW).hd.hot hI.snd.ok hI.snd.sound.st
            have hcst : ∀ W, Fr none_ V W → W.cell? ⟨w1.heap.size, 0, none⟩ = some (.int .i64 2) ∧ W.cell? ⟨w1.heap.size, 1, none⟩ = some (.int .i64 5) ∧ W.cell? ⟨w1.heap.size, 2, none⟩ = some (.int .i64 2) := fun W hW => by
              have := hW.heap0 hXV.conf
              refine ⟨?_, ?_, ?_⟩ <;> (rw [cell_of_blk this]; rfl)
            have hdc : ∀ W, Fr none_ V W → ∀ A n c (l' : List UInt8), l' = sealB (encHot H) → n = l'.length → CellsAt W A (l'.map byteV) → n ≤ c → Calls Try.prog 11 #[ptr p, .agg #[.int .i64 2, .int .i64 5, .int .i64 2], .slice A n c] W fun e w' => HotNew W p H e w' := fun W hW A n c l' h1 h2 h3 h4 => by
              have := hdecode_any (hS.step0 hW).hd.dev H hI.snd.sound (by rw [hI.first]; decide) (by rw [hI.len]; decide) (by rw [hI.sectors]; decide) (by rw [hI.first, hI.len, hI.sectors, hXV.r.sec]; decide) (by rw [hI.len]; exact made5) A n c l' h1 h2 h3 h4
              have e : confV H = .agg #[.int .i64 2, .int .i64 5, .int .i64 2] := by unfold confV; rw [hI.first, hI.len, hI.sectors]; rfl
              rw [e] at this
              exact this
            have hs0 := hcst _ (Fr.refl none_ V).drew
            have HEN := Lib.hid hen
            have HCST := Lib.hid hcst
            have HDC := Lib.hid hdc
            clear hen hcst hdc
            go_wp2_with fail
            go_region_held3 (fun W => W.cell? ⟨w1.heap.size, 0, none⟩ = some (.int .i64 2) ∧ W.cell? ⟨w1.heap.size, 1, none⟩ = some (.int .i64 5) ∧ W.cell? ⟨w1.heap.size, 2, none⟩ = some (.int .i64 2)) (first | exact hs0 | exact HCST.out _ hX5 | exact HCST.out _ hX6) (first
              | (go_at_call 12; (with_reducible refine (HEN.out _ (Fr.refl none_ V).drew).mono ?_); rintro e w5 ⟨⟨v5, rfl, hown5⟩, hF5⟩; have hX5 : Fr none_ V w5 := ((Fr.refl none_ V).drew).trans hF5; obtain ⟨A5, c5, rfl, hA5, hc5, hnil5, hbl5⟩ := ownsRow_read hown5)
              | (go_at_call 11; (with_reducible refine (HDC.out w5 hX5 A5 _ c5 _ rfl rfl hA5 hc5).mono ?_); rintro e w6 ⟨⟨h6, bx6, rfl, hh6, hg6, hgb6⟩, hF6⟩; rw [errV_0]; have hX6 := hX5.trans hF6))
            go_wp2_with fail
            go_meet
            have hz5 := hX5.size
            have hzw := hS.fr.size
            have hX7 := hXV.step0 hX6
            have hS7 := hX7.r.st
            refine ⟨h6, bx6, H, D, zs, rfl, by omega, ⟨⟨⟨⟨hh6, hS7.hd.dev, (hS.hd.dev.new (by omega)), (hS.hd.dev.new (by omega)), hS7.hd.up, hS7.hd.fit⟩, hS7.ok, hS7.calm, hS7.fr, by omega, by omega, hS7.nd⟩, hI, hX7.r.ownL, hX7.r.ownT, hX7.r.grow, hX7.r.sec⟩, hX7.conf⟩⟩
        · as_aux_lemma =>
            have k3 : ((kk : Int) == 3) = false := by rw [beq_eq_false_iff_ne]; omega
            have k4 : ((kk : Int) == 4) = false := by rw [beq_eq_false_iff_ne]; omega
            have k5 : ((kk : Int) == 5) = false := by rw [beq_eq_false_iff_ne]; omega
            have k6 : ((kk : Int) == 6) = false := by rw [beq_eq_false_iff_ne]; omega
            have k7 : ((kk : Int) == 7) = false := by rw [beq_eq_false_iff_ne]; omega
            have hst := stat_any hS.hd.hot 0 (by rw [hI.len]; decide)
            have hbx0 := bx_eq (H := H) (i := 0) (by rw [hI.len]; decide)
            obtain ⟨b0, hb0⟩ : ∃ b0, b0 = H.boxes[0]'(by rw [hI.len]; decide) := ⟨_, rfl⟩
            rw [← hb0] at hst hbx0
            obtain ⟨s0, hs0⟩ : ∃ s0, s0 = b0.state := ⟨_, rfl⟩
            rw [← hs0] at hst
            replace hst : Calls Try.prog 10 #[ptr h, .int .i64 0] V fun e w' => e = .returned (.tuple #[.int .i64 s0, .int .i64 (b0.used : Int), .int .i64 (b0.live : Int), errV 0]) ∧ Fr none_ V w' := hst
            have HST := Lib.hid hst
            have hbs : (H.bx 0).state = s0 := by rw [hbx0, hs0]
            have HBX := Lib.hid hbs
            clear hst hno hb0 hbx0 hs0 hbs
            go_wp2_with fail
            (with_reducible refine HST.out.mono ?_)
            rintro e w5 ⟨rfl, hF5⟩
            rw [errV_0]
            have X5 := hXV.step0 hF5
            have hb15 := hF5.heap0 hb11
            have d2 := (HC11.out w5 hb15).2
            have hz2 : H.sectors * 64 = 128 := by rw [hI.sectors]
            have hTx := HACT.out.arg
            have hbne : wr.heap.size ≠ bx := ne_type hb15 X5.r.st.hd.hot.bxs (by decide)
            have hbnd : ¬ devBlks p m1 m2 wr.heap.size := fun e => by have := hdB _ e; have := hXWB.out; omega
            by_cases hgood : 0 < n ∧ n ≤ 128 ∧ ∃ x, H.prep n = some x
            · obtain ⟨n1, n2, ⟨H1, i_⟩, hp⟩ := hgood
              have hnl := hTx.len
              have hAp : Apart bx p m1 m2 A := X5.r.st.apart_old (fun b hb => hTx.cells.lt hb (by rw [List.length_map]; omega))
              have hA5 := hTx.cells.fr0 X5.r.st.fr
              have hput := X5.r.st.put A n c l hnl n1 (by omega) hA5 hAp H1 i_ hp
              have hP := putB_of hI.snd.tidy hp
              have hinv := hI.put (l := l) X5.r.st.hd.dev.get_len X5.r.st.calm X5.r.sec (by omega) (by omega) (H1 := H1) (i := i_) (by rw [← hnl]; exact hp)
              rw [← hnl] at hinv
              have hA5d := hA5
              obtain ⟨u, hu⟩ : ∃ u, u = (H1.bx i_).used := ⟨_, rfl⟩
              obtain ⟨sm, hsm⟩ : ∃ sm, sm = sumF l := ⟨_, rfl⟩
              obtain ⟨H2, hH2⟩ : ∃ H2, H2 = H1.after i_ n := ⟨_, rfl⟩
              obtain ⟨D2, hD2⟩ : ∃ D2, D2 = hwrite D H1 i_ u l := ⟨_, rfl⟩
              have hsec2 : D2.sectors = 12 := by rw [hD2, hw_sectors]; exact X5.r.sec
              rw [← hu, ← hsm, ← hH2, ← hD2] at hput hinv
              have hi0 : s0 = 3 → ((i_ : Int) == 0) = false := fun e => by
                rw [beq_eq_false_iff_ne]
                intro e2
                have e3 : i_ = 0 := by omega
                have := hP.was
                rw [e3, HBX.out, e] at this
                rcases this with h | h <;> cases h
              have HI0 := Lib.hid hi0
              have HSM := Lib.hid hsm
              have HP := Lib.hid hput
              have HINV := Lib.hid hinv
              have HNL := Lib.hid hnl
              clear hput hP hinv hu hsm hH2 hD2 hi0 hp hnl
              go_wp2_with fail
              (with_reducible refine HP.out.mono ?_)
              rintro e w6 ⟨rfl, S6, hF6⟩
              rw [errV_0]
              obtain ⟨ownL6, ownT6, gr6⟩ := X5.r.putS hdB S6 hF6
              have hcf6 := hF6.heap X5.conf (fun e => by rcases e with e | e; exact X5.cb_bx e; exact hcd e)
              have hb16 := hF6.heap hb15 (fun e => by rcases e with e | e; exact hbne e; exact hbnd e)
              have hA6 : CellsAt w6 A (l.map byteV) := hA5.fr hF6 (fun b hb e => by
                rcases e with e | e
                · exact (hAp b hb).1 e
                · exact (hAp b hb).2 e)
              obtain ⟨V7, hV7⟩ : ∃ V7, V7 = w6.alloc (.cells #[.int .i64 (i_ : Int), .int .i64 (u : Int), .int .i64 (n : Int), .int .u32 (sm : Int)] 43) := ⟨_, rfl⟩
              have hF7 : Fr none_ w6 V7 := hV7 ▸ (Fr.refl none_ w6).alloc _
              have hl7 : V7.heap[w6.heap.size]? = some (.cells #[.int .i64 (i_ : Int), .int .i64 (u : Int), .int .i64 (n : Int), .int .u32 (sm : Int)] 43 (0, 0)) := hV7 ▸ heap_alloc_new _ _
              have HV7 := Lib.hid hV7
              have hb17 := hF7.heap0 hb16
              have hst7 : ∀ W, Fr none_ V7 W → (W.cell? ⟨w6.heap.size, 0, none⟩ = some (.int .i64 (i_ : Int)) ∧ W.cell? ⟨w6.heap.size, 1, none⟩ = some (.int .i64 (u : Int)) ∧ W.cell? ⟨w6.heap.size, 2, none⟩ = some (.int .i64 (n : Int)) ∧ W.cell? ⟨w6.heap.size, 3, none⟩ = some (.int .u32 (sm : Int))) ∧ W.cell? ⟨wr.heap.size, 2, none⟩ = some (.slice A n c) := fun W hW =>
                ⟨res_cell4 (hW.heap0 hl7), (HC11.out W (hW.heap0 hb17)).2⟩
              have hsum : ∀ W, Fr none_ V7 W → Calls Try.prog 14 #[.slice A n c] W fun e w' => e = .returned (.int .u32 (sm : Int)) ∧ W = w' := fun W hW => by
                rw [HSM.out]
                exact sum_any n A c l W HNL.out (by have := HNL.out; omega) (hA6.fr0 (hF7.trans hW))
              have HS6 := Lib.hid S6
              have HOW := Lib.hid (And.intro ownL6 (And.intro ownT6 gr6))
              have HST7 := Lib.hid hst7
              have HSUM := Lib.hid hsum
              have hs0 := hst7 _ (Fr.refl none_ V7).drew
              clear hst7 hsum hV7 S6 ownL6 ownT6 hF6 hA5 hA5d
              have hb3 : s0 = 3 ∨ ¬ s0 = 3 := Classical.em _
              rcases hb3 with h3 | h3
              case' inl =>
                have hi3 := HI0.out h3
                have hi4 : ¬ (i_ : Int) = 0 := by simpa using hi3
                have hi5 : ¬ i_ = 0 := by omega
                have hi6 : (i_ == 0) = false := by simpa using hi5
                subst h3
                go_wp2_with fail
                rw [← HV7.out]
                go_region_held3 (fun W => (W.cell? ⟨w6.heap.size, 0, none⟩ = some (.int .i64 (i_ : Int)) ∧ W.cell? ⟨w6.heap.size, 1, none⟩ = some (.int .i64 (u : Int)) ∧ W.cell? ⟨w6.heap.size, 2, none⟩ = some (.int .i64 (n : Int)) ∧ W.cell? ⟨w6.heap.size, 3, none⟩ = some (.int .u32 (sm : Int))) ∧ W.cell? ⟨wr.heap.size, 2, none⟩ = some (.slice A n c)) (first | exact hs0 | exact HST7.out _ ((Fr.refl none_ V7).drew)) (first
                  | (go_at_call 14; (with_reducible refine (HSUM.out _ (Fr.refl none_ V7).drew).mono ?_); rintro e y1 ⟨rfl, hy1⟩; subst hy1))
              case' inr =>
                have hi3 : (s0 == 3) = false := by simpa using h3
                have hi4 : decide (s0 = 3) = false := by simpa using h3
                go_wp2_with fail
                rw [← HV7.out]
                refine wp_region_held_drew (S := (fun W => (W.cell? ⟨w6.heap.size, 0, none⟩ = some (.int .i64 (i_ : Int)) ∧ W.cell? ⟨w6.heap.size, 1, none⟩ = some (.int .i64 (u : Int)) ∧ W.cell? ⟨w6.heap.size, 2, none⟩ = some (.int .i64 (n : Int)) ∧ W.cell? ⟨w6.heap.size, 3, none⟩ = some (.int .u32 (sm : Int))) ∧ W.cell? ⟨wr.heap.size, 2, none⟩ = some (.slice A n c))) (by kernel_rfl) hs0 (fun hHeld0 => ?_)
                refine wpAnyH_take (i := 0) (oi := _) (v := ?v1) rfl (by kernel_rfl) (by kernel_rfl) (by kernel_rfl) (fun _ _ _ h => h) (Or.inl ⟨by rfl, ?hy1⟩) (by assumption) ?rest1
                case hy1 => (intro w hSw; (try dsimp only at hSw); go_simp; try with_reducible rfl)
                try simp only [List.getElem_toArray, List.getElem_cons_zero, List.getElem_cons_succ, Act.put, List.setIfInBounds_toArray, List.set_cons_zero, List.set_cons_succ]
                refine wpAnyH_take (i := 1) (oi := _) (v := ?v2) rfl (by kernel_rfl) (by kernel_rfl) (by kernel_rfl) (fun _ _ _ h => h) (Or.inl ⟨by rfl, ?hy2⟩) (by assumption) ?rest2
                case hy2 => (intro w hSw; (try dsimp only at hSw); go_simp; try with_reducible rfl)
                try simp only [List.getElem_toArray, List.getElem_cons_zero, List.getElem_cons_succ, Act.put, List.setIfInBounds_toArray, List.set_cons_zero, List.set_cons_succ]
                refine wpAnyH_take (i := 2) (oi := _) (v := ?v3) rfl (by kernel_rfl) (by kernel_rfl) (by kernel_rfl) (fun _ _ _ h => h) (Or.inl ⟨by rfl, ?hy3⟩) (by assumption) ?rest3
                case hy3 => (intro w hSw; (try dsimp only at hSw); go_simp; try with_reducible rfl)
                try simp only [List.getElem_toArray, List.getElem_cons_zero, List.getElem_cons_succ, Act.put, List.setIfInBounds_toArray, List.set_cons_zero, List.set_cons_succ]
                refine wpAnyH_take (i := 3) (oi := _) (v := ?v4) rfl (by kernel_rfl) (by kernel_rfl) (by kernel_rfl) (fun _ _ _ h => h) (Or.inl ⟨by rfl, ?hy4⟩) (by assumption) ?rest4
                case hy4 => (intro w hSw; (try dsimp only at hSw); go_simp; try with_reducible rfl)
                try simp only [List.getElem_toArray, List.getElem_cons_zero, List.getElem_cons_succ, Act.put, List.setIfInBounds_toArray, List.set_cons_zero, List.set_cons_succ]
                refine wpAnyH_ready (rs := [4]) (by kernel_rfl) (by simp) ?_
                refine AllReadyH.cons (o := _) rfl (fun KK hKK => ?_) AllReadyH.nil
                go_simp
                (go_at_call 14; (with_reducible refine (HSUM.out _ (Fr.refl none_ V7).drew).mono ?_); rintro e y1 ⟨rfl, hy1⟩; subst hy1)
                go_wp2_with fail
                refine hKK.out _ _ ?hS5 (fun hHeld5 => ?rest5)
                case hS5 => exact hs0
                clear hKK KK
                try simp only [List.getElem_toArray, List.getElem_cons_zero, List.getElem_cons_succ, Act.put, List.setIfInBounds_toArray, List.set_cons_zero, List.set_cons_succ]
                refine wpAnyH_take (i := 5) (oi := _) (v := ?v6) rfl (by kernel_rfl) (by kernel_rfl) (by kernel_rfl) (fun _ _ _ h => h) (Or.inl ⟨by rfl, ?hy6⟩) (by assumption) ?rest6
                case hy6 => (intro w hSw; (try dsimp only at hSw); go_simp; try with_reducible rfl)
                try simp only [List.getElem_toArray, List.getElem_cons_zero, List.getElem_cons_succ, Act.put, List.setIfInBounds_toArray, List.set_cons_zero, List.set_cons_succ]
                refine wpAnyH_take (i := 6) (oi := _) (v := ?v7) rfl (by kernel_rfl) (by kernel_rfl) (by kernel_rfl) (fun _ _ _ h => h) (Or.inl ⟨by rfl, ?hy7⟩) (by assumption) ?rest7
                case hy7 => (intro w hSw; (try dsimp only at hSw); go_simp; try with_reducible rfl)
                try simp only [List.getElem_toArray, List.getElem_cons_zero, List.getElem_cons_succ, Act.put, List.setIfInBounds_toArray, List.set_cons_zero, List.set_cons_succ]
                refine wpAnyH_take (i := 7) (oi := _) (v := ?v8) rfl (by kernel_rfl) (by kernel_rfl) (by kernel_rfl) (fun _ _ _ h => h) (Or.inl ⟨by rfl, ?hy8⟩) (by assumption) ?rest8
                case hy8 => (intro w hSw; (try dsimp only at hSw); go_simp; try with_reducible rfl)
                try simp only [List.getElem_toArray, List.getElem_cons_zero, List.getElem_cons_succ, Act.put, List.setIfInBounds_toArray, List.set_cons_zero, List.set_cons_succ]
                refine wpAnyH_take (i := 8) (oi := _) (v := ?v9) rfl (by kernel_rfl) (by kernel_rfl) (by kernel_rfl) (fun _ _ _ h => h) (Or.inl ⟨by rfl, ?hy9⟩) (by assumption) ?rest9
                case hy9 => (intro w hSw; (try dsimp only at hSw); go_simp; try with_reducible rfl)
                try simp only [List.getElem_toArray, List.getElem_cons_zero, List.getElem_cons_succ, Act.put, List.setIfInBounds_toArray, List.set_cons_zero, List.set_cons_succ]
                refine wpAnyH_take (i := 9) (oi := _) (v := ?v10) rfl (by kernel_rfl) (by kernel_rfl) (by kernel_rfl) (fun _ _ _ h => h) (Or.inl ⟨by rfl, ?hy10⟩) (by assumption) ?rest10
                case hy10 => (intro w hSw; (try dsimp only at hSw); go_simp; try with_reducible rfl)
                try simp only [List.getElem_toArray, List.getElem_cons_zero, List.getElem_cons_succ, Act.put, List.setIfInBounds_toArray, List.set_cons_zero, List.set_cons_succ]
                refine wpAnyH_take (i := 10) (oi := _) (v := ?v11) rfl (by kernel_rfl) (by kernel_rfl) (by kernel_rfl) (fun _ _ _ h => h) (Or.inl ⟨by rfl, ?hy11⟩) (by assumption) ?rest11
                case hy11 => (intro w hSw; (try dsimp only at hSw); go_simp; try with_reducible rfl)
                try simp only [List.getElem_toArray, List.getElem_cons_zero, List.getElem_cons_succ, Act.put, List.setIfInBounds_toArray, List.set_cons_zero, List.set_cons_succ]
                refine wpAnyH_take (i := 11) (oi := _) (v := ?v12) rfl (by kernel_rfl) (by kernel_rfl) (by kernel_rfl) (fun _ _ _ h => h) (Or.inl ⟨by rfl, ?hy12⟩) (by assumption) ?rest12
                case hy12 => (intro w hSw; (try dsimp only at hSw); go_simp; try with_reducible rfl)
                try simp only [List.getElem_toArray, List.getElem_cons_zero, List.getElem_cons_succ, Act.put, List.setIfInBounds_toArray, List.set_cons_zero, List.set_cons_succ]
                refine wpAnyH_take (i := 12) (oi := _) (v := ?v13) rfl (by kernel_rfl) (by kernel_rfl) (by kernel_rfl) (fun _ _ _ h => h) (Or.inl ⟨by rfl, ?hy13⟩) (by assumption) ?rest13
                case hy13 => (intro w hSw; (try dsimp only at hSw); go_simp; try with_reducible rfl)
                try simp only [List.getElem_toArray, List.getElem_cons_zero, List.getElem_cons_succ, Act.put, List.setIfInBounds_toArray, List.set_cons_zero, List.set_cons_succ]
                refine wpAnyH_take (i := 13) (oi := _) (v := ?v14) rfl (by kernel_rfl) (by kernel_rfl) (by kernel_rfl) (fun _ _ _ h => h) (Or.inl ⟨by rfl, ?hy14⟩) (by assumption) ?rest14
                case hy14 => (intro w hSw; (try dsimp only at hSw); go_simp; try with_reducible rfl)
                try simp only [List.getElem_toArray, List.getElem_cons_zero, List.getElem_cons_succ, Act.put, List.setIfInBounds_toArray, List.set_cons_zero, List.set_cons_succ]
                refine wpAnyH_take (i := 14) (oi := _) (v := ?v15) rfl (by kernel_rfl) (by kernel_rfl) (by kernel_rfl) (fun _ _ _ h => h) (Or.inl ⟨by rfl, ?hy15⟩) (by assumption) ?rest15
                case hy15 => (intro w hSw; (try dsimp only at hSw); go_simp; try with_reducible rfl)
                try simp only [List.getElem_toArray, List.getElem_cons_zero, List.getElem_cons_succ, Act.put, List.setIfInBounds_toArray, List.set_cons_zero, List.set_cons_succ]
                refine wpAnyH_take (i := 15) (oi := _) (v := ?v16) rfl (by kernel_rfl) (by kernel_rfl) (by kernel_rfl) (fun _ _ _ h => h) (Or.inl ⟨by rfl, ?hy16⟩) (by assumption) ?rest16
                case hy16 => (intro w hSw; (try dsimp only at hSw); go_simp; try with_reducible rfl)
                try simp only [List.getElem_toArray, List.getElem_cons_zero, List.getElem_cons_succ, Act.put, List.setIfInBounds_toArray, List.set_cons_zero, List.set_cons_succ]
                refine wpAnyH_take (i := 16) (oi := _) (v := ?v17) rfl (by kernel_rfl) (by kernel_rfl) (by kernel_rfl) (fun _ _ _ h => h) (Or.inl ⟨by rfl, ?hy17⟩) (by assumption) ?rest17
                case hy17 => (intro w hSw; (try dsimp only at hSw); go_simp; try with_reducible rfl)
                try simp only [List.getElem_toArray, List.getElem_cons_zero, List.getElem_cons_succ, Act.put, List.setIfInBounds_toArray, List.set_cons_zero, List.set_cons_succ]
                refine wpAnyH_take (i := 17) (oi := _) (v := ?v18) rfl (by kernel_rfl) (by kernel_rfl) (by kernel_rfl) (fun _ _ _ h => h) (Or.inl ⟨by rfl, ?hy18⟩) (by assumption) ?rest18
                case hy18 => (intro w hSw; (try dsimp only at hSw); go_simp; try with_reducible rfl)
                try simp only [List.getElem_toArray, List.getElem_cons_zero, List.getElem_cons_succ, Act.put, List.setIfInBounds_toArray, List.set_cons_zero, List.set_cons_succ]
                refine wpAnyH_take (i := 18) (oi := _) (v := undef) rfl (by kernel_rfl) (by kernel_rfl) (by kernel_rfl) (fun _ _ _ h => h) (Or.inr ⟨by rfl, rfl⟩) (by assumption) ?rest19
                try simp only [List.getElem_toArray, List.getElem_cons_zero, List.getElem_cons_succ, Act.put, List.setIfInBounds_toArray, List.set_cons_zero, List.set_cons_succ]
                refine wpAnyH_take (i := 19) (oi := _) (v := undef) rfl (by kernel_rfl) (by kernel_rfl) (by kernel_rfl) (fun _ _ _ h => h) (Or.inr ⟨by rfl, rfl⟩) (by assumption) ?rest20
                try simp only [List.getElem_toArray, List.getElem_cons_zero, List.getElem_cons_succ, Act.put, List.setIfInBounds_toArray, List.set_cons_zero, List.set_cons_succ]
                refine wpAnyH_take (i := 20) (oi := _) (v := undef) rfl (by kernel_rfl) (by kernel_rfl) (by kernel_rfl) (fun _ _ _ h => h) (Or.inr ⟨by rfl, rfl⟩) (by assumption) ?rest21
                try simp only [List.getElem_toArray, List.getElem_cons_zero, List.getElem_cons_succ, Act.put, List.setIfInBounds_toArray, List.set_cons_zero, List.set_cons_succ]
                refine wpAnyH_take (i := 21) (oi := _) (v := ?v22) rfl (by kernel_rfl) (by kernel_rfl) (by kernel_rfl) (fun _ _ _ h => h) (Or.inl ⟨by rfl, ?hy22⟩) (by assumption) ?rest22
                case hy22 => (intro w hSw; (try dsimp only at hSw); go_simp; try with_reducible rfl)
                try simp only [List.getElem_toArray, List.getElem_cons_zero, List.getElem_cons_succ, Act.put, List.setIfInBounds_toArray, List.set_cons_zero, List.set_cons_succ]
                refine wpAnyH_take (i := 22) (oi := _) (v := ?v23) rfl (by kernel_rfl) (by kernel_rfl) (by kernel_rfl) (fun _ _ _ h => h) (Or.inl ⟨by rfl, ?hy23⟩) (by assumption) ?rest23
                case hy23 => (intro w hSw; (try dsimp only at hSw); go_simp; try with_reducible rfl)
                try simp only [List.getElem_toArray, List.getElem_cons_zero, List.getElem_cons_succ, Act.put, List.setIfInBounds_toArray, List.set_cons_zero, List.set_cons_succ]
                refine wpAnyH_done (by kernel_rfl) ?_ _
              all_goals
                obtain ⟨W8, hW8⟩ : ∃ W8, W8 = V7.drew := ⟨_, rfl⟩
                rw [← hW8]
                have hF8 : Fr none_ V7 W8 := hW8 ▸ (Fr.refl none_ V7).drew
                have HW8 := Lib.hid hW8
                clear hW8
                obtain ⟨⟨l0, l1, l2, l3⟩, d3⟩ := HST7.out W8 hF8
                have hF68 := hF7.trans hF8
                have hal := (Fr.refl none_ W8).alloc (.cells #[.int .i64 (i_ : Int), .int .i64 (u : Int), .int .i64 (n : Int), .int .u32 (sm : Int)] 43)
                have Sa := (HS6.out.step0 hF68).step0 hal
                have ownLa := ownsRow_fr0 (ownsRow_fr0 HOW.out.1 hF68) hal
                have ownTa := ownsRow_fr0 (ownsRow_fr0 HOW.out.2.1 hF68) hal
                have hcfa := hal.heap0 (hF68.heap0 hcf6)
                have hb1a := hal.heap0 (hF8.heap0 hb17)
                have hAa : CellsAt (W8.alloc (.cells #[.int .i64 (i_ : Int), .int .i64 (u : Int), .int .i64 (n : Int), .int .u32 (sm : Int)] 43)) (some ⟨W8.heap.size, 0, none⟩) (locC ⟨i_, u, n, sm⟩) := CellsAt.whole (heap_alloc_new _ _)
                have hq40 : zs.length ≤ 40 := by omega
                have hgra : w2.heap.size ≤ W8.heap.size := Nat.le_trans HOW.out.2.2 hF68.size
                have HSA := Lib.hid (And.intro Sa (And.intro ownTa (And.intro hcfa hb1a)))
                have HAA := Lib.hid hAa
                clear Sa ownTa hcfa hb1a hAa hs0 hl7 hb17 hcf6 hb16 hA6 d2 hXV X5 hb11 hb15
                go_upto_region 19 with ((with_reducible refine at_append (.tmp 111) (.tmp 113) 33 w2.heap.size 43 (.agg #[.int .i64 0, .int .i64 0, .int .i64 0, .int .u32 0]) 4 32 (n := zs.length) (A := some ⟨W8.heap.size, 0, none⟩) (m := 1) (c := 1) (news := locC ⟨i_, u, n, sm⟩) Try.underlying33 info_loc ?_ ?_ ?_ ?_ ownLa HAA.out ?_ ?_ ?_ ?_ ?_ ?_ ?_); (focus rfl); (focus decide); (focus rfl); (focus rfl); (focus (intro h; cases h)); (focus rfl); (focus exact locC_one1 _); (focus unfold maxLen; omega); (focus omega); (focus rw [World.size_alloc]; omega); intro vL9 w9 hown9 hg9)
                obtain ⟨Sa, ownTa, hcfa, hb1a⟩ := HSA.out
                have hFg9 := Fr.of_grown hg9
                have S9 := Sa.row hdB hwB ownLa (by decide) (by decide) hg9
                have ownT9 := ownsRow_fr ownTa hFg9 (fun k hk => rows_apart ownTa ownLa (by decide) k hk)
                have hcf9 := hFg9.heap hcfa (own_ne ownLa hcfa (by decide))
                have hb19 := hFg9.heap hb1a (own_ne ownLa hb1a (by decide))
                have hA9 := HACT.out.arg.cells.fr0 S9.fr
                have d9 := (HC11.out w9 hb19).2
                have kcv := conv_bytes (P := Try.prog) (src := 35) (dst := 9) (w := w9) Try.underlying35 Try.underlying5 Try.underlying9 (c := c) HNL.out hA9 HACT.out.arg.nil
                have hal9 := (Fr.refl none_ w9).alloc (.cells #[.string ⟨l.toArray⟩] 9)
                have ownTb := ownsRow_fr0 ownT9 hal9
                have ownLb := ownsRow_fr0 hown9 hal9
                have hAb : CellsAt (w9.alloc (.cells #[.string ⟨l.toArray⟩] 9)) (some ⟨w9.heap.size, 0, none⟩) [strV l] := CellsAt.whole (l := [strV l]) (heap_alloc_new _ _)
                have Sb := S9.step0 hal9
                have hcfb := hal9.heap0 hcf9
                have hgr9 : w2.heap.size ≤ w9.heap.size := by have := hFg9.size; rw [World.size_alloc] at this; omega
                have HSB := Lib.hid (And.intro Sb (And.intro ownLb hcfb))
                have HAB := Lib.hid hAb
                clear Sa ownTa hcfa hb1a hFg9 S9 ownT9 hcf9 hb19 hA9 ownLb hAb Sb hcfb hown9 hg9 l0 l1 l2 l3 d3 ownLa
                go_wp2_with ((with_reducible refine at_append (.tmp 115) (.tmp 119) 34 w2.heap.size 9 (.string ⟨#[]⟩) 1 16 (n := zs.length) (A := some ⟨w9.heap.size, 0, none⟩) (m := 1) (c := 1) (news := [strV l]) Try.underlying34 info_str ?_ ?_ ?_ ?_ ownTb HAB.out ?_ ?_ ?_ ?_ ?_ ?_ ?_); (focus rfl); (focus decide); (focus rfl); (focus rfl); (focus (intro h; cases h)); (focus rfl); (focus exact strV_one [l]); (focus unfold maxLen; omega); (focus omega); (focus rw [World.size_alloc]; omega); intro vT10 w10 hown10 hg10)
                go_meet
                obtain ⟨Sb, ownLb, hcfb⟩ := HSB.out
                have hFg10 := Fr.of_grown hg10
                have S10 := Sb.row hdB hwB ownTb (by decide) (by decide) hg10
                have ownL10 := ownsRow_fr ownLb hFg10 (fun k hk => rows_apart ownLb ownTb (by decide) k hk)
                have hcf10 := hFg10.heap hcfb (own_ne ownTb hcfb (by decide))
                refine ⟨h, bx, H2, D2, zs ++ [(⟨i_, u, n, sm⟩, l)], rfl, by rw [List.length_append]; simp; omega, ⟨⟨S10, HINV.out, ?_, ?_, ?_, hsec2⟩, hcf10⟩⟩
                · rw [List.length_append, locsC_app]; exact ownL10
                · rw [List.length_append, textsC_app]; exact hown10
                · have := hFg10.size; rw [World.size_alloc] at this; omega
            · have hput : ∃ en : Int, en ≠ 0 ∧ Calls Try.prog 13 #[ptr h, .slice A n c] w5 fun e w' => PutS w w5 h bx p m1 m2 H D (locV 0 0 0 0) en e w' := by
                by_cases hb : n = 0 ∨ 128 < n
                · exact ⟨2, by decide, X5.r.st.put_long A n c (by omega)⟩
                · cases hp : H.prep n with
                  | none => exact ⟨10, by decide, X5.r.st.put_full A n c (by omega) (by omega) hp⟩
                  | some x => exact absurd ⟨by omega, by omega, x, hp⟩ hgood
              obtain ⟨en, hen, hput⟩ := hput
              have HP := Lib.hid hput
              clear hput hgood
              go_wp2_with fail
              (with_reducible refine HP.out.mono ?_)
              rintro e w6 ⟨rfl, S6, hF6⟩
              rw [errV_n hen]
              obtain ⟨ownL6, ownT6, gr6⟩ := X5.r.putS hdB S6 hF6
              have hcf6 := hF6.heap X5.conf (fun e => by rcases e with e | e; exact X5.cb_bx e; exact hcd e)
              have X6 : ThX w w2.heap.size w1.heap.size w6 h bx p m1 m2 H D zs _ _ := ⟨⟨S6, hI, ownL6, ownT6, gr6, X5.r.sec⟩, hcf6⟩
              go_wp2_with fail
              go_meet
              exact ⟨h, bx, H, D, zs, rfl, by omega, X6.step0 ((Fr.refl _ _).alloc _)⟩
      case rest =>
        as_aux_lemma =>
          obtain ⟨h', bx', H', D', zs', rfl, hzl', hX'⟩ := hcut
          clear hX e0 e1 e2 e3 e4 e5 e6 hfr
          obtain ⟨A1, c1, rfl, hA1, hc1, hnil1, hbl1⟩ := ownsRow_read hX'.r.ownL
          obtain ⟨A2, c2, rfl, hA2, hc2, hnil2, hbl2⟩ := ownsRow_read hX'.r.ownT
          have hql : zs'.length ≤ 41 := by omega
          have hS : HS w wc h' bx' p m1 m2 H' D' := hX'.r.st
          have hI := hX'.r.inv
          have HX := Lib.hid hX'
          obtain ⟨q, hq⟩ : ∃ q, q = zs'.length := ⟨_, rfl⟩
          rw [← hq] at hql ⊢
          have HQ := Lib.hid hq
          clear hX' hc1 hnil1 hbl1 hc2 hnil2 hbl2 hq
          go_wp2_with fail
          go_loopw [27] (fun i wq => ∃ j : Nat, j ≤ q ∧ i = .int .i64 (j : Int) ∧ Fr none_ wc wq) (fun i _ => q - (intOf i).toNat)
          case atStart => exact ⟨0, by omega, rfl, Fr.refl _ _⟩
          case round =>
            obtain ⟨j, hj, rfl, hFq⟩ := hrel
            by_cases hjl : j < q
            · have hjz : j < zs'.length := by have := HQ.out; omega
              have hz1 : (zs'.map (·.1)).length = zs'.length := List.length_map _
              have hz2 : (zs'.map (·.2)).length = zs'.length := List.length_map _
              have hO := hI.locs zs'[j] (List.getElem_mem _)
              obtain ⟨ga, oa, rfl⟩ := hA1.addr (by unfold locsC; rw [flatMap_len locC 4 (fun _ => rfl)]; omega)
              obtain ⟨gt, ot, rfl⟩ := hA2.addr (by unfold textsC; rw [List.length_map]; omega)
              obtain ⟨y0, y1, y2, y3⟩ := loc_cells (ls := zs'.map (·.1)) (hA1.fr0 hFq) j (by omega)
              have ht0 := (hA2.fr0 hFq).get j (by unfold textsC; rw [List.length_map]; omega)
              have htv : (textsC zs')[j]'(by unfold textsC; rw [List.length_map]; omega) = strV zs'[j].2 := by simp [textsC]
              rw [htv] at ht0
              rw [List.getElem_map] at y0 y1 y2 y3
              obtain ⟨z, hzz⟩ : ∃ z, z = zs'[j] := ⟨_, rfl⟩
              rw [← hzz] at hO ht0 y0 y1 y2 y3
              obtain ⟨y, t⟩ := z
              simp only at hO ht0 y0 y1 y2 y3
              have hu := (hI.snd.good y.box).used
              have hgt := hget_ok (hS.step0 hFq).hd y.box y.fr y.n y.sum hO.lt (by rw [← bx_eq hO.lt]; exact hO.st) hO.pos (by rw [← bx_eq hO.lt]; exact hO.fit) (by rw [← bx_eq hO.lt]; exact hu) (by rw [hO.got, hO.sum])
              rw [hO.got] at hgt
              have HGT := Lib.hid hgt
              have j1 : (j : Int) < (q : Int) := by omega
              have j2 : (0 : Int) ≤ (j : Int) := by omega
              clear hgt hO hzz htv hz1 hz2 hu
              go_wp2_with fail
              (with_reducible refine HGT.out.mono ?_)
              rintro e w5 ⟨⟨g, o, c5, rfl, hA5, hg5, hc5⟩, hF5⟩
              rw [errV_0]
              have ht5 : w5.drew.cell? ⟨gt, ot + j, none⟩ = some (.string ⟨t.toArray⟩) := hF5.cell0 ht0
              have kcv := conv_bytes (P := Try.prog) (src := 35) (dst := 9) (w := w5.drew) Try.underlying35 Try.underlying5 Try.underlying9 (c := c5) rfl hA5.drew (fun h => by cases h)
              go_wp2_with fail
              go_still (by kernel_rfl)
              go_wp2_with fail
              go_roundw
              case rel => exact ⟨j + 1, by omega, by go_num, (hFq.trans hF5).drew⟩
              case measure => simp [intOf]; omega
            · have hjq : ¬ (j : Int) < (q : Int) := by omega
              have hXq := HX.out.step0 hFq
              go_wp2_with fail
              go_roundw
              case rel => exact ⟨k + 1, by omega, by omega, by go_num, h', bx', H', D', zs', rfl, hzl', by rw [HQ.out]; exact hXq⟩
              case measure => simp [intOf]; omega
    · have hcond : ¬ (k : Int) < (m : Int) ∨ ((k : Int) < (m : Int) ∧ ¬ (k : Int) < 40) := by omega
      have hfr := hX.r.st.fr
      have hE := atE_up hX.r.st.hd.up (s := 0) (by decide) (by rw [hX.r.sec]; decide)
      have hrd := read_ok hX.r.st.hd.dev 0 hE
      rw [hX.r.inv.zero] at hrd
      have HRD := Lib.hid hrd
      have kmk := mkZ
      clear hex hkm hk40 hX hrd hE
      rcases hcond with q1 | ⟨q1, q2⟩
      · as_aux_lemma =>
          go_wp2_with fail
          (with_reducible refine HRD.out.mono ?_)
          rintro e w5 ⟨g, rfl, hg5, hF5, hb5⟩
          rw [errV_0]
          have hX1 : Fr none_ w5 (w5.alloc (.cells (zeroB.map byteV).toArray 5)).drew := ((Fr.refl _ _).alloc _).drew
          have hcv : ∀ W, Fr none_ w5 W → (convert 35 9 (.slice (some ⟨g, 0, none⟩) 64 64)).run Try.prog W = .ok (.string ⟨zeroB.toArray⟩) W := fun W hW =>
            conv_bytes Try.underlying35 Try.underlying5 Try.underlying9 (c := 64) rfl (CellsAt.whole (hW.heap0 hb5)) (fun h => by cases h)
          have hs0 := hcv _ (Fr.refl none_ w5).drew
          have kcv2 : (convert 35 9 (.slice (some ⟨w5.heap.size, 0, none⟩) 64 64)).run Try.prog (w5.alloc (.cells (zeroB.map byteV).toArray 5)).drew = .ok (.string ⟨zeroB.toArray⟩) (w5.alloc (.cells (zeroB.map byteV).toArray 5)).drew :=
            conv_bytes Try.underlying35 Try.underlying5 Try.underlying9 (c := 64) rfl (CellsAt.whole (heap_alloc_new _ _)) (fun h => by cases h)
          have HCV := Lib.hid hcv
          clear hcv
          go_wp2_with fail
          refine wp_region_held_drew (S := fun W => (convert 35 9 (.slice (some ⟨g, 0, none⟩) 64 64)).run Try.prog W = .ok (.string ⟨zeroB.toArray⟩) W) (by kernel_rfl) hs0 (fun hHeld0 => ?_)
          refine wpAnyH_take (i := 0) (oi := _) (v := ?va1) rfl (by kernel_rfl) (by kernel_rfl) (by kernel_rfl) (fun _ _ _ h => h) (Or.inl ⟨by rfl, ?hya1⟩) (by assumption) ?resta1
          case hya1 => (intro w hSw; (try dsimp only at hSw); go_simp; try with_reducible rfl)
          try simp only [List.getElem_toArray, List.getElem_cons_zero, List.getElem_cons_succ, Act.put, List.setIfInBounds_toArray, List.set_cons_zero, List.set_cons_succ]
          refine wpAnyH_take (i := 1) (oi := _) (v := ?va2) rfl (by kernel_rfl) (by kernel_rfl) (by kernel_rfl) (fun _ _ _ h => h) (Or.inl ⟨by rfl, ?hya2⟩) (by assumption) ?resta2
          case hya2 => (intro w hSw; (try dsimp only at hSw); go_simp; try with_reducible rfl)
          try simp only [List.getElem_toArray, List.getElem_cons_zero, List.getElem_cons_succ, Act.put, List.setIfInBounds_toArray, List.set_cons_zero, List.set_cons_succ]
          refine wpAnyH_take (i := 2) (oi := _) (v := ?va3) rfl (by kernel_rfl) (by kernel_rfl) (by kernel_rfl) (fun _ _ _ h => h) (Or.inl ⟨by rfl, ?hya3⟩) (by assumption) ?resta3
          case hya3 => (intro w hSw; (try dsimp only at hSw); go_simp; try with_reducible rfl)
          try simp only [List.getElem_toArray, List.getElem_cons_zero, List.getElem_cons_succ, Act.put, List.setIfInBounds_toArray, List.set_cons_zero, List.set_cons_succ]
          refine wpAnyH_take (i := 3) (oi := _) (v := ?va4) rfl (by kernel_rfl) (by kernel_rfl) (by kernel_rfl) (fun _ _ _ h => h) (Or.inl ⟨by rfl, ?hya4⟩) (by assumption) ?resta4
          case hya4 => (intro w hSw; (try dsimp only at hSw); go_simp; try with_reducible rfl)
          try simp only [List.getElem_toArray, List.getElem_cons_zero, List.getElem_cons_succ, Act.put, List.setIfInBounds_toArray, List.set_cons_zero, List.set_cons_succ]
          refine wpAnyH_take (i := 4) (oi := _) (v := ?va5) rfl (by kernel_rfl) (by kernel_rfl) (by kernel_rfl) (fun _ _ _ h => h) (Or.inl ⟨by rfl, ?hya5⟩) (by assumption) ?resta5
          case hya5 => (intro w hSw; (try dsimp only at hSw); go_simp; try with_reducible rfl)
          try simp only [List.getElem_toArray, List.getElem_cons_zero, List.getElem_cons_succ, Act.put, List.setIfInBounds_toArray, List.set_cons_zero, List.set_cons_succ]
          refine wpAnyH_ready (rs := [5]) (by kernel_rfl) (by simp) ?_
          refine AllReadyH.cons (o := _) rfl (fun KK hKK => ?_) AllReadyH.nil
          go_simp
          refine hKK.out _ _ ?hSa6 (fun hHelda6 => ?resta6)
          case hSa6 => exact HCV.out _ hX1
          clear hKK KK
          try simp only [List.getElem_toArray, List.getElem_cons_zero, List.getElem_cons_succ, Act.put, List.setIfInBounds_toArray, List.set_cons_zero, List.set_cons_succ]
          refine wpAnyH_ready (rs := [6]) (by kernel_rfl) (by simp) ?_
          refine AllReadyH.cons (o := _) rfl (fun KK hKK => ?_) AllReadyH.nil
          go_simp
          refine hKK.out _ _ ?hSa7 (fun hHelda7 => ?resta7)
          case hSa7 => exact HCV.out _ hX1
          clear hKK KK
          try simp only [List.getElem_toArray, List.getElem_cons_zero, List.getElem_cons_succ, Act.put, List.setIfInBounds_toArray, List.set_cons_zero, List.set_cons_succ]
          refine wpAnyH_take (i := 7) (oi := _) (v := ?va8) rfl (by kernel_rfl) (by kernel_rfl) (by kernel_rfl) (fun _ _ _ h => h) (Or.inl ⟨by rfl, ?hya8⟩) (by assumption) ?resta8
          case hya8 => (intro w hSw; (try dsimp only at hSw); go_simp; try with_reducible rfl)
          try simp only [List.getElem_toArray, List.getElem_cons_zero, List.getElem_cons_succ, Act.put, List.setIfInBounds_toArray, List.set_cons_zero, List.set_cons_succ]
          refine wpAnyH_take (i := 8) (oi := _) (v := ?va9) rfl (by kernel_rfl) (by kernel_rfl) (by kernel_rfl) (fun _ _ _ h => h) (Or.inl ⟨by rfl, ?hya9⟩) (by assumption) ?resta9
          case hya9 => (intro w hSw; (try dsimp only at hSw); go_simp; try with_reducible rfl)
          try simp only [List.getElem_toArray, List.getElem_cons_zero, List.getElem_cons_succ, Act.put, List.setIfInBounds_toArray, List.set_cons_zero, List.set_cons_succ]
          refine wpAnyH_take (i := 9) (oi := _) (v := ?va10) rfl (by kernel_rfl) (by kernel_rfl) (by kernel_rfl) (fun _ _ _ h => h) (Or.inl ⟨by rfl, ?hya10⟩) (by assumption) ?resta10
          case hya10 => (intro w hSw; (try dsimp only at hSw); go_simp; try with_reducible rfl)
          try simp only [List.getElem_toArray, List.getElem_cons_zero, List.getElem_cons_succ, Act.put, List.setIfInBounds_toArray, List.set_cons_zero, List.set_cons_succ]
          refine wpAnyH_ready (rs := [10]) (by kernel_rfl) (by simp) ?_
          refine AllReadyH.cons (o := _) rfl (fun KK hKK => ?_) AllReadyH.nil
          go_simp
          (go_at_call 17; (with_reducible refine (hsure_any _).mono ?_); rintro e w6 ⟨rfl, hF6⟩)
          go_wp2_with fail
          refine hKK.out _ _ ?hSa11 (fun hHelda11 => ?resta11)
          case hSa11 => exact HCV.out _ (hX1.trans hF6)
          clear hKK KK
          try simp only [List.getElem_toArray, List.getElem_cons_zero, List.getElem_cons_succ, Act.put, List.setIfInBounds_toArray, List.set_cons_zero, List.set_cons_succ]
          refine wpAnyH_take (i := 11) (oi := _) (v := ?va12) rfl (by kernel_rfl) (by kernel_rfl) (by kernel_rfl) (fun _ _ _ h => h) (Or.inl ⟨by rfl, ?hya12⟩) (by assumption) ?resta12
          case hya12 => (intro w hSw; (try dsimp only at hSw); go_simp; try with_reducible rfl)
          try simp only [List.getElem_toArray, List.getElem_cons_zero, List.getElem_cons_succ, Act.put, List.setIfInBounds_toArray, List.set_cons_zero, List.set_cons_succ]
          refine wpAnyH_take (i := 12) (oi := _) (v := ?va13) rfl (by kernel_rfl) (by kernel_rfl) (by kernel_rfl) (fun _ _ _ h => h) (Or.inl ⟨by rfl, ?hya13⟩) (by assumption) ?resta13
          case hya13 => (intro w hSw; (try dsimp only at hSw); go_simp; try with_reducible rfl)
          try simp only [List.getElem_toArray, List.getElem_cons_zero, List.getElem_cons_succ, Act.put, List.setIfInBounds_toArray, List.set_cons_zero, List.set_cons_succ]
          refine wpAnyH_done (by kernel_rfl) ?_ _
          go_wp2_with fail
          go_ret
          exact ⟨rfl, ((hfr.trans hF5).trans hX1).trans hF6⟩
      · as_aux_lemma =>
          go_wp2_with fail
          (with_reducible refine HRD.out.mono ?_)
          rintro e w5 ⟨g, rfl, hg5, hF5, hb5⟩
          rw [errV_0]
          have hX1 : Fr none_ w5 (w5.alloc (.cells (zeroB.map byteV).toArray 5)).drew := ((Fr.refl _ _).alloc _).drew
          have hcv : ∀ W, Fr none_ w5 W → (convert 35 9 (.slice (some ⟨g, 0, none⟩) 64 64)).run Try.prog W = .ok (.string ⟨zeroB.toArray⟩) W := fun W hW =>
            conv_bytes Try.underlying35 Try.underlying5 Try.underlying9 (c := 64) rfl (CellsAt.whole (hW.heap0 hb5)) (fun h => by cases h)
          have hs0 := hcv _ (Fr.refl none_ w5).drew
          have kcv2 : (convert 35 9 (.slice (some ⟨w5.heap.size, 0, none⟩) 64 64)).run Try.prog (w5.alloc (.cells (zeroB.map byteV).toArray 5)).drew = .ok (.string ⟨zeroB.toArray⟩) (w5.alloc (.cells (zeroB.map byteV).toArray 5)).drew :=
            conv_bytes Try.underlying35 Try.underlying5 Try.underlying9 (c := 64) rfl (CellsAt.whole (heap_alloc_new _ _)) (fun h => by cases h)
          have HCV := Lib.hid hcv
          clear hcv
          go_wp2_with fail
          refine wp_region_held_drew (S := fun W => (convert 35 9 (.slice (some ⟨g, 0, none⟩) 64 64)).run Try.prog W = .ok (.string ⟨zeroB.toArray⟩) W) (by kernel_rfl) hs0 (fun hHeld0 => ?_)
          refine wpAnyH_take (i := 0) (oi := _) (v := ?vb1) rfl (by kernel_rfl) (by kernel_rfl) (by kernel_rfl) (fun _ _ _ h => h) (Or.inl ⟨by rfl, ?hyb1⟩) (by assumption) ?restb1
          case hyb1 => (intro w hSw; (try dsimp only at hSw); go_simp; try with_reducible rfl)
          try simp only [List.getElem_toArray, List.getElem_cons_zero, List.getElem_cons_succ, Act.put, List.setIfInBounds_toArray, List.set_cons_zero, List.set_cons_succ]
          refine wpAnyH_take (i := 1) (oi := _) (v := ?vb2) rfl (by kernel_rfl) (by kernel_rfl) (by kernel_rfl) (fun _ _ _ h => h) (Or.inl ⟨by rfl, ?hyb2⟩) (by assumption) ?restb2
          case hyb2 => (intro w hSw; (try dsimp only at hSw); go_simp; try with_reducible rfl)
          try simp only [List.getElem_toArray, List.getElem_cons_zero, List.getElem_cons_succ, Act.put, List.setIfInBounds_toArray, List.set_cons_zero, List.set_cons_succ]
          refine wpAnyH_take (i := 2) (oi := _) (v := ?vb3) rfl (by kernel_rfl) (by kernel_rfl) (by kernel_rfl) (fun _ _ _ h => h) (Or.inl ⟨by rfl, ?hyb3⟩) (by assumption) ?restb3
          case hyb3 => (intro w hSw; (try dsimp only at hSw); go_simp; try with_reducible rfl)
          try simp only [List.getElem_toArray, List.getElem_cons_zero, List.getElem_cons_succ, Act.put, List.setIfInBounds_toArray, List.set_cons_zero, List.set_cons_succ]
          refine wpAnyH_take (i := 3) (oi := _) (v := ?vb4) rfl (by kernel_rfl) (by kernel_rfl) (by kernel_rfl) (fun _ _ _ h => h) (Or.inl ⟨by rfl, ?hyb4⟩) (by assumption) ?restb4
          case hyb4 => (intro w hSw; (try dsimp only at hSw); go_simp; try with_reducible rfl)
          try simp only [List.getElem_toArray, List.getElem_cons_zero, List.getElem_cons_succ, Act.put, List.setIfInBounds_toArray, List.set_cons_zero, List.set_cons_succ]
          refine wpAnyH_take (i := 4) (oi := _) (v := ?vb5) rfl (by kernel_rfl) (by kernel_rfl) (by kernel_rfl) (fun _ _ _ h => h) (Or.inl ⟨by rfl, ?hyb5⟩) (by assumption) ?restb5
          case hyb5 => (intro w hSw; (try dsimp only at hSw); go_simp; try with_reducible rfl)
          try simp only [List.getElem_toArray, List.getElem_cons_zero, List.getElem_cons_succ, Act.put, List.setIfInBounds_toArray, List.set_cons_zero, List.set_cons_succ]
          refine wpAnyH_ready (rs := [5]) (by kernel_rfl) (by simp) ?_
          refine AllReadyH.cons (o := _) rfl (fun KK hKK => ?_) AllReadyH.nil
          go_simp
          refine hKK.out _ _ ?hSb6 (fun hHeldb6 => ?restb6)
          case hSb6 => exact HCV.out _ hX1
          clear hKK KK
          try simp only [List.getElem_toArray, List.getElem_cons_zero, List.getElem_cons_succ, Act.put, List.setIfInBounds_toArray, List.set_cons_zero, List.set_cons_succ]
          refine wpAnyH_ready (rs := [6]) (by kernel_rfl) (by simp) ?_
          refine AllReadyH.cons (o := _) rfl (fun KK hKK => ?_) AllReadyH.nil
          go_simp
          refine hKK.out _ _ ?hSb7 (fun hHeldb7 => ?restb7)
          case hSb7 => exact HCV.out _ hX1
          clear hKK KK
          try simp only [List.getElem_toArray, List.getElem_cons_zero, List.getElem_cons_succ, Act.put, List.setIfInBounds_toArray, List.set_cons_zero, List.set_cons_succ]
          refine wpAnyH_take (i := 7) (oi := _) (v := ?vb8) rfl (by kernel_rfl) (by kernel_rfl) (by kernel_rfl) (fun _ _ _ h => h) (Or.inl ⟨by rfl, ?hyb8⟩) (by assumption) ?restb8
          case hyb8 => (intro w hSw; (try dsimp only at hSw); go_simp; try with_reducible rfl)
          try simp only [List.getElem_toArray, List.getElem_cons_zero, List.getElem_cons_succ, Act.put, List.setIfInBounds_toArray, List.set_cons_zero, List.set_cons_succ]
          refine wpAnyH_take (i := 8) (oi := _) (v := ?vb9) rfl (by kernel_rfl) (by kernel_rfl) (by kernel_rfl) (fun _ _ _ h => h) (Or.inl ⟨by rfl, ?hyb9⟩) (by assumption) ?restb9
          case hyb9 => (intro w hSw; (try dsimp only at hSw); go_simp; try with_reducible rfl)
          try simp only [List.getElem_toArray, List.getElem_cons_zero, List.getElem_cons_succ, Act.put, List.setIfInBounds_toArray, List.set_cons_zero, List.set_cons_succ]
          refine wpAnyH_take (i := 9) (oi := _) (v := ?vb10) rfl (by kernel_rfl) (by kernel_rfl) (by kernel_rfl) (fun _ _ _ h => h) (Or.inl ⟨by rfl, ?hyb10⟩) (by assumption) ?restb10
          case hyb10 => (intro w hSw; (try dsimp only at hSw); go_simp; try with_reducible rfl)
          try simp only [List.getElem_toArray, List.getElem_cons_zero, List.getElem_cons_succ, Act.put, List.setIfInBounds_toArray, List.set_cons_zero, List.set_cons_succ]
          refine wpAnyH_ready (rs := [10]) (by kernel_rfl) (by simp) ?_
          refine AllReadyH.cons (o := _) rfl (fun KK hKK => ?_) AllReadyH.nil
          go_simp
          (go_at_call 17; (with_reducible refine (hsure_any _).mono ?_); rintro e w6 ⟨rfl, hF6⟩)
          go_wp2_with fail
          refine hKK.out _ _ ?hSb11 (fun hHeldb11 => ?restb11)
          case hSb11 => exact HCV.out _ (hX1.trans hF6)
          clear hKK KK
          try simp only [List.getElem_toArray, List.getElem_cons_zero, List.getElem_cons_succ, Act.put, List.setIfInBounds_toArray, List.set_cons_zero, List.set_cons_succ]
          refine wpAnyH_take (i := 11) (oi := _) (v := ?vb12) rfl (by kernel_rfl) (by kernel_rfl) (by kernel_rfl) (fun _ _ _ h => h) (Or.inl ⟨by rfl, ?hyb12⟩) (by assumption) ?restb12
          case hyb12 => (intro w hSw; (try dsimp only at hSw); go_simp; try with_reducible rfl)
          try simp only [List.getElem_toArray, List.getElem_cons_zero, List.getElem_cons_succ, Act.put, List.setIfInBounds_toArray, List.set_cons_zero, List.set_cons_succ]
          refine wpAnyH_take (i := 12) (oi := _) (v := ?vb13) rfl (by kernel_rfl) (by kernel_rfl) (by kernel_rfl) (fun _ _ _ h => h) (Or.inl ⟨by rfl, ?hyb13⟩) (by assumption) ?restb13
          case hyb13 => (intro w hSw; (try dsimp only at hSw); go_simp; try with_reducible rfl)
          try simp only [List.getElem_toArray, List.getElem_cons_zero, List.getElem_cons_succ, Act.put, List.setIfInBounds_toArray, List.set_cons_zero, List.set_cons_succ]
          refine wpAnyH_done (by kernel_rfl) ?_ _
          go_wp2_with fail
          go_ret
          exact ⟨rfl, ((hfr.trans hF5).trans hX1).trans hF6⟩
end Go.Proofs.Ytdlhndbgmldeaaa

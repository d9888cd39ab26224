import Derived.Test.YtdkjmnhblepkaaaOnce
import Derived.Deep.RegionHeld3
import Derived.Deep.DeepCutAuto
import Derived.Deep.CutBlock
namespace Go.Proofs.Ytdkjmnhblepkaaa
open Go.RowKit
set_option linter.unusedVariables false
set_option linter.unusedSimpArgs false
set_option maxRecDepth 100000

/-! A field of 256 numbers: its tables are made once; products, and what makes one of a number. -/
theorem xor_step : ∀ x : Nat, x < 256 → bits .xor .i64 ((x : Int) * 2) 285 = (((2 * x) ^^^ 285 : Nat) : Int) := by decide +kernel
set_option maxHeartbeats 8000000 in
theorem tables_any {w : World} {g : Nat} {d m : Int} (h : FieldC w g d m 0) :
    Calls Try.prog 56 #[ptr g] w fun e w' => e = .returned (.tuple #[]) ∧ FieldC w' g d m 255 ∧ Fr (fun i => i = g) w w' := by
  go_enter Try.func56, Try.ntmps56
  go_wp2_with fail
  go_loopw [2, 4] (fun x i wr => ∃ k : Nat, k ≤ 255 ∧ x = .int .i64 (gx k : Nat) ∧ i = .int .i64 k ∧ FieldC wr g d m k ∧ Fr (fun i => i = g) w wr) (fun _ i _ => 255 - (intOf i).toNat)
  case atStart => exact ⟨0, by omega, rfl, rfl, h, Fr.refl _ _⟩
  case round =>
    obtain ⟨k, hk, rfl, rfl, hC, hF⟩ := hrel
    by_cases hlt : k < 255
    · have z1 : (k : Int) < 255 := by omega
      have hg := gx_in k
      have hst := fieldL_round d m k hlt
      have hb : wr.drew.heap[g]? = some (.cells (fieldL d m k).toArray 104 (0, 0)) := hC
      have c1 : wr.drew.cell? ⟨g, 3 + k, none⟩ = some (.int .u8 (gexpT k k : Nat)) := hC.cE k (by omega)
      have f1 : wr.drew.frozen? ⟨g, 3 + k, none⟩ = false := frozen_of_blk hb _
      obtain ⟨x, hx⟩ : ∃ x, x = gx k := ⟨_, rfl⟩
      rw [← hx] at hg hst ⊢
      have hx1 : gstep x = gx (k + 1) := by rw [hx]; rfl
      have HX := Lib.hid (And.intro hx hx1)
      clear hx hx1
      have wA : IntKind.u8.wrap (x : Int) = (x : Int) := by rw [IntKind.wrap_u8]; omega
      have wB : IntKind.i64.wrap ((k : Int) + 255) = (k : Int) + 255 := by rw [IntWalk.i64_in _ (by omega)]
      have i1 : (0 : Int) ≤ (k : Int) ∧ (k : Int) < 510 := by omega
      have i2 : (0 : Int) ≤ (k : Int) + 255 ∧ (k : Int) + 255 < 510 := by omega
      have i4 : ((k : Int) + 255).toNat = k + 255 := by omega
      have c3 : wr.cell? ⟨g, 3 + (k + 255), none⟩ = some (.int .u8 (gexpT k (k + 255) : Nat)) := hC.cE (k + 255) (by omega)
      have c2 : (wr.drew.setCell ⟨g, 3 + k, none⟩ (.int .u8 (x : Int))).cell? ⟨g, 3 + (k + 255), none⟩ = some (.int .u8 (gexpT k (k + 255) : Nat)) := (World.cell?_setCell_other _ ⟨g, 3 + k, none⟩ ⟨g, 3 + (k + 255), none⟩ _ (by simp)).trans (hC.cE (k + 255) (by omega))
      have f3 : wr.frozen? ⟨g, 3 + (k + 255), none⟩ = false := frozen_of_blk hC _
      have c4 : wr.cell? ⟨g, 513 + x, none⟩ = some (.int .i64 (glog k x : Nat)) := hC.cL x (by omega)
      have f4 : wr.frozen? ⟨g, 513 + x, none⟩ = false := frozen_of_blk hC _
      have f2 : wr.drew.frozen? ⟨g, 3 + (k + 255), none⟩ = false := frozen_of_blk hb _
      have i3 : (0 : Int) ≤ (x : Int) ∧ (x : Int) < 256 := by omega
      go_upto_region 4 with fail
      go_wp2_with fail
      refine wp_region_held_drew (S := fun W => True) (by kernel_rfl) trivial (fun hHeld0 => ?_)
      refine wpAnyH_take (i := 0) (oi := _) (v := ?v1) rfl (by kernel_rfl) (by kernel_rfl) (by kernel_rfl) (fun _ _ _ h => h) (Or.inl ⟨by rfl, ?hy1⟩) (by assumption) ?rest1
      case hy1 => (intro w hSw; (try dsimp only at hSw); go_simp; try with_reducible rfl)
      try simp only [List.getElem_toArray, List.getElem_cons_zero, List.getElem_cons_succ, Act.put, List.setIfInBounds_toArray, List.set_cons_zero, List.set_cons_succ]
      refine wpAnyH_take (i := 1) (oi := _) (v := ?v2) rfl (by kernel_rfl) (by kernel_rfl) (by kernel_rfl) (fun _ _ _ h => h) (Or.inl ⟨by rfl, ?hy2⟩) (by assumption) ?rest2
      case hy2 => (intro w hSw; (try dsimp only at hSw); go_simp; try with_reducible rfl)
      try simp only [List.getElem_toArray, List.getElem_cons_zero, List.getElem_cons_succ, Act.put, List.setIfInBounds_toArray, List.set_cons_zero, List.set_cons_succ]
      refine wpAnyH_take (i := 2) (oi := _) (v := ?v3) rfl (by kernel_rfl) (by kernel_rfl) (by kernel_rfl) (fun _ _ _ h => h) (Or.inl ⟨by rfl, ?hy3⟩) (by assumption) ?rest3
      case hy3 => (intro w hSw; (try dsimp only at hSw); go_simp; try with_reducible rfl)
      try simp only [List.getElem_toArray, List.getElem_cons_zero, List.getElem_cons_succ, Act.put, List.setIfInBounds_toArray, List.set_cons_zero, List.set_cons_succ]
      refine wpAnyH_take (i := 3) (oi := _) (v := ?v4) rfl (by kernel_rfl) (by kernel_rfl) (by kernel_rfl) (fun _ _ _ h => h) (Or.inl ⟨by rfl, ?hy4⟩) (by assumption) ?rest4
      case hy4 => (intro w hSw; (try dsimp only at hSw); go_simp; try with_reducible rfl)
      try simp only [List.getElem_toArray, List.getElem_cons_zero, List.getElem_cons_succ, Act.put, List.setIfInBounds_toArray, List.set_cons_zero, List.set_cons_succ]
      refine wpAnyH_take (i := 4) (oi := _) (v := ?v5) rfl (by kernel_rfl) (by kernel_rfl) (by kernel_rfl) (fun _ _ _ h => h) (Or.inl ⟨by rfl, ?hy5⟩) (by assumption) ?rest5
      case hy5 => (intro w hSw; (try dsimp only at hSw); go_simp; try with_reducible rfl)
      try simp only [List.getElem_toArray, List.getElem_cons_zero, List.getElem_cons_succ, Act.put, List.setIfInBounds_toArray, List.set_cons_zero, List.set_cons_succ]
      refine wpAnyH_take (i := 5) (oi := _) (v := ?v6) rfl (by kernel_rfl) (by kernel_rfl) (by kernel_rfl) (fun _ _ _ h => h) (Or.inl ⟨by rfl, ?hy6⟩) (by assumption) ?rest6
      case hy6 => (intro w hSw; (try dsimp only at hSw); go_simp; try with_reducible rfl)
      try simp only [List.getElem_toArray, List.getElem_cons_zero, List.getElem_cons_succ, Act.put, List.setIfInBounds_toArray, List.set_cons_zero, List.set_cons_succ]
      refine wpAnyH_take (i := 6) (oi := _) (v := ?v7) rfl (by kernel_rfl) (by kernel_rfl) (by kernel_rfl) (fun _ _ _ h => h) (Or.inl ⟨by rfl, ?hy7⟩) (by assumption) ?rest7
      case hy7 => (intro w hSw; (try dsimp only at hSw); go_simp; try with_reducible rfl)
      try simp only [List.getElem_toArray, List.getElem_cons_zero, List.getElem_cons_succ, Act.put, List.setIfInBounds_toArray, List.set_cons_zero, List.set_cons_succ]
      refine wpAnyH_take (i := 7) (oi := _) (v := ?v8) rfl (by kernel_rfl) (by kernel_rfl) (by kernel_rfl) (fun _ _ _ h => h) (Or.inl ⟨by rfl, ?hy8⟩) (by assumption) ?rest8
      case hy8 => (intro w hSw; (try dsimp only at hSw); go_simp; try with_reducible rfl)
      try simp only [List.getElem_toArray, List.getElem_cons_zero, List.getElem_cons_succ, Act.put, List.setIfInBounds_toArray, List.set_cons_zero, List.set_cons_succ]
      refine wpAnyH_take (i := 8) (oi := _) (v := ?v9) rfl (by kernel_rfl) (by kernel_rfl) (by kernel_rfl) (fun _ _ _ h => h) (Or.inl ⟨by rfl, ?hy9⟩) (by assumption) ?rest9
      case hy9 => (intro w hSw; (try dsimp only at hSw); go_simp; try with_reducible rfl)
      try simp only [List.getElem_toArray, List.getElem_cons_zero, List.getElem_cons_succ, Act.put, List.setIfInBounds_toArray, List.set_cons_zero, List.set_cons_succ]
      refine wpAnyH_take (i := 9) (oi := _) (v := ?v10) rfl (by kernel_rfl) (by kernel_rfl) (by kernel_rfl) (fun _ _ _ h => h) (Or.inl ⟨by rfl, ?hy10⟩) (by assumption) ?rest10
      case hy10 => (intro w hSw; (try dsimp only at hSw); go_simp; try with_reducible rfl)
      try simp only [List.getElem_toArray, List.getElem_cons_zero, List.getElem_cons_succ, Act.put, List.setIfInBounds_toArray, List.set_cons_zero, List.set_cons_succ]
      refine wpAnyH_take (i := 10) (oi := _) (v := ?v11) rfl (by kernel_rfl) (by kernel_rfl) (by kernel_rfl) (fun _ _ _ h => h) (Or.inl ⟨by rfl, ?hy11⟩) (by assumption) ?rest11
      case hy11 => (intro w hSw; (try dsimp only at hSw); go_simp; try with_reducible rfl)
      try simp only [List.getElem_toArray, List.getElem_cons_zero, List.getElem_cons_succ, Act.put, List.setIfInBounds_toArray, List.set_cons_zero, List.set_cons_succ]
      refine wpAnyH_take (i := 11) (oi := _) (v := ?v12) rfl (by kernel_rfl) (by kernel_rfl) (by kernel_rfl) (fun _ _ _ h => h) (Or.inl ⟨by rfl, ?hy12⟩) (by assumption) ?rest12
      case hy12 => (intro w hSw; (try dsimp only at hSw); go_simp; try with_reducible rfl)
      try simp only [List.getElem_toArray, List.getElem_cons_zero, List.getElem_cons_succ, Act.put, List.setIfInBounds_toArray, List.set_cons_zero, List.set_cons_succ]
      refine wpAnyH_take (i := 13) (oi := _) (v := ?v13) rfl (by kernel_rfl) (by kernel_rfl) (by kernel_rfl) (fun _ _ _ h => h) (Or.inl ⟨by rfl, ?hy13⟩) (by assumption) ?rest13
      case hy13 => (intro w hSw; (try dsimp only at hSw); go_simp; try with_reducible rfl)
      try simp only [List.getElem_toArray, List.getElem_cons_zero, List.getElem_cons_succ, Act.put, List.setIfInBounds_toArray, List.set_cons_zero, List.set_cons_succ]
      refine wpAnyH_take (i := 14) (oi := _) (v := ?v14) rfl (by kernel_rfl) (by kernel_rfl) (by kernel_rfl) (fun _ _ _ h => h) (Or.inl ⟨by rfl, ?hy14⟩) (by assumption) ?rest14
      case hy14 => (intro w hSw; (try dsimp only at hSw); go_simp; try with_reducible rfl)
      try simp only [List.getElem_toArray, List.getElem_cons_zero, List.getElem_cons_succ, Act.put, List.setIfInBounds_toArray, List.set_cons_zero, List.set_cons_succ]
      refine wpAnyH_ready (rs := [12]) (by kernel_rfl) (by simp) ?_
      refine AllReadyH.cons (o := _) rfl (fun KK hKK => ?_) AllReadyH.nil
      go_simp
      refine hKK.out _ _ ?hS15 (fun hHeld15 => ?rest15)
      case hS15 => exact trivial
      clear hKK KK
      try simp only [List.getElem_toArray, List.getElem_cons_zero, List.getElem_cons_succ, Act.put, List.setIfInBounds_toArray, List.set_cons_zero, List.set_cons_succ]
      refine wpAnyH_take (i := 15) (oi := _) (v := ?v16) rfl (by kernel_rfl) (by kernel_rfl) (by kernel_rfl) (fun _ _ _ h => h) (Or.inl ⟨by rfl, ?hy16⟩) (by assumption) ?rest16
      case hy16 => (intro w hSw; (try dsimp only at hSw); go_simp; try with_reducible rfl)
      try simp only [List.getElem_toArray, List.getElem_cons_zero, List.getElem_cons_succ, Act.put, List.setIfInBounds_toArray, List.set_cons_zero, List.set_cons_succ]
      refine wpAnyH_ready (rs := [16]) (by kernel_rfl) (by simp) ?_
      refine AllReadyH.cons (o := _) rfl (fun KK hKK => ?_) AllReadyH.nil
      go_simp
      refine hKK.out _ _ ?hS17 (fun hHeld17 => ?rest17)
      case hS17 => exact trivial
      clear hKK KK
      try simp only [List.getElem_toArray, List.getElem_cons_zero, List.getElem_cons_succ, Act.put, List.setIfInBounds_toArray, List.set_cons_zero, List.set_cons_succ]
      refine wpAnyH_done (by kernel_rfl) ?_ _
      have HST := Lib.hid hst
      clear hst
      have hC2 : ∀ (o1 o2 o3 : Nat) (v1 v2 v3 : Value), ((((fieldL d m k).set o1 v1).set o2 v2).set o3 v3) = fieldL d m (k + 1) → FieldC ((((wr.setCell ⟨g, o1, none⟩ v1).setCell ⟨g, o2, none⟩ v2).setCell ⟨g, o3, none⟩ v3).drew) g d m (k + 1) := fun o1 o2 o3 v1 v2 v3 he => by
        show (((wr.setCell ⟨g, o1, none⟩ v1).setCell ⟨g, o2, none⟩ v2).setCell ⟨g, o3, none⟩ v3).heap[g]? = _
        rw [heap_setCell_same (heap_setCell_same (heap_setCell_same hC _) _) _, ← he]
        simp
      have hF2 : ∀ (o1 o2 o3 : Nat) (v1 v2 v3 : Value), Fr (fun i => i = g) w ((((wr.setCell ⟨g, o1, none⟩ v1).setCell ⟨g, o2, none⟩ v2).setCell ⟨g, o3, none⟩ v3).drew) := fun o1 o2 o3 v1 v2 v3 => ((((hF.setCell (p := ⟨g, o1, none⟩) (fun _ => rfl) _).setCell (p := ⟨g, o2, none⟩) (fun _ => rfl) _).setCell (p := ⟨g, o3, none⟩) (fun _ => rfl) _).drew)
      have HC2 := Lib.hid (And.intro hC2 hF2)
      clear hC2 hF2 hb c1 f1 c2 f2 i4 c3 f3
      by_cases h2 : 255 < x * 2
      · have z2 : (255 : Int) < (x : Int) * 2 := by omega
        have hxo := xor_step x (by omega)
        have hgs : gstep x = (2 * x) ^^^ 285 := by unfold gstep; rw [if_pos (by omega)]
        go_wp2_with fail
        go_roundw
        case rel => exact ⟨k + 1, by omega, by rw [← HX.out.2, hgs] <;> rfl, by go_num, HC2.out.1 _ _ _ _ _ _ HST.out, HC2.out.2 _ _ _ _ _ _⟩
        case measure => simp [intOf]; omega
      · have z2 : ¬ (255 : Int) < (x : Int) * 2 := by omega
        have hgs : gstep x = 2 * x := by unfold gstep; rw [if_neg (by omega)]
        go_wp2_with fail
        go_roundw
        case rel => exact ⟨k + 1, by omega, by rw [← HX.out.2, hgs]; go_num, by go_num, HC2.out.1 _ _ _ _ _ _ HST.out, HC2.out.2 _ _ _ _ _ _⟩
        case measure => simp [intOf]; omega
    · have hk2 : k = 255 := by omega
      subst hk2
      go_wp2_with fail
      go_end0
      exact ⟨rfl, hC, hF⟩
end Go.Proofs.Ytdkjmnhblepkaaa

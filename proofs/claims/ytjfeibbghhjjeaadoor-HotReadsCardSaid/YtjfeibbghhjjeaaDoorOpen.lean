import Derived.Test.YtjfeibbghhjjeaaDoorSeal
import Derived.Test.YtjfeibbghhjjeaaDoorArrEq
namespace Go.Proofs.YtjfeibbghhjjeaaDoor
open Go.RowKit
set_option linter.unusedVariables false
set_option linter.unusedSimpArgs false
set_option maxRecDepth 100000

/-! horner.Open -/
def bodyB (l : List UInt8) : List UInt8 := l.take (l.length - 4)
def openE (l : List UInt8) : Int := if l.length < 4 then 12 else if lastB (sumF (bodyB l)) = l.drop (l.length - 4) then 0 else 11
theorem openE_seal (l : List UInt8) : openE (sealB l) = 0 ∧ bodyB (sealB l) = l := by
  have hl : (sealB l).length = l.length + 4 := by unfold sealB; rw [List.length_append]; rfl
  have hb : bodyB (sealB l) = l := by
    unfold bodyB
    rw [hl, Nat.add_sub_cancel]
    unfold sealB
    exact List.take_left
  refine ⟨?_, hb⟩
  unfold openE
  rw [if_neg (by omega), hb, hl, Nat.add_sub_cancel]
  unfold sealB
  rw [List.drop_left, if_pos rfl]
structure Opened (w : World) (l : List UInt8) (e : Ending) (w' : World) : Prop where
  ret : ∃ v, e = .returned (.tuple #[v, errV (openE l)]) ∧ (openE l = 0 → w'.ownsRow w.heap.size 5 1 v (bodyB l).length ((bodyB l).map byteV)) ∧ (openE l ≠ 0 → v = .slice none 0 0)
  fr : Fr none_ w w'
theorem info_arr4 : ∃ i, Tryd.prog.info? 5 = some i := Option.isSome_iff_exists.1 (by kernel_rfl)
theorem four_list {α : Type} (r : List α) (h : r.length = 4) : ∃ a b c d, r = [a, b, c, d] := by
  match r, h with
  | [a, b, c, d], _ => exact ⟨a, b, c, d, rfl⟩
theorem arr4 (b o cc : Nat) (W : World) : (Instr.arrayAt 101 (.slice (some ⟨b, o, none⟩) 4 cc)).run Tryd.prog W = .ok (.pointer (some ⟨b, o, none⟩)) W := by
  unfold Instr.arrayAt
  simp only [Sem.run_bind, run_underlying Tryd.underlying101, Result.andThen]
  rfl
set_option maxHeartbeats 8000000 in
theorem open_any {w : World} (A : Option Addr) (n c : Nat) (l : List UInt8) (hn : n = l.length) (hA : CellsAt w A (l.map byteV)) (hnc : n ≤ c) (hm : l.length ≤ 140737488351232) :
    Calls Tryd.prog 14 #[.slice A n c] w fun e w' => Opened w l e w' := by
  by_cases h4 : n < 4
  · have hE : openE l = 12 := by unfold openE; rw [if_pos (by omega)]
    have HE := Lib.hid hE
    have q1 : (n : Int) < 4 := by omega
    have q2 : (n : Int) - 4 < 0 := by omega
    clear hE hn hm
    go_enter Tryd.func14, Tryd.ntmps14
    go_wp2_with fail
    go_ret2
    exact ⟨⟨_, by rw [HE.out, errV_n (by decide)]; rfl, (fun h => by rw [HE.out] at h; cases h), (fun _ => rfl)⟩, Fr.refl _ _⟩
  · obtain ⟨m, hmm⟩ : ∃ m : Nat, n = m + 4 := ⟨n - 4, by omega⟩
    obtain ⟨b, o, rfl⟩ := hA.addr (by rw [List.length_map]; omega)
    have hbl : bodyB l = l.take m := by unfold bodyB; rw [← hn, hmm, Nat.add_sub_cancel]
    have hbody : CellsAt w (some ⟨b, o, none⟩) ((l.take m).map byteV) := by
      have := hA.sub 0 m (by rw [List.length_map]; omega)
      rw [List.drop_zero, ← List.map_take] at this
      exact this
    have htl : (l.drop m).length = 4 := by rw [List.length_drop]; omega
    have htail := hA.sub m 4 (by rw [List.length_map]; omega)
    rw [← List.map_drop, ← List.map_take, List.take_of_length_le (by omega)] at htail
    obtain ⟨a0, a1, a2, a3, hd4⟩ := four_list _ htl
    rw [hd4] at htail
    have e0 : w.cell? ⟨b, o + m, none⟩ = some (.int .u8 (a0.toNat : Int)) := htail.get 0 (by simp)
    have e1 : w.cell? ⟨b, o + m + 1, none⟩ = some (.int .u8 (a1.toNat : Int)) := htail.get 1 (by simp)
    have e2 : w.cell? ⟨b, o + m + 2, none⟩ = some (.int .u8 (a2.toNat : Int)) := htail.get 2 (by simp)
    have e3 : w.cell? ⟨b, o + m + 3, none⟩ = some (.int .u8 (a3.toNat : Int)) := htail.get 3 (by simp)
    have hst : ∀ W, Fr none_ w W → W.cell? ⟨b, o + m, none⟩ = some (.int .u8 (a0.toNat : Int)) ∧ W.cell? ⟨b, o + m + 1, none⟩ = some (.int .u8 (a1.toNat : Int)) ∧ W.cell? ⟨b, o + m + 2, none⟩ = some (.int .u8 (a2.toNat : Int)) ∧ W.cell? ⟨b, o + m + 3, none⟩ = some (.int .u8 (a3.toNat : Int)) := fun W hW => ⟨hW.cell0 e0, hW.cell0 e1, hW.cell0 e2, hW.cell0 e3⟩
    have hbn : (l.take m).length = m := by rw [List.length_take]; omega
    have hsum : ∀ W, Fr none_ w W → Calls Tryd.prog 38 #[.slice (some ⟨b, o, none⟩) m c] W fun e w' => e = .returned (.int .u32 (sumF (l.take m) : Nat)) ∧ W = w' := fun W hW => sum_any m _ c (l.take m) W hbn.symm (by omega) (hbody.fr0 hW)
    obtain ⟨s, hs⟩ : ∃ s, s = sumF (l.take m) := ⟨_, rfl⟩
    rw [← hs] at hsum
    have hslt : s < 4294967296 := by have := moreF_lt 1 (l.take m); rw [hs]; unfold sumF; omega
    have hlast : ∀ W, Calls Tryd.prog 37 #[.int .u32 (s : Int)] W fun e w' => e = .returned (.agg #[.int .u8 ((lastI s 0).toNat : Int), .int .u8 ((lastI s 1).toNat : Int), .int .u8 ((lastI s 2).toNat : Int), .int .u8 ((lastI s 3).toNat : Int)]) ∧ Fr none_ W w' := fun W => last_any s hslt W
    obtain ⟨i4, hi4⟩ := info_arr4
    have heq : ∀ W : World, (Op.equalIn 10000 101 (.agg #[.int .u8 ((lastI s 0).toNat : Int), .int .u8 ((lastI s 1).toNat : Int), .int .u8 ((lastI s 2).toNat : Int), .int .u8 ((lastI s 3).toNat : Int)]) (.agg #[.int .u8 (a0.toNat : Int), .int .u8 (a1.toNat : Int), .int .u8 (a2.toNat : Int), .int .u8 (a3.toNat : Int)])).run Tryd.prog W = .ok (decide (lastB s = [a0, a1, a2, a3])) W := fun W => eq_blocks Tryd.underlying101 hi4 (by kernel_rfl) Tryd.underlying5 (lastB s) [a0, a1, a2, a3] rfl rfl
    have hcl : ∀ W, Fr none_ w W → Calls Tryd.prog 39 #[.slice (some ⟨b, o, none⟩) m c] W fun e w' => Cloned W (l.take m) e w' := fun W hW => clone_any W _ m c (l.take m) hbn.symm (hbody.fr0 hW) (fun h => by cases h) (by omega)
    have hmb : m ≤ 140737488351232 := by omega
    have hnb : n ≤ 140737488351232 := by omega
    have q9 : ¬ (m : Int) < 0 := by omega
    have q1 : ¬ (n : Int) < 4 := by omega
    have q2 : (n : Int) - 4 = (m : Int) := by omega
    have q3 : (0 : Int) ≤ (m : Int) := by omega
    have q4 : (m : Int) ≤ (c : Int) := by omega
    have q5 : (m : Int) ≤ (n : Int) := by omega
    have q6 : ¬ c = m := by omega
    have q7 : n - m = 4 := by omega
    have q8 : IntKind.i64.wrap ((n : Int) - 4) = (m : Int) := by rw [IntWalk.i64_in _ (by omega)]; exact q2
    have hEE : openE l = if lastB s = [a0, a1, a2, a3] then 0 else 11 := by unfold openE; rw [if_neg (by omega), hbl, ← hs, ← hn, hmm, Nat.add_sub_cancel, hd4]
    have hs0 := hst _ ((Fr.refl none_ w).drew)
    have hX0 : Fr none_ w w.drew := (Fr.refl none_ w).drew
    have HSUM := Lib.hid hsum
    have HLAST := Lib.hid hlast
    have HST := Lib.hid hst
    have HCL := Lib.hid hcl
    have HEE := Lib.hid hEE
    have HBL := Lib.hid hbl
    have HMM := Lib.hid hmm
    have HN := Lib.hid hn
    have HEQ := Lib.hid heq
    have HBN := Lib.hid hbn
    clear hsum hlast hst hcl hEE hbl hmm hn heq hbn hd4 htl htail hs e0 e1 e2 e3 hbody h4
    by_cases hok : lastB s = [a0, a1, a2, a3]
    · go_enter Tryd.func14, Tryd.ntmps14
      go_wp2_with fail
      have heq := HEQ.out
      first | rw [decide_eq_true hok] at heq | rw [decide_eq_false hok] at heq
      have karr := arr4 b (o + m) (c - m)
      refine wp_region_held_drew (S := (fun W => W.cell? ⟨b, o + m, none⟩ = some (.int .u8 (a0.toNat : Int)) ∧ W.cell? ⟨b, o + m + 1, none⟩ = some (.int .u8 (a1.toNat : Int)) ∧ W.cell? ⟨b, o + m + 2, none⟩ = some (.int .u8 (a2.toNat : Int)) ∧ W.cell? ⟨b, o + m + 3, none⟩ = some (.int .u8 (a3.toNat : Int)))) (by kernel_rfl) hs0 (fun hHeld0 => ?_)
      refine wpAnyH_take (i := 0) (oi := _) (v := ?v1) rfl (by kernel_rfl) (by kernel_rfl) (by kernel_rfl) (fun _ _ _ h => h) (Or.inl ⟨by rfl, ?hy1⟩) (by assumption) ?rest1
      case hy1 => (intro w hSw; (try dsimp only at hSw); go_simp; try with_reducible rfl)
      try simp only [List.getElem_toArray, List.getElem_cons_zero, List.getElem_cons_succ, Act.put, List.setIfInBounds_toArray, List.set_cons_zero, List.set_cons_succ]
      refine wpAnyH_take (i := 1) (oi := _) (v := ?v2) rfl (by kernel_rfl) (by kernel_rfl) (by kernel_rfl) (fun _ _ _ h => h) (Or.inl ⟨by rfl, ?hy2⟩) (by assumption) ?rest2
      case hy2 => (intro w hSw; (try dsimp only at hSw); go_simp; try with_reducible rfl)
      try simp only [List.getElem_toArray, List.getElem_cons_zero, List.getElem_cons_succ, Act.put, List.setIfInBounds_toArray, List.set_cons_zero, List.set_cons_succ]
      refine wpAnyH_take (i := 2) (oi := _) (v := ?v3) rfl (by kernel_rfl) (by kernel_rfl) (by kernel_rfl) (fun _ _ _ h => h) (Or.inl ⟨by rfl, ?hy3⟩) (by assumption) ?rest3
      case hy3 => (intro w hSw; (try dsimp only at hSw); go_simp; try with_reducible rfl)
      try simp only [List.getElem_toArray, List.getElem_cons_zero, List.getElem_cons_succ, Act.put, List.setIfInBounds_toArray, List.set_cons_zero, List.set_cons_succ]
      refine wpAnyH_take (i := 5) (oi := _) (v := ?v4) rfl (by kernel_rfl) (by kernel_rfl) (by kernel_rfl) (fun _ _ _ h => h) (Or.inl ⟨by rfl, ?hy4⟩) (by assumption) ?rest4
      case hy4 => (intro w hSw; (try dsimp only at hSw); go_simp; try with_reducible rfl)
      try simp only [List.getElem_toArray, List.getElem_cons_zero, List.getElem_cons_succ, Act.put, List.setIfInBounds_toArray, List.set_cons_zero, List.set_cons_succ]
      refine wpAnyH_take (i := 6) (oi := _) (v := ?v5) rfl (by kernel_rfl) (by kernel_rfl) (by kernel_rfl) (fun _ _ _ h => h) (Or.inl ⟨by rfl, ?hy5⟩) (by assumption) ?rest5
      case hy5 => (intro w hSw; (try dsimp only at hSw); go_simp; try with_reducible rfl)
      try simp only [List.getElem_toArray, List.getElem_cons_zero, List.getElem_cons_succ, Act.put, List.setIfInBounds_toArray, List.set_cons_zero, List.set_cons_succ]
      refine wpAnyH_take (i := 7) (oi := _) (v := ?v6) rfl (by kernel_rfl) (by kernel_rfl) (by kernel_rfl) (fun _ _ _ h => h) (Or.inl ⟨by rfl, ?hy6⟩) (by assumption) ?rest6
      case hy6 => (intro w hSw; (try dsimp only at hSw); go_simp; try with_reducible rfl)
      try simp only [List.getElem_toArray, List.getElem_cons_zero, List.getElem_cons_succ, Act.put, List.setIfInBounds_toArray, List.set_cons_zero, List.set_cons_succ]
      refine wpAnyH_take (i := 8) (oi := _) (v := ?v7) rfl (by kernel_rfl) (by kernel_rfl) (by kernel_rfl) (fun _ _ _ h => h) (Or.inl ⟨by rfl, ?hy7⟩) (by assumption) ?rest7
      case hy7 => (intro w hSw; (try dsimp only at hSw); go_simp; try with_reducible rfl)
      try simp only [List.getElem_toArray, List.getElem_cons_zero, List.getElem_cons_succ, Act.put, List.setIfInBounds_toArray, List.set_cons_zero, List.set_cons_succ]
      refine wpAnyH_take (i := 9) (oi := _) (v := ?v8) rfl (by kernel_rfl) (by kernel_rfl) (by kernel_rfl) (fun _ _ _ h => h) (Or.inl ⟨by rfl, ?hy8⟩) (by assumption) ?rest8
      case hy8 => (intro w hSw; (try dsimp only at hSw); go_simp; try with_reducible rfl)
      try simp only [List.getElem_toArray, List.getElem_cons_zero, List.getElem_cons_succ, Act.put, List.setIfInBounds_toArray, List.set_cons_zero, List.set_cons_succ]
      refine wpAnyH_ready (rs := [3]) (by kernel_rfl) (by simp) ?_
      refine AllReadyH.cons (o := _) rfl (fun KK hKK => ?_) AllReadyH.nil
      go_simp
      (go_at_call 38; (with_reducible refine (HSUM.out _ hX0).mono ?_); rintro e x0 ⟨rfl, hx0⟩; subst hx0)
      go_wp2_with fail
      refine hKK.out _ _ ?hS9 (fun hHeld9 => ?rest9)
      case hS9 => exact hs0
      clear hKK KK
      try simp only [List.getElem_toArray, List.getElem_cons_zero, List.getElem_cons_succ, Act.put, List.setIfInBounds_toArray, List.set_cons_zero, List.set_cons_succ]
      refine wpAnyH_ready (rs := [4]) (by kernel_rfl) (by simp) ?_
      refine AllReadyH.cons (o := _) rfl (fun KK hKK => ?_) AllReadyH.nil
      go_simp
      (go_at_call 37; (with_reducible refine (HLAST.out _).mono ?_); rintro e x1 ⟨rfl, hY1⟩; have hX1 := hX0.trans hY1)
      go_wp2_with fail
      refine hKK.out _ _ ?hS10 (fun hHeld10 => ?rest10)
      case hS10 => exact HST.out _ hX1
      clear hKK KK
      try simp only [List.getElem_toArray, List.getElem_cons_zero, List.getElem_cons_succ, Act.put, List.setIfInBounds_toArray, List.set_cons_zero, List.set_cons_succ]
      refine wpAnyH_take (i := 10) (oi := _) (v := ?v11) rfl (by kernel_rfl) (by kernel_rfl) (by kernel_rfl) (fun _ _ _ h => h) (Or.inl ⟨by rfl, ?hy11⟩) (by assumption) ?rest11
      case hy11 => (intro w hSw; (try dsimp only at hSw); go_simp; try with_reducible rfl)
      try simp only [List.getElem_toArray, List.getElem_cons_zero, List.getElem_cons_succ, Act.put, List.setIfInBounds_toArray, List.set_cons_zero, List.set_cons_succ]
      refine wpAnyH_take (i := 11) (oi := _) (v := ?v12) rfl (by kernel_rfl) (by kernel_rfl) (by kernel_rfl) (fun _ _ _ h => h) (Or.inl ⟨by rfl, ?hy12⟩) (by assumption) ?rest12
      case hy12 => (intro w hSw; (try dsimp only at hSw); go_simp; try with_reducible rfl)
      try simp only [List.getElem_toArray, List.getElem_cons_zero, List.getElem_cons_succ, Act.put, List.setIfInBounds_toArray, List.set_cons_zero, List.set_cons_succ]
      refine wpAnyH_done (by kernel_rfl) ?_ _
      clear heq karr
      go_wp2_with fail
      have hE : openE l = 0 := by rw [HEE.out, if_pos hok]
      (with_reducible refine (HCL.out _ hX1).mono ?_)
      rintro e x2 ⟨⟨v, rfl, hown⟩, hY2⟩
      go_wp2_with fail
      go_ret2
      refine ⟨⟨v, by rw [hE, errV_0]; rfl, (fun _ => ?_), (fun h => absurd hE h)⟩, hX1.trans hY2⟩
      rw [HBL.out]
      exact ownsRow_mono hown hX1.size
    · go_enter Tryd.func14, Tryd.ntmps14
      go_wp2_with fail
      have heq := HEQ.out
      first | rw [decide_eq_true hok] at heq | rw [decide_eq_false hok] at heq
      have karr := arr4 b (o + m) (c - m)
      refine wp_region_held_drew (S := (fun W => W.cell? ⟨b, o + m, none⟩ = some (.int .u8 (a0.toNat : Int)) ∧ W.cell? ⟨b, o + m + 1, none⟩ = some (.int .u8 (a1.toNat : Int)) ∧ W.cell? ⟨b, o + m + 2, none⟩ = some (.int .u8 (a2.toNat : Int)) ∧ W.cell? ⟨b, o + m + 3, none⟩ = some (.int .u8 (a3.toNat : Int)))) (by kernel_rfl) hs0 (fun hHeld0 => ?_)
      refine wpAnyH_take (i := 0) (oi := _) (v := ?vb1) rfl (by kernel_rfl) (by kernel_rfl) (by kernel_rfl) (fun _ _ _ h => h) (Or.inl ⟨by rfl, ?hyb1⟩) (by assumption) ?restb1
      case hyb1 => (intro w hSw; (try dsimp only at hSw); go_simp; try with_reducible rfl)
      try simp only [List.getElem_toArray, List.getElem_cons_zero, List.getElem_cons_succ, Act.put, List.setIfInBounds_toArray, List.set_cons_zero, List.set_cons_succ]
      refine wpAnyH_take (i := 1) (oi := _) (v := ?vb2) rfl (by kernel_rfl) (by kernel_rfl) (by kernel_rfl) (fun _ _ _ h => h) (Or.inl ⟨by rfl, ?hyb2⟩) (by assumption) ?restb2
      case hyb2 => (intro w hSw; (try dsimp only at hSw); go_simp; try with_reducible rfl)
      try simp only [List.getElem_toArray, List.getElem_cons_zero, List.getElem_cons_succ, Act.put, List.setIfInBounds_toArray, List.set_cons_zero, List.set_cons_succ]
      refine wpAnyH_take (i := 2) (oi := _) (v := ?vb3) rfl (by kernel_rfl) (by kernel_rfl) (by kernel_rfl) (fun _ _ _ h => h) (Or.inl ⟨by rfl, ?hyb3⟩) (by assumption) ?restb3
      case hyb3 => (intro w hSw; (try dsimp only at hSw); go_simp; try with_reducible rfl)
      try simp only [List.getElem_toArray, List.getElem_cons_zero, List.getElem_cons_succ, Act.put, List.setIfInBounds_toArray, List.set_cons_zero, List.set_cons_succ]
      refine wpAnyH_take (i := 5) (oi := _) (v := ?vb4) rfl (by kernel_rfl) (by kernel_rfl) (by kernel_rfl) (fun _ _ _ h => h) (Or.inl ⟨by rfl, ?hyb4⟩) (by assumption) ?restb4
      case hyb4 => (intro w hSw; (try dsimp only at hSw); go_simp; try with_reducible rfl)
      try simp only [List.getElem_toArray, List.getElem_cons_zero, List.getElem_cons_succ, Act.put, List.setIfInBounds_toArray, List.set_cons_zero, List.set_cons_succ]
      refine wpAnyH_take (i := 6) (oi := _) (v := ?vb5) rfl (by kernel_rfl) (by kernel_rfl) (by kernel_rfl) (fun _ _ _ h => h) (Or.inl ⟨by rfl, ?hyb5⟩) (by assumption) ?restb5
      case hyb5 => (intro w hSw; (try dsimp only at hSw); go_simp; try with_reducible rfl)
      try simp only [List.getElem_toArray, List.getElem_cons_zero, List.getElem_cons_succ, Act.put, List.setIfInBounds_toArray, List.set_cons_zero, List.set_cons_succ]
      refine wpAnyH_take (i := 7) (oi := _) (v := ?vb6) rfl (by kernel_rfl) (by kernel_rfl) (by kernel_rfl) (fun _ _ _ h => h) (Or.inl ⟨by rfl, ?hyb6⟩) (by assumption) ?restb6
      case hyb6 => (intro w hSw; (try dsimp only at hSw); go_simp; try with_reducible rfl)
      try simp only [List.getElem_toArray, List.getElem_cons_zero, List.getElem_cons_succ, Act.put, List.setIfInBounds_toArray, List.set_cons_zero, List.set_cons_succ]
      refine wpAnyH_take (i := 8) (oi := _) (v := ?vb7) rfl (by kernel_rfl) (by kernel_rfl) (by kernel_rfl) (fun _ _ _ h => h) (Or.inl ⟨by rfl, ?hyb7⟩) (by assumption) ?restb7
      case hyb7 => (intro w hSw; (try dsimp only at hSw); go_simp; try with_reducible rfl)
      try simp only [List.getElem_toArray, List.getElem_cons_zero, List.getElem_cons_succ, Act.put, List.setIfInBounds_toArray, List.set_cons_zero, List.set_cons_succ]
      refine wpAnyH_take (i := 9) (oi := _) (v := ?vb8) rfl (by kernel_rfl) (by kernel_rfl) (by kernel_rfl) (fun _ _ _ h => h) (Or.inl ⟨by rfl, ?hyb8⟩) (by assumption) ?restb8
      case hyb8 => (intro w hSw; (try dsimp only at hSw); go_simp; try with_reducible rfl)
      try simp only [List.getElem_toArray, List.getElem_cons_zero, List.getElem_cons_succ, Act.put, List.setIfInBounds_toArray, List.set_cons_zero, List.set_cons_succ]
      refine wpAnyH_ready (rs := [3]) (by kernel_rfl) (by simp) ?_
      refine AllReadyH.cons (o := _) rfl (fun KK hKK => ?_) AllReadyH.nil
      go_simp
      (go_at_call 38; (with_reducible refine (HSUM.out _ hX0).mono ?_); rintro e x0 ⟨rfl, hx0⟩; subst hx0)
      go_wp2_with fail
      refine hKK.out _ _ ?hSb9 (fun hHeld9 => ?restb9)
      case hSb9 => exact hs0
      clear hKK KK
      try simp only [List.getElem_toArray, List.getElem_cons_zero, List.getElem_cons_succ, Act.put, List.setIfInBounds_toArray, List.set_cons_zero, List.set_cons_succ]
      refine wpAnyH_ready (rs := [4]) (by kernel_rfl) (by simp) ?_
      refine AllReadyH.cons (o := _) rfl (fun KK hKK => ?_) AllReadyH.nil
      go_simp
      (go_at_call 37; (with_reducible refine (HLAST.out _).mono ?_); rintro e x1 ⟨rfl, hY1⟩; have hX1 := hX0.trans hY1)
      go_wp2_with fail
      refine hKK.out _ _ ?hSb10 (fun hHeld10 => ?restb10)
      case hSb10 => exact HST.out _ hX1
      clear hKK KK
      try simp only [List.getElem_toArray, List.getElem_cons_zero, List.getElem_cons_succ, Act.put, List.setIfInBounds_toArray, List.set_cons_zero, List.set_cons_succ]
      refine wpAnyH_take (i := 10) (oi := _) (v := ?vb11) rfl (by kernel_rfl) (by kernel_rfl) (by kernel_rfl) (fun _ _ _ h => h) (Or.inl ⟨by rfl, ?hyb11⟩) (by assumption) ?restb11
      case hyb11 => (intro w hSw; (try dsimp only at hSw); go_simp; try with_reducible rfl)
      try simp only [List.getElem_toArray, List.getElem_cons_zero, List.getElem_cons_succ, Act.put, List.setIfInBounds_toArray, List.set_cons_zero, List.set_cons_succ]
      refine wpAnyH_take (i := 11) (oi := _) (v := ?vb12) rfl (by kernel_rfl) (by kernel_rfl) (by kernel_rfl) (fun _ _ _ h => h) (Or.inl ⟨by rfl, ?hyb12⟩) (by assumption) ?restb12
      case hyb12 => (intro w hSw; (try dsimp only at hSw); go_simp; try with_reducible rfl)
      try simp only [List.getElem_toArray, List.getElem_cons_zero, List.getElem_cons_succ, Act.put, List.setIfInBounds_toArray, List.set_cons_zero, List.set_cons_succ]
      refine wpAnyH_done (by kernel_rfl) ?_ _
      clear heq karr
      go_wp2_with fail
      have hE : openE l = 11 := by rw [HEE.out, if_neg hok]
      go_ret2
      exact ⟨⟨_, by rw [hE, errV_n (by decide)]; rfl, (fun h => by rw [hE] at h; cases h), (fun _ => rfl)⟩, hX1⟩
end Go.Proofs.YtjfeibbghhjjeaaDoor

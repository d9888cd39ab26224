import Derived.Test.YtniiokhkmdknaaaDoorLawNum01
import Derived.Test.YtniiokhkmdknaaaDoorLawDev
import Derived.Test.YtniiokhkmdknaaaDoorWd
import Derived.Test.YtniiokhkmdknaaaDoorDev5
import Derived.Deep.RegionHeld3
namespace Go.Proofs.YtniiokhkmdknaaaDoor
open Go.RowKit
set_option linter.unusedVariables false
set_option linter.unusedSimpArgs false

/-! DevArmed, the plain part. -/
def aD (k : Int) (b : List UInt8) : Nat → DevS
  | 0 => (newD 3).arm k
  | i + 1 => (aD k b i).write ((i % 3 : Nat) : Int) b
structure Am (D : DevS) (k : Int) (i : Nat) : Prop where
  sectors : D.sectors = 3
  lost : D.lost = false
  armed : D.armed = true
  lo : (i : Int) ≤ k → D.crashed = false ∧ D.left = k - i ∧ D.writes = i
  hi : k < (i : Int) → D.crashed = true ∧ D.writes = k
theorem Am.at0 {D : DevS} {k : Int} {i : Nat} (h : Am D k i) (hi : (i : Int) ≤ k) (j : Nat) (hj : j < 3) : D.atE j = 0 := by
  unfold DevS.atE DevS.down
  rw [h.sectors, h.lost, (h.lo hi).1]
  simp; omega
theorem Am.at13 {D : DevS} {k : Int} {i : Nat} (h : Am D k i) (hi : k < (i : Int)) (j : Int) : D.atE j = 13 := by
  unfold DevS.atE DevS.down
  rw [h.lost, (h.hi hi).1]; simp
theorem Am.E {D : DevS} {k : Int} {i : Nat} (h : Am D k i) (j : Nat) (hj : j < 3) (n : Nat) (hn : n ≤ 64) : D.writeE j n = if (i : Int) < k then 0 else 13 := by
  unfold DevS.writeE
  by_cases h1 : (i : Int) ≤ k
  · rw [h.at0 h1 j hj, h.armed, (h.lo h1).2.1]
    simp
    rw [if_neg (by omega)]
    by_cases h2 : (i : Int) < k
    · rw [if_pos h2, if_neg (by omega)]
    · rw [if_neg h2, if_pos (by omega)]
  · rw [h.at13 (by omega) j, if_neg (by omega : ¬ (i : Int) < k)]
    simp
theorem Am.step {D : DevS} {k : Int} {i : Nat} (h : Am D k i) (hk : k < 12) (j : Nat) (hj : j < 3) (b : List UInt8) (hb : b.length ≤ 64) : Am (D.write j b) k (i + 1) := by
  unfold DevS.write
  by_cases h1 : (i : Int) ≤ k
  · rw [h.at0 h1 j hj, if_neg (by simp; omega), h.armed, (h.lo h1).2.1]
    by_cases h2 : (i : Int) < k
    · rw [if_neg (by simp; omega)]
      have hw := h.lo h1
      refine ⟨h.sectors, h.lost, h.armed, fun _ => ⟨hw.1, ?_, ?_⟩, fun hlt => ?_⟩
      · show wrap64 (D.left - 1) = _
        rw [hw.2.1, IntWalk.wrap64_in _ (by omega)]; push_cast; omega
      · show wrap64 (D.writes + 1) = _
        rw [hw.2.2, IntWalk.wrap64_in _ (by omega)]; push_cast; omega
      · push_cast at hlt; omega
    · rw [if_pos (by simp; omega)]
      have hw := h.lo h1
      refine ⟨h.sectors, h.lost, rfl, fun hle => ?_, fun _ => ⟨rfl, ?_⟩⟩
      · push_cast at hle; omega
      · show D.writes = k
        rw [hw.2.2]; omega
  · rw [h.at13 (by omega) j, if_pos (by simp)]
    have hw := h.hi (by omega)
    exact ⟨h.sectors, h.lost, h.armed, fun hle => by push_cast at hle; omega, fun _ => hw⟩
theorem aD_am (k : Int) (h0 : 0 ≤ k) (hk : k < 12) (b : List UInt8) (hb : b.length ≤ 64) (i : Nat) : Am (aD k b i) k i := by
  induction i with
  | zero =>
    have : (newD 3).arm k = { newD 3 with armed := true, left := k } := by
      unfold DevS.arm
      rw [if_neg]
      have : (newD 3).down = false := rfl
      rw [this]; simp; omega
    show Am ((newD 3).arm k) k 0
    rw [this]
    exact ⟨rfl, rfl, rfl, fun _ => ⟨rfl, by simp, rfl⟩, fun hlt => by simp at hlt; omega⟩
  | succ i ih => exact ih.step hk (i % 3) (by omega) b hb
theorem arm_E (k : Int) (h0 : 0 ≤ k) : (newD 3).armE k = 0 := by
  unfold DevS.armE
  have : (newD 3).down = false := rfl
  rw [this, if_neg (by omega)]; rfl
/-- What the end needs of the device: started anew, written, lost, replaced. -/
theorem end_facts (D : DevS) (k : Int) (hA : Am D k 15) (hk : k < 12) (b : List UInt8) (hb : b.length ≤ 64) :
    (D.start []).writeE 0 b.length = 0 ∧ (((D.start []).write 0 b).lose).writeE 0 b.length = 13 ∧
      ∀ n, n = ((D.start []).write 0 b).lose → n.write 0 b = n ∧ n.start [] = n ∧ n.atE 0 = 13 ∧ n.replace.atE 0 = 0 ∧ n.replace.get 0 = zeroB ∧ n.replace.lost = false := by
  have h1 : (D.start []).sectors = 3 ∧ (D.start []).lost = false ∧ (D.start []).crashed = false ∧ (D.start []).armed = false := by
    unfold DevS.start
    rw [hA.lost]
    exact ⟨hA.sectors, rfl, rfl, rfl⟩
  generalize D.start [] = S at *
  obtain ⟨s1, s2, s3, s4⟩ := h1
  have a0 : S.atE 0 = 0 := by
    unfold DevS.atE DevS.down
    rw [s1, s2, s3]; simp
  have e0 : S.writeE 0 b.length = 0 := by
    unfold DevS.writeE
    rw [a0, s4]; simp; omega
  have w0 : S.write 0 b = S.put 0 b := by
    unfold DevS.write
    rw [a0, if_neg (by simp; omega), s4, if_neg (by simp)]
  have hn : ∀ n, n = (S.write 0 b).lose → n.sectors = 3 ∧ n.lost = true := fun n hn => by
    rw [hn, w0]; exact ⟨s1, rfl⟩
  have hE : ∀ n : DevS, n.lost = true → ∀ j, n.atE j = 13 := fun n hl j => by
    unfold DevS.atE DevS.down; rw [hl]; simp
  refine ⟨e0, ?_, fun n hnn => ?_⟩
  · have := hE _ (hn _ rfl).2 0
    unfold DevS.writeE
    rw [this]; simp
  · obtain ⟨q1, q2⟩ := hn n hnn
    have qE := hE n q2
    have hr : n.replace = { n with now := [], lost := false, crashed := false, armed := false } := by unfold DevS.replace; rw [q2]; rfl
    refine ⟨?_, ?_, qE 0, ?_, ?_, ?_⟩
    · unfold DevS.write; rw [qE 0, if_pos (by simp)]
    · unfold DevS.start; rw [q2]; rfl
    · rw [hr]; unfold DevS.atE DevS.down; simp [q1]
    · rw [hr]; rfl
    · rw [hr]
theorem u64_nonneg (x : Int) : 0 ≤ IntKind.u64.wrap x := by
  rw [IntKind.wrap_u64]; omega
theorem arm_k (n : Int) : 0 ≤ wrap64 ((IntKind.u64.wrap n).tmod 12) ∧ wrap64 ((IntKind.u64.wrap n).tmod 12) < 12 := by
  have h := u64_nonneg n
  rw [Int.tmod_eq_emod_of_nonneg h, IntWalk.wrap64_in _ (by omega)]
  omega
/-- What the loop keeps. -/
structure Ar (w wr : World) (p m1 m2 : Nat) (k : Int) (b : List UInt8) (i : Nat) (D : DevS) : Prop where
  wd : Wd w wr p m1 m2 D
  am : Am D k i
set_option maxHeartbeats 30000000 in
set_option maxRecDepth 100000 in
theorem armed_walk (n : Int) (A : Option Addr) (l c : Nat) (b : List UInt8) (w : World) (hg : ErrT w) (hn : l = b.length) (hA : CellsAt w A (b.map byteV)) :
    Calls Tryd.prog 4 #[.int .i64 n, .slice A l c] w fun e w' => e = .returned (.bool true) ∧ Fr none_ w w' := by
  subst hn
  have kmk := mk64
  obtain ⟨k0, k1⟩ := arm_k n
  go_enter Tryd.func4, Tryd.ntmps4
  go_wp2_with fail
  (with_reducible refine (new_ok 3 _ (by decide) (by decide)).mono ?_)
  rintro e w1 ⟨p, m1, m2, rfl, hF1, hD1, hfr⟩
  rw [errV_0]
  have hW1 : Wd w w1 p m1 m2 (newD 3) := ⟨hF1, hD1, hfr⟩
  clear hF1 hD1 hfr
  go_wp2_with fail
  obtain ⟨k, hk⟩ : ∃ k, k = wrap64 ((IntKind.u64.wrap n).tmod 12) := ⟨_, rfl⟩
  rw [← hk] at k0 k1
  rw [← hk]
  (with_reducible refine (arm_any hW1.dev k).mono ?_)
  rintro e w2 ⟨rfl, hF2, hD2⟩
  rw [arm_E k k0, errV_0]
  have hW2 := hW1.step hF2 hD2
  clear hW1 hF2 hD2
  by_cases hb : 64 < b.length
  · have hb1 : decide ((64 : Int) < (b.length : Int)) = true := by simp; omega
    go_wp2_with fail
    (with_reducible refine (dsure_any _).mono ?_)
    rintro e w3 ⟨rfl, hF3⟩
    go_wp2_with fail
    go_ret
    exact ⟨rfl, hW2.fr.trans hF3⟩
  have hb1 : decide ((64 : Int) < (b.length : Int)) = false := by simp; omega
  have hb2 : b.length ≤ 64 := by omega
  have hAr : Ar w w2 p m1 m2 k b 0 (aD k b 0) := ⟨hW2, aD_am k k0 k1 b hb2 0⟩
  clear hW2 hk
  go_wp2_with fail
  go_loopw [8] (fun v wr => ∃ i : Nat, i ≤ 15 ∧ v = .int .i64 i ∧ Ar w wr p m1 m2 k b i (aD k b i)) (fun v _ => 15 - (intOf v).toNat)
  case atStart => exact ⟨0, by omega, rfl, hAr⟩
  case round =>
    clear hAr
    obtain ⟨i, hi, rfl, hR⟩ := hrel
    by_cases hlt : i < 15
    · have hE := hR.am.E (i % 3) (by omega) b.length hb2
      have hAm := hR.am.step k1 (i % 3) (by omega) b hb2
      go_wp2_with fail
      rw [show ((i : Int)) % 3 = ((i % 3 : Nat) : Int) by omega]
      (with_reducible refine (write_any hR.wd.dev ((i % 3 : Nat) : Int) _ _ _ b rfl (hA.fr0 hR.wd.fr) (fun x hx hv => hR.wd.apart hA x hx (by simpa using hv))).mono ?_)
      rintro e w3 ⟨rfl, hF3, hD3⟩
      rw [hE]
      have hW3 := hR.wd.step hF3 hD3
      have hAr : Ar w w3 p m1 m2 k b (i + 1) (aD k b (i + 1)) := ⟨hW3, hAm⟩
      clear hF3 hD3 hR
      have hm := aD_am k k0 k1 b hb2 (i + 1)
      have e1 : (aD k b i).write ((i % 3 : Nat) : Int) b = aD k b (i + 1) := rfl
      rw [e1] at hAm hW3
      obtain ⟨D1, hD1⟩ : ∃ D1, D1 = aD k b (i + 1) := ⟨_, rfl⟩
      have HAr := Lib.hid hAr
      rw [← hD1] at hAm hW3
      clear hAr hm hD1
      clear hE
      by_cases hik : (i : Int) < k
      · obtain ⟨q1, q2, q3⟩ := hAm.lo (by push_cast; omega)
        have hdn : D1.down = false := by unfold DevS.down; rw [q1, hAm.lost]; rfl
        rw [if_pos hik, errV_0]
        have hik1 : (i : Int) + 1 ≤ k := by omega
        clear e1
        have hmin : ((i : Int) + 1 != min ((i : Int) + 1) k) = false := by rw [Int.min_eq_left hik1]; simp
        go_wp2_with fail
        (with_reducible refine (down_any hW3.dev).mono ?_)
        rintro e w4 ⟨rfl, rfl⟩
        rw [hdn]
        go_wp2_with fail
        (with_reducible refine (writes_any hW3.dev).mono ?_)
        rintro e w4 ⟨rfl, rfl⟩
        rw [q3]
        go_wp2_with fail
        go_roundw
        case rel => exact ⟨i + 1, by omega, by go_num, HAr.out⟩
        case measure => simp [intOf]; omega
      · obtain ⟨q1, q3⟩ := hAm.hi (by push_cast; omega)
        have hdn : D1.down = true := by unfold DevS.down; rw [q1]; rfl
        rw [if_neg hik, errV_n (by omega)]
        have hik1 : k ≤ (i : Int) + 1 := by omega
        clear e1
        go_wp2_with fail
        (with_reducible refine (down_any hW3.dev).mono ?_)
        rintro e w4 ⟨rfl, rfl⟩
        rw [hdn]
        go_wp2_with fail
        (with_reducible refine (writes_any hW3.dev).mono ?_)
        rintro e w4 ⟨rfl, rfl⟩
        rw [q3]
        have hmin : (k != min ((i : Int) + 1) k) = false := by rw [Int.min_eq_right hik1]; simp
        go_wp2_with fail
        go_roundw
        case rel => exact ⟨i + 1, by omega, by go_num, HAr.out⟩
        case measure => simp [intOf]; omega
    · have hi15 : i = 15 := by omega
      subst hi15
      have hW0 := hR.wd
      have hAm := hR.am
      clear hR
      generalize aD k b 15 = D at *
      obtain ⟨e1, e2, hn⟩ := end_facts D k hAm k1 b hb2
      clear hAm
      go_wp2_with fail
      (with_reducible refine (start_any hW0.dev none 0 0 [] rfl (CellsAt.nil _ _) (fun x hx => absurd hx (blkOf_none x)) (by simp)).mono ?_)
      rintro e w3 ⟨rfl, hF3, hD3⟩
      have hW3 := hW0.step hF3 hD3
      clear hW0 hF3 hD3
      go_wp2_with fail
      (with_reducible refine (write_any hW3.dev 0 _ _ _ b rfl (hA.fr0 hW3.fr) (fun x hx hv => hW3.apart hA x hx (by simpa using hv))).mono ?_)
      rintro e w4 ⟨rfl, hF4, hD4⟩
      rw [e1, errV_0]
      have hW4 := hW3.step hF4 hD4
      clear hW3 hF4 hD4 e1
      go_wp2_with fail
      (with_reducible refine (lose_any hW4.dev).mono ?_)
      rintro e w5 ⟨rfl, hF5, hD5⟩
      have hW5 := hW4.step hF5 hD5
      obtain ⟨n1, n2, n3, n4, n5, n6⟩ := hn _ rfl
      clear hW4 hF5 hD5 hn
      generalize ((D.start []).write 0 b).lose = L at *
      go_wp2_with fail
      (with_reducible refine (write_any hW5.dev 0 _ _ _ b rfl (hA.fr0 hW5.fr) (fun x hx hv => hW5.apart hA x hx (by simpa using hv))).mono ?_)
      rintro e w6 ⟨rfl, hF6, hD6⟩
      rw [e2, errV_n (by omega)]
      rw [n1] at hD6
      have hW6 := hW5.step hF6 hD6
      clear hW5 hF6 hD6 e2
      go_wp2_with fail
      (with_reducible refine (start_any hW6.dev none 0 0 [] rfl (CellsAt.nil _ _) (fun x hx => absurd hx (blkOf_none x)) (by simp)).mono ?_)
      rintro e w7 ⟨rfl, hF7, hD7⟩
      rw [n2] at hD7
      have hW7 := hW6.step hF7 hD7
      clear hW6 hF7 hD7
      go_wp2_with fail
      (with_reducible refine (read_err hW7.dev 0 (by omega)).mono ?_)
      rintro e w8 ⟨rfl, rfl⟩
      rw [n3, errV_n (by omega)]
      go_wp2_with fail
      (with_reducible refine (replace_any hW7.dev).mono ?_)
      rintro e w9 ⟨rfl, hF9, hD9⟩
      have hW9 := hW7.step hF9 hD9
      clear hW7 hF9 hD9
      go_wp2_with fail
      (with_reducible refine (read_ok hW9.dev 0 n4).mono ?_)
      rintro e w10 ⟨g, rfl, hgg, hF10, hb10⟩
      rw [errV_0]
      rw [n5] at hb10
      have hW10 := hW9.step0 hF10
      clear hW9 hF10
      go_wp2_with fail
      have hC0 : Fr none_ w10 w10.drew := (Fr.refl _ _).drew
      have hE10 : ErrT w10 := hg.fr0 hW10.fr
      have hnum : ∀ w, ErrT w → Calls Tryd.prog 20 #[.iface 51 (.int .i64 13)] w fun e w' => e = .returned (.int .i64 13) ∧ Fr none_ w w' := fun w h => by
        have := num01_any 13 w h
        rwa [errV_n (by omega)] at this
      have HN := Lib.hid hnum
      clear hnum n1 n2 n3 n4 n5
      have kcv : ∀ (W : World) (bb : Nat) (T : TypeId), W.heap[bb]? = some (.cells (zeroB.map byteV).toArray T (0, 0)) → (convert 32 9 (.slice (some ⟨bb, 0, none⟩) 64 64)).run Tryd.prog W = .ok (.string ⟨zeroB.toArray⟩) W := fun W bb T h => conv_bytes (P := Tryd.prog) Tryd.underlying32 Tryd.underlying5 Tryd.underlying9 (A := some ⟨bb, 0, none⟩) (n := 64) (c := 64) (l := zeroB) rfl (CellsAt.whole h) (fun h => by cases h)
      have hnw := heap_alloc_new
      have hb11 : w10.drew.heap[g]? = some (.cells (zeroB.map byteV).toArray 56 (0, 0)) := hb10
      refine wp_region_held_drew (S := fun w' => w'.heap[g]? = some (.cells (zeroB.map byteV).toArray 56 (0, 0))) (by kernel_rfl) hb11 (fun hHeld0 => ?_)
      refine wpAnyH_take (i := 0) (oi := _) (v := ?v1) rfl (by kernel_rfl) (by kernel_rfl) (by kernel_rfl) (fun _ _ _ h => h) (Or.inl ⟨by rfl, ?hy1⟩) (by assumption) ?rest1
      case hy1 => (intro w hSw; (try dsimp only at hSw); go_simp; try with_reducible rfl)
      try simp only [List.getElem_toArray, List.getElem_cons_zero, List.getElem_cons_succ, Act.put, List.setIfInBounds_toArray, List.set_cons_zero, List.set_cons_succ]
      refine wpAnyH_take (i := 1) (oi := _) (v := ?v2) rfl (by kernel_rfl) (by kernel_rfl) (by kernel_rfl) (fun _ _ _ h => h) (Or.inl ⟨by rfl, ?hy2⟩) (by assumption) ?rest2
      case hy2 => (intro w hSw; (try dsimp only at hSw); go_simp; try with_reducible rfl)
      try simp only [List.getElem_toArray, List.getElem_cons_zero, List.getElem_cons_succ, Act.put, List.setIfInBounds_toArray, List.set_cons_zero, List.set_cons_succ]
      refine wpAnyH_take (i := 2) (oi := _) (v := ?v3) rfl (by kernel_rfl) (by kernel_rfl) (by kernel_rfl) (fun _ _ _ h => h) (Or.inl ⟨by rfl, ?hy3⟩) (by assumption) ?rest3
      case hy3 => (intro w hSw; (try dsimp only at hSw); go_simp; try with_reducible rfl)
      try simp only [List.getElem_toArray, List.getElem_cons_zero, List.getElem_cons_succ, Act.put, List.setIfInBounds_toArray, List.set_cons_zero, List.set_cons_succ]
      refine wpAnyH_take (i := 3) (oi := _) (v := ?v4) rfl (by kernel_rfl) (by kernel_rfl) (by kernel_rfl) (fun _ _ _ h => h) (Or.inl ⟨by rfl, ?hy4⟩) (by assumption) ?rest4
      case hy4 => (intro w hSw; (try dsimp only at hSw); go_simp; try with_reducible rfl)
      try simp only [List.getElem_toArray, List.getElem_cons_zero, List.getElem_cons_succ, Act.put, List.setIfInBounds_toArray, List.set_cons_zero, List.set_cons_succ]
      refine wpAnyH_ready (rs := [4]) (by kernel_rfl) (by simp) ?_
      refine AllReadyH.cons (o := _) rfl (fun KK hKK => ?_) AllReadyH.nil
      go_simp
      (go_at_call 20; (with_reducible refine (HN.out w10.drew (hE10.fr0 hC0)).mono ?_); rintro e x1 ⟨rfl, hX1⟩; have hb12 := hX1.heap0 hb11)
      go_wp2_with fail
      refine hKK.out _ _ ?hS5 (fun hHeld5 => ?rest5)
      case hS5 => exact hb12
      clear hKK KK
      try simp only [List.getElem_toArray, List.getElem_cons_zero, List.getElem_cons_succ, Act.put, List.setIfInBounds_toArray, List.set_cons_zero, List.set_cons_succ]
      refine wpAnyH_take (i := 5) (oi := _) (v := ?v6) rfl (by kernel_rfl) (by kernel_rfl) (by kernel_rfl) (fun _ _ _ h => h) (Or.inl ⟨by rfl, ?hy6⟩) (by assumption) ?rest6
      case hy6 => (intro w hSw; (try dsimp only at hSw); go_simp; try with_reducible rfl)
      try simp only [List.getElem_toArray, List.getElem_cons_zero, List.getElem_cons_succ, Act.put, List.setIfInBounds_toArray, List.set_cons_zero, List.set_cons_succ]
      refine wpAnyH_take (i := 6) (oi := _) (v := ?v7) rfl (by kernel_rfl) (by kernel_rfl) (by kernel_rfl) (fun _ _ _ h => h) (Or.inl ⟨by rfl, ?hy7⟩) (by assumption) ?rest7
      case hy7 => (intro w hSw; (try dsimp only at hSw); go_simp; try with_reducible rfl)
      try simp only [List.getElem_toArray, List.getElem_cons_zero, List.getElem_cons_succ, Act.put, List.setIfInBounds_toArray, List.set_cons_zero, List.set_cons_succ]
      refine wpAnyH_take (i := 7) (oi := _) (v := ?v8) rfl (by kernel_rfl) (by kernel_rfl) (by kernel_rfl) (fun _ _ _ h => h) (Or.inl ⟨by rfl, ?hy8⟩) (by assumption) ?rest8
      case hy8 => (intro w hSw; (try dsimp only at hSw); go_simp; try with_reducible rfl)
      try simp only [List.getElem_toArray, List.getElem_cons_zero, List.getElem_cons_succ, Act.put, List.setIfInBounds_toArray, List.set_cons_zero, List.set_cons_succ]
      refine wpAnyH_take (i := 8) (oi := _) (v := ?v9) rfl (by kernel_rfl) (by kernel_rfl) (by kernel_rfl) (fun _ _ _ h => h) (Or.inl ⟨by rfl, ?hy9⟩) (by assumption) ?rest9
      case hy9 => (intro w hSw; (try dsimp only at hSw); go_simp; try with_reducible rfl)
      try simp only [List.getElem_toArray, List.getElem_cons_zero, List.getElem_cons_succ, Act.put, List.setIfInBounds_toArray, List.set_cons_zero, List.set_cons_succ]
      refine wpAnyH_ready (rs := [9]) (by kernel_rfl) (by simp) ?_
      refine AllReadyH.cons (o := _) rfl (fun KK hKK => ?_) AllReadyH.nil
      go_simp
      (go_at_call 20; (with_reducible refine (HN.out x1 (hE10.fr0 (hC0.trans hX1))).mono ?_); rintro e x2 ⟨rfl, hX2⟩; have hb13 := hX2.heap0 hb12; have ky := kcv (x2.alloc (.cells (zeroB.map byteV).toArray 5)) x2.heap.size 5 (heap_alloc_new x2 _))
      go_wp2_with fail
      refine hKK.out _ _ ?hS10 (fun hHeld10 => ?rest10)
      case hS10 => exact hb13
      clear hKK KK
      try simp only [List.getElem_toArray, List.getElem_cons_zero, List.getElem_cons_succ, Act.put, List.setIfInBounds_toArray, List.set_cons_zero, List.set_cons_succ]
      refine wpAnyH_take (i := 10) (oi := _) (v := ?v11) rfl (by kernel_rfl) (by kernel_rfl) (by kernel_rfl) (fun _ _ _ h => h) (Or.inl ⟨by rfl, ?hy11⟩) (by assumption) ?rest11
      case hy11 => (intro w hSw; (try dsimp only at hSw); go_simp; try with_reducible rfl)
      try simp only [List.getElem_toArray, List.getElem_cons_zero, List.getElem_cons_succ, Act.put, List.setIfInBounds_toArray, List.set_cons_zero, List.set_cons_succ]
      refine wpAnyH_take (i := 11) (oi := _) (v := ?v12) rfl (by kernel_rfl) (by kernel_rfl) (by kernel_rfl) (fun _ _ _ h => h) (Or.inl ⟨by rfl, ?hy12⟩) (by assumption) ?rest12
      case hy12 => (intro w hSw; (try dsimp only at hSw); go_simp; try with_reducible rfl)
      try simp only [List.getElem_toArray, List.getElem_cons_zero, List.getElem_cons_succ, Act.put, List.setIfInBounds_toArray, List.set_cons_zero, List.set_cons_succ]
      refine wpAnyH_take (i := 12) (oi := _) (v := ?v13) rfl (by kernel_rfl) (by kernel_rfl) (by kernel_rfl) (fun _ _ _ h => h) (Or.inl ⟨by rfl, ?hy13⟩) (by assumption) ?rest13
      case hy13 => (intro w hSw; (try dsimp only at hSw); go_simp; try with_reducible rfl)
      try simp only [List.getElem_toArray, List.getElem_cons_zero, List.getElem_cons_succ, Act.put, List.setIfInBounds_toArray, List.set_cons_zero, List.set_cons_succ]
      refine wpAnyH_take (i := 13) (oi := _) (v := ?v14) rfl (by kernel_rfl) (by kernel_rfl) (by kernel_rfl) (fun _ _ _ h => h) (Or.inl ⟨by rfl, ?hy14⟩) (by assumption) ?rest14
      case hy14 => (intro w hSw; (try dsimp only at hSw); go_simp; try with_reducible rfl)
      try simp only [List.getElem_toArray, List.getElem_cons_zero, List.getElem_cons_succ, Act.put, List.setIfInBounds_toArray, List.set_cons_zero, List.set_cons_succ]
      refine wpAnyH_take (i := 14) (oi := _) (v := ?v15) rfl (by kernel_rfl) (by kernel_rfl) (by kernel_rfl) (fun _ _ _ h => h) (Or.inl ⟨by rfl, ?hy15⟩) (by assumption) ?rest15
      case hy15 => (intro w hSw; (try dsimp only at hSw); go_simp; try with_reducible rfl)
      try simp only [List.getElem_toArray, List.getElem_cons_zero, List.getElem_cons_succ, Act.put, List.setIfInBounds_toArray, List.set_cons_zero, List.set_cons_succ]
      refine wpAnyH_take (i := 15) (oi := _) (v := ?v16) rfl (by kernel_rfl) (by kernel_rfl) (by kernel_rfl) (fun _ _ _ h => h) (Or.inl ⟨by rfl, ?hy16⟩) (by assumption) ?rest16
      case hy16 => (intro w hSw; (try dsimp only at hSw); go_simp; try with_reducible rfl)
      try simp only [List.getElem_toArray, List.getElem_cons_zero, List.getElem_cons_succ, Act.put, List.setIfInBounds_toArray, List.set_cons_zero, List.set_cons_succ]
      refine wpAnyH_take (i := 16) (oi := _) (v := ?v17) rfl (by kernel_rfl) (by kernel_rfl) (by kernel_rfl) (fun _ _ _ h => h) (Or.inl ⟨by rfl, ?hy17⟩) (by assumption) ?rest17
      case hy17 => (intro w hSw; (try dsimp only at hSw); go_simp; try with_reducible rfl)
      try simp only [List.getElem_toArray, List.getElem_cons_zero, List.getElem_cons_succ, Act.put, List.setIfInBounds_toArray, List.set_cons_zero, List.set_cons_succ]
      refine wpAnyH_take (i := 17) (oi := _) (v := ?v18) rfl (by kernel_rfl) (by kernel_rfl) (by kernel_rfl) (fun _ _ _ h => h) (Or.inl ⟨by rfl, ?hy18⟩) (by assumption) ?rest18
      case hy18 => (intro w hSw; (try dsimp only at hSw); go_simp; try with_reducible rfl)
      try simp only [List.getElem_toArray, List.getElem_cons_zero, List.getElem_cons_succ, Act.put, List.setIfInBounds_toArray, List.set_cons_zero, List.set_cons_succ]
      refine wpAnyH_take (i := 18) (oi := _) (v := ?v19) rfl (by kernel_rfl) (by kernel_rfl) (by kernel_rfl) (fun _ _ _ h => h) (Or.inl ⟨by rfl, ?hy19⟩) (by assumption) ?rest19
      case hy19 => (intro w hSw; (try dsimp only at hSw); go_simp; try with_reducible rfl)
      try simp only [List.getElem_toArray, List.getElem_cons_zero, List.getElem_cons_succ, Act.put, List.setIfInBounds_toArray, List.set_cons_zero, List.set_cons_succ]
      refine wpAnyH_ready (rs := [19]) (by kernel_rfl) (by simp) ?_
      refine AllReadyH.cons (o := _) rfl (fun KK hKK => ?_) AllReadyH.nil
      go_simp
      refine hKK.out _ _ ?hS20 (fun hHeld20 => ?rest20)
      case hS20 => exact heap_alloc_old hb13 _
      clear hKK KK
      try simp only [List.getElem_toArray, List.getElem_cons_zero, List.getElem_cons_succ, Act.put, List.setIfInBounds_toArray, List.set_cons_zero, List.set_cons_succ]
      refine wpAnyH_ready (rs := [20]) (by kernel_rfl) (by simp) ?_
      refine AllReadyH.cons (o := _) rfl (fun KK hKK => ?_) AllReadyH.nil
      go_simp
      refine hKK.out _ _ ?hS21 (fun hHeld21 => ?rest21)
      case hS21 => exact heap_alloc_old hb13 _
      clear hKK KK
      try simp only [List.getElem_toArray, List.getElem_cons_zero, List.getElem_cons_succ, Act.put, List.setIfInBounds_toArray, List.set_cons_zero, List.set_cons_succ]
      refine wpAnyH_take (i := 21) (oi := _) (v := ?v22) rfl (by kernel_rfl) (by kernel_rfl) (by kernel_rfl) (fun _ _ _ h => h) (Or.inl ⟨by rfl, ?hy22⟩) (by assumption) ?rest22
      case hy22 => (intro w hSw; (try dsimp only at hSw); go_simp; try with_reducible rfl)
      try simp only [List.getElem_toArray, List.getElem_cons_zero, List.getElem_cons_succ, Act.put, List.setIfInBounds_toArray, List.set_cons_zero, List.set_cons_succ]
      refine wpAnyH_take (i := 22) (oi := _) (v := ?v23) rfl (by kernel_rfl) (by kernel_rfl) (by kernel_rfl) (fun _ _ _ h => h) (Or.inl ⟨by rfl, ?hy23⟩) (by assumption) ?rest23
      case hy23 => (intro w hSw; (try dsimp only at hSw); go_simp; try with_reducible rfl)
      try simp only [List.getElem_toArray, List.getElem_cons_zero, List.getElem_cons_succ, Act.put, List.setIfInBounds_toArray, List.set_cons_zero, List.set_cons_succ]
      refine wpAnyH_take (i := 23) (oi := _) (v := ?v24) rfl (by kernel_rfl) (by kernel_rfl) (by kernel_rfl) (fun _ _ _ h => h) (Or.inl ⟨by rfl, ?hy24⟩) (by assumption) ?rest24
      case hy24 => (intro w hSw; (try dsimp only at hSw); go_simp; try with_reducible rfl)
      try simp only [List.getElem_toArray, List.getElem_cons_zero, List.getElem_cons_succ, Act.put, List.setIfInBounds_toArray, List.set_cons_zero, List.set_cons_succ]
      refine wpAnyH_take (i := 24) (oi := _) (v := ?v25) rfl (by kernel_rfl) (by kernel_rfl) (by kernel_rfl) (fun _ _ _ h => h) (Or.inl ⟨by rfl, ?hy25⟩) (by assumption) ?rest25
      case hy25 => (intro w hSw; (try dsimp only at hSw); go_simp; try with_reducible rfl)
      try simp only [List.getElem_toArray, List.getElem_cons_zero, List.getElem_cons_succ, Act.put, List.setIfInBounds_toArray, List.set_cons_zero, List.set_cons_succ]
      refine wpAnyH_ready (rs := [25]) (by kernel_rfl) (by simp) ?_
      refine AllReadyH.cons (o := _) rfl (fun KK hKK => ?_) AllReadyH.nil
      go_simp
      (go_at_call 21; (with_reducible refine (islost_any (hW10.dev.fr0 (((hC0.trans hX1).trans hX2).alloc (.cells (zeroB.map byteV).toArray 5)))).mono ?_); rintro e x3 ⟨rfl, rfl⟩; rw [n6])
      go_wp2_with fail
      refine hKK.out _ _ ?hS26 (fun hHeld26 => ?rest26)
      case hS26 => exact heap_alloc_old hb13 _
      clear hKK KK
      try simp only [List.getElem_toArray, List.getElem_cons_zero, List.getElem_cons_succ, Act.put, List.setIfInBounds_toArray, List.set_cons_zero, List.set_cons_succ]
      refine wpAnyH_take (i := 26) (oi := _) (v := ?v27) rfl (by kernel_rfl) (by kernel_rfl) (by kernel_rfl) (fun _ _ _ h => h) (Or.inl ⟨by rfl, ?hy27⟩) (by assumption) ?rest27
      case hy27 => (intro w hSw; (try dsimp only at hSw); go_simp; try with_reducible rfl)
      try simp only [List.getElem_toArray, List.getElem_cons_zero, List.getElem_cons_succ, Act.put, List.setIfInBounds_toArray, List.set_cons_zero, List.set_cons_succ]
      refine wpAnyH_take (i := 27) (oi := _) (v := ?v28) rfl (by kernel_rfl) (by kernel_rfl) (by kernel_rfl) (fun _ _ _ h => h) (Or.inl ⟨by rfl, ?hy28⟩) (by assumption) ?rest28
      case hy28 => (intro w hSw; (try dsimp only at hSw); go_simp; try with_reducible rfl)
      try simp only [List.getElem_toArray, List.getElem_cons_zero, List.getElem_cons_succ, Act.put, List.setIfInBounds_toArray, List.set_cons_zero, List.set_cons_succ]
      refine wpAnyH_take (i := 28) (oi := _) (v := ?v29) rfl (by kernel_rfl) (by kernel_rfl) (by kernel_rfl) (fun _ _ _ h => h) (Or.inl ⟨by rfl, ?hy29⟩) (by assumption) ?rest29
      case hy29 => (intro w hSw; (try dsimp only at hSw); go_simp; try with_reducible rfl)
      try simp only [List.getElem_toArray, List.getElem_cons_zero, List.getElem_cons_succ, Act.put, List.setIfInBounds_toArray, List.set_cons_zero, List.set_cons_succ]
      refine wpAnyH_ready (rs := [29]) (by kernel_rfl) (by simp) ?_
      refine AllReadyH.cons (o := _) rfl (fun KK hKK => ?_) AllReadyH.nil
      go_simp
      (go_at_call 14; (with_reducible refine (dsure_any _).mono ?_); rintro e x4 ⟨rfl, hX4⟩; have hb15 := hX4.heap0 (heap_alloc_old hb13 (.cells (zeroB.map byteV).toArray 5)))
      go_wp2_with fail
      refine hKK.out _ _ ?hS30 (fun hHeld30 => ?rest30)
      case hS30 => exact hb15
      clear hKK KK
      try simp only [List.getElem_toArray, List.getElem_cons_zero, List.getElem_cons_succ, Act.put, List.setIfInBounds_toArray, List.set_cons_zero, List.set_cons_succ]
      refine wpAnyH_take (i := 30) (oi := _) (v := ?v31) rfl (by kernel_rfl) (by kernel_rfl) (by kernel_rfl) (fun _ _ _ h => h) (Or.inl ⟨by rfl, ?hy31⟩) (by assumption) ?rest31
      case hy31 => (intro w hSw; (try dsimp only at hSw); go_simp; try with_reducible rfl)
      try simp only [List.getElem_toArray, List.getElem_cons_zero, List.getElem_cons_succ, Act.put, List.setIfInBounds_toArray, List.set_cons_zero, List.set_cons_succ]
      refine wpAnyH_take (i := 31) (oi := _) (v := ?v32) rfl (by kernel_rfl) (by kernel_rfl) (by kernel_rfl) (fun _ _ _ h => h) (Or.inl ⟨by rfl, ?hy32⟩) (by assumption) ?rest32
      case hy32 => (intro w hSw; (try dsimp only at hSw); go_simp; try with_reducible rfl)
      try simp only [List.getElem_toArray, List.getElem_cons_zero, List.getElem_cons_succ, Act.put, List.setIfInBounds_toArray, List.set_cons_zero, List.set_cons_succ]
      refine wpAnyH_done (by kernel_rfl) ?_ _
      go_wp2
      go_ret
      exact ⟨rfl, (hW10.fr.trans (((hC0.trans hX1).trans hX2).alloc (.cells (zeroB.map byteV).toArray 5))).trans hX4⟩
end Go.Proofs.YtniiokhkmdknaaaDoor

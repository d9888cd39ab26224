import Derived.Test.YtagioimkpdcokaaDoorLawNum01
import Derived.Deep.OwnRows
namespace Go.Proofs.YtagioimkpdcokaaDoor
open Go.RowKit
set_option linter.unusedVariables false
set_option linter.unusedSimpArgs false
theorem padB_len' {l : List UInt8} (h : l.length ≤ 64) : (padB l).length = 64 := by simp [padB]; omega
theorem dw_at (s : Int) (b : List UInt8) (k : Nat) (hk : k < 3) : ((newD 3).write s b).atE k = 0 := by
  have h0 : ∀ D : DevS, D.sectors = 3 → D.crashed = false → D.lost = false → D.atE k = 0 := fun D h1 h2 h3 => by
    unfold DevS.atE DevS.down
    rw [h1, h2, h3]; simp; omega
  unfold DevS.write
  split
  · exact h0 _ rfl rfl rfl
  · rw [if_neg (by simp [newD])]
    exact h0 _ rfl rfl rfl
/-- The error that is wanted. -/
def dwE (s : Int) (b : List UInt8) : Int := if s < 0 ∨ 2 < s then 4 else if 64 < b.length then 2 else 0
theorem dw_E (s : Int) (b : List UInt8) : (newD 3).writeE s b.length = dwE s b := by
  have hd : (newD 3).down = false := rfl
  have ha : ¬ ((newD 3).armed = true ∧ (newD 3).left = 0) := by simp [newD]
  have hs : (newD 3).sectors = 3 := rfl
  unfold DevS.writeE dwE DevS.atE
  rw [hd, hs, if_neg ha]
  by_cases h : s < 0 ∨ 2 < s
  · have h2 : s < 0 ∨ 3 ≤ s := by omega
    simp [h, h2]
  · have h2 : ¬ (s < 0 ∨ 3 ≤ s) := by omega
    simp [h, h2]
theorem dw_get (s : Int) (b : List UInt8) (k : Nat) : ((newD 3).write s b).get k = if (k : Int) = s ∧ dwE s b = 0 then padB b else zeroB := by
  have h1 := dw_E s b
  by_cases hE : dwE s b = 0
  · have h2 : (newD 3).write s b = (newD 3).put s b := by
      unfold DevS.write
      unfold dwE at hE
      have hd : (newD 3).down = false := rfl
      have hs : (newD 3).sectors = 3 := rfl
      split at hE
      · omega
      · split at hE
        · omega
        · rw [if_neg, if_neg (by simp [newD])]
          unfold DevS.atE
          rw [hd, hs]
          simp
          omega
    rw [h2, hE]
    unfold DevS.get DevS.put
    simp only [mget_mset]
    by_cases hk : (k : Int) = s
    · simp [hk]
    · simp [hk]; rfl
  · rw [if_neg (by simp [hE])]
    have h2 : (newD 3).write s b = newD 3 := by
      unfold DevS.write
      unfold dwE at hE
      have hd : (newD 3).down = false := rfl
      have hs : (newD 3).sectors = 3 := rfl
      rw [if_pos]
      unfold DevS.atE
      rw [hd, hs]
      by_cases h : s < 0 ∨ 2 < s
      · have h2 : s < 0 ∨ 3 ≤ s := by omega
        simp [h2]
      · rw [if_neg h] at hE
        by_cases hl : 64 < b.length
        · exact .inr hl
        · rw [if_neg hl] at hE; omega
    rw [h2]; rfl
theorem info_u8z : (Tryd.prog.info? 5).map (fun i => (i.zero, i.size, i.bytes)) = some (some (.int .u8 0), 1, 1) := by kernel_rfl
theorem made64 : madeCells #[Value.int .u8 0] 64 = (zeroB.map byteV).toArray := by kernel_rfl
theorem mk64 (w : World) : (Instr.makeSlice 40 (.int .i64 64) (.int .i64 64)).run Tryd.prog w = .ok (.slice (some ⟨w.heap.size, 0, none⟩) 64 64) (w.alloc (.cells (zeroB.map byteV).toArray 5)) := by
  have h := run_make_row' (P := Tryd.prog) 40 5 (.int .u8 0) 1 Tryd.underlying40 info_u8z rfl .i64 .i64 64 (by omega) (by omega) w
  rw [made64] at h
  exact h
structure Wd (w wr : World) (p m1 m2 : Nat) (D : DevS) : Prop where
  fr : Fr none_ w wr
  dev : DevAt wr p m1 m2 D
  new : ∀ i, devBlks p m1 m2 i → w.heap.size ≤ i
theorem Wd.step {w wr w' : World} {p m1 m2 : Nat} {D D' : DevS} (h : Wd w wr p m1 m2 D) (hF : Fr (devBlks p m1 m2) wr w') (hD : DevAt w' p m1 m2 D') : Wd w w' p m1 m2 D' :=
  ⟨h.fr.trans' hF (fun k hk hs => by have := h.new k hs; omega), hD, h.new⟩
theorem Wd.step0 {w wr w' : World} {p m1 m2 : Nat} {D : DevS} (h : Wd w wr p m1 m2 D) (hF : Fr none_ wr w') : Wd w w' p m1 m2 D := h.step (Fr.of0 hF) (h.dev.fr0 hF)
theorem Wd.apart {w wr : World} {p m1 m2 : Nat} {D : DevS} (h : Wd w wr p m1 m2 D) {A : Option Addr} {vs : List Value} (hA : CellsAt w A vs) : ∀ b, blkOf A b → 0 < vs.length → ¬ devBlks p m1 m2 b := fun b hb hv hd => by
  have := hA.lt hb hv; have := h.new b hd; omega
set_option maxHeartbeats 2000000 in
set_option maxRecDepth 100000 in
theorem writes_walk (s : Int) (A : Option Addr) (n c : Nat) (b : List UInt8) (w : World) (hg : ErrT w) (hn : n = b.length) (hA : CellsAt w A (b.map byteV)) :
    Calls Tryd.prog 9 #[.int .i64 s, .slice A n c] w fun e w' => e = .returned (.bool true) ∧ Fr none_ w w' := by
  subst hn
  have kmk := mk64
  go_enter Tryd.func9, Tryd.ntmps9
  go_wp2_with fail
  (with_reducible refine (new_ok 3 _ (by decide) (by decide)).mono ?_)
  rintro e w1 ⟨p, m1, m2, rfl, hF1, hD1, hfr⟩
  rw [errV_0]
  have hW1 : Wd w w1 p m1 m2 (newD 3) := ⟨hF1, hD1, hfr⟩
  clear hF1 hD1 hfr
  go_wp2_with fail
  (with_reducible refine (write_any hW1.dev s _ _ _ b rfl (hA.fr0 hW1.fr) (fun x hx hv => hW1.apart hA x hx (by simpa using hv))).mono ?_)
  rintro e w2 ⟨rfl, hF2, hD2⟩
  rw [dw_E]
  have hW2 := hW1.step hF2 hD2
  clear hW1 hF2 hD2
  obtain ⟨E, hE⟩ : ∃ E, E = dwE s b := ⟨_, rfl⟩
  rw [← hE]
  have hget := fun k => dw_get s b k
  rw [← hE] at hget
  have HG := Lib.hid hget
  have hat := Lib.hid (fun k hk => dw_at s b k hk)
  generalize (newD 3).write s b = D at *
  have hcs : (s < 0 ∨ 2 < s) ∧ E = 4 ∨ (¬ s < 0 ∧ ¬ 2 < s) ∧ 64 < b.length ∧ E = 2 ∨ (¬ s < 0 ∧ ¬ 2 < s) ∧ ¬ 64 < b.length ∧ E = 0 := by
    rw [hE]; unfold dwE
    by_cases h : s < 0 ∨ 2 < s
    · exact .inl ⟨h, if_pos h⟩
    · rw [if_neg h]
      by_cases hl : 64 < b.length
      · exact .inr (.inl ⟨by omega, hl, if_pos hl⟩)
      · exact .inr (.inr ⟨by omega, hl, if_neg hl⟩)
  clear hE hget
  have hz : (s < 0 ∧ E = 4) ∨ ((¬ s < 0 ∧ 2 < s) ∧ E = 4) ∨ ((¬ s < 0 ∧ ¬ 2 < s) ∧ 64 < (b.length : Int) ∧ E = 2) ∨ ((¬ s < 0 ∧ ¬ 2 < s) ∧ ¬ 64 < (b.length : Int) ∧ E = 0) := by omega
  clear hcs
  have hzz : E = 0 ∨ E ≠ 0 := by omega
  rcases hzz with rfl | hne
  · have hlen : b.length ≤ 64 := by omega
    obtain ⟨hs, hs2, hl⟩ : ¬ s < 0 ∧ ¬ 2 < s ∧ ¬ 64 < (b.length : Int) := by omega
    clear hz
    rw [errV_0]
    go_wp2_with fail
    go_loopw [9] (fun i wr => ∃ k : Nat, k ≤ 3 ∧ i = .int .i64 k ∧ Wd w wr p m1 m2 D) (fun i _ => 3 - (intOf i).toNat)
    case atStart => exact ⟨0, by omega, rfl, hW2⟩
    case round =>
      clear hW2
      obtain ⟨k, hk, rfl, hR⟩ := hrel
      by_cases hlt : k < 3
      · go_wp2_with fail
        (with_reducible refine (read_ok hR.dev k (hat.out k hlt)).mono ?_)
        rintro e w3 ⟨g, rfl, hgg, hF3, hb3⟩
        rw [errV_0]
        have hR3 := hR.step0 hF3
        have hgk := HG.out k
        clear hR hF3
        have hn3 := blk_lt hb3
        have hby := heap_alloc_new w3 (.cells (zeroB.map byteV).toArray 5)
        have hbx := heap_alloc_old hb3 (.cells (zeroB.map byteV).toArray 5)
        by_cases hks : (k : Int) = s
        · have hgk : D.get k = padB b := by rw [hgk]; simp [hks]
          rw [hgk] at hbx
          clear hb3
          have hA4 := hA.fr0 (hR3.fr.alloc (.cells (zeroB.map byteV).toArray 5))
          go_wp2_with ((with_reducible refine at_copy (.tmp 56) (.tmp 57) 40 40 5 Tryd.underlying40 size_u8 (g := w3.heap.size) (off := 0) (dLen := 64) (dCap := 64) (sLen := b.length) (sCap := c) (A := A) (cur := zeroB.map byteV) (cs := b.map byteV) (t := 5) ?_ ?_ ?_ ?_ ?_ ?_ ?_ ?_); (focus rfl); (focus rfl); (focus exact hby); (focus simp [Nat.min_def]; omega); (focus exact hA4); (focus simp [zeroB]; omega); (focus exact by simpa using blk_oneCell b); intro w5 hF5 hb5; have hF35 : Fr none_ w3 w5 := ((Fr.refl _ _).alloc _).own hF5 (Nat.le_refl _); rw [pad_eq b hlen] at hb5; have hbx5 := hF5.heap hbx (fun e => by omega); have k1 := conv_bytes (P := Tryd.prog) Tryd.underlying40 Tryd.underlying5 Tryd.underlying9 (A := some ⟨g, 0, none⟩) (n := 64) (c := 64) (l := padB b) (padB_len' hlen).symm (CellsAt.whole hbx5) (fun h => by cases h); have k2 := conv_bytes (P := Tryd.prog) Tryd.underlying40 Tryd.underlying5 Tryd.underlying9 (A := some ⟨w3.heap.size, 0, none⟩) (n := 64) (c := 64) (l := padB b) (padB_len' hlen).symm (CellsAt.whole hb5) (fun h => by cases h); have HW := hR3.step0 hF35; clear hF5 hb5 hby hbx hbx5 hF35 hR3 hA4)
          go_roundw
          case rel => exact ⟨k + 1, by omega, by go_num, HW⟩
          case measure => simp [intOf]; omega
        · have hgk : D.get k = zeroB := by rw [hgk]; simp [hks]
          rw [hgk] at hbx
          clear hb3
          have k1 := conv_bytes (P := Tryd.prog) Tryd.underlying40 Tryd.underlying5 Tryd.underlying9 (A := some ⟨g, 0, none⟩) (n := 64) (c := 64) (l := zeroB) rfl (CellsAt.whole hbx) (fun h => by cases h)
          have k2 := conv_bytes (P := Tryd.prog) Tryd.underlying40 Tryd.underlying5 Tryd.underlying9 (A := some ⟨w3.heap.size, 0, none⟩) (n := 64) (c := 64) (l := zeroB) rfl (CellsAt.whole hby) (fun h => by cases h)
          have HW := hR3.step0 ((Fr.refl _ _).alloc (.cells (zeroB.map byteV).toArray 5))
          clear hby hbx hR3
          go_wp2_with fail
          go_roundw
          case rel => exact ⟨k + 1, by omega, by go_num, HW⟩
          case measure => simp [intOf]; omega
      · go_wp2_with fail
        (with_reducible refine ((errV_0 ▸ num01_any 0 _ (hg.fr0 hR.fr) : Calls Tryd.prog 40 #[.nilIface] wr fun e w' => e = .returned (.int .i64 0) ∧ Fr none_ wr w')).mono ?_)
        rintro e w3 ⟨rfl, hF3⟩
        go_wp2_with fail
        (with_reducible refine (dsure_any _).mono ?_)
        rintro e w4 ⟨rfl, hF4⟩
        go_wp2_with fail
        go_ret
        exact ⟨rfl, (hR.fr.trans hF3).trans hF4⟩
  · have hne2 : ¬ (E : Int) = 0 := hne
    have hget : ∀ k : Nat, D.get k = zeroB := fun k => by rw [HG.out k]; simp [hne]
    have HZ := Lib.hid hget
    clear hget HG
    rcases hz with ⟨hs, rfl⟩ | ⟨⟨hs, hs2⟩, rfl⟩ | ⟨⟨hs, hs2⟩, hl, rfl⟩ | ⟨_, _, hz0⟩
    rotate_left 3
    · exact absurd hz0 hne
    all_goals
      clear hne hne2
      go_wp2_with fail
      go_loopw [9] (fun i wr => ∃ k : Nat, k ≤ 3 ∧ i = .int .i64 k ∧ Wd w wr p m1 m2 D) (fun i _ => 3 - (intOf i).toNat)
      case atStart => exact ⟨0, by omega, rfl, hW2⟩
      case round =>
        clear hW2
        obtain ⟨k, hk, rfl, hR⟩ := hrel
        by_cases hlt : k < 3
        · go_wp2_with fail
          (with_reducible refine (read_ok hR.dev k (hat.out k hlt)).mono ?_)
          rintro e w3 ⟨g, rfl, hgg, hF3, hb3⟩
          rw [errV_0]
          have hR3 := hR.step0 hF3
          rw [HZ.out k] at hb3
          clear hR hF3
          have hn3 := blk_lt hb3
          have hby := heap_alloc_new w3 (.cells (zeroB.map byteV).toArray 5)
          have hbx := heap_alloc_old hb3 (.cells (zeroB.map byteV).toArray 5)
          clear hb3
          have k1 := conv_bytes (P := Tryd.prog) Tryd.underlying40 Tryd.underlying5 Tryd.underlying9 (A := some ⟨g, 0, none⟩) (n := 64) (c := 64) (l := zeroB) rfl (CellsAt.whole hbx) (fun h => by cases h)
          have k2 := conv_bytes (P := Tryd.prog) Tryd.underlying40 Tryd.underlying5 Tryd.underlying9 (A := some ⟨w3.heap.size, 0, none⟩) (n := 64) (c := 64) (l := zeroB) rfl (CellsAt.whole hby) (fun h => by cases h)
          have HW := hR3.step0 ((Fr.refl _ _).alloc (.cells (zeroB.map byteV).toArray 5))
          clear hby hbx hR3
          by_cases hks : (k : Int) = s
          all_goals
            go_wp2_with fail
            go_roundw
            case rel => exact ⟨k + 1, by omega, by go_num, HW⟩
            case measure => simp [intOf]; omega
        · go_wp2_with fail
          (with_reducible refine (num01_any _ _ (hg.fr0 hR.fr)).mono ?_)
          rintro e w3 ⟨rfl, hF3⟩
          go_wp2_with fail
          (with_reducible refine (dsure_any _).mono ?_)
          rintro e w4 ⟨rfl, hF4⟩
          go_wp2_with fail
          go_ret
          exact ⟨rfl, (hR.fr.trans hF3).trans hF4⟩
end Go.Proofs.YtagioimkpdcokaaDoor

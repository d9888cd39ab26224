import Derived.Test.YthkcmafflbpfoaaLog11
namespace Go.Proofs.Ythkcmafflbpfoaa
open Go.RowKit
set_option linter.unusedVariables false
set_option linter.unusedSimpArgs false
set_option maxRecDepth 100000

/-! drydocklaw16.sure -/
def z10 : List UInt8 := List.replicate 10 0
theorem mk10 (w : World) : (Instr.makeSlice 36 (.int .i64 10) (.int .i64 10)).run Try.prog w = .ok (.slice (some ⟨w.heap.size, 0, none⟩) 10 10) (w.alloc (.cells (z10.map byteV).toArray 5)) := by
  obtain ⟨i, hi, hzz⟩ := Option.map_eq_some_iff.1 info_u8g
  simp only [Prod.mk.injEq] at hzz
  obtain ⟨hz, hs, hb⟩ := hzz
  have h := run_make (P := Try.prog) w 36 5 i _ Try.underlying36 hi hz .i64 .i64 10 10 (by omega) (by omega) (by rw [hb]; omega) (by omega)
  rw [hs] at h
  rw [show (z10.map byteV).toArray = madeCells (Value.int .u8 0).cells ((10 : Int).toNat * 1) by kernel_rfl]
  exact h
def lsA : LogS := ⟨0, 4, 0, 1, [1], 0⟩
theorem ls_tag : (ringB (newD 4) 0 4 0 4).take 8 ≠ tagL 1 := by
  have h : ((ringB (newD 4) 0 4 0 4).take 8 == tagL 1) = false := by kernel_rfl
  intro he
  rw [he] at h
  simp at h
theorem ls_any : anyD (ringB (newD 4) 0 4 0 4) 4 = false := by kernel_rfl
theorem ls_cl : clN (newD 4) (logO 0 4 0 1) 0 (ringB (newD 4) 0 4 0 4) 4 = newD 4 := by kernel_rfl
theorem ls_clF : cleanF (newD 4) (logO 0 4 0 1) 0 (ringB (newD 4) 0 4 0 4) 4 = newD 4 := by unfold cleanF; rw [ls_any, ls_cl]; rfl
theorem ls_len : (seaB z10 1).length = 16 := by kernel_rfl
theorem ls_need : needF 10 1 = 1 := by unfold needF; rw [if_neg (by decide)]; show secN (seaB z10 1).length = 1; rw [ls_len]; rfl
theorem ls_up : (apN (newD 4) (logO 0 4 0 1) 0 1 (seaB z10 1) 1).down = false := by kernel_rfl
set_option maxHeartbeats 8000000 in
theorem lsure_any (w : World) : Calls Try.prog 13 #[] w fun e w' => e = .returned (.bool true) ∧ Fr none_ w w' := by
  have kmk := mk10
  go_enter Try.func13, Try.ntmps13
  go_wp2_with fail
  (with_reducible refine (new_ok 4 _ (by decide) (by decide)).mono ?_)
  rintro e w1 ⟨p, m1, m2, rfl, hF1, hD1, hfr⟩
  rw [errV_0]
  have hop : Calls Try.prog 5 #[ptr p, .agg #[.int .i64 0, .int .i64 4], .int .i64 0, .int .i64 1] w1 fun e w' => Opened0 w1 p m1 m2 (newD 4) 0 4 0 1 e w' := open_none hD1 rfl 0 4 0 1 (by decide) (by decide) (by decide) (by decide) (by decide) ls_tag
  have HOP := Lib.hid hop
  clear hop
  go_wp2_with fail
  (with_reducible refine HOP.out.mono ?_)
  rintro e w2 ⟨⟨b, rfl, hL2, hb2, hns⟩, hD2, hF2⟩
  rw [ls_cl, show (newD 4).down = false from rfl, if_neg (by decide), errV_0]
  rw [ls_clF] at hD2
  have hFz := (Fr.refl none_ w2).alloc (.cells (z10.map byteV).toArray 5)
  have hc1 : CellsAt (w2.alloc (.cells (z10.map byteV).toArray 5)) (some ⟨w2.heap.size, 0, none⟩) (z10.map byteV) := CellsAt.whole (heap_alloc_new _ _)
  have hap : Calls Try.prog 11 #[ptr b, .slice (some ⟨w2.heap.size, 0, none⟩) 10 10] (w2.alloc (.cells (z10.map byteV).toArray 5)) fun e w' => Appended (w2.alloc (.cells (z10.map byteV).toArray 5)) p m1 m2 b (logO 0 4 0 1) (newD 4) 1 1 (seaB z10 1) e w' :=
    append_ok (hL2.fr0 hFz) rfl (hD2.fr0 hFz) (by decide) (some ⟨w2.heap.size, 0, none⟩) 10 10 z10 rfl hc1 (fun h => by cases h) (by decide) 1 rfl (by decide) (by decide) 1 (by rw [ls_len]; rfl) ls_need.symm (by decide) (by decide)
  have HAP := Lib.hid hap
  clear hap hc1
  go_wp2_with fail
  (with_reducible refine HAP.out.mono ?_)
  rintro e w3 ⟨hres, hD3, hF3⟩
  replace hres := hres.resolve_right (fun hb => by have h1 := ls_up; have h2 := hb.1; rw [show sumN (logO 0 4 0 1).sizes = 0 from rfl, h1] at h2; cases h2)
  obtain ⟨_, rfl, hL3⟩ := hres
  rw [show ((1 : Nat) : Int) = 1 from rfl]
  have hL3 : LogAt w3 b p lsA := hL3
  have hfree : ∀ W, Fr none_ w3 W → Calls Try.prog 24 #[ptr b] W fun e w' => e = .returned (.int .i64 3) ∧ Fr none_ W w' := fun W hF => free_any (hL3.fr0 hF)
  have hnext : ∀ W, Fr none_ w3 W → Calls Try.prog 20 #[ptr b] W fun e w' => e = .returned (.int .i64 2) ∧ Fr none_ W w' := fun W hF => next_any (hL3.fr0 hF)
  have HFREE := Lib.hid hfree
  have HNEXT := Lib.hid hnext
  clear hfree hnext
  go_wp2_with fail
  (with_reducible refine (HFREE.out w3 (Fr.refl _ _)).mono ?_)
  rintro e w4 ⟨rfl, hF4⟩
  go_wp2_with fail
  (with_reducible refine (HNEXT.out w4 hF4).mono ?_)
  rintro e w5 ⟨rfl, hF5⟩
  go_wp2_with fail
  go_ret
  have hF12 : Fr none_ w w2 := hF1.trans' hF2 (fun k hk e => absurd (hfr k e) (by omega))
  have hF13 := hF12.alloc (.cells (z10.map byteV).toArray 5)
  refine ⟨rfl, ((hF13.trans' hF3 (fun k hk e => ?_)).trans hF4).trans hF5⟩
  rcases e with e | e | e
  · have := hfr k e; omega
  · have := hF1.size; omega
  · obtain ⟨l, p', v, h1, h2⟩ := e
    have hbl : b < w2.heap.size := by obtain ⟨⟨v', h', _⟩, _⟩ := hL2; exact blk_lt h'
    rw [Below.heap_alloc w2 _ b hbl] at h1
    exact hns k ⟨l, p', v, h1, h2⟩
end Go.Proofs.Ythkcmafflbpfoaa

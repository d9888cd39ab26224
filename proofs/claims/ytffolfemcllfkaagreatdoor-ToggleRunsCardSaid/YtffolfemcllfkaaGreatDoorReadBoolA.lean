import Derived.Test.YtffolfemcllfkaaGreatDoorReaderM
namespace Go.Proofs.YtffolfemcllfkaaGreatDoor
open Go.RowKit
set_option linter.unusedVariables false
set_option linter.unusedSimpArgs false

/-! pack: Reader.Bool at any bytes -/
def RBl (w : World) (p : Nat) (l : List UInt8) (e : Int) (en : Ending) (w' : World) : Prop := en = .returned (.bool (boolV l e)) ∧ Fr (fun i => i = p) w w' ∧ ReaderAt w' p (boolL l e) (boolE l e)
theorem rbool_bad {w : World} {p : Nat} {l : List UInt8} {e : Int} (h : ReaderAt w p l e) (he : e ≠ 0) :
    Calls Tryz.prog 104 #[ptr p] w fun en w' => en = .returned (.bool false) ∧ w = w' := by
  have hd : decide (e ≠ 0) = true := by simp [he]
  go_enter Tryz.func104, Tryz.ntmps104
  go_wp2_with fail
  (with_reducible refine (stuck_any h).mono ?_)
  rintro en w1 ⟨rfl, rfl⟩
  rw [hd]
  go_wp2_with fail
  (with_reducible refine (off_bad h he 1).mono ?_)
  rintro en w1 ⟨rfl, rfl⟩
  go_wp2_with fail
  go_ret
  exact ⟨rfl, rfl⟩
theorem rbool_end {w : World} {p : Nat} (h : ReaderAt w p [] 0) :
    Calls Tryz.prog 104 #[ptr p] w fun en w' => en = .returned (.bool false) ∧ Fr (fun i => i = p) w w' ∧ ReaderAt w' p [] 12 := by
  obtain ⟨⟨A, c, hb, hA, hc, hnil, hap⟩, hmo⟩ := id h
  have c0 : w.cell? ⟨p, 0, none⟩ = some (.slice A 0 c) := by rw [cell_of_blk hb]; rfl
  have ho : Calls Tryz.prog 157 #[ptr p, .int .i64 1] w fun en w' => en = .returned (.slice none 0 0) ∧ Fr (fun i => i = p) w w' ∧ ReaderAt w' p [] 12 := off_end h 1 (by decide)
  have HO := Lib.hid ho
  clear hb hA hnil hap ho
  go_enter Tryz.func104, Tryz.ntmps104
  go_wp2_with fail
  (with_reducible refine (stuck_any h).mono ?_)
  rintro en w1 ⟨rfl, rfl⟩
  go_wp2_with fail
  (with_reducible refine HO.out.mono ?_)
  rintro en w1 ⟨rfl, hF, hR⟩
  go_wp2_with fail
  go_ret
  exact ⟨rfl, hF, hR⟩
set_option maxRecDepth 100000 in
theorem rbool_form {w : World} {p : Nat} {x : UInt8} {l : List UInt8} (h : ReaderAt w p (x :: l) 0) (hx : 1 < x) :
    Calls Tryz.prog 104 #[ptr p] w fun en w' => en = .returned (.bool false) ∧ Fr (fun i => i = p) w w' ∧ ReaderAt w' p (x :: l) 3 := by
  obtain ⟨⟨A, c, hb, hA, hc, hnil, hap⟩, hmo⟩ := id h
  obtain ⟨ba, oa, rfl⟩ := hA.addr (by simp)
  have c0 : w.cell? ⟨p, 0, none⟩ = some (.slice (some ⟨ba, oa, none⟩) (l.length + 1) c) := by rw [cell_of_blk hb]; rfl
  have cb : w.cell? ⟨ba, oa, none⟩ = some (.int .u8 (x.toNat : Int)) := hA.get 0 (by simp)
  have hx1 : 1 < x.toNat := hx
  have hx2 : (1 : Int) < (x.toNat : Int) := by omega
  have q0 : (0 : Int) < (l.length : Int) + 1 := by omega
  have c1 : w.cell? ⟨p, 1, none⟩ = some .nilIface := by rw [cell_of_blk hb]; rfl
  have f1 := frozen_of_blk hb 1
  have hbd := h.bad 3
  rw [errV_n (by omega)] at hbd
  have HB := Lib.hid hbd
  have ho : Calls Tryz.prog 157 #[ptr p, .int .i64 1] _ fun en w' => en = .returned (.slice none 0 0) ∧ _ = w' := off_bad hbd.2 (by decide) 1
  have HO := Lib.hid ho
  clear hb hA hnil hap ho hbd
  go_enter Tryz.func104, Tryz.ntmps104
  go_wp2_with fail
  (with_reducible refine (stuck_any h).mono ?_)
  rintro en w1 ⟨rfl, rfl⟩
  go_wp2_with fail
  (with_reducible refine HO.out.mono ?_)
  rintro en w1 ⟨rfl, rfl⟩
  go_wp2_with fail
  go_ret
  exact ⟨rfl, HB.out.1, HB.out.2⟩
theorem rbool_any {w : World} {p : Nat} {l : List UInt8} {e : Int} (h : ReaderAt w p l e) : Calls Tryz.prog 104 #[ptr p] w fun en w' => RBl w p l e en w' := by
  by_cases he : e = 0
  · subst he
    cases l with
    | nil => exact (rbool_end h).mono (fun en w' ⟨h1, h2, h3⟩ => ⟨h1, h2, h3⟩)
    | cons x l =>
      by_cases hx : 1 < x
      · refine (rbool_form h hx).mono (fun en w' ⟨h1, h2, h3⟩ => ?_)
        have e1 : boolE (x :: l) 0 = 3 := by unfold boolE; simp [hx]
        have e2 : boolL (x :: l) 0 = x :: l := by unfold boolL; rw [e1]; rfl
        have e3 : boolV (x :: l) 0 = false := by
          unfold boolV
          have : x ≠ 1 := by rintro rfl; exact absurd hx (by decide)
          simp [this]
        unfold RBl
        rw [e1, e2, e3]
        exact ⟨h1, h2, h3⟩
      · have hx2 : x ≤ 1 := by
          have : ¬ 1 < x.toNat := hx
          show x.toNat ≤ 1
          omega
        refine (rbool_ok h hx2).mono (fun en w' ⟨h1, h2, h3⟩ => ?_)
        have e1 : boolE (x :: l) 0 = 0 := by unfold boolE; simp [hx]
        have e2 : boolL (x :: l) 0 = l := by unfold boolL; rw [e1]; rfl
        have e3 : boolV (x :: l) 0 = decide (x = 1) := by unfold boolV; simp; by_cases h : x = 1 <;> simp [h]
        unfold RBl
        rw [e1, e2, e3]
        exact ⟨h1, h2, h3⟩
  · refine (rbool_bad h he).mono (fun en w' ⟨h1, h2⟩ => ?_)
    subst h2
    have e1 : boolE l e = e := by unfold boolE; rw [if_pos he]
    have e2 : boolL l e = l := by unfold boolL; rw [e1, if_neg he]
    have e3 : boolV l e = false := by unfold boolV; simp [he]
    unfold RBl
    rw [e1, e2, e3]
    exact ⟨h1, Fr.refl _ _, h⟩
end Go.Proofs.YtffolfemcllfkaaGreatDoor

import Derived.Test.YthkcmafflbpfoaaReader3
namespace Go.Proofs.Ythkcmafflbpfoaa
open Go.RowKit
set_option linter.unusedVariables false
set_option linter.unusedSimpArgs false

/-! pack: Reader.off -/
/-- off: so many bytes; nothing, if there is an error. -/
structure Offed (w : World) (p : Nat) (l : List UInt8) (n : Nat) (en : Ending) (w' : World) : Prop where
  ret : ∃ A c, en = .returned (.slice A n c) ∧ CellsAt w' A ((l.take n).map byteV) ∧ n ≤ c ∧ (A = none → n = 0 ∧ c = 0) ∧ (∀ b, blkOf A b → 0 < n → b ≠ p)
  fr : Fr (fun i => i = p) w w'
  rd : ReaderAt w' p (l.drop n) 0
theorem off_bad {w : World} {p : Nat} {l : List UInt8} {e : Int} (h : ReaderAt w p l e) (he : e ≠ 0) (n : Int) :
    Calls Try.prog 52 #[ptr p, .int .i64 n] w fun en w' => en = .returned (.slice none 0 0) ∧ w = w' := by
  have hd : decide (e ≠ 0) = true := by simp [he]
  go_enter Try.func52, Try.ntmps52
  go_wp2_with fail
  (with_reducible refine (stuck_any h).mono ?_)
  rintro en w1 ⟨rfl, rfl⟩
  rw [hd]
  go_wp2_with fail
  go_ret
  exact ⟨rfl, rfl⟩
theorem off_end {w : World} {p : Nat} {l : List UInt8} (h : ReaderAt w p l 0) (n : Nat) (hn : l.length < n) :
    Calls Try.prog 52 #[ptr p, .int .i64 (n : Int)] w fun en w' => en = .returned (.slice none 0 0) ∧ Fr (fun i => i = p) w w' ∧ ReaderAt w' p l 12 := by
  have hbd := h.bad 12
  rw [errV_n (by omega)] at hbd
  obtain ⟨⟨A, c, hb, hA, hc, hnil, hap⟩, hmo⟩ := id h
  have c0 : w.cell? ⟨p, 0, none⟩ = some (.slice A l.length c) := by rw [cell_of_blk hb]; rfl
  have c1 : w.cell? ⟨p, 1, none⟩ = some .nilIface := by rw [cell_of_blk hb]; rfl
  have f1 := frozen_of_blk hb 1
  have hn2 : (l.length : Int) < (n : Int) := by omega
  have HB := Lib.hid hbd
  clear hbd hb hA hnil hap
  go_enter Try.func52, Try.ntmps52
  go_wp2_with fail
  (with_reducible refine (stuck_any h).mono ?_)
  rintro en w1 ⟨rfl, rfl⟩
  go_wp2_with fail
  go_ret
  exact ⟨rfl, HB.out.1, HB.out.2⟩
set_option maxRecDepth 100000 in
theorem off_ok {w : World} {p : Nat} {l : List UInt8} (h : ReaderAt w p l 0) (n : Nat) (hn : n ≤ l.length) (hl : 0 < l.length) :
    Calls Try.prog 52 #[ptr p, .int .i64 (n : Int)] w fun en w' => Offed w p l n en w' := by
  obtain ⟨⟨A, c, hb, hA, hc, hnil, hap⟩, hmo⟩ := id h
  obtain ⟨ba, oa, rfl⟩ := hA.addr (by simpa using hl)
  have c0 : w.cell? ⟨p, 0, none⟩ = some (.slice (some ⟨ba, oa, none⟩) l.length c) := by rw [cell_of_blk hb]; rfl
  have f0 := frozen_of_blk hb 0
  have hsk := fun A' hA' => ReaderAt.skip hb hA hc (fun hl => hap ba ⟨oa, rfl⟩ hl) hmo n hn A' hA'
  have HSK := Lib.hid hsk
  have hcut : ∀ w', Fr (fun i => i = p) w w' → CellsAt w' (some ⟨ba, oa, none⟩) ((l.take n).map byteV) := fun w' hf => by
    have h7 := hA.frp hf (fun x hx hl e => hap ba ⟨oa, rfl⟩ (by simpa using hl) ((blkOf_some hx).symm.trans e))
    have h8 := h7.sub 0 n (by simp; omega)
    rw [List.drop_zero, ← List.map_take] at h8
    exact h8
  have HC := Lib.hid hcut
  have q0 : (n : Int) ≤ (l.length : Int) := by omega
  have q1 : (n : Int) ≤ (c : Int) := by omega
  have HAP := Lib.hid hap
  clear hsk hcut hb hA hnil hap
  obtain hck | hck : c = n ∨ ¬ c = n := by omega
  · subst hck
    have hb2 := HSK.out (some ⟨ba, oa, none⟩) (.inr ⟨by omega, rfl⟩)
    have hll : l.length = c := by omega
    rw [show l.length - c = 0 by omega, Nat.sub_self] at hb2
    have HB := Lib.hid hb2
    clear hb2
    go_enter Try.func52, Try.ntmps52
    go_wp2_with fail
    (with_reducible refine (stuck_any h).mono ?_)
    rintro en w1 ⟨rfl, rfl⟩
    go_wp2_with fail
    go_ret
    exact ⟨⟨_, _, rfl, HC.out _ HB.out.1, Nat.le_refl _, (fun h => by cases h), fun x hx _ e => HAP.out ba ⟨oa, rfl⟩ hl ((blkOf_some hx).symm.trans e)⟩, HB.out.1, HB.out.2⟩
  · have hb2 := HSK.out _ (.inl rfl)
    have HB := Lib.hid hb2
    clear hb2
    go_enter Try.func52, Try.ntmps52
    go_wp2_with fail
    (with_reducible refine (stuck_any h).mono ?_)
    rintro en w1 ⟨rfl, rfl⟩
    go_wp2_with fail
    go_ret
    exact ⟨⟨_, _, rfl, HC.out _ HB.out.1, Nat.le_refl _, (fun h => by cases h), fun x hx _ e => HAP.out ba ⟨oa, rfl⟩ hl ((blkOf_some hx).symm.trans e)⟩, HB.out.1, HB.out.2⟩
end Go.Proofs.Ythkcmafflbpfoaa

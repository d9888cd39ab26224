import Derived.Test.YtniiokhkmdknaaaDoorReader2
namespace Go.Proofs.YtniiokhkmdknaaaDoor
open Go.RowKit
set_option linter.unusedVariables false
set_option linter.unusedSimpArgs false
theorem bounded_bad {w : World} {p : Nat} {l : List UInt8} {e : Int} (h : ReaderAt w p l e) (he : e ≠ 0) (m a b : Value) :
    Calls Tryd.prog 54 #[ptr p, .agg #[m, a, b]] w fun en w' => en = .returned (.int .u64 0) ∧ Fr none_ w w' := by
  have hst := h.fr0 ((Fr.refl _ _).alloc (.cells #[m, a, b] 104))
  have hd : decide (e ≠ 0) = true := by simp [he]
  go_enter Tryd.func54, Tryd.ntmps54
  go_wp2_with fail
  (with_reducible refine (stuck_any hst).mono ?_)
  rintro en w1 ⟨rfl, rfl⟩
  rw [hd]
  go_wp2_with fail
  go_ret
  exact ⟨rfl, (Fr.refl _ _).alloc _⟩
/-- A number is taken off, if there is no error. -/
def uintN (l : List UInt8) (e : Int) (most : Nat) : Nat := if e = 0 then boundN l most 4 0 else 0
def uintL (l : List UInt8) (e : Int) (most : Nat) : List UInt8 := if e = 0 then boundL l most 4 0 else l
def uintE (l : List UInt8) (e : Int) (most : Nat) : Int := if e = 0 then boundE l most 4 0 else e
theorem ruint_any {w : World} {p : Nat} {l : List UInt8} {e : Int} (h : ReaderAt w p l e) (most : Nat) (hm : most < 18446744073709551616) :
    Calls Tryd.prog 38 #[ptr p, .int .u64 (most : Int)] w fun en w' => en = .returned (.int .u64 (uintN l e most : Nat)) ∧ Fr (fun i => i = p) w w' ∧ ReaderAt w' p (uintL l e most) (uintE l e most) := by
  by_cases he : e = 0
  · subst he
    have e4 : errV 4 = .iface 51 (.int .i64 4) := errV_n (by omega)
    have hB := bounded_any h most 4 0 (by omega) hm
    rw [e4, errV_0] at hB
    unfold uintN uintL uintE
    rw [if_pos rfl, if_pos rfl, if_pos rfl]
    have HB := Lib.hid hB
    clear hB
    go_enter Tryd.func38, Tryd.ntmps38
    go_wp2_with fail
    (with_reducible refine HB.out.mono ?_)
    rintro en w1 ⟨rfl, hF, hR⟩
    go_wp2_with fail
    go_ret
    exact ⟨rfl, hF, hR⟩
  · unfold uintN uintL uintE
    rw [if_neg he, if_neg he, if_neg he]
    have hst := fun m a b => bounded_bad h he m a b
    have HB := Lib.hid hst
    clear hst
    go_enter Tryd.func38, Tryd.ntmps38
    go_wp2_with fail
    (with_reducible refine (HB.out _ _ _).mono ?_)
    rintro en w1 ⟨rfl, hF⟩
    go_wp2_with fail
    go_ret
    exact ⟨rfl, Fr.of0 hF, h.fr0 hF⟩
/-- off: so many bytes; nothing, if there is an error. -/
structure Offed (w : World) (p : Nat) (l : List UInt8) (n : Nat) (en : Ending) (w' : World) : Prop where
  ret : ∃ A c, en = .returned (.slice A n c) ∧ CellsAt w' A ((l.take n).map byteV) ∧ n ≤ c ∧ (A = none → n = 0 ∧ c = 0) ∧ (∀ b, blkOf A b → 0 < n → b ≠ p)
  fr : Fr (fun i => i = p) w w'
  rd : ReaderAt w' p (l.drop n) 0
theorem off_bad {w : World} {p : Nat} {l : List UInt8} {e : Int} (h : ReaderAt w p l e) (he : e ≠ 0) (n : Int) :
    Calls Tryd.prog 56 #[ptr p, .int .i64 n] w fun en w' => en = .returned (.slice none 0 0) ∧ w = w' := by
  have hd : decide (e ≠ 0) = true := by simp [he]
  go_enter Tryd.func56, Tryd.ntmps56
  go_wp2_with fail
  (with_reducible refine (stuck_any h).mono ?_)
  rintro en w1 ⟨rfl, rfl⟩
  rw [hd]
  go_wp2_with fail
  go_ret
  exact ⟨rfl, rfl⟩
theorem off_end {w : World} {p : Nat} {l : List UInt8} (h : ReaderAt w p l 0) (n : Nat) (hn : l.length < n) :
    Calls Tryd.prog 56 #[ptr p, .int .i64 (n : Int)] w fun en w' => en = .returned (.slice none 0 0) ∧ Fr (fun i => i = p) w w' ∧ ReaderAt w' p l 12 := by
  have hbd := h.bad 12
  rw [errV_n (by omega)] at hbd
  obtain ⟨⟨A, c, hb, hA, hc, hnil, hap⟩, hmo⟩ := id h
  have c0 : w.cell? ⟨p, 0, none⟩ = some (.slice A l.length c) := by rw [cell_of_blk hb]; rfl
  have c1 : w.cell? ⟨p, 1, none⟩ = some .nilIface := by rw [cell_of_blk hb]; rfl
  have f1 := frozen_of_blk hb 1
  have hn2 : (l.length : Int) < (n : Int) := by omega
  have HB := Lib.hid hbd
  clear hbd hb hA hnil hap
  go_enter Tryd.func56, Tryd.ntmps56
  go_wp2_with fail
  (with_reducible refine (stuck_any h).mono ?_)
  rintro en w1 ⟨rfl, rfl⟩
  go_wp2_with fail
  go_ret
  exact ⟨rfl, HB.out.1, HB.out.2⟩
set_option maxRecDepth 100000 in
theorem off_ok {w : World} {p : Nat} {l : List UInt8} (h : ReaderAt w p l 0) (n : Nat) (hn : n ≤ l.length) (hl : 0 < l.length) :
    Calls Tryd.prog 56 #[ptr p, .int .i64 (n : Int)] w fun en w' => Offed w p l n en w' := by
  obtain ⟨⟨A, c, hb, hA, hc, hnil, hap⟩, hmo⟩ := id h
  obtain ⟨ba, oa, rfl⟩ := hA.addr (by simpa using hl)
  have c0 : w.cell? ⟨p, 0, none⟩ = some (.slice (some ⟨ba, oa, none⟩) l.length c) := by rw [cell_of_blk hb]; rfl
  have f0 := frozen_of_blk hb 0
  have hsk := fun A' hA' => ReaderAt.skip hb hA hc (fun hl => hap ba ⟨oa, rfl⟩ hl) hmo n hn A' hA'
  have HSK := Lib.hid hsk
  have hcut : ∀ w', Fr (fun i => i = p) w w' → CellsAt w' (some ⟨ba, oa, none⟩) ((l.take n).map byteV) := fun w' hf => by
    have h7 := hA.frp hf (fun x hx hl e => hap ba ⟨oa, rfl⟩ (by simpa using hl) ((blkOf_some hx).symm.trans e))
    have h8 := h7.sub 0 n (by simp; omega)
    rw [List.drop_zero, ← List.map_take] at h8
    exact h8
  have HC := Lib.hid hcut
  have q0 : (n : Int) ≤ (l.length : Int) := by omega
  have q1 : (n : Int) ≤ (c : Int) := by omega
  have HAP := Lib.hid hap
  clear hsk hcut hb hA hnil hap
  obtain hck | hck : c = n ∨ ¬ c = n := by omega
  · subst hck
    have hb2 := HSK.out (some ⟨ba, oa, none⟩) (.inr ⟨by omega, rfl⟩)
    have hll : l.length = c := by omega
    rw [show l.length - c = 0 by omega, Nat.sub_self] at hb2
    have HB := Lib.hid hb2
    clear hb2
    go_enter Tryd.func56, Tryd.ntmps56
    go_wp2_with fail
    (with_reducible refine (stuck_any h).mono ?_)
    rintro en w1 ⟨rfl, rfl⟩
    go_wp2_with fail
    go_ret
    exact ⟨⟨_, _, rfl, HC.out _ HB.out.1, Nat.le_refl _, (fun h => by cases h), fun x hx _ e => HAP.out ba ⟨oa, rfl⟩ hl ((blkOf_some hx).symm.trans e)⟩, HB.out.1, HB.out.2⟩
  · have hb2 := HSK.out _ (.inl rfl)
    have HB := Lib.hid hb2
    clear hb2
    go_enter Tryd.func56, Tryd.ntmps56
    go_wp2_with fail
    (with_reducible refine (stuck_any h).mono ?_)
    rintro en w1 ⟨rfl, rfl⟩
    go_wp2_with fail
    go_ret
    exact ⟨⟨_, _, rfl, HC.out _ HB.out.1, Nat.le_refl _, (fun h => by cases h), fun x hx _ e => HAP.out ba ⟨oa, rfl⟩ hl ((blkOf_some hx).symm.trans e)⟩, HB.out.1, HB.out.2⟩
/-- Bool: the byte 1 or 0. -/
def boolV (l : List UInt8) (e : Int) : Bool := decide (e = 0) && (l.head? == some 1)
def boolE (l : List UInt8) (e : Int) : Int := if e ≠ 0 then e else match l with | [] => 12 | x :: _ => if 1 < x then 3 else 0
def boolL (l : List UInt8) (e : Int) : List UInt8 := if boolE l e = 0 then l.drop 1 else l
set_option maxRecDepth 100000 in
theorem rbool_ok {w : World} {p : Nat} {x : UInt8} {l : List UInt8} (h : ReaderAt w p (x :: l) 0) (hx : x ≤ 1) :
    Calls Tryd.prog 39 #[ptr p] w fun en w' => en = .returned (.bool (decide (x = 1))) ∧ Fr (fun i => i = p) w w' ∧ ReaderAt w' p l 0 := by
  obtain ⟨⟨A, c, hb, hA, hc, hnil, hap⟩, hmo⟩ := id h
  obtain ⟨ba, oa, rfl⟩ := hA.addr (by simp)
  have c0 : w.cell? ⟨p, 0, none⟩ = some (.slice (some ⟨ba, oa, none⟩) (l.length + 1) c) := by rw [cell_of_blk hb]; rfl
  have cb : w.cell? ⟨ba, oa, none⟩ = some (.int .u8 (x.toNat : Int)) := hA.get 0 (by simp)
  have hx1 : x.toNat ≤ 1 := hx
  have hx2 : (x.toNat : Int) ≤ 1 := by omega
  have q0 : (0 : Int) < (l.length : Int) + 1 := by omega
  have ho : Calls Tryd.prog 56 #[ptr p, .int .i64 1] w fun en w' => Offed w p (x :: l) 1 en w' := off_ok h 1 (by simp) (by simp)
  have HO := Lib.hid ho
  clear hb hA hnil hap ho
  go_enter Tryd.func39, Tryd.ntmps39
  go_wp2_with fail
  (with_reducible refine (stuck_any h).mono ?_)
  rintro en w1 ⟨rfl, rfl⟩
  go_wp2_with fail
  (with_reducible refine HO.out.mono ?_)
  rintro en w1 ⟨⟨A', c', rfl, hA', hc', _, _⟩, hF, hR⟩
  obtain ⟨b', o', rfl, hcb⟩ := hA' 0 (by simp)
  have hcb : w1.cell? ⟨b', o', none⟩ = some (.int .u8 (x.toNat : Int)) := hcb
  have hR2 : ReaderAt w1 p l 0 := hR
  clear hR hA'
  by_cases h1 : x = 1
  · subst h1
    have hcb : w1.cell? ⟨b', o', none⟩ = some (.int .u8 1) := hcb
    go_wp2_with fail
    go_ret
    exact ⟨rfl, hF, hR2⟩
  · have h2 : ¬ x.toNat = 1 := fun h => h1 (UInt8.toNat_inj.1 h)
    have h3 : ¬ (x.toNat : Int) = 1 := by omega
    go_wp2_with fail
    go_ret
    exact ⟨by simp [h1]; exact h3, hF, hR2⟩
end Go.Proofs.YtniiokhkmdknaaaDoor

import Derived.Test.YtjfeibbghhjjeaaDoorReader2
namespace Go.Proofs.YtjfeibbghhjjeaaDoor
open Go.RowKit
set_option linter.unusedVariables false
set_option linter.unusedSimpArgs false
theorem bounded_bad {w : World} {p : Nat} {l : List UInt8} {e : Int} (h : ReaderAt w p l e) (he : e ≠ 0) (m a b : Value) :
    Calls Tryd.prog 40 #[ptr p, .agg #[m, a, b]] w fun en w' => en = .returned (.int .u64 0) ∧ Fr none_ w w' := by
  have hst := h.fr0 ((Fr.refl _ _).alloc (.cells #[m, a, b] 108))
  have hd : decide (e ≠ 0) = true := by simp [he]
  go_enter Tryd.func40, Tryd.ntmps40
  go_wp2_with fail
  (with_reducible refine (stuck_any hst).mono ?_)
  rintro en w1 ⟨rfl, rfl⟩
  rw [hd]
  go_wp2_with fail
  go_ret
  exact ⟨rfl, (Fr.refl _ _).alloc _⟩
/-- A number is taken off, if there is no error. -/
def uintN (l : List UInt8) (e : Int) (most : Nat) : Nat := if e = 0 then boundN l most 4 0 else 0
def uintL (l : List UInt8) (e : Int) (most : Nat) : List UInt8 := if e = 0 then boundL l most 4 0 else l
def uintE (l : List UInt8) (e : Int) (most : Nat) : Int := if e = 0 then boundE l most 4 0 else e
theorem ruint_any {w : World} {p : Nat} {l : List UInt8} {e : Int} (h : ReaderAt w p l e) (most : Nat) (hm : most < 18446744073709551616) :
    Calls Tryd.prog 16 #[ptr p, .int .u64 (most : Int)] w fun en w' => en = .returned (.int .u64 (uintN l e most : Nat)) ∧ Fr (fun i => i = p) w w' ∧ ReaderAt w' p (uintL l e most) (uintE l e most) := by
  by_cases he : e = 0
  · subst he
    have e4 : errV 4 = .iface 53 (.int .i64 4) := errV_n (by omega)
    have hB := bounded_any h most 4 0 (by omega) hm
    rw [e4, errV_0] at hB
    unfold uintN uintL uintE
    rw [if_pos rfl, if_pos rfl, if_pos rfl]
    have HB := Lib.hid hB
    clear hB
    go_enter Tryd.func16, Tryd.ntmps16
    go_wp2_with fail
    (with_reducible refine HB.out.mono ?_)
    rintro en w1 ⟨rfl, hF, hR⟩
    go_wp2_with fail
    go_ret
    exact ⟨rfl, hF, hR⟩
  · unfold uintN uintL uintE
    rw [if_neg he, if_neg he, if_neg he]
    have hst := fun m a b => bounded_bad h he m a b
    have HB := Lib.hid hst
    clear hst
    go_enter Tryd.func16, Tryd.ntmps16
    go_wp2_with fail
    (with_reducible refine (HB.out _ _ _).mono ?_)
    rintro en w1 ⟨rfl, hF⟩
    go_wp2_with fail
    go_ret
    exact ⟨rfl, Fr.of0 hF, h.fr0 hF⟩
end Go.Proofs.YtjfeibbghhjjeaaDoor

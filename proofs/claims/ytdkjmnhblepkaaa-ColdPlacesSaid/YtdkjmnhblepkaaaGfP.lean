import Derived.Test.YtdkjmnhblepkaaaMaps
namespace Go.Proofs.Ytdkjmnhblepkaaa
open Go.RowKit
set_option linter.unusedVariables false
set_option linter.unusedSimpArgs false

/-! A field of 256 numbers, plain: its tables as they are laid. -/
def gstep (x : Nat) : Nat := if 255 < 2 * x then (2 * x) ^^^ 285 else 2 * x
def gx : Nat → Nat
  | 0 => 1
  | i + 1 => gstep (gx i)
/-- which power of 2 a number is, of the first i -/
def glog : Nat → Nat → Nat
  | 0, _ => 0
  | i + 1, x => if gx i = x then i else glog i x
theorem gstep_all : ∀ x < 256, gstep x < 256 ∧ (0 < x → 0 < gstep x) := by decide +kernel
theorem gx_in : ∀ i, 0 < gx i ∧ gx i < 256
  | 0 => by decide
  | i + 1 => by
    have h := gx_in i
    have h2 := gstep_all (gx i) h.2
    exact ⟨h2.2 h.1, h2.1⟩
theorem glog_le : ∀ i x, glog i x ≤ i - 1
  | 0, _ => Nat.le_refl _
  | i + 1, x => by
    unfold glog
    split
    · omega
    · have := glog_le i x; omega
theorem glog_lt (x : Nat) : glog 255 x ≤ 254 := glog_le 255 x
/-- what the table of powers holds behind i rounds -/
def gexpT (i k : Nat) : Nat := if k < 255 then (if k < i then gx k else 0) else (if k - 255 < i then gx (k - 255) else 0)
def gexp (k : Nat) : Nat := gexpT 255 k
def gmulN (a b : Nat) : Nat := if a = 0 ∨ b = 0 then 0 else gexp (glog 255 a + glog 255 b)
def ginvN (a : Nat) : Nat := gexp (255 - glog 255 a)
theorem gexpT_lt (i k : Nat) : gexpT i k < 256 := by
  unfold gexpT
  have h1 := (gx_in k).2
  have h2 := (gx_in (k - 255)).2
  split <;> split <;> omega
def gmul (a b : UInt8) : UInt8 := UInt8.ofNat (gmulN a.toNat b.toNat)
def ginv (a : UInt8) : UInt8 := UInt8.ofNat (ginvN a.toNat)
end Go.Proofs.Ytdkjmnhblepkaaa

import Derived.Test.YtdlhndbgmldeaaaDoorHorner
namespace Go.Proofs.YtdlhndbgmldeaaaDoor
open Go.RowKit
set_option linter.unusedVariables false
set_option linter.unusedSimpArgs false

/-! Unlike bytes at one place have unlike sums. -/
theorem mstep_inj {n m : Nat} (hn : n < 2147483647) (hm : m < 2147483647) {c : UInt8} (h : mstep n c = mstep m c) : n = m := by
  unfold mstep at h
  omega
theorem mstep_byte {n : Nat} {c d : UInt8} (h : mstep n c = mstep n d) : c = d := by
  unfold mstep at h
  have hc := c.toNat_lt
  have hd := d.toNat_lt
  exact UInt8.toNat_inj.1 (by omega)
theorem fold_inj (l : List UInt8) : ∀ n m : Nat, n < 2147483647 → m < 2147483647 → l.foldl mstep n = l.foldl mstep m → n = m := by
  induction l with
  | nil => intro n m _ _ h; exact h
  | cons x l ih => intro n m hn hm h; exact mstep_inj hn hm (ih _ _ (mstep_lt _ _) (mstep_lt _ _) h)
theorem sum_ne (a b : List UInt8) {x y : UInt8} (h : x ≠ y) : sumF (a ++ x :: b) ≠ sumF (a ++ y :: b) := by
  intro e
  unfold sumF moreF at e
  rw [List.foldl_append, List.foldl_append, List.foldl_cons, List.foldl_cons] at e
  exact h (mstep_byte (fold_inj b _ _ (mstep_lt _ _) (mstep_lt _ _) e))
end Go.Proofs.YtdlhndbgmldeaaaDoor

import Derived.Test.YtniiokhkmdknaaaDevAll
import Derived.LaidEql
import Derived.Lib.IfaceEq
import Derived.Stop.Asserts
import Derived.RowKitTokens
namespace Go.Proofs.Ytniiokhkmdknaaa
open Go.RowKit Go.Extern.Stop Go.Stop Go.Extern
set_option linter.unusedVariables false
set_option linter.unusedSimpArgs false

/-! errors.Is at two api.Errno. -/
theorem ei_typeOf (v : Value) (w : World) : (ReflectliteType.typeOf #[.iface 57 v]).run Try.prog w = .ok (.iface 97 (.agg #[.pointer (some ⟨0, 57, none⟩)])) w := by kernel_rfl
def ei_entry : Array Value → Sem Value := ReflectliteType.method fun t => do Rtype.noPackHeld "Comparable" t; pure (.bool (← typeInfo t).comparable)
theorem ei_comparable (w : World) : (ei_entry #[.agg #[.pointer (some ⟨0, 57, none⟩)]]).run Try.prog w = .ok (.bool true) w := by kernel_rfl
theorem ei_comp : (Try.prog.info? 57).map (·.comparable) = some true := by kernel_rfl
theorem ei_mComparable (v : Value) (w : World) : (Go.method 242 97 v "Comparable").run Try.prog w = .ok (77, v) w := by kernel_rfl
theorem ei_noIs (v : Value) (xT : TypeId) (w : World) : (Instr.typeAssert (.iface 57 v) xT 99 true).run Try.prog w = .ok (.tuple #[.nilIface, .bool false]) w := run_typeAssert_lacksB Try.underlying99 (by kernel_rfl) (by kernel_rfl) v xT w
theorem ei_noUnwrap (v : Value) (xT : TypeId) (w : World) : (Instr.typeAssert (.iface 57 v) xT 102 true).run Try.prog w = .ok (.tuple #[.nilIface, .bool false]) w := run_typeAssert_lacksB Try.underlying102 (by kernel_rfl) (by kernel_rfl) v xT w
theorem ei_noUnwraps (v : Value) (xT : TypeId) (w : World) : (Instr.typeAssert (.iface 57 v) xT 103 true).run Try.prog w = .ok (.tuple #[.nilIface, .bool false]) w := run_typeAssert_lacksB Try.underlying103 (by kernel_rfl) (by kernel_rfl) v xT w
theorem is_any (n m : Int) (hm : m ≠ 0) (w : World) : Calls Try.prog 27 #[errV n, errV m] w fun e w' => e = .returned (.bool (decide (n = m))) ∧ w = w' := by
  have h8 := @run_callFunc_extern Try.prog 41 _ ReflectliteType.typeOf Try.func41 (by kernel_rfl) (by kernel_rfl) (by kernel_rfl) (by kernel_rfl)
  have h32 := @run_callFunc_extern Try.prog 77 _ ei_entry Try.func77 (by kernel_rfl) (by kernel_rfl) (by kernel_rfl) (by kernel_rfl)
  have tT := ei_typeOf
  have cT := ei_comparable
  have mR := ei_mComparable
  have nE := ei_noIs
  have uE := ei_noUnwrap
  have vE := ei_noUnwraps
  rw [errV_n hm]
  by_cases hn : n = 0
  · subst hn
    rw [errV_0]
    have hd : decide ((0 : Int) = m) = false := by simp; omega
    rw [hd]
    have hnl := run_eql_iface_nil_left (P := Try.prog) w 57 (.int .i64 m) Try.underlying50
    go_enter Try.func27, Try.ntmps27
    go_wp2
    go_ret
    exact ⟨rfl, rfl⟩
  · rw [errV_n hn]
    have heq := Lib.run_eql_iface_int (P := Try.prog) w (k := .i64) n m Try.underlying50 ei_comp Try.underlying57
    by_cases he : n = m
    · subst he
      have heq2 : (binOp .eql 50 (.iface 57 (.int .i64 n)) (.iface 57 (.int .i64 n))).run Try.prog w = .ok (.bool true) w := by rw [heq]; simp
      rw [show decide (n = n) = true by simp]
      clear heq
      go_enter Try.func27, Try.ntmps27
      go_wp2
      refine wp_loop_rounds 1 ?_
      rw [rounds_succ]
      go_wp2
      go_ret
      exact ⟨rfl, rfl⟩
    · have heq2 : (binOp .eql 50 (.iface 57 (.int .i64 n)) (.iface 57 (.int .i64 m))).run Try.prog w = .ok (.bool false) w := by
        rw [heq, show (n == m) = false by simpa using he]
      rw [show decide (n = m) = false by simpa using he]
      clear heq
      go_enter Try.func27, Try.ntmps27
      go_wp2
      refine wp_loop_rounds 1 ?_
      rw [rounds_succ]
      go_wp2
      go_ret
      exact ⟨rfl, rfl⟩
end Go.Proofs.Ytniiokhkmdknaaa

import Derived.Test.YtniiokhkmdknaaaDoorDevAll
import Derived.LaidEql
import Derived.Lib.IfaceEq
import Derived.Stop.Asserts
import Derived.RowKitTokens
namespace Go.Proofs.YtniiokhkmdknaaaDoor
open Go.RowKit Go.Extern.Stop Go.Stop Go.Extern
set_option linter.unusedVariables false
set_option linter.unusedSimpArgs false

/-! errors.Is at two api.Errno. -/
theorem ei_typeOf (v : Value) (w : World) : (ReflectliteType.typeOf #[.iface 51 v]).run Tryd.prog w = .ok (.iface 107 (.agg #[.pointer (some ⟨1, 51, none⟩)])) w := by kernel_rfl
def ei_entry : Array Value → Sem Value := ReflectliteType.method fun t => do Rtype.noPackHeld "Comparable" t; pure (.bool (← typeInfo t).comparable)
theorem ei_comparable (w : World) : (ei_entry #[.agg #[.pointer (some ⟨1, 51, none⟩)]]).run Tryd.prog w = .ok (.bool true) w := by kernel_rfl
theorem ei_comp : (Tryd.prog.info? 51).map (·.comparable) = some true := by kernel_rfl
theorem ei_mComparable (v : Value) (w : World) : (Go.method 277 107 v "Comparable").run Tryd.prog w = .ok (109, v) w := by kernel_rfl
theorem ei_noIs (v : Value) (xT : TypeId) (w : World) : (Instr.typeAssert (.iface 51 v) xT 109 true).run Tryd.prog w = .ok (.tuple #[.nilIface, .bool false]) w := run_typeAssert_lacksB Tryd.underlying109 (by kernel_rfl) (by kernel_rfl) v xT w
theorem ei_noUnwrap (v : Value) (xT : TypeId) (w : World) : (Instr.typeAssert (.iface 51 v) xT 112 true).run Tryd.prog w = .ok (.tuple #[.nilIface, .bool false]) w := run_typeAssert_lacksB Tryd.underlying112 (by kernel_rfl) (by kernel_rfl) v xT w
theorem ei_noUnwraps (v : Value) (xT : TypeId) (w : World) : (Instr.typeAssert (.iface 51 v) xT 113 true).run Tryd.prog w = .ok (.tuple #[.nilIface, .bool false]) w := run_typeAssert_lacksB Tryd.underlying113 (by kernel_rfl) (by kernel_rfl) v xT w
theorem is_any (n m : Int) (hm : m ≠ 0) (w : World) : Calls Tryd.prog 25 #[errV n, errV m] w fun e w' => e = .returned (.bool (decide (n = m))) ∧ w = w' := by
  have h8 := @run_callFunc_extern Tryd.prog 41 _ ReflectliteType.typeOf Tryd.func41 (by kernel_rfl) (by kernel_rfl) (by kernel_rfl) (by kernel_rfl)
  have h32 := @run_callFunc_extern Tryd.prog 109 _ ei_entry Tryd.func109 (by kernel_rfl) (by kernel_rfl) (by kernel_rfl) (by kernel_rfl)
  have tT := ei_typeOf
  have cT := ei_comparable
  have mR := ei_mComparable
  have nE := ei_noIs
  have uE := ei_noUnwrap
  have vE := ei_noUnwraps
  rw [errV_n hm]
  by_cases hn : n = 0
  · subst hn
    rw [errV_0]
    have hd : decide ((0 : Int) = m) = false := by simp; omega
    rw [hd]
    have hnl := run_eql_iface_nil_left (P := Tryd.prog) w 51 (.int .i64 m) Tryd.underlying26
    go_enter Tryd.func25, Tryd.ntmps25
    go_wp2
    go_ret
    exact ⟨rfl, rfl⟩
  · rw [errV_n hn]
    have heq := Lib.run_eql_iface_int (P := Tryd.prog) w (k := .i64) n m Tryd.underlying26 ei_comp Tryd.underlying51
    by_cases he : n = m
    · subst he
      have heq2 : (binOp .eql 26 (.iface 51 (.int .i64 n)) (.iface 51 (.int .i64 n))).run Tryd.prog w = .ok (.bool true) w := by rw [heq]; simp
      rw [show decide (n = n) = true by simp]
      clear heq
      go_enter Tryd.func25, Tryd.ntmps25
      go_wp2
      refine wp_loop_rounds 1 ?_
      rw [rounds_succ]
      go_wp2
      go_ret
      exact ⟨rfl, rfl⟩
    · have heq2 : (binOp .eql 26 (.iface 51 (.int .i64 n)) (.iface 51 (.int .i64 m))).run Tryd.prog w = .ok (.bool false) w := by
        rw [heq, show (n == m) = false by simpa using he]
      rw [show decide (n = m) = false by simpa using he]
      clear heq
      go_enter Tryd.func25, Tryd.ntmps25
      go_wp2
      refine wp_loop_rounds 1 ?_
      rw [rounds_succ]
      go_wp2
      go_ret
      exact ⟨rfl, rfl⟩
end Go.Proofs.YtniiokhkmdknaaaDoor

import Derived.Test.YtffolfemcllfkaaGreatDoorDevAll
import Derived.LaidEql
import Derived.Lib.IfaceEq
import Derived.Stop.Asserts
import Derived.RowKitTokens
namespace Go.Proofs.YtffolfemcllfkaaGreatDoor
open Go.RowKit Go.Extern.Stop Go.Stop Go.Extern
set_option linter.unusedVariables false
set_option linter.unusedSimpArgs false

/-! errors.Is at two api.Errno. -/
theorem ei_typeOf (v : Value) (w : World) : (ReflectliteType.typeOf #[.iface 106 v]).run Tryz.prog w = .ok (.iface 261 (.agg #[.pointer (some ⟨1, 106, none⟩)])) w := by kernel_rfl
def ei_entry : Array Value → Sem Value := ReflectliteType.method fun t => do Rtype.noPackHeld "Comparable" t; pure (.bool (← typeInfo t).comparable)
theorem ei_comparable (w : World) : (ei_entry #[.agg #[.pointer (some ⟨1, 106, none⟩)]]).run Tryz.prog w = .ok (.bool true) w := by kernel_rfl
theorem ei_comp : (Tryz.prog.info? 106).map (·.comparable) = some true := by kernel_rfl
theorem ei_mComparable (v : Value) (w : World) : (Go.method 486 261 v "Comparable").run Tryz.prog w = .ok (268, v) w := by kernel_rfl
theorem ei_noIs (v : Value) (xT : TypeId) (w : World) : (Instr.typeAssert (.iface 106 v) xT 263 true).run Tryz.prog w = .ok (.tuple #[.nilIface, .bool false]) w := run_typeAssert_lacksB Tryz.underlying263 (by kernel_rfl) (by kernel_rfl) v xT w
theorem ei_noUnwrap (v : Value) (xT : TypeId) (w : World) : (Instr.typeAssert (.iface 106 v) xT 266 true).run Tryz.prog w = .ok (.tuple #[.nilIface, .bool false]) w := run_typeAssert_lacksB Tryz.underlying266 (by kernel_rfl) (by kernel_rfl) v xT w
theorem ei_noUnwraps (v : Value) (xT : TypeId) (w : World) : (Instr.typeAssert (.iface 106 v) xT 267 true).run Tryz.prog w = .ok (.tuple #[.nilIface, .bool false]) w := run_typeAssert_lacksB Tryz.underlying267 (by kernel_rfl) (by kernel_rfl) v xT w
theorem is_any (n m : Int) (hm : m ≠ 0) (w : World) : Calls Tryz.prog 54 #[errV n, errV m] w fun e w' => e = .returned (.bool (decide (n = m))) ∧ w = w' := by
  have h8 := @run_callFunc_extern Tryz.prog 106 _ ReflectliteType.typeOf Tryz.func106 (by kernel_rfl) (by kernel_rfl) (by kernel_rfl) (by kernel_rfl)
  have h32 := @run_callFunc_extern Tryz.prog 268 _ ei_entry Tryz.func268 (by kernel_rfl) (by kernel_rfl) (by kernel_rfl) (by kernel_rfl)
  have tT := ei_typeOf
  have cT := ei_comparable
  have mR := ei_mComparable
  have nE := ei_noIs
  have uE := ei_noUnwrap
  have vE := ei_noUnwraps
  rw [errV_n hm]
  by_cases hn : n = 0
  · subst hn
    rw [errV_0]
    have hd : decide ((0 : Int) = m) = false := by simp; omega
    rw [hd]
    have hnl := run_eql_iface_nil_left (P := Tryz.prog) w 106 (.int .i64 m) Tryz.underlying27
    go_enter Tryz.func54, Tryz.ntmps54
    go_wp2
    go_ret
    exact ⟨rfl, rfl⟩
  · rw [errV_n hn]
    have heq := Lib.run_eql_iface_int (P := Tryz.prog) w (k := .i64) n m Tryz.underlying27 ei_comp Tryz.underlying106
    by_cases he : n = m
    · subst he
      have heq2 : (binOp .eql 27 (.iface 106 (.int .i64 n)) (.iface 106 (.int .i64 n))).run Tryz.prog w = .ok (.bool true) w := by rw [heq]; simp
      rw [show decide (n = n) = true by simp]
      clear heq
      go_enter Tryz.func54, Tryz.ntmps54
      go_wp2
      refine wp_loop_rounds 1 ?_
      rw [rounds_succ]
      go_wp2
      go_ret
      exact ⟨rfl, rfl⟩
    · have heq2 : (binOp .eql 27 (.iface 106 (.int .i64 n)) (.iface 106 (.int .i64 m))).run Tryz.prog w = .ok (.bool false) w := by
        rw [heq, show (n == m) = false by simpa using he]
      rw [show decide (n = m) = false by simpa using he]
      clear heq
      go_enter Tryz.func54, Tryz.ntmps54
      go_wp2
      refine wp_loop_rounds 1 ?_
      rw [rounds_succ]
      go_wp2
      go_ret
      exact ⟨rfl, rfl⟩
end Go.Proofs.YtffolfemcllfkaaGreatDoor

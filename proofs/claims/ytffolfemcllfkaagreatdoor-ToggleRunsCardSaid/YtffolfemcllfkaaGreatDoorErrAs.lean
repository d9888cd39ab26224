import Derived.Test.YtffolfemcllfkaaGreatDoorDevW
import Derived.LaidEql
import Derived.Stop.Asserts
import Derived.RowKitTokens
namespace Go.Proofs.YtffolfemcllfkaaGreatDoor
open Go.RowKit Go.Extern.Stop Go.Stop Go.Extern
set_option linter.unusedVariables false
set_option linter.unusedSimpArgs false

/-! errors.As at the target *api.Errno, and num (an error's number). Turned from the worked example of errors.As at a pointer's type. -/
/-- The handle of the type t. -/
abbrev hdl (t : TypeId) : Value := .pointer (some ⟨1, t, none⟩)
theorem ea_glob : typeHandle Tryz.prog 27 = hdl 27 := by kernel_rfl
theorem ea_valueOfP (t : Addr) (w : World) : (ReflectliteValue.unpack (.iface 133 (.pointer (some t)))).run Tryz.prog w
    = .ok (.agg #[hdl 133, .pointer (some ⟨w.heap.size, 0, none⟩), .int .u64 150]) (w.alloc (.cells #[.pointer (some t)] 133)) := by kernel_rfl
theorem ea_typeP (a : Addr) (w : World) : (ReflectliteValue.methodAny (ReflectliteValue.valueError "reflectlite.Value.Type" 0) (fun t _ _ _ => ReflectliteType.toType t) #[.agg #[hdl 133, .pointer (some a), .int .u64 150]]).run Tryz.prog w
    = .ok (.iface 261 (.agg #[hdl 133])) w := by kernel_rfl
theorem ea_kindP (w : World) : ((ReflectliteType.abiMethod fun t => (fun a : Nat => Value.int IntKind.u8 (a : Int)) <$> Rtype.kind t) #[hdl 133]).run Tryz.prog w = .ok (.int .u8 22) w := by kernel_rfl
theorem ea_kindE (w : World) : ((ReflectliteType.abiMethod fun t => (fun a : Nat => Value.int IntKind.u8 (a : Int)) <$> Rtype.kind t) #[hdl 106]).run Tryz.prog w = .ok (.int .u8 2) w := by kernel_rfl
theorem rlm (z : Sem Value) (f : TypeId → Addr → Nat → Nat → Sem Value) (v : Value) :
    ReflectliteValue.method z f #[v] = (do match ← ReflectliteValue.parts v with | none => z | some (t, a, fl) => f t a fl (fl % 32)) := rfl
theorem ea_partsP (a : Addr) (w : World) : (ReflectliteValue.parts (.agg #[hdl 133, .pointer (some a), .int .u64 150])).run Tryz.prog w = .ok (some (133, a, 150)) w := by kernel_rfl
theorem ea_isNil (a p : Addr) (W : World) (ha : W.cell? a = some (.pointer (some p))) :
    (ReflectliteValue.method (ReflectliteValue.valueError "reflectlite.Value.IsNil" 0) ReflectliteValue.isNil #[.agg #[hdl 133, .pointer (some a), .int .u64 150]]).run Tryz.prog W = .ok (.bool false) W := by
  rw [rlm]
  simp only [Sem.run_bind, ea_partsP, Result.andThen]
  simp [ReflectliteValue.isNil, loadVar, isAgg, underlying, Tryz.underlying133, ha, Result.andThen]
theorem ea_elemP (w : World) : (ReflectliteType.method ReflectliteType.elem #[.agg #[hdl 133]]).run Tryz.prog w = .ok (.iface 261 (.agg #[hdl 106])) w := by kernel_rfl
theorem ea_implements (w : World) : (ReflectliteType.relation "Implements" ReflectliteType.implements_ #[.agg #[hdl 106], .iface 261 (.agg #[hdl 27])]).run Tryz.prog w = .ok (.bool true) w := by kernel_rfl
theorem ea_typeOf (v : Value) (w : World) : (ReflectliteType.typeOf #[.iface 106 v]).run Tryz.prog w = .ok (.iface 261 (.agg #[hdl 106])) w := by kernel_rfl
theorem ea_assignable (w : World) : (ReflectliteType.relation "AssignableTo" ReflectliteType.assignableTo #[.agg #[hdl 106], .iface 261 (.agg #[hdl 106])]).run Tryz.prog w = .ok (.bool true) w := by kernel_rfl
theorem ea_valueOfE (n : Int) (w : World) : (ReflectliteValue.unpack (.iface 106 (.int .i64 n))).run Tryz.prog w
    = .ok (.agg #[hdl 106, .pointer (some ⟨w.heap.size, 0, none⟩), .int .u64 130]) (w.alloc (.cells #[.int .i64 n] 106)) := by kernel_rfl
theorem ea_elemOfP (w : World) : (Rtype.elem? 133).run Tryz.prog w = .ok (some 106) w := by kernel_rfl
theorem ea_mk (p : Addr) (w : World) : (ReflectliteValue.mk 106 p ReflectliteValue.flagAddr).run Tryz.prog w = .ok (.agg #[hdl 106, .pointer (some p), .int .u64 386]) w := by kernel_rfl
theorem ea_elemV (a p : Addr) (W : World) (ha : W.cell? a = some (.pointer (some p))) :
    (ReflectliteValue.method (ReflectliteValue.valueError "reflectlite.Value.Elem" 0) ReflectliteValue.elem #[.agg #[hdl 133, .pointer (some a), .int .u64 150]]).run Tryz.prog W
      = .ok (.agg #[hdl 106, .pointer (some p), .int .u64 386]) W := by
  rw [rlm]
  simp only [Sem.run_bind, ea_partsP, Result.andThen]
  simp [ReflectliteValue.elem, loadVar, isAgg, underlying, Tryz.underlying133, ha, Result.andThen, ea_elemOfP, ea_mk]
theorem rls (v x : Value) : ReflectliteValue.set #[v, x] = (do
    let (some (dst, a, fl), some (src, b, _)) := (← ReflectliteValue.parts v, ← ReflectliteValue.parts x)
      | unsupported (.noEntry "extern/(internal/reflectlite.Value).Set.zeroValue")
    if fl / ReflectliteValue.flagAddr % 2 == 0 then unsupported (.noEntry "extern/(internal/reflectlite.Value).Set.unaddressable")
    let val ← loadVar src b
    if ← Rtype.directlyAssignable dst src then storeVar dst a val
    else if ← Rtype.implements dst src then
      if (← Rtype.kind src) == 20 then
        match val with
        | .nilIface => unsupported (.noEntry "extern/reflectlite: a nil value of one interface type handed on as a value of another")
        | _ => storeVar dst a val
      else storeVar dst a (.iface src val)
    else panicString ("reflectlite.Set: value of type " ++ (← Rtype.spelt src) ++ " is not assignable to type " ++ (← Rtype.spelt dst))
    pure (.tuple #[])) := rfl
theorem ea_partsEa (a : Addr) (w : World) : (ReflectliteValue.parts (.agg #[hdl 106, .pointer (some a), .int .u64 386])).run Tryz.prog w = .ok (some (106, a, 386)) w := by kernel_rfl
theorem ea_partsE (a : Addr) (w : World) : (ReflectliteValue.parts (.agg #[hdl 106, .pointer (some a), .int .u64 130])).run Tryz.prog w = .ok (some (106, a, 130)) w := by kernel_rfl
theorem ea_direct (w : World) : (Rtype.directlyAssignable 106 106).run Tryz.prog w = .ok true w := by kernel_rfl
theorem ea_set (ta b : Addr) (n : Int) (old : Value) (W : World) (hb : W.cell? b = some (.int .i64 n)) (ht : W.cell? ta = some old) (hf : W.frozen? ta = false) :
    (ReflectliteValue.set #[.agg #[hdl 106, .pointer (some ta), .int .u64 386], .agg #[hdl 106, .pointer (some b), .int .u64 130]]).run Tryz.prog W
      = .ok (.tuple #[]) (W.setCell ta (.int .i64 n)) := by
  rw [rls]
  simp only [Sem.run_bind, ea_partsEa, ea_partsE, Result.andThen]
  simp [ReflectliteValue.flagAddr, loadVar, isAgg, underlying, Tryz.underlying106, hb, Result.andThen, ea_direct, storeVar, Value.cells, storeCells, Addr.add]
  rw [run_store Tryz.prog W ta _ _ (by rfl)]
  simp [ht, hf]
theorem ea_mKind (h : Value) (w : World) : (Go.method 486 261 (.agg #[h]) "Kind").run Tryz.prog w = .ok (258, h) w := by kernel_rfl
theorem ea_mElem (h : Value) (w : World) : (Go.method 486 261 (.agg #[h]) "Elem").run Tryz.prog w = .ok (269, .agg #[h]) w := by kernel_rfl
theorem ea_mImplements (h : Value) (w : World) : (Go.method 486 261 (.agg #[h]) "Implements").run Tryz.prog w = .ok (270, .agg #[h]) w := by kernel_rfl
theorem ea_mAssignableTo (h : Value) (w : World) : (Go.method 486 261 (.agg #[h]) "AssignableTo").run Tryz.prog w = .ok (267, .agg #[h]) w := by kernel_rfl
/-- The listed variable holds the handle of the type error. -/
def ErrT (w : World) : Prop := w.cell? ⟨0, 0, none⟩ = some (.iface 261 (.agg #[hdl 27]))
theorem ErrT.fr {S : Nat → Prop} {w w' : World} (h : ErrT w) (hf : Fr S w w') (hn : ¬ S 0) : ErrT w' := hf.cell h hn
theorem ErrT.fr0 {w w' : World} (h : ErrT w) (hf : Fr none_ w w') : ErrT w' := hf.cell0 h
theorem ErrT.pos {w : World} (h : ErrT w) : 0 < w.heap.size := cell_lt h
/-- The world behind errors.As. -/
def asW (t : Addr) (n : Int) (w : World) : World :=
  ((((w.alloc (.cells #[.pointer (some t)] 133)).alloc (.cells #[hdl 133, .pointer (some ⟨w.heap.size, 0, none⟩), .int .u64 150] 203)).alloc (.cells #[hdl 133, .pointer (some ⟨w.heap.size, 0, none⟩), .int .u64 150] 203)).alloc (.cells #[.int .i64 n] 106)).setCell t (.int .i64 n)
set_option maxHeartbeats 4000000 in
theorem as_hit (n : Int) (t : Addr) (old : Value) (w : World) (hg : ErrT w) (ht0 : w.cell? t = some old) (hf0 : w.frozen? t = false) :
    Calls Tryz.prog 67 #[.iface 106 (.int .i64 n), .iface 133 (.pointer (some t))] w fun ev w' => ev = .returned (.bool true) ∧ w' = asW t n w := by
  unfold ErrT at hg
  unfold asW
  have h6 := @run_callFunc_extern Tryz.prog 117 _ (fun args => ReflectliteValue.unpack (args.getD 0 (.tuple #[]))) Tryz.func117 (by kernel_rfl) (by kernel_rfl) (by kernel_rfl) (by kernel_rfl)
  have h7 := @run_callFunc_extern Tryz.prog 118 _ (ReflectliteValue.methodAny (ReflectliteValue.valueError "reflectlite.Value.Type" 0) (fun t _ _ _ => ReflectliteType.toType t)) Tryz.func118 (by kernel_rfl) (by kernel_rfl) (by kernel_rfl) (by kernel_rfl)
  have h8 := @run_callFunc_extern Tryz.prog 119 _ (ReflectliteValue.method (ReflectliteValue.valueError "reflectlite.Value.IsNil" 0) ReflectliteValue.isNil) Tryz.func119 (by kernel_rfl) (by kernel_rfl) (by kernel_rfl) (by kernel_rfl)
  have h27 := @run_callFunc_extern Tryz.prog 258 _ (ReflectliteType.abiMethod fun t => do pure (.int .u8 (← Rtype.kind t))) Tryz.func258 (by kernel_rfl) (by kernel_rfl) (by kernel_rfl) (by kernel_rfl)
  have h37 := @run_callFunc_extern Tryz.prog 269 _ (ReflectliteType.method ReflectliteType.elem) Tryz.func269 (by kernel_rfl) (by kernel_rfl) (by kernel_rfl) (by kernel_rfl)
  have h38 := @run_callFunc_extern Tryz.prog 270 _ (ReflectliteType.relation "Implements" ReflectliteType.implements_) Tryz.func270 (by kernel_rfl) (by kernel_rfl) (by kernel_rfl) (by kernel_rfl)
  have h10 := @run_callFunc_extern Tryz.prog 106 _ ReflectliteType.typeOf Tryz.func106 (by kernel_rfl) (by kernel_rfl) (by kernel_rfl) (by kernel_rfl)
  have h35 := @run_callFunc_extern Tryz.prog 267 _ (ReflectliteType.relation "AssignableTo" ReflectliteType.assignableTo) Tryz.func267 (by kernel_rfl) (by kernel_rfl) (by kernel_rfl) (by kernel_rfl)
  have h11 := @run_callFunc_extern Tryz.prog 163 _ (ReflectliteValue.method (ReflectliteValue.valueError "reflectlite.Value.Elem" 0) ReflectliteValue.elem) Tryz.func163 (by kernel_rfl) (by kernel_rfl) (by kernel_rfl) (by kernel_rfl)
  have h12 := @run_callFunc_extern Tryz.prog 164 _ ReflectliteValue.set Tryz.func164 (by kernel_rfl) (by kernel_rfl) (by kernel_rfl) (by kernel_rfl)
  have tO := ea_typeOf
  have mA := ea_mAssignableTo
  have a25 := ea_assignable
  have v25 := ea_valueOfE
  have f6 := ea_valueOfP
  have f7 := ea_typeP
  have mK := ea_mKind
  have mE := ea_mElem
  have mI := ea_mImplements
  have k27 := ea_kindP
  have k25 := ea_kindE
  have e27 := ea_elemP
  have i25 := ea_implements
  have n8 := ea_isNil ⟨w.heap.size, 0, none⟩ t ((w.alloc (.cells #[.pointer (some t)] 133)).alloc (.cells #[hdl 133, .pointer (some ⟨w.heap.size, 0, none⟩), .int .u64 150] 203)) (by simp)
  have hlt : 0 < w.heap.size := by
    rcases Nat.eq_zero_or_pos w.heap.size with h0 | h
    · simp [World.cell?, h0] at hg
    · exact h
  have hg2 : ((w.alloc (.cells #[.pointer (some t)] 133)).alloc (.cells #[hdl 133, .pointer (some ⟨w.heap.size, 0, none⟩), .int .u64 150] 203)).cell? ⟨0, 0, none⟩ = some (.iface 261 (.agg #[hdl 27])) := by
    rw [World.cell?_alloc_lt _ _ ⟨0, 0, none⟩ (by simp), World.cell?_alloc_lt _ _ ⟨0, 0, none⟩ hlt]; exact hg
  have htl : t.block < w.heap.size := by
    rcases Nat.lt_or_ge t.block w.heap.size with h | h
    · exact h
    · simp [World.cell?, Array.getElem?_eq_none h] at ht0
  have el := ea_elemV ⟨w.heap.size, 0, none⟩ t (((w.alloc (.cells #[.pointer (some t)] 133)).alloc (.cells #[hdl 133, .pointer (some ⟨w.heap.size, 0, none⟩), .int .u64 150] 203)).alloc (.cells #[hdl 133, .pointer (some ⟨w.heap.size, 0, none⟩), .int .u64 150] 203)) (by rw [World.cell?_alloc_lt _ _ ⟨w.heap.size, 0, none⟩ (by simp; omega)]; simp)
  have st := ea_set t ⟨w.heap.size + 1 + 1 + 1, 0, none⟩ n old ((((w.alloc (.cells #[.pointer (some t)] 133)).alloc (.cells #[hdl 133, .pointer (some ⟨w.heap.size, 0, none⟩), .int .u64 150] 203)).alloc (.cells #[hdl 133, .pointer (some ⟨w.heap.size, 0, none⟩), .int .u64 150] 203)).alloc (.cells #[.int .i64 n] 106))
    (by rw [World.cell?_alloc_at _ _ _ _ (by simp)]; rfl)
    (by rw [World.cell?_alloc_lt _ _ t (by simp; omega), World.cell?_alloc_lt _ _ t (by simp; omega), World.cell?_alloc_lt _ _ t (by simp; omega), World.cell?_alloc_lt _ _ t htl]; exact ht0)
    (by rw [World.frozen?_alloc_old _ _ t (by simp; omega), World.frozen?_alloc_old _ _ t (by simp; omega), World.frozen?_alloc_old _ _ t (by simp; omega), World.frozen?_alloc_old _ _ t (Nat.ne_of_lt htl)]; exact hf0)
  simp only [hdl] at *
  go_enter Tryz.func67, Tryz.ntmps67
  go_wp2
  refine wp_loop_rounds 1 ?_
  rw [rounds_succ]
  go_wp2
  go_ret
  exact ⟨rfl, rfl⟩
end Go.Proofs.YtffolfemcllfkaaGreatDoor

import Derived.Test.YtffolfemcllfkaaGreatDoorLawKM
import Derived.Test.YtffolfemcllfkaaGreatDoorErrAs
import Derived.Test.YtffolfemcllfkaaGreatDoorRows
import Derived.ChangeSame
import Derived.ChangeVars
import Derived.JoinedOf
import Derived.LaidLaws
import Derived.LaidHandle
import Derived.Stop.Joined
namespace Go.Proofs.YtffolfemcllfkaaGreatDoor
open Go.RowKit Go.ChangeShapes Go.WideShapes Go.ChangeAt
set_option linter.unusedVariables false
set_option linter.unusedSimpArgs false

/-! A law whose condition lists errors.errorType: from the condition to the variable's cell; a world that meets it. -/
abbrev theLaid : List (String × DataW Unit) := [("errors.errorType", Rows.laid_errors_errorType)]
theorem lx_et : Tryz.prog.globalNamed "errors.errorType" = some 0 := by kernel_rfl
theorem lx_rt : (Tryz.prog.cutTypes.find? (·.1 == "internal/reflectlite.rtype")).map (·.2) = some 261 := by kernel_rfl
theorem lx_size : Tryz.prog.types.size + 100 = 486 := by kernel_rfl
theorem lx_oneRow : ((List.range (486 - 100)).filter fun t => Tryz.prog.rowNamed t [101, 114, 114, 111, 114]) = [27] := by kernel_rfl
theorem lx_hdl : typeHandle Tryz.prog 27 = .pointer (some ⟨1, 27, none⟩) := by kernel_rfl
/-- What the condition gives a walk: the variable's one cell. -/
theorem errT_of_laid {W : World} (h : laidMetH Tryz.prog theLaid W) : ErrT W := by
  have h' : laidMet Tryz.prog [] W ∧ handlesMet Tryz.prog theLaid W := h
  obtain ⟨name, u, ty, e1, e2, e3, e4, e5⟩ := h'.2 _ (List.mem_singleton.2 rfl)
  have en : name = [101, 114, 114, 111, 114] := (Option.some.inj e1).symm
  subst en
  obtain rfl := Option.some.inj (lx_rt.symm.trans e2)
  have hm : ty ∈ (List.range (486 - 100)).filter fun t => Tryz.prog.rowNamed t [101, 114, 114, 111, 114] := List.mem_filter.2 ⟨List.mem_range.2 (by have := lx_size; omega), e4⟩
  rw [lx_oneRow] at hm
  obtain rfl := List.mem_singleton.1 hm
  rw [lx_hdl] at e5
  have := World.var?_cell lx_et e5 0
  unfold ErrT hdl
  simpa using this
/-- A world that meets the condition. -/
noncomputable def laidWorld (os : Os) : World :=
  let w0 := World.holding Tryz.prog os ⟨#[], #[], []⟩
  { w0 with heap := w0.heap.modify 0 fun
      | .cells _ t frozen => .cells #[.iface 261 (.agg #[.pointer (some ⟨1, 27, none⟩)])] t frozen
      | o => o }
theorem laidWorld_met (os : Os) (args : Array Value) : laidMetH Tryz.prog theLaid ((laidWorld os).forCall (fun _ _ => 0) ⟨#[], args, []⟩).memory :=
  laidMetH_of_parts (laidMet_nil _ _) (by kernel_rfl)
/-- The contract of a law with a condition on the world. -/
theorem law_contract_x {P : Program} {X : World → Prop} (hl : laidOutB P = true) {k : FuncId} {f : Func} {s : ChangeSpec} {tb : TypeId} (hts : f.params.toList.all (fun t => P.readableRec t && decide (t < P.types.size)) = true)
    (hres : f.resultTypes = #[tb]) (hb : P.underlying tb = some .bool) (hvars : s.vars = [])
    (hfn : ∀ (H : Type) (ds : List (DataW H)), ds.length = f.params.toList.length → s.fn H ds = { results := [.lit (.bool true)], args := ds })
    (walk : ∀ (W : World) (vs : List Value), X W → vs.length = f.params.toList.length → (∀ (i : Nat) (t : TypeId) (v : Value), f.params.toList[i]? = some t → vs[i]? = some v → RdV P W t v) →
      Calls P k vs.toArray W fun e W' => e = .returned (.bool true) ∧ Fr none_ W W')
    {H : Type} {enc : TypeId × Value → H} (W : World) (base : Nat) (args : Array Value) (ds gs : List (DataW H)) (before : List MemPlace)
    (hval : ∀ (j : Nat) t v, f.params[j]? = some t → args[j]? = some v → Value.okWide P W .any base t v)
    (hW : DataW.Whole enc P f.params.toList s.vars false W args.toList ds gs before)
    (hsz : (DataW.weightsEach P (f.params.toList ++ s.plain.varTypes P) (ds ++ gs)).all (· ≤ reachBytes) = true) (hx : X W) :
    Calls P k args W fun e W' => ∃ v, e = .returned v ∧ s.post enc P f false true false false W args v W' := by
  have hW' := hW
  obtain ⟨p, q, hA, hV, rfl, hfz, hnd⟩ := hW
  rw [hvars] at hV
  obtain ⟨rfl, rfl⟩ := trodVars_none hV
  have hvt : s.plain.varTypes P = [] := by
    have : s.plain.vars = [] := hvars
    simp [DataSpec.varTypes, this]
  rw [hvt, List.append_nil, List.append_nil] at hsz
  have hsz2 : ∀ n ∈ DataW.weightsEach P f.params.toList ds, n ≤ reachBytes := by simpa [List.all_eq_true] using hsz
  obtain ⟨h1, h2, h3⟩ := rdAll hA hsz2
  refine (walk W args.toList hx h1 (fun i t v ht hv => ⟨h3 i t v ht hv, _, base, hval i t v (by simpa using ht) (by simpa using hv)⟩)).mono fun e W' ⟨he, hf⟩ => ?_
  have bel := hf.below
  refine ⟨_, he, ds, [], _, [], p, [], hW', ?_, ?_, ?_, bel.frame _, fun h => by cases h⟩
  · rw [hres, List.append_nil, hfn H ds h2]
    exact trodAll_mk1 (shut_bool hb _)
  · rw [List.append_nil, hfn H ds h2]
    exact trodAll_stays hl bel hts hA (fun x hx => by simpa using hW'.lt x (by simpa using hx))
  · rw [hvars, List.append_nil, hfn H ds h2]; rfl
end Go.Proofs.YtffolfemcllfkaaGreatDoor

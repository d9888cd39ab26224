import Derived.Test.YtjfeibbghhjjeaaDoorKit
import Derived.Deep.RegionHeld3
namespace Go.Proofs.YtjfeibbghhjjeaaDoor
open Go.RowKit
set_option linter.unusedVariables false
set_option linter.unusedSimpArgs false

/-! A struct stored into a block of its own, in a region that draws its order. -/
theorem step_store_blk {P : Program} {w : World} {ops : Array Oper} {o : Oper} {a : Act} {K : Act → World → Prop} {Q : Exit → Act → World → Prop} {E : Prop} (hgd : o.guard = none) (ty : TypeId) (x y : Operand) (ho : o.op = .store ty x y)
    {b : Nat} {c c' : Array Value} {e : TypeId} (hx : a.eval x = .pointer (some ⟨b, 0, none⟩)) (hy : a.eval y = .agg c') (hb : w.heap[b]? = some (.cells c e (0, 0))) (hs : c.size = c'.size) (hi : (P.info? ty).map (·.size) = some c'.size) (h1 : ∀ v ∈ c'.toList, v.oneCell' = true)
    (h : ∀ w', Fr (fun i => i = b) w w' → w'.heap[b]? = some (.cells c' e (0, 0)) → K (a.put o.dst undef) w') :
    if Region.wanted o (yielded ops a.tmps) = true then Oper.wp P o a w K Q else E := by
  have hw : Region.wanted o (yielded ops a.tmps) = true := by simp [Region.wanted, hgd]
  rw [if_pos hw]
  have hrun := run_storeVar_row (P := P) w b e ty c c' hb hi hs (by simpa using all_oneCell_toArray h1)
  unfold Oper.wp execOp
  simp only [ho, hx, hy, Instr.storeAt, Instr.sureAddr, Sem.run_bind, Sem.run_pure, Result.andThen_ok, hrun]
  refine h _ ⟨rfl, rfl, rfl, by simp [World.setRow], fun k _ hn => by simp only [World.setRow, Array.getElem?_modify]; rw [if_neg (Ne.symm hn)]⟩ ?_
  simp [World.setRow, Array.getElem?_modify, hb]
end Go.Proofs.YtjfeibbghhjjeaaDoor

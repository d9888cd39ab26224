import Derived.Test.YtffolfemcllfkaaGreatDoorLawX
import Derived.SevenTiedAt
namespace Go.Proofs.YtffolfemcllfkaaGreatDoor
open Go
theorem no_standin {P : Program} {ps : Array TypeId} (h : ps.toList.all (fun t => !P.wantsStandIn t) = true) (j : Nat) (t : TypeId) (ht : ps[j]? = some t) : P.wantsStandIn t = false := by
  have hm : t ∈ ps.toList := by
    obtain ⟨hj, rfl⟩ := Array.getElem?_eq_some_iff.1 ht
    simp
  have := List.all_eq_true.1 h t hm
  simpa using this
end Go.Proofs.YtffolfemcllfkaaGreatDoor

/-
  No cell of these rows narrows 'for every input' (looked for: loops, veiled, ifaces, maps, wideKeys, modest, calm, conditions, laid).
  DERIVED. THE GIVEN ROWS OF THIS SEAT. 7 by the template 'for every input the law returns true; each argument reads behind the call as it read before'; 0 by the template 'total and deterministic' (their statements: YtagioimkpdcokaaTotals.lean).
  GIVEN WITH THE SEED: the statements are not yours to turn. If you find one false, say at which input.
  Laid BY PROGRAM, IN A SANDBOX (cutbox-rows.mjs): the forced cells as the released guide's own fill.sh prints them over the translation 27e382a0a0534a71… (all of the seat's roots in one cut). By AI agents, Wed Nov 11 2026. No macro, syntax, notation, axiom, sorry.
-/
import Derived.Test.YtagioimkpdcokaaChecked
import GoSem.Claim
import GoSem.ClaimJoined
import GoSem.ClaimMapViews
import Derived.JoinedTies
import Derived.KernelRfl
namespace Go.Proofs.Ytagioimkpdcokaa
/- THE CELL 'sum', in the pinned program and in every row, IS THE sha256 OF THE DUMP (.gsa) THAT YtagioimkpdcokaaProg.lean LOADS. Nothing in Lean hashes anything: it is a label: what it is worth is what the hold of that sum in a sandbox is worth. -/
noncomputable def Try.pinned : Pinned := { name := "ytagioimkpdcokaa", sum := "27e382a0a0534a714a1c15bac7e9abca448efc542fcc79cf3090fdacce22a448", checked := Try.checked }
namespace Rows
def none {H : Type} : Left H := { results := [], args := [] }

/-- 'drydocklaw04.ToggleRooms': WHATEVER THE INPUT: true; the input reads as it did. -/
def toggleRoomsSpec : ChangeSpec := { name := "toggleRooms", fn := fun _ => fun
  | [d] => { results := [.lit (.bool true)], args := [d] }
  | _ => none }
def toggleRoomsRow : OpenClaim := { program := "ytagioimkpdcokaa", sum := "27e382a0a0534a714a1c15bac7e9abca448efc542fcc79cf3090fdacce22a448", func := "drydock/drydocklaw04.ToggleRooms", spec := "toggleRooms", inPlace := ["internal/reflectlite.TypeOf"], unfollowed := true, recurses := true, apart := false }
def ToggleRoomsSaid : Prop := toggleRoomsRow.holds Try.pinned (OpenSpec.ofChange toggleRoomsSpec)

/-- ITS FALSE NEIGHBOUR: 'it returns false'. Refute it at one input. -/
def toggleRoomsWrong : ChangeSpec := { name := "toggleRooms", fn := fun _ => fun
  | [d] => { results := [.lit (.bool false)], args := [d] }
  | _ => none }
def ToggleRoomsWrongFalsely : Prop := toggleRoomsRow.holds Try.pinned (OpenSpec.ofChange toggleRoomsWrong)

/-- 'drydocklaw16.LogNeeds': WHATEVER THE INPUT: true; the input reads as it did. -/
def logNeedsSpec : ChangeSpec := { name := "logNeeds", fn := fun _ => fun
  | [d1, d2] => { results := [.lit (.bool true)], args := [d1, d2] }
  | _ => none }
def logNeedsRow : OpenClaim := { program := "ytagioimkpdcokaa", sum := "27e382a0a0534a714a1c15bac7e9abca448efc542fcc79cf3090fdacce22a448", func := "drydock/drydocklaw16.LogNeeds", spec := "logNeeds", unfollowed := true, recurses := true, apart := false }
def LogNeedsSaid : Prop := logNeedsRow.holds Try.pinned (OpenSpec.ofChange logNeedsSpec)

/-- ITS FALSE NEIGHBOUR: 'it returns false'. Refute it at one input. -/
def logNeedsWrong : ChangeSpec := { name := "logNeeds", fn := fun _ => fun
  | [d1, d2] => { results := [.lit (.bool false)], args := [d1, d2] }
  | _ => none }
def LogNeedsWrongFalsely : Prop := logNeedsRow.holds Try.pinned (OpenSpec.ofChange logNeedsWrong)

/-- 'drydocklaw17.HotThere': WHATEVER THE INPUT: true; the input reads as it did. -/
def hotThereSpec : ChangeSpec := { name := "hotThere", fn := fun _ => fun
  | [d] => { results := [.lit (.bool true)], args := [d] }
  | _ => none }
def hotThereRow : OpenClaim := { program := "ytagioimkpdcokaa", sum := "27e382a0a0534a714a1c15bac7e9abca448efc542fcc79cf3090fdacce22a448", func := "drydock/drydocklaw17.HotThere", spec := "hotThere", unfollowed := true, recurses := true, apart := false }
def HotThereSaid : Prop := hotThereRow.holds Try.pinned (OpenSpec.ofChange hotThereSpec)

/-- ITS FALSE NEIGHBOUR: 'it returns false'. Refute it at one input. -/
def hotThereWrong : ChangeSpec := { name := "hotThere", fn := fun _ => fun
  | [d] => { results := [.lit (.bool false)], args := [d] }
  | _ => none }
def HotThereWrongFalsely : Prop := hotThereRow.holds Try.pinned (OpenSpec.ofChange hotThereWrong)

/-- 'drydocklaw01.DevSafe': WHATEVER THE INPUT: true; the input reads as it did. -/
def devSafeSpec : ChangeSpec := { name := "devSafe", fn := fun _ => fun
  | [d1, d2, d3] => { results := [.lit (.bool true)], args := [d1, d2, d3] }
  | _ => none }
def devSafeRow : OpenClaim := { program := "ytagioimkpdcokaa", sum := "27e382a0a0534a714a1c15bac7e9abca448efc542fcc79cf3090fdacce22a448", func := "drydock/drydocklaw01.DevSafe", spec := "devSafe", unfollowed := true, recurses := true, apart := false }
def DevSafeSaid : Prop := devSafeRow.holds Try.pinned (OpenSpec.ofChange devSafeSpec)

/-- ITS FALSE NEIGHBOUR: 'it returns false'. Refute it at one input. -/
def devSafeWrong : ChangeSpec := { name := "devSafe", fn := fun _ => fun
  | [d1, d2, d3] => { results := [.lit (.bool false)], args := [d1, d2, d3] }
  | _ => none }
def DevSafeWrongFalsely : Prop := devSafeRow.holds Try.pinned (OpenSpec.ofChange devSafeWrong)

/-- 'drydocklaw01.DevKept': WHATEVER THE INPUT: true; the input reads as it did. -/
def devKeptSpec : ChangeSpec := { name := "devKept", fn := fun _ => fun
  | [d1, d2, d3] => { results := [.lit (.bool true)], args := [d1, d2, d3] }
  | _ => none }
def devKeptRow : OpenClaim := { program := "ytagioimkpdcokaa", sum := "27e382a0a0534a714a1c15bac7e9abca448efc542fcc79cf3090fdacce22a448", func := "drydock/drydocklaw01.DevKept", spec := "devKept", unfollowed := true, recurses := true, apart := false }
def DevKeptSaid : Prop := devKeptRow.holds Try.pinned (OpenSpec.ofChange devKeptSpec)

/-- ITS FALSE NEIGHBOUR: 'it returns false'. Refute it at one input. -/
def devKeptWrong : ChangeSpec := { name := "devKept", fn := fun _ => fun
  | [d1, d2, d3] => { results := [.lit (.bool false)], args := [d1, d2, d3] }
  | _ => none }
def DevKeptWrongFalsely : Prop := devKeptRow.holds Try.pinned (OpenSpec.ofChange devKeptWrong)

/-- 'drydocklaw18.ColdPlaces': WHATEVER THE INPUT: true; the input reads as it did. -/
def coldPlacesSpec : ChangeSpec := { name := "coldPlaces", fn := fun _ => fun
  | [d] => { results := [.lit (.bool true)], args := [d] }
  | _ => none }
def coldPlacesRow : OpenClaim := { program := "ytagioimkpdcokaa", sum := "27e382a0a0534a714a1c15bac7e9abca448efc542fcc79cf3090fdacce22a448", func := "drydock/drydocklaw18.ColdPlaces", spec := "coldPlaces", inPlace := ["sync/atomic.LoadUint32", "(*internal/sync.Mutex).Lock", "internal/race.Disable", "sync/atomic.CompareAndSwapInt32", "internal/race.Enable", "internal/race.Acquire", "(*internal/sync.Mutex).lockSlow", "internal/sync.runtime_canSpin", "internal/sync.runtime_doSpin", "internal/sync.throw", "internal/sync.runtime_nanotime", "internal/sync.runtime_SemacquireMutex", "sync/atomic.AddInt32", "(*internal/sync.Mutex).Unlock", "internal/race.ReleaseMerge", "(*internal/sync.Mutex).unlockSlow", "internal/sync.fatal", "internal/sync.runtime_Semrelease", "sync/atomic.StoreUint32"], unfollowed := true, recurses := true, apart := false }
def ColdPlacesSaid : Prop := coldPlacesRow.holds Try.pinned (OpenSpec.ofChange coldPlacesSpec)

/-- ITS FALSE NEIGHBOUR: 'it returns false'. Refute it at one input. -/
def coldPlacesWrong : ChangeSpec := { name := "coldPlaces", fn := fun _ => fun
  | [d] => { results := [.lit (.bool false)], args := [d] }
  | _ => none }
def ColdPlacesWrongFalsely : Prop := coldPlacesRow.holds Try.pinned (OpenSpec.ofChange coldPlacesWrong)

/-- 'drydocklaw16.LogSafe': WHATEVER THE INPUT: true; the input reads as it did. -/
def logSafeSpec : ChangeSpec := { name := "logSafe", fn := fun _ => fun
  | [d1, d2] => { results := [.lit (.bool true)], args := [d1, d2] }
  | _ => none }
def logSafeRow : OpenClaim := { program := "ytagioimkpdcokaa", sum := "27e382a0a0534a714a1c15bac7e9abca448efc542fcc79cf3090fdacce22a448", func := "drydock/drydocklaw16.LogSafe", spec := "logSafe", unfollowed := true, recurses := true, apart := false }
def LogSafeSaid : Prop := logSafeRow.holds Try.pinned (OpenSpec.ofChange logSafeSpec)

/-- ITS FALSE NEIGHBOUR: 'it returns false'. Refute it at one input. -/
def logSafeWrong : ChangeSpec := { name := "logSafe", fn := fun _ => fun
  | [d1, d2] => { results := [.lit (.bool false)], args := [d1, d2] }
  | _ => none }
def LogSafeWrongFalsely : Prop := logSafeRow.holds Try.pinned (OpenSpec.ofChange logSafeWrong)

/- THE SECOND FORM. 'bulk': how many values and letters a reading holds, each counted each time it is reached (what is shared counts as often as it is met; a slice's spare places count too). A statement '..UptoSaid' is the law's where the arguments, and the package variables that the reading takes, are together of bulk at most 1048576: NARROWER than '..Said'. Prove '..Said' where nothing that the law and all that it calls make is longer than what came in: it says more and counts as full. Else prove '..UptoSaid'. A law counts once. -/
mutual
def uptoBulk {H : Type} : DataW H → Nat
  | .lit (.string bytes) => bytes.length + 1
  | .lit _ => 1
  | .nil => 1
  | .ptr d => uptoBulk d + 1
  | .slice elems spare => uptoBulkAll elems + uptoBulkAll spare + 1
  | .agg parts => uptoBulkAll parts + 1
  | .iface _ d => uptoBulk d + 1
  | .map entries => uptoBulkEntries entries + 1
  | .held _ => 1
def uptoBulkAll {H : Type} : List (DataW H) → Nat
  | [] => 0
  | d :: r => uptoBulk d + uptoBulkAll r
def uptoBulkEntries {H : Type} : List (Lit × DataW H) → Nat
  | [] => 0
  | x :: r => uptoBulkEntry x + uptoBulkEntries r
def uptoBulkEntry {H : Type} : Lit × DataW H → Nat
  | (.string bytes, d) => bytes.length + uptoBulk d + 1
  | (_, d) => uptoBulk d + 1
 end
def uptoSmall : (H : Type) → List (DataW H) → Bool := fun _ ds => decide (uptoBulkAll ds ≤ 1048576)
def OpenSpec.upto (s : _root_.Go.ChangeSpec) : _root_.Go.OpenSpec := { _root_.Go.OpenSpec.ofChange s with cond := some uptoSmall }

/-- 'drydocklaw04.ToggleRooms', WHERE WHAT IT READS IS OF BULK AT MOST 1048576: true; the input reads as it did. -/
def toggleRoomsUptoRow : OpenClaim := { program := "ytagioimkpdcokaa", sum := "27e382a0a0534a714a1c15bac7e9abca448efc542fcc79cf3090fdacce22a448", func := "drydock/drydocklaw04.ToggleRooms", spec := "toggleRooms", inPlace := ["internal/reflectlite.TypeOf"], unfollowed := true, recurses := true, apart := false, narrowed := true }
def ToggleRoomsUptoSaid : Prop := toggleRoomsUptoRow.holds Try.pinned (OpenSpec.upto toggleRoomsSpec)

/-- 'drydocklaw16.LogNeeds', WHERE WHAT IT READS IS OF BULK AT MOST 1048576: true; the input reads as it did. -/
def logNeedsUptoRow : OpenClaim := { program := "ytagioimkpdcokaa", sum := "27e382a0a0534a714a1c15bac7e9abca448efc542fcc79cf3090fdacce22a448", func := "drydock/drydocklaw16.LogNeeds", spec := "logNeeds", unfollowed := true, recurses := true, apart := false, narrowed := true }
def LogNeedsUptoSaid : Prop := logNeedsUptoRow.holds Try.pinned (OpenSpec.upto logNeedsSpec)

/-- 'drydocklaw17.HotThere', WHERE WHAT IT READS IS OF BULK AT MOST 1048576: true; the input reads as it did. -/
def hotThereUptoRow : OpenClaim := { program := "ytagioimkpdcokaa", sum := "27e382a0a0534a714a1c15bac7e9abca448efc542fcc79cf3090fdacce22a448", func := "drydock/drydocklaw17.HotThere", spec := "hotThere", unfollowed := true, recurses := true, apart := false, narrowed := true }
def HotThereUptoSaid : Prop := hotThereUptoRow.holds Try.pinned (OpenSpec.upto hotThereSpec)

/-- 'drydocklaw01.DevSafe', WHERE WHAT IT READS IS OF BULK AT MOST 1048576: true; the input reads as it did. -/
def devSafeUptoRow : OpenClaim := { program := "ytagioimkpdcokaa", sum := "27e382a0a0534a714a1c15bac7e9abca448efc542fcc79cf3090fdacce22a448", func := "drydock/drydocklaw01.DevSafe", spec := "devSafe", unfollowed := true, recurses := true, apart := false, narrowed := true }
def DevSafeUptoSaid : Prop := devSafeUptoRow.holds Try.pinned (OpenSpec.upto devSafeSpec)

/-- 'drydocklaw01.DevKept', WHERE WHAT IT READS IS OF BULK AT MOST 1048576: true; the input reads as it did. -/
def devKeptUptoRow : OpenClaim := { program := "ytagioimkpdcokaa", sum := "27e382a0a0534a714a1c15bac7e9abca448efc542fcc79cf3090fdacce22a448", func := "drydock/drydocklaw01.DevKept", spec := "devKept", unfollowed := true, recurses := true, apart := false, narrowed := true }
def DevKeptUptoSaid : Prop := devKeptUptoRow.holds Try.pinned (OpenSpec.upto devKeptSpec)

/-- 'drydocklaw18.ColdPlaces', WHERE WHAT IT READS IS OF BULK AT MOST 1048576: true; the input reads as it did. -/
def coldPlacesUptoRow : OpenClaim := { program := "ytagioimkpdcokaa", sum := "27e382a0a0534a714a1c15bac7e9abca448efc542fcc79cf3090fdacce22a448", func := "drydock/drydocklaw18.ColdPlaces", spec := "coldPlaces", inPlace := ["sync/atomic.LoadUint32", "(*internal/sync.Mutex).Lock", "internal/race.Disable", "sync/atomic.CompareAndSwapInt32", "internal/race.Enable", "internal/race.Acquire", "(*internal/sync.Mutex).lockSlow", "internal/sync.runtime_canSpin", "internal/sync.runtime_doSpin", "internal/sync.throw", "internal/sync.runtime_nanotime", "internal/sync.runtime_SemacquireMutex", "sync/atomic.AddInt32", "(*internal/sync.Mutex).Unlock", "internal/race.ReleaseMerge", "(*internal/sync.Mutex).unlockSlow", "internal/sync.fatal", "internal/sync.runtime_Semrelease", "sync/atomic.StoreUint32"], unfollowed := true, recurses := true, apart := false, narrowed := true }
def ColdPlacesUptoSaid : Prop := coldPlacesUptoRow.holds Try.pinned (OpenSpec.upto coldPlacesSpec)

/-- 'drydocklaw16.LogSafe', WHERE WHAT IT READS IS OF BULK AT MOST 1048576: true; the input reads as it did. -/
def logSafeUptoRow : OpenClaim := { program := "ytagioimkpdcokaa", sum := "27e382a0a0534a714a1c15bac7e9abca448efc542fcc79cf3090fdacce22a448", func := "drydock/drydocklaw16.LogSafe", spec := "logSafe", unfollowed := true, recurses := true, apart := false, narrowed := true }
def LogSafeUptoSaid : Prop := logSafeUptoRow.holds Try.pinned (OpenSpec.upto logSafeSpec)

end Rows
end Go.Proofs.Ytagioimkpdcokaa

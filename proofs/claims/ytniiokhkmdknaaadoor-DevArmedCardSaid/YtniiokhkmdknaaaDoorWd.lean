import Derived.Test.YtniiokhkmdknaaaDoorDevAll
import Derived.Deep.OwnRows
namespace Go.Proofs.YtniiokhkmdknaaaDoor
open Go.RowKit
set_option linter.unusedVariables false
set_option linter.unusedSimpArgs false
/-! A law's own device. -/
theorem padB_len' {l : List UInt8} (h : l.length ≤ 64) : (padB l).length = 64 := by simp [padB]; omega
theorem info_u8z : (Tryd.prog.info? 5).map (fun i => (i.zero, i.size, i.bytes)) = some (some (.int .u8 0), 1, 1) := by kernel_rfl
theorem made64 : madeCells #[Value.int .u8 0] 64 = (zeroB.map byteV).toArray := by kernel_rfl
theorem mk64 (w : World) : (Instr.makeSlice 32 (.int .i64 64) (.int .i64 64)).run Tryd.prog w = .ok (.slice (some ⟨w.heap.size, 0, none⟩) 64 64) (w.alloc (.cells (zeroB.map byteV).toArray 5)) := by
  have h := run_make_row' (P := Tryd.prog) 32 5 (.int .u8 0) 1 Tryd.underlying32 info_u8z rfl .i64 .i64 64 (by omega) (by omega) w
  rw [made64] at h
  exact h
structure Wd (w wr : World) (p m1 m2 : Nat) (D : DevS) : Prop where
  fr : Fr none_ w wr
  dev : DevAt wr p m1 m2 D
  new : ∀ i, devBlks p m1 m2 i → w.heap.size ≤ i
theorem Wd.step {w wr w' : World} {p m1 m2 : Nat} {D D' : DevS} (h : Wd w wr p m1 m2 D) (hF : Fr (devBlks p m1 m2) wr w') (hD : DevAt w' p m1 m2 D') : Wd w w' p m1 m2 D' :=
  ⟨h.fr.trans' hF (fun k hk hs => by have := h.new k hs; omega), hD, h.new⟩
theorem Wd.step0 {w wr w' : World} {p m1 m2 : Nat} {D : DevS} (h : Wd w wr p m1 m2 D) (hF : Fr none_ wr w') : Wd w w' p m1 m2 D := h.step (Fr.of0 hF) (h.dev.fr0 hF)
theorem Wd.apart {w wr : World} {p m1 m2 : Nat} {D : DevS} (h : Wd w wr p m1 m2 D) {A : Option Addr} {vs : List Value} (hA : CellsAt w A vs) : ∀ b, blkOf A b → 0 < vs.length → ¬ devBlks p m1 m2 b := fun b hb hv hd => by
  have := hA.lt hb hv; have := h.new b hd; omega
end Go.Proofs.YtniiokhkmdknaaaDoor

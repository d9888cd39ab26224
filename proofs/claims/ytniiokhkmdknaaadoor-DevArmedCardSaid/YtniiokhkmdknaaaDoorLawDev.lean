import Derived.Test.YtniiokhkmdknaaaDoorDevAll2
import Derived.Lib.SlBytesConst
namespace Go.Proofs.YtniiokhkmdknaaaDoor
open Go.RowKit
set_option linter.unusedVariables false
set_option linter.unusedSimpArgs false
set_option maxHeartbeats 1000000 in
set_option maxRecDepth 100000 in
theorem dsure_any (w : World) : Calls Tryd.prog 14 #[] w fun e w' => e = .returned (.bool true) ∧ Fr none_ w w' := by
  have kc := fun (w : World) (C : Array Value) (n c : Nat) => Lib.run_convert_bytes_const (P := Tryd.prog) w 32 5 C n c Tryd.underlying32 Tryd.underlying5
  go_enter Tryd.func14, Tryd.ntmps14
  go_wp2_with fail
  (with_reducible refine (new_ok 2 _ (by decide) (by decide)).mono ?_)
  rintro e w1 ⟨p, m1, m2, rfl, hF1, hD1, hfr⟩
  rw [errV_0]
  have hsz1 := hF1.size
  go_wp2_with fail
  have hc1 : CellsAt (w1.alloc (.cells #[.int .u8 97] 5 (1, 2))) (some ⟨w1.heap.size, 0, none⟩) ([97].map byteV) := CellsAt.whole (l := [97].map byteV) (heap_alloc_new _ _)
  have hD1' : DevAt (w1.alloc (.cells #[.int .u8 97] 5 (1, 2))) p m1 m2 (newD 2) := hD1.fr0 ((Fr.refl _ _).alloc _)
  (with_reducible refine (write_any hD1' 0 _ 1 1 [97] rfl hc1 (fun b hb _ => blkOf_some hb ▸ hD1.new (Nat.le_refl _))).mono ?_)
  rintro e w2 ⟨rfl, hF2, hD2⟩
  rw [show errV ((newD 2).writeE 0 [(97 : UInt8)].length) = .nilIface from congrArg errV (a₂ := 0) (by decide +kernel)]
  go_wp2_with fail
  (with_reducible refine (flush_any hD2).mono ?_)
  rintro e w3 ⟨rfl, hF3, hD3⟩
  rw [show errV ((newD 2).write 0 [(97 : UInt8)]).flushE = .nilIface from congrArg errV (a₂ := 0) (by decide +kernel)]
  go_wp2_with fail
  have hc3 : CellsAt (w3.alloc (.cells #[.int .u8 98] 5 (1, 2))) (some ⟨w3.heap.size, 0, none⟩) ([98].map byteV) := CellsAt.whole (l := [98].map byteV) (heap_alloc_new _ _)
  have hD3' := hD3.fr0 ((Fr.refl _ _).alloc (.cells #[.int .u8 98] 5 (1, 2)))
  (with_reducible refine (write_any hD3' 0 _ 1 1 [98] rfl hc3 (fun b hb _ => blkOf_some hb ▸ hD3.new (Nat.le_refl _))).mono ?_)
  rintro e w4 ⟨rfl, hF4, hD4⟩
  rw [show errV (((newD 2).write 0 [(97 : UInt8)]).flush.writeE 0 [(98 : UInt8)].length) = .nilIface from congrArg errV (a₂ := 0) (by decide +kernel)]
  go_wp2_with fail
  have hc4 : CellsAt (w4.alloc (.cells #[.bool false] 4)) (some ⟨w4.heap.size, 0, none⟩) ([false].map Value.bool) := CellsAt.whole (l := [false].map Value.bool) (heap_alloc_new _ _)
  have hD4' := hD4.fr0 ((Fr.refl _ _).alloc (.cells #[.bool false] 4))
  (with_reducible refine (start_any hD4' _ 1 1 [false] rfl hc4 (fun b hb _ => blkOf_some hb ▸ hD4.new (Nat.le_refl _)) (by decide)).mono ?_)
  rintro e w5 ⟨rfl, hF5, hD5⟩
  go_wp2_with fail
  (with_reducible refine (read_ok hD5 0 (by decide +kernel)).mono ?_)
  rintro e w6 ⟨g, rfl, hg, hF6, hb6⟩
  rw [errV_0, show DevS.get ((((newD 2).write 0 [(97 : UInt8)]).flush.write 0 [98]).start [false]) 0 = 97 :: List.replicate 63 0 by decide +kernel] at *
  have hc : w6.cell? ⟨g, 0, none⟩ = some (.int .u8 97) := by rw [cell_of_blk hb6]; rfl
  go_wp2_with fail
  go_ret
  refine ⟨rfl, ?_⟩
  have hF := ((((((Fr.refl (devBlks p m1 m2) w1).alloc _).trans hF2).trans hF3).alloc _).trans hF4 |>.alloc _).trans hF5 |>.trans0 hF6
  exact hF1.trans' hF (fun k hk hs => by have := hfr k hs; omega)
end Go.Proofs.YtniiokhkmdknaaaDoor

import Derived.Test.YtffolfemcllfkaaGreatDoorTogAll
import Derived.Lib.SlBytesConst
namespace Go.Proofs.YtffolfemcllfkaaGreatDoor
open Go.RowKit
set_option linter.unusedVariables false
set_option linter.unusedSimpArgs false

/-! drydocklaw04.sure -/
theorem calm_new (n : Int) : Calm (newD n) := ⟨rfl, rfl⟩
theorem get_new (n s : Int) : (newD n).get s = zeroB := rfl
def dA : DevS := saveT (newD 9) 0 9 ⟨1, false, [97]⟩
def dB : DevS := saveT dA 0 9 ⟨2, true, [98]⟩
theorem dA_calm : Calm dA := (calm_new 9).saveT (by decide) (by decide) (by decide) ⟨1, false, [97]⟩ (by decide)
theorem dA_sec : dA.sectors = 9 := saveD_sectors _ _ _ _ _
theorem dB_calm : Calm dB := dA_calm.saveT (by decide) (by decide) (by rw [dA_sec]; decide) ⟨2, true, [98]⟩ (by decide)
theorem dB_sec : dB.sectors = 9 := (saveD_sectors _ _ _ _ _).trans dA_sec
theorem dA_tg : Tg 0 9 dA (some ⟨1, false, [97]⟩) := (saved (D := newD 9) (by decide) (by decide) (by decide) ⟨1, false, [97]⟩ (by decide) (by decide) dA_calm.up).1
theorem dB_tg : Tg 0 9 dB (some ⟨2, true, [98]⟩) := (saved (D := dA) (by decide) (by decide) (by rw [dA_sec]; decide) ⟨2, true, [98]⟩ (by decide) (by decide) dB_calm.up).1
set_option maxHeartbeats 4000000 in
set_option maxRecDepth 100000 in
theorem tsure_any (w : World) : Calls Tryz.prog 25 #[] w fun e w' => e = .returned (.bool true) ∧ Fr none_ w w' := by
  have kc := fun (w : World) (C : Array Value) (n c : Nat) => Lib.run_convert_bytes_const (P := Tryz.prog) w 37 5 C n c Tryz.underlying37 Tryz.underlying5
  go_enter Tryz.func25, Tryz.ntmps25
  go_wp2_with fail
  (with_reducible refine (new_ok 9 _ (by decide) (by decide)).mono ?_)
  rintro e w1 ⟨p, m1, m2, rfl, hF1, hD1, hfr⟩
  rw [errV_0]
  have hr9 : roomF 9 = 256 := by decide +kernel
  go_wp2_with fail
  (with_reducible refine (room_any 0 9 _).mono ?_)
  rintro e w2 ⟨rfl, hF2⟩
  rw [hr9]
  have ha2 := hF2.heap0 (heap_alloc_new w1 (.cells #[.int .i64 0, .int .i64 9] 36))
  have a0 : w2.cell? ⟨w1.heap.size, 0, none⟩ = some (.int .i64 0) := by rw [cell_of_blk ha2]; rfl
  have a1 : w2.cell? ⟨w1.heap.size, 1, none⟩ = some (.int .i64 9) := by rw [cell_of_blk ha2]; rfl
  have hd1 := hD1.new (g := w1.heap.size) (Nat.le_refl _)
  have hD2 := hD1.fr0 ((((Fr.refl none_ w1).alloc _).trans hF2).alloc (.cells #[.int .u8 97] 5 (1, 2)))
  have hc1 : CellsAt (w2.alloc (.cells #[.int .u8 97] 5 (1, 2))) (some ⟨w2.heap.size, 0, none⟩) ([97].map byteV) := CellsAt.whole (l := [97].map byteV) (heap_alloc_new _ _)
  have hS1 := tsave_any hD2 0 9 rfl (by decide) (by decide) (by decide) (some ⟨w2.heap.size, 0, none⟩) 1 1 [97] rfl hc1 (fun b hb _ hdv => by have := blkOf_some hb; have := hD1.lt b hdv; have := hF2.size; rw [World.size_alloc] at this; omega) (by decide) (by decide) (o := none) rfl
  have hs2 : w1.heap.size < w2.heap.size := blk_lt ha2
  have HS1 := Lib.hid hS1
  clear hS1 hD2 hc1
  go_wp2_with fail
  (with_reducible refine HS1.out.mono ?_)
  rintro e w3 ⟨rfl, hF3, hD3⟩
  have hD3 : DevAt w3 p m1 m2 dA := hD3
  rw [show (saveT (newD 9) 0 9 (nextT none [97])).down = false from dA_calm.up, show errV (if false = true then 13 else 0) = .nilIface from rfl]
  have ha3 := hF3.heap (heap_alloc_old ha2 (.cells #[.int .u8 97] 5 (1, 2))) hd1
  have b0 : w3.cell? ⟨w1.heap.size, 0, none⟩ = some (.int .i64 0) := by rw [cell_of_blk ha3]; rfl
  have b1 : w3.cell? ⟨w1.heap.size, 1, none⟩ = some (.int .i64 9) := by rw [cell_of_blk ha3]; rfl
  have hD4 := hD3.fr0 ((Fr.refl none_ w3).alloc (.cells #[.int .u8 98] 5 (1, 2)))
  have hc2 : CellsAt (w3.alloc (.cells #[.int .u8 98] 5 (1, 2))) (some ⟨w3.heap.size, 0, none⟩) ([98].map byteV) := CellsAt.whole (l := [98].map byteV) (heap_alloc_new _ _)
  have hS2 := tsave_any hD4 0 9 dA_calm.up (by decide) (by decide) (by rw [dA_sec]; decide) (some ⟨w3.heap.size, 0, none⟩) 1 1 [98] rfl hc2 (fun b hb _ hdv => by have := blkOf_some hb; have := hD3.lt b hdv; omega) (by decide) (by decide) dA_tg
  have HS2 := Lib.hid hS2
  have hF5 : Fr (devBlks p m1 m2) w1 w3 := (Fr.of0 ((((Fr.refl none_ w1).alloc _).trans hF2).alloc _)).trans hF3
  clear hS2 hD4 hc2 a0 a1 ha2 hF2 hF3
  go_wp2_with fail
  (with_reducible refine HS2.out.mono ?_)
  rintro e w4 ⟨rfl, hF6, hD6⟩
  have hD6 : DevAt w4 p m1 m2 dB := hD6
  rw [show (saveT dA 0 9 (nextT (some ⟨1, false, [97]⟩) [98])).down = false from dB_calm.up, show errV (if false = true then 13 else 0) = .nilIface from rfl]
  have ha4 := hF6.heap (heap_alloc_old ha3 (.cells #[.int .u8 98] 5 (1, 2))) hd1
  have e0 : w4.cell? ⟨w1.heap.size, 0, none⟩ = some (.int .i64 0) := by rw [cell_of_blk ha4]; rfl
  have e1 : w4.cell? ⟨w1.heap.size, 1, none⟩ = some (.int .i64 9) := by rw [cell_of_blk ha4]; rfl
  have hF7 : Fr (devBlks p m1 m2) w1 w4 := (hF5.alloc _).trans hF6
  have hL := tload_any hD6 0 9 dB_calm.up (by decide) (by decide) (by rw [dB_sec]; decide) dB_tg
  have hL : Calls Tryz.prog 20 #[ptr p, area 0 9] w4 fun e w' => Loaded w4 [98] 2 e w' := hL
  have HL := Lib.hid hL
  clear hL b0 b1 ha3 hF5 hF6
  go_wp2_with fail
  (with_reducible refine HL.out.mono ?_)
  rintro e w5 ⟨A, c, rfl, hA, hnil, hbl, hF8⟩
  rw [errV_0]
  have kcv := conv_bytes (P := Tryz.prog) (src := 37) (dst := 9) Tryz.underlying37 Tryz.underlying5 Tryz.underlying9 (A := A) (n := 1) (c := c) (l := [98]) rfl hA hnil
  have hz := hF1.size
  clear hA hnil hbl
  go_wp2_with fail
  go_ret
  refine ⟨rfl, ?_⟩
  exact hF1.trans' (hF7.trans0 hF8) (fun k hk hs => by have := hfr k hs; omega)
end Go.Proofs.YtffolfemcllfkaaGreatDoor

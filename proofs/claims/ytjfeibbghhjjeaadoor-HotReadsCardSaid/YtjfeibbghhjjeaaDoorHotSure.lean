import Derived.Test.YtjfeibbghhjjeaaDoorHotS
namespace Go.Proofs.YtjfeibbghhjjeaaDoor
open Go.RowKit
set_option linter.unusedVariables false
set_option linter.unusedSimpArgs false
set_option maxRecDepth 100000

/-! drydocklaw17.sure -/
def z40 : List UInt8 := List.replicate 40 0
def hs1 : HotS := ⟨0, 1, [⟨1, 0, 0⟩, ⟨0, 0, 0⟩]⟩
def hs2 : HotS := ⟨0, 1, [⟨1, 40, 40⟩, ⟨0, 0, 0⟩]⟩
def hs3 : HotS := ⟨0, 1, [⟨2, 40, 40⟩, ⟨1, 0, 0⟩]⟩
def hs4 : HotS := ⟨0, 1, [⟨2, 40, 40⟩, ⟨1, 40, 40⟩]⟩
theorem prep1 : (newH 0 2 1).prep 40 = some (hs1, 0) := by kernel_rfl
theorem prep2 : hs2.prep 40 = some (hs3, 1) := by kernel_rfl
def hsD1 : DevS := hwrite (newD 2) hs1 0 0 z40
def hsD2 : DevS := hwrite hsD1 hs3 1 0 z40
theorem newD_len (n : Int) : ∀ i, ((newD n).get i).length = 64 := fun i => by rw [newD_get]; rfl
theorem hsD1_len : ∀ i, (hsD1.get i).length = 64 := hw_len (newD_len 2) ⟨rfl, rfl⟩ (by decide) (by decide) (by decide)
theorem hsD1_calm : Calm hsD1 := hw_calm (newD_len 2) ⟨rfl, rfl⟩ (by decide) (by decide) (by decide) (by decide)
theorem hs_got : bytesAt hsD2 hs4 0 0 40 = z40 := by
  have h1 : bytesAt hsD2 hs3 0 0 40 = bytesAt hsD1 hs3 0 0 40 := bytesAt_old hsD1_len hsD1_calm (by decide) (by rw [show hsD1.sectors = 2 from hw_sectors]; decide) (by decide) (by decide) 0 0 40 (by decide) (.inl (by decide))
  have h2 : bytesAt hsD1 hs1 0 0 z40.length = z40 := bytesAt_new (newD_len 2) ⟨rfl, rfl⟩ (by decide) (by decide) (by decide)
  exact h1.trans h2
theorem mk40 (w : World) : (Instr.makeSlice 24 (.int .i64 40) (.int .i64 40)).run Tryd.prog w = .ok (.slice (some ⟨w.heap.size, 0, none⟩) 40 40) (w.alloc (.cells (z40.map byteV).toArray 5)) := by
  obtain ⟨i, hi, hzz⟩ := Option.map_eq_some_iff.1 info_u8h
  simp only [Prod.mk.injEq] at hzz
  obtain ⟨hz, hs, hb⟩ := hzz
  have h := run_make (P := Tryd.prog) w 24 5 i _ Tryd.underlying24 hi hz .i64 .i64 40 40 (by omega) (by omega) (by rw [hb]; omega) (by omega)
  rw [hs] at h
  rw [show (z40.map byteV).toArray = madeCells (Value.int .u8 0).cells ((40 : Int).toNat * 1) by kernel_rfl]
  exact h
set_option maxHeartbeats 8000000 in
theorem hsure_any (w : World) : Calls Tryd.prog 9 #[] w fun e w' => e = .returned (.bool true) ∧ Fr none_ w w' := by
  have kmk := mk40
  have ksum : ∀ n : Nat, (n : Int) = ((n : Nat) : Int) := fun _ => rfl
  clear ksum
  go_enter Tryd.func9, Tryd.ntmps9
  go_wp2_with fail
  (with_reducible refine (new_ok 2 _ (by decide) (by decide)).mono ?_)
  rintro e w1 ⟨p, m1, m2, rfl, hF1, hD1, hfr⟩
  rw [errV_0]
  have hnew : Calls Tryd.prog 13 #[ptr p, .agg #[.int .i64 0, .int .i64 2, .int .i64 1]] w1 fun e w' => HotNew w1 p (newH 0 2 1) e w' := hnew_any hD1 0 2 1 (by decide) (by decide) (by decide) (by decide) made2
  have HNEW := Lib.hid hnew
  clear hnew
  go_wp2_with fail
  (with_reducible refine HNEW.out.mono ?_)
  rintro e w2 ⟨⟨h, bx, rfl, hh, g1, g2⟩, hF2⟩
  rw [errV_0]
  have S0 := hs_new hD1 hF1 hfr (by decide) hh g1 g2 hF2
  have S1 := S0.step0 ((Fr.refl none_ w2).alloc (.cells (z40.map byteV).toArray 5))
  have hc1 : CellsAt (w2.alloc (.cells (z40.map byteV).toArray 5)) (some ⟨w2.heap.size, 0, none⟩) (z40.map byteV) := CellsAt.whole (heap_alloc_new _ _)
  have hp1 := S1.put (some ⟨w2.heap.size, 0, none⟩) 40 40 z40 rfl (by decide) (by decide) hc1 (S0.apart_new (fun b hb => by have := blkOf_some hb; omega)) hs1 0 prep1
  have hp1 : Calls Tryd.prog 25 #[ptr h, .slice (some ⟨w2.heap.size, 0, none⟩) 40 40] (w2.alloc (.cells (z40.map byteV).toArray 5)) fun e w' => PutS w (w2.alloc (.cells (z40.map byteV).toArray 5)) h bx p m1 m2 hs2 hsD1 (.agg #[.int .i64 0, .int .i64 0, .int .i64 40, .int .u32 (sumF z40 : Nat)]) 0 e w' := hp1
  have HP1 := Lib.hid hp1
  clear hp1 hc1 S1 hh g1 g2 hD1 hF2 hfr
  go_wp2_with fail
  (with_reducible refine HP1.out.mono ?_)
  rintro e w3 ⟨rfl, S3, hF3⟩
  rw [errV_0]
  obtain ⟨W3, hW3⟩ : ∃ W3, W3 = w3.alloc (.cells #[.int .i64 0, .int .i64 0, .int .i64 40, .int .u32 (sumF z40 : Nat)] 87) := ⟨_, rfl⟩
  have hFW3 : Fr none_ w3 W3 := hW3 ▸ (Fr.refl _ _).alloc _
  have hlW3 : W3.heap[w3.heap.size]? = some (.cells #[.int .i64 0, .int .i64 0, .int .i64 40, .int .u32 (sumF z40 : Nat)] 87 (0, 0)) := hW3 ▸ heap_alloc_new _ _
  have S4 := (S3.step0 hFW3).step0 ((Fr.refl none_ W3).alloc (.cells (z40.map byteV).toArray 5))
  have hc2 : CellsAt (W3.alloc (.cells (z40.map byteV).toArray 5)) (some ⟨W3.heap.size, 0, none⟩) (z40.map byteV) := CellsAt.whole (heap_alloc_new _ _)
  have hp2 := S4.put (some ⟨W3.heap.size, 0, none⟩) 40 40 z40 rfl (by decide) (by decide) hc2 ((S3.step0 hFW3).apart_new (fun b hb => by have := blkOf_some hb; omega)) hs3 1 prep2
  have hp2 : Calls Tryd.prog 25 #[ptr h, .slice (some ⟨W3.heap.size, 0, none⟩) 40 40] (W3.alloc (.cells (z40.map byteV).toArray 5)) fun e w' => PutS w (W3.alloc (.cells (z40.map byteV).toArray 5)) h bx p m1 m2 hs4 hsD2 (.agg #[.int .i64 1, .int .i64 0, .int .i64 40, .int .u32 (sumF z40 : Nat)]) 0 e w' := hp2
  have hlD := heap_alloc_old hlW3 (.cells (z40.map byteV).toArray 5)
  have hdl : ¬ (w3.heap.size = bx ∨ devBlks p m1 m2 w3.heap.size) := by
    have := blk_lt S3.hd.hot.bxs
    rintro (e | e)
    · omega
    · exact S3.hd.dev.new (Nat.le_refl _) e
  have HP2 := Lib.hid hp2
  have HW3 := Lib.hid hW3
  clear hp2 hc2 S4 S3 hFW3 hW3 hlW3
  go_wp2_with fail
  rw [show w3.heap.size + 1 = W3.heap.size by rw [HW3.out]; simp, ← HW3.out]
  (with_reducible refine HP2.out.mono ?_)
  rintro e w4 ⟨rfl, S5, hF5⟩
  rw [errV_0]
  have hl5 := hF5.heap hlD hdl
  have hl6 := heap_alloc_old hl5 (.cells #[.int .i64 1, .int .i64 0, .int .i64 40, .int .u32 (sumF z40 : Nat)] 87)
  have S6 := S5.step0 ((Fr.refl none_ w4).alloc (.cells #[.int .i64 1, .int .i64 0, .int .i64 40, .int .u32 (sumF z40 : Nat)] 87))
  obtain ⟨l0, l1, l2, l3⟩ := res_cell4 hl6
  have hgt := hget_ok S6.hd 0 0 40 (sumF z40) (by decide) (by decide) (by decide) (by decide) (by decide) (by rw [hs_got])
  rw [hs_got] at hgt
  have hgt : Calls Tryd.prog 26 #[ptr h, .agg #[.int .i64 0, .int .i64 0, .int .i64 40, .int .u32 (sumF z40 : Nat)]] (w4.alloc (.cells #[.int .i64 1, .int .i64 0, .int .i64 40, .int .u32 (sumF z40 : Nat)] 87)) fun e w' => GetOk (w4.alloc (.cells #[.int .i64 1, .int .i64 0, .int .i64 40, .int .u32 (sumF z40 : Nat)] 87)) z40 e w' := hgt
  have HGT := Lib.hid hgt
  clear hgt hl6 hlD hdl hl5
  go_wp2_with fail
  (with_reducible refine HGT.out.mono ?_)
  rintro e w7 ⟨⟨g, o, c, rfl, hA7, hg7, hc7⟩, hF7⟩
  rw [errV_0]
  have S7 := S6.step0 hF7
  have hst : Calls Tryd.prog 27 #[ptr h, .int .i64 0] w7 fun e w' => e = .returned (.tuple #[.int .i64 2, .int .i64 40, .int .i64 40, errV 0]) ∧ Fr none_ w7 w' := stat_any S7.hd.hot 0 (by decide)
  have HST := Lib.hid hst
  clear hst
  rw [show z40.length = 40 from rfl]
  go_wp2_with fail
  (with_reducible refine HST.out.mono ?_)
  rintro e w8 ⟨rfl, hF8⟩
  rw [errV_0]
  have S8 := S7.step0 hF8
  have hrm : Calls Tryd.prog 28 #[ptr h] w8 fun e w' => e = .returned (.int .i64 24) ∧ Fr none_ w8 w' := hroom_any S8.hd.hot S8.ok
  have HRM := Lib.hid hrm
  clear hrm
  go_wp2_with fail
  (with_reducible refine HRM.out.mono ?_)
  rintro e w9 ⟨rfl, hF9⟩
  go_wp2_with fail
  go_ret
  exact ⟨rfl, S8.fr.trans hF9⟩
end Go.Proofs.YtjfeibbghhjjeaaDoor

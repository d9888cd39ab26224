import Derived.Test.YtdlhndbgmldeaaaHotP
import Derived.Deep.RegionHeld3
namespace Go.Proofs.Ytdlhndbgmldeaaa
open Go.RowKit
set_option linter.unusedVariables false
set_option linter.unusedSimpArgs false
set_option maxRecDepth 100000

/-! hot.at, Get -/
abbrev locV (i fr n sum : Nat) : Value := .agg #[.int .i64 (i : Int), .int .i64 (fr : Int), .int .i64 (n : Int), .int .u32 (sum : Int)]
set_option maxHeartbeats 4000000 in
theorem hat_any {w : World} {h bx p : Nat} {H : HotS} (hh : HotAt w h bx p H) (i fr n sum : Nat) (hi : i < H.boxes.length) (hs : H.boxes[i].state ≠ 0) (hn : 1 ≤ n) (hfit : fr + n ≤ H.boxes[i].used) (hu : H.boxes[i].used ≤ 65536) :
    Calls Try.prog 20 #[ptr h, locV i fr n sum] w fun e w' => e = .returned (.tuple #[.pointer (some ⟨bx, i * 3, none⟩), errV 0]) ∧ Fr none_ w w' := by
  obtain ⟨V, hV⟩ : ∃ V, V = w.alloc (.cells #[.int .i64 (i : Int), .int .i64 (fr : Int), .int .i64 (n : Int), .int .u32 (sum : Int)] 43) := ⟨_, rfl⟩
  have hF : Fr none_ w V := hV ▸ (Fr.refl _ _).alloc _
  have hb : V.heap[w.heap.size]? = some (.cells #[.int .i64 (i : Int), .int .i64 (fr : Int), .int .i64 (n : Int), .int .u32 (sum : Int)] 43 (0, 0)) := hV ▸ heap_alloc_new _ _
  have hbox := hbox_any (hh.fr0 hF) i hi hs
  obtain ⟨b0, b1, b2⟩ := box_cells (hh.fr0 hF).bxs i hi
  obtain ⟨x, hx⟩ : ∃ x, x = H.boxes[i] := ⟨_, rfl⟩
  rw [← hx] at b0 b1 b2 hfit hu
  clear hx hs
  have HB := Lib.hid hbox
  have HV := Lib.hid hV
  clear hbox hV
  have c0 : V.cell? ⟨w.heap.size, 0, none⟩ = some (.int .i64 (i : Int)) := by rw [cell_of_blk hb]; rfl
  go_enter Try.func20, Try.ntmps20
  go_wp2_with fail
  rw [← HV.out]
  (with_reducible refine HB.out.mono ?_)
  rintro e w1 ⟨rfl, rfl⟩
  rw [errV_0]
  go_wp2_with fail
  have d1 : V.drew.cell? ⟨w.heap.size, 1, none⟩ = some (.int .i64 (fr : Int)) := by show V.cell? _ = _; rw [cell_of_blk hb]; rfl
  have d2 : V.drew.cell? ⟨w.heap.size, 2, none⟩ = some (.int .i64 (n : Int)) := by show V.cell? _ = _; rw [cell_of_blk hb]; rfl
  have e1 : V.drew.cell? ⟨bx, i * 3 + 1, none⟩ = some (.int .i64 (x.used : Int)) := b1
  obtain ⟨d, hd⟩ : ∃ d : Nat, x.used = fr + d := ⟨x.used - fr, by omega⟩
  have q1 : ¬ (n : Int) < 1 := by omega
  have q2 : ¬ (fr : Int) < 0 := by omega
  have q3 : ¬ (x.used : Int) < (fr : Int) := by omega
  have q4 : IntKind.i64.wrap ((x.used : Int) - (fr : Int)) = (d : Int) := by rw [IntWalk.i64_in _ (by omega)]; omega
  have q5 : ¬ (d : Int) < (n : Int) := by omega
  have q6 : ¬ x.used < fr := by omega
  have q7 : ¬ d < n := by omega
  clear hd hfit hu
  have hs0 := And.intro d1 (And.intro d2 e1)
  go_region_held3 (fun W => W.cell? ⟨w.heap.size, 1, none⟩ = some (.int .i64 (fr : Int)) ∧ W.cell? ⟨w.heap.size, 2, none⟩ = some (.int .i64 (n : Int)) ∧ W.cell? ⟨bx, i * 3 + 1, none⟩ = some (.int .i64 (x.used : Int))) (exact hs0) (fail)
  go_wp2_with fail
  go_ret2
  exact ⟨rfl, hF.drew⟩
structure GetOk (w : World) (l : List UInt8) (e : Ending) (w' : World) : Prop where
  ret : ∃ g o c, e = .returned (.tuple #[.slice (some ⟨g, o, none⟩) l.length c, errV 0]) ∧ CellsAt w' (some ⟨g, o, none⟩) (l.map byteV) ∧ w.heap.size ≤ g ∧ l.length ≤ c
  fr : Fr none_ w w'
def GetBad (w : World) (e : Ending) (w' : World) : Prop := e = .returned (.tuple #[.slice none 0 0, errV 11]) ∧ Fr none_ w w'
set_option maxHeartbeats 4000000 in
theorem hget_ok {w : World} {h bx p m1 m2 : Nat} {H : HotS} {D : DevS} (hh : Hd w h bx p m1 m2 H D) (i fr n sum : Nat) (hi : i < H.boxes.length) (hs : H.boxes[i].state ≠ 0) (hn : 1 ≤ n) (hfit : fr + n ≤ H.boxes[i].used) (hu : H.boxes[i].used ≤ H.sectors * 64) (hsum : sumF (bytesAt D H i fr n) = sum) :
    Calls Try.prog 15 #[ptr h, locV i fr n sum] w fun e w' => GetOk w (bytesAt D H i fr n) e w' := by
  have hm := hh.hot.most
  obtain ⟨V, hV⟩ : ∃ V, V = w.alloc (.cells #[.int .i64 (i : Int), .int .i64 (fr : Int), .int .i64 (n : Int), .int .u32 (sum : Int)] 43) := ⟨_, rfl⟩
  have hF : Fr none_ w V := hV ▸ (Fr.refl _ _).alloc _
  have hb : V.heap[w.heap.size]? = some (.cells #[.int .i64 (i : Int), .int .i64 (fr : Int), .int .i64 (n : Int), .int .u32 (sum : Int)] 43 (0, 0)) := hV ▸ heap_alloc_new _ _
  have hlen := bytesAt_len hh.dev.get_len H i fr n
  have hat := hat_any (hh.fr0 hF).hot i fr n sum hi hs hn hfit (by omega)
  have hrd : ∀ W, Fr none_ w W → Calls Try.prog 36 #[ptr h, .int .i64 (i : Int), .int .i64 (fr : Int), .int .i64 (n : Int)] W fun e w' => HRead W (bytesAt D H i fr n) e w' := fun W hW => hread_any (hh.fr0 hW) i fr n hi (by omega) (by omega)
  have hcs : ∀ W, Fr none_ V W → W.cell? ⟨w.heap.size, 0, none⟩ = some (.int .i64 (i : Int)) ∧ W.cell? ⟨w.heap.size, 1, none⟩ = some (.int .i64 (fr : Int)) ∧ W.cell? ⟨w.heap.size, 2, none⟩ = some (.int .i64 (n : Int)) ∧ W.cell? ⟨w.heap.size, 3, none⟩ = some (.int .u32 (sum : Int)) := fun W hW => by
    have := hW.heap0 hb
    refine ⟨?_, ?_, ?_, ?_⟩ <;> (rw [cell_of_blk this]; rfl)
  obtain ⟨T, hT⟩ : ∃ T, T = bytesAt D H i fr n := ⟨_, rfl⟩
  rw [← hT] at hsum hrd hlen
  try rw [← hT]
  have hsz : n ≤ 65536 := by omega
  have HAT := Lib.hid hat
  have HRD := Lib.hid hrd
  have HCS := Lib.hid hcs
  have HV := Lib.hid hV
  have HSUM := Lib.hid hsum
  have HLEN := Lib.hid hlen
  clear hat hrd hcs hV hT hs hm hsum hlen hfit hu
  go_enter Try.func15, Try.ntmps15
  go_wp2_with fail
  rw [← HV.out]
  (with_reducible refine HAT.out.mono ?_)
  rintro e w1 ⟨rfl, hF1⟩
  rw [errV_0]
  obtain ⟨c0, c1, c2, c3⟩ := HCS.out _ hF1
  go_wp2_with fail
  (with_reducible refine (HRD.out _ (hF.trans hF1)).mono ?_)
  rintro e w2 ⟨⟨g, o, c, rfl, hA, hg, hc⟩, hF2⟩
  rw [errV_0]
  have hF3 := (hF.trans hF1).trans hF2
  obtain ⟨d0, d1, d2, d3⟩ := HCS.out _ ((hF1.trans hF2).drew)
  clear c0 c1 c2 c3 d0 d1 d2
  have hsm : Calls Try.prog 14 #[.slice (some ⟨g, o, none⟩) T.length c] w2.drew fun e w' => e = .returned (.int .u32 (sumF T : Nat)) ∧ w2.drew = w' := sum_any T.length (some ⟨g, o, none⟩) c T _ rfl (by have := HLEN.out; omega) hA.drew
  have HSM := Lib.hid hsm
  have HSL := Lib.hid (moreF_lt 1 T)
  clear hsm
  go_wp2_with fail
  have hne : (sumF T : Int) = (sum : Int) := by rw [HSUM.out]
  go_region_held3 (fun W => W.cell? ⟨w.heap.size, 3, none⟩ = some (.int .u32 (sum : Int))) (exact d3) (first
    | (go_at_call 14; (with_reducible refine HSM.out.mono ?_); rintro e x1 ⟨rfl, hx1⟩; subst hx1))
  go_wp2_with fail
  go_ret2
  exact ⟨⟨g, o, c, rfl, hA.drew, by have := hF.size; have := hF1.size; omega, hc⟩, hF3.drew⟩
set_option maxHeartbeats 4000000 in
theorem hget_bad {w : World} {h bx p m1 m2 : Nat} {H : HotS} {D : DevS} (hh : Hd w h bx p m1 m2 H D) (i fr n sum : Nat) (hi : i < H.boxes.length) (hs : H.boxes[i].state ≠ 0) (hn : 1 ≤ n) (hfit : fr + n ≤ H.boxes[i].used) (hu : H.boxes[i].used ≤ H.sectors * 64) (hsum : sumF (bytesAt D H i fr n) ≠ sum) :
    Calls Try.prog 15 #[ptr h, locV i fr n sum] w fun e w' => GetBad w e w' := by
  have hm := hh.hot.most
  obtain ⟨V, hV⟩ : ∃ V, V = w.alloc (.cells #[.int .i64 (i : Int), .int .i64 (fr : Int), .int .i64 (n : Int), .int .u32 (sum : Int)] 43) := ⟨_, rfl⟩
  have hF : Fr none_ w V := hV ▸ (Fr.refl _ _).alloc _
  have hb : V.heap[w.heap.size]? = some (.cells #[.int .i64 (i : Int), .int .i64 (fr : Int), .int .i64 (n : Int), .int .u32 (sum : Int)] 43 (0, 0)) := hV ▸ heap_alloc_new _ _
  have hlen := bytesAt_len hh.dev.get_len H i fr n
  have hat := hat_any (hh.fr0 hF).hot i fr n sum hi hs hn hfit (by omega)
  have hrd : ∀ W, Fr none_ w W → Calls Try.prog 36 #[ptr h, .int .i64 (i : Int), .int .i64 (fr : Int), .int .i64 (n : Int)] W fun e w' => HRead W (bytesAt D H i fr n) e w' := fun W hW => hread_any (hh.fr0 hW) i fr n hi (by omega) (by omega)
  have hcs : ∀ W, Fr none_ V W → W.cell? ⟨w.heap.size, 0, none⟩ = some (.int .i64 (i : Int)) ∧ W.cell? ⟨w.heap.size, 1, none⟩ = some (.int .i64 (fr : Int)) ∧ W.cell? ⟨w.heap.size, 2, none⟩ = some (.int .i64 (n : Int)) ∧ W.cell? ⟨w.heap.size, 3, none⟩ = some (.int .u32 (sum : Int)) := fun W hW => by
    have := hW.heap0 hb
    refine ⟨?_, ?_, ?_, ?_⟩ <;> (rw [cell_of_blk this]; rfl)
  obtain ⟨T, hT⟩ : ∃ T, T = bytesAt D H i fr n := ⟨_, rfl⟩
  rw [← hT] at hsum hrd hlen
  try rw [← hT]
  have hsz : n ≤ 65536 := by omega
  have HAT := Lib.hid hat
  have HRD := Lib.hid hrd
  have HCS := Lib.hid hcs
  have HV := Lib.hid hV
  have HSUM := Lib.hid hsum
  have HLEN := Lib.hid hlen
  clear hat hrd hcs hV hT hs hm hsum hlen hfit hu
  go_enter Try.func15, Try.ntmps15
  go_wp2_with fail
  rw [← HV.out]
  (with_reducible refine HAT.out.mono ?_)
  rintro e w1 ⟨rfl, hF1⟩
  rw [errV_0]
  obtain ⟨c0, c1, c2, c3⟩ := HCS.out _ hF1
  go_wp2_with fail
  (with_reducible refine (HRD.out _ (hF.trans hF1)).mono ?_)
  rintro e w2 ⟨⟨g, o, c, rfl, hA, hg, hc⟩, hF2⟩
  rw [errV_0]
  have hF3 := (hF.trans hF1).trans hF2
  obtain ⟨d0, d1, d2, d3⟩ := HCS.out _ ((hF1.trans hF2).drew)
  clear c0 c1 c2 c3 d0 d1 d2
  have hsm : Calls Try.prog 14 #[.slice (some ⟨g, o, none⟩) T.length c] w2.drew fun e w' => e = .returned (.int .u32 (sumF T : Nat)) ∧ w2.drew = w' := sum_any T.length (some ⟨g, o, none⟩) c T _ rfl (by have := HLEN.out; omega) hA.drew
  have HSM := Lib.hid hsm
  have HSL := Lib.hid (moreF_lt 1 T)
  clear hsm
  go_wp2_with fail
  have hne : ¬ (sumF T : Int) = (sum : Int) := by have := HSUM.out; omega
  go_region_held3 (fun W => W.cell? ⟨w.heap.size, 3, none⟩ = some (.int .u32 (sum : Int))) (exact d3) (first
    | (go_at_call 14; (with_reducible refine HSM.out.mono ?_); rintro e x1 ⟨rfl, hx1⟩; subst hx1))
  go_wp2_with fail
  go_ret2
  exact ⟨by rw [errV_n (by decide)]; rfl, hF3.drew⟩
end Go.Proofs.Ytdlhndbgmldeaaa

import Derived.Test.YtdlhndbgmldeaaaHot4
import Derived.Test.YtdlhndbgmldeaaaHot6
import Derived.Test.YtdlhndbgmldeaaaHot7
namespace Go.Proofs.Ytdlhndbgmldeaaa
open Go.RowKit
set_option linter.unusedVariables false
set_option linter.unusedSimpArgs false
set_option maxRecDepth 100000

/-! hot.Put -/
theorem res_cell4 {W : World} {b : Nat} {a0 a1 a2 a3 : Value} {T : TypeId} {F : Nat × Nat} (h : W.heap[b]? = some (.cells #[a0, a1, a2, a3] T F)) :
    W.cell? ⟨b, 0, none⟩ = some a0 ∧ W.cell? ⟨b, 1, none⟩ = some a1 ∧ W.cell? ⟨b, 2, none⟩ = some a2 ∧ W.cell? ⟨b, 3, none⟩ = some a3 := by
  refine ⟨?_, ?_, ?_, ?_⟩ <;> (rw [cell_of_blk h]; rfl)
theorem res_put {W : World} {b : Nat} {c : Array Value} {v0 v1 v2 v3 er : Value} {T : TypeId} {F : Nat × Nat} {tmps : Array Value} (h : W.heap[b]? = some (.cells c T F)) (h0 : c[0]? = some v0) (h1 : c[1]? = some v1) (h2 : c[2]? = some v2) (h3 : c[3]? = some v3) (t4 : tmps[4]?.getD undef = ptr b) (t5 : tmps[5]?.getD undef = er) :
    (results Try.f13 tmps).run Try.prog W = .ok (.tuple #[.agg #[v0, v1, v2, v3], er]) W := by
  have c0 : W.cell? ⟨b, 0, none⟩ = some v0 := by rw [cell_of_blk h, h0]
  have c1 : W.cell? ⟨b, 1, none⟩ = some v1 := by rw [cell_of_blk h, h1]
  have c2 : W.cell? ⟨b, 2, none⟩ = some v2 := by rw [cell_of_blk h, h2]
  have c3 : W.cell? ⟨b, 3, none⟩ = some v3 := by rw [cell_of_blk h, h3]
  simp [results, Try.results13, go_sem, t4, t5, c0, c1, c2, c3]
/-- the result's cell, stored anew -/
def st4 (w : World) (b : Nat) (v0 v1 v2 v3 : Value) : World := (((w.setCell ⟨b, 0, none⟩ v0).setCell ⟨b, 1, none⟩ v1).setCell ⟨b, 2, none⟩ v2).setCell ⟨b, 3, none⟩ v3
theorem st4_blk {w : World} {b : Nat} {c : Array Value} {T : TypeId} (h : w.heap[b]? = some (.cells c T (0, 0))) (v0 v1 v2 v3 : Value) : (st4 w b v0 v1 v2 v3).heap[b]? = some (.cells ((((c.setIfInBounds 0 v0).setIfInBounds 1 v1).setIfInBounds 2 v2).setIfInBounds 3 v3) T (0, 0)) :=
  heap_setCell_same (heap_setCell_same (heap_setCell_same (heap_setCell_same h v0) v1) v2) v3
theorem st4_fr (w : World) (b : Nat) (v0 v1 v2 v3 : Value) : Fr (fun i => i = b) w (st4 w b v0 v1 v2 v3) :=
  (((Fr.set w b 0 v0).trans (Fr.set _ b 1 v1)).trans (Fr.set _ b 2 v2)).trans (Fr.set _ b 3 v3)
abbrev loc0 : List Value := [.int .i64 0, .int .i64 0, .int .i64 0, .int .u32 0]
def PutNo (w : World) (n : Int) (e : Ending) (w' : World) : Prop := e = .returned (.tuple #[locV 0 0 0 0, errV n]) ∧ Fr none_ w w'
def HotS.prep (H : HotS) (n : Nat) : Option (HotS × Nat) := match H.roomO n with
  | some i => some (H, i)
  | none => match H.inO 0 with
    | some i => some (H.seal.putB i ⟨1, 0, 0⟩, i)
    | none => none
def HotS.bx (H : HotS) (i : Nat) : BoxS := H.boxes.getD i freeB
def HotS.after (H : HotS) (i n : Nat) : HotS := H.putB i ⟨(H.bx i).state, (H.bx i).used + n, (H.bx i).live + n⟩
set_option maxHeartbeats 4000000 in
theorem hput_long {w : World} {h bx p : Nat} {H : HotS} (hh : HotAt w h bx p H) (A : Option Addr) (n c : Nat) (hl : n = 0 ∨ H.sectors * 64 < n) :
    Calls Try.prog 13 #[ptr h, .slice A n c] w fun e w' => PutNo w 2 e w' := by
  have hF0 : Fr none_ w (w.alloc (.cells #[.int .i64 0, .int .i64 0, .int .i64 0, .int .u32 0] 43)) := (Fr.refl _ _).alloc _
  have hsz := size_any H hh.most.2 (w.alloc (.cells #[.int .i64 0, .int .i64 0, .int .i64 0, .int .u32 0] 43))
  have hb0 := heap_alloc_new w (.cells #[.int .i64 0, .int .i64 0, .int .i64 0, .int .u32 0] 43)
  obtain ⟨c0, c1, c2, c3, c4⟩ := (hh.fr0 hF0).cellsAll
  have HSZ := Lib.hid hsz
  have hm := hh.most.2
  clear hsz
  obtain ⟨z, hz⟩ : ∃ z, z = H.sectors * 64 := ⟨_, rfl⟩
  rw [← hz] at hl
  have HZ := Lib.hid hz
  clear hz
  by_cases h0 : n = 0
  · subst h0
    go_enter Try.func13, Try.ntmps13
    go_wp2_with fail
    exact bodyPost_ret (v := .tuple #[locV 0 0 0 0, errV 2]) (by simp [results, Try.results13, go_sem]; rfl) rfl ⟨rfl, hF0⟩
  · have hzn : z < n := by omega
    have n1 : ¬ (n : Int) = 0 := by omega
    have n2 : (z : Int) < (n : Int) := by omega
    go_enter Try.func13, Try.ntmps13
    go_wp2_with fail
    (with_reducible refine HSZ.out.mono ?_)
    rintro e w1 ⟨rfl, hF1⟩
    rw [← HZ.out]
    have hb1 := hF1.heap0 hb0
    obtain ⟨r0, r1, r2, r3⟩ := res_cell4 hb1
    have rf := fun o => frozen_of_blk hb1 o
    go_wp2_with fail
    refine bodyPost_ret (res_put (b := w.heap.size) (st4_blk hb1 _ _ _ _) rfl rfl rfl rfl rfl rfl) rfl ⟨by rw [errV_n (by decide)]; rfl, ?_⟩
    exact (hF0.trans hF1).own (st4_fr w1 w.heap.size _ _ _ _) (Nat.le_refl _)
set_option maxHeartbeats 4000000 in
theorem hput_full {w : World} {h bx p : Nat} {H : HotS} (hh : HotAt w h bx p H) (hok : H.Ok) (A : Option Addr) (n c : Nat) (hn : 0 < n) (hl : n ≤ H.sectors * 64) (hr : H.roomO n = none) (hi : H.inO 0 = none) :
    Calls Try.prog 13 #[ptr h, .slice A n c] w fun e w' => PutNo w 10 e w' := by
  have hF0 : Fr none_ w (w.alloc (.cells #[.int .i64 0, .int .i64 0, .int .i64 0, .int .u32 0] 43)) := (Fr.refl _ _).alloc _
  have hsz := size_any H hh.most.2 (w.alloc (.cells #[.int .i64 0, .int .i64 0, .int .i64 0, .int .u32 0] 43))
  have hb0 := heap_alloc_new w (.cells #[.int .i64 0, .int .i64 0, .int .i64 0, .int .u32 0] 43)
  have hh0 := hh.fr0 hF0
  obtain ⟨c0, c1, c2, c3, c4⟩ := hh0.cellsAll
  have hrm : ∀ W, Fr none_ w W → Calls Try.prog 33 #[ptr h, .int .i64 (n : Int)] W fun e w' => e = .returned (.int .i64 (-1)) ∧ Fr none_ W w' := fun W hW => by
    have := room_any (hh.fr0 hW) hok n
    rw [hr] at this
    exact this
  have hin : ∀ W, Fr none_ w W → Calls Try.prog 21 #[ptr h, .int .i64 0] W fun e w' => e = .returned (.int .i64 (-1)) ∧ Fr none_ W w' := fun W hW => by
    have := in_any (hh.fr0 hW) 0
    rw [hi] at this
    exact this
  have HSZ := Lib.hid hsz
  have HRM := Lib.hid hrm
  have HIN := Lib.hid hin
  have hm := hh.most.2
  clear hsz hrm hin hr hi hok
  obtain ⟨z, hz⟩ : ∃ z, z = H.sectors * 64 := ⟨_, rfl⟩
  rw [← hz] at hl
  have HZ := Lib.hid hz
  clear hz
  have n1 : ¬ (n : Int) = 0 := by omega
  have n2 : ¬ (z : Int) < (n : Int) := by omega
  have n3 : ¬ z < n := by omega
  have n4 : ¬ n = 0 := by omega
  go_enter Try.func13, Try.ntmps13
  go_wp2_with fail
  (with_reducible refine HSZ.out.mono ?_)
  rintro e w1 ⟨rfl, hF1⟩
  rw [← HZ.out]
  go_wp2_with fail
  (with_reducible refine (HRM.out _ (hF0.trans hF1)).mono ?_)
  rintro e w2 ⟨rfl, hF2⟩
  go_wp2_with fail
  (with_reducible refine (HIN.out _ ((hF0.trans hF1).trans hF2)).mono ?_)
  rintro e w3 ⟨rfl, hF3⟩
  have hb1 := ((hF1.trans hF2).trans hF3).heap0 hb0
  obtain ⟨r0, r1, r2, r3⟩ := res_cell4 hb1
  have rf := fun o => frozen_of_blk hb1 o
  go_wp2_with fail
  refine bodyPost_ret (res_put (b := w.heap.size) (st4_blk hb1 _ _ _ _) rfl rfl rfl rfl rfl rfl) rfl ⟨by rw [errV_n (by decide)]; rfl, ?_⟩
  exact (((hF0.trans hF1).trans hF2).trans hF3).own (st4_fr w3 w.heap.size _ _ _ _) (Nat.le_refl _)
end Go.Proofs.Ytdlhndbgmldeaaa

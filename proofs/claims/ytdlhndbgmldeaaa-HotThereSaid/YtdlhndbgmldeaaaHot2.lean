import Derived.Test.YtdlhndbgmldeaaaHot
import Derived.Laws.MakeOwn
namespace Go.Proofs.Ytdlhndbgmldeaaa
open Go.RowKit
set_option linter.unusedVariables false
set_option linter.unusedSimpArgs false
set_option maxRecDepth 100000

/-! hot.New, Seal, Stat. -/
theorem newin_any (n : Nat) (hn : 1 ≤ n ∧ n ≤ 1024) (w : World) : Calls Try.prog 18 #[.int .i64 (n : Int)] w fun e w' => e = .returned (.bool true) ∧ w = w' := by
  have n1 : (1 : Int) ≤ (n : Int) := by omega
  have n2 : (n : Int) ≤ 1024 := by omega
  have n3 : 1 ≤ n := hn.1
  have n4 : n ≤ 1024 := hn.2
  go_enter Try.func18, Try.ntmps18
  go_wp2_with fail
  go_ret
  exact ⟨rfl, rfl⟩
theorem info_box : (Try.prog.info? 70).map (fun i => (i.zero, i.size)) = some (some (.agg #[.int .i64 0, .int .i64 0, .int .i64 0]), 3) := by kernel_rfl
theorem info_box3 : (Try.prog.info? 70).map (fun i => (i.zero, i.size, i.bytes)) = some (some (.agg #[.int .i64 0, .int .i64 0, .int .i64 0]), 3, 24) := by kernel_rfl
def freeB : BoxS := ⟨0, 0, 0⟩
def Made (n : Nat) : Prop := madeCells #[Value.int .i64 0, .int .i64 0, .int .i64 0] (n * 3) = ((List.replicate n freeB).flatMap boxC).toArray
theorem made2 : Made 2 := by unfold Made; kernel_rfl
theorem made5 : Made 5 := by unfold Made; kernel_rfl
theorem mk_boxes (n : Nat) (hn : n ≤ 1024) (hm : Made n) (w : World) : (Instr.makeSlice 63 (.int .i64 (n : Int)) (.int .i64 (n : Int))).run Try.prog w = .ok (.slice (some ⟨w.heap.size, 0, none⟩) n n) (w.alloc (.cells ((List.replicate n freeB).flatMap boxC).toArray 70)) := by
  obtain ⟨i, hi, hzz⟩ := Option.map_eq_some_iff.1 info_box3
  simp only [Prod.mk.injEq] at hzz
  obtain ⟨hz, hs, hb⟩ := hzz
  have h := run_make (P := Try.prog) w 63 70 i _ Try.underlying63 hi hz .i64 .i64 (n : Int) (n : Int) (by omega) (by omega) (by rw [hb]; omega) (by omega)
  rw [Int.toNat_natCast, hs] at h
  rw [← hm]
  exact h
structure HotNew (w : World) (p : Nat) (H : HotS) (e : Ending) (w' : World) : Prop where
  ret : ∃ h bx, e = .returned (.tuple #[ptr h, errV 0]) ∧ HotAt w' h bx p H ∧ w.heap.size ≤ h ∧ w.heap.size ≤ bx
  fr : Fr none_ w w'
def newH (f : Int) (n s : Nat) : HotS := ⟨f, s, List.replicate n freeB⟩
set_option maxHeartbeats 2000000 in
theorem hnew_any {w : World} {p m1 m2 : Nat} {D : DevS} (hd : DevAt w p m1 m2 D) (f : Int) (n s : Nat) (hf : 0 ≤ f) (hn : 1 ≤ n ∧ n ≤ 1024) (hs : 1 ≤ s ∧ s ≤ 1024) (hfit : f + (n * s : Nat) ≤ D.sectors) (hm : Made n) :
    Calls Try.prog 5 #[ptr p, .agg #[.int .i64 f, .int .i64 (n : Int), .int .i64 (s : Int)]] w fun e w' => HotNew w p (newH f n s) e w' := by
  have hD := hd.most
  have n1 : ¬ f < 0 := by omega
  have hns : (n : Int) * (s : Int) = ((n * s : Nat) : Int) := by simp
  have n2 : ¬ wrap64 (D.sectors - wrap64 ((n : Int) * (s : Int))) < f := by rw [hns, IntWalk.wrap64_in ((n * s : Nat) : Int) (by omega), IntWalk.wrap64_in _ (by omega)]; omega
  have hF0 : Fr none_ w (w.alloc (.cells #[.int .i64 f, .int .i64 (n : Int), .int .i64 (s : Int)] 29)) := (Fr.refl _ _).alloc _
  have hb0 := heap_alloc_new w (.cells #[.int .i64 f, .int .i64 (n : Int), .int .i64 (s : Int)] 29)
  have hd1 := hd.fr0 hF0
  obtain ⟨W, hW⟩ : ∃ W, W = w.alloc (.cells #[.int .i64 f, .int .i64 (n : Int), .int .i64 (s : Int)] 29) := ⟨_, rfl⟩
  have kmk := mk_boxes n hn.2 hm
  have HMK := Lib.hid kmk
  have HN2 := Lib.hid n2
  have hlen : (newH f n s).boxes.length = n := by simp [newH]
  have HL := Lib.hid hlen
  clear hns n2 kmk hD hlen
  go_enter Try.func5, Try.ntmps5
  go_wp2_with fail
  rw [← hW] at hF0 hb0 hd1 ⊢
  clear hW
  have c0 : W.drew.cell? ⟨w.heap.size, 0, none⟩ = some (.int .i64 f) := by show W.cell? _ = _; rw [cell_of_blk hb0]; rfl
  have c1 : W.drew.cell? ⟨w.heap.size, 1, none⟩ = some (.int .i64 (n : Int)) := by show W.cell? _ = _; rw [cell_of_blk hb0]; rfl
  have c2 : W.drew.cell? ⟨w.heap.size, 2, none⟩ = some (.int .i64 (s : Int)) := by show W.cell? _ = _; rw [cell_of_blk hb0]; rfl
  have hd2 : DevAt W.drew p m1 m2 D := hd1.fr0 (Fr.refl none_ W).drew
  have hs0 := And.intro c0 (And.intro c1 c2)
  have n1 : ¬ f < 0 := by omega
  have n2 : ¬ wrap64 (D.sectors - wrap64 ((n : Int) * (s : Int))) < f := by have := HN2.out; omega
  have hns : (n : Int) * (s : Int) = ((n * s : Nat) : Int) := by simp
  have hD := hd.most
  have n3 : ¬ IntKind.i64.wrap (D.sectors - IntKind.i64.wrap ((n : Int) * (s : Int))) < f := by rw [hns, IntWalk.i64_in ((n * s : Nat) : Int) (by omega), IntWalk.i64_in _ (by omega)]; omega
  clear hns hD
  go_region_held3 (fun w' => (w'.cell? ⟨w.heap.size, 0, none⟩ = some (.int .i64 f) ∧ w'.cell? ⟨w.heap.size, 1, none⟩ = some (.int .i64 (n : Int)) ∧ w'.cell? ⟨w.heap.size, 2, none⟩ = some (.int .i64 (s : Int)))) (exact hs0) (first
    | (go_at_call 18; (with_reducible refine (newin_any n hn _).mono ?_); rintro e x1 ⟨rfl, hx1⟩; subst hx1)
    | (go_at_call 18; (with_reducible refine (newin_any s hs _).mono ?_); rintro e x1 ⟨rfl, hx1⟩; subst hx1)
    | (go_at_call 19; (with_reducible refine (sectors_any hd2).mono ?_); rintro e x2 ⟨rfl, hx2⟩; subst hx2))
  go_wp2_with fail
  have hst : ∀ wx, Fr none_ W wx → (wx.cell? ⟨w.heap.size, 0, none⟩ = some (.int .i64 f) ∧ wx.cell? ⟨w.heap.size, 1, none⟩ = some (.int .i64 (n : Int)) ∧ wx.cell? ⟨w.heap.size, 2, none⟩ = some (.int .i64 (s : Int))) := fun wx hX => by
    have := hX.heap0 hb0
    exact ⟨by rw [cell_of_blk this]; rfl, by rw [cell_of_blk this]; rfl, by rw [cell_of_blk this]; rfl⟩
  have kmk := HMK.out
  obtain ⟨V, hV, hFV⟩ : ∃ V, V = W.drew ∧ Fr none_ W V := ⟨_, rfl, (Fr.refl none_ W).drew⟩
  rw [← hV]
  clear hV c0 c1 c2 hs0 n3 n2 n1 hd2
  have hs1 := hst _ hFV.drew
  have hFB := hFV.drew.alloc (.cells ((List.replicate n freeB).flatMap boxC).toArray 70)
  have hb1 := heap_alloc_new V.drew (.cells ((List.replicate n freeB).flatMap boxC).toArray 70)
  have hs2 := hst _ hFB
  have hF9 := hFB.alloc (.cells ((newH f n s).cells p V.heap.size) 65)
  have hs3 := hst _ hF9
  go_region_held3 (fun w' => (w'.cell? ⟨w.heap.size, 0, none⟩ = some (.int .i64 f) ∧ w'.cell? ⟨w.heap.size, 1, none⟩ = some (.int .i64 (n : Int)) ∧ w'.cell? ⟨w.heap.size, 2, none⟩ = some (.int .i64 (s : Int)))) (first | exact hs1 | exact hs2 | exact hst _ (hFB.alloc _)) (fail)
  go_wp2_with fail
  go_ret2
  have hcl : (newH f n s).cells p V.heap.size = #[ptr p, .int .i64 f, .int .i64 (n : Int), .int .i64 (s : Int), .slice (some ⟨V.heap.size, 0, none⟩) n n] := by unfold HotS.cells; rw [HL.out]; rfl
  have hfw := hd.most
  have hlt : n * s ≤ 16384 := by omega
  refine ⟨⟨V.heap.size + 1, V.heap.size, rfl, ⟨?_, ?_, by omega, ⟨by rw [HL.out]; exact hn.2, hs.2⟩, hf, ?_⟩, ?_, ?_⟩, ?_⟩
  · rw [hcl]
    exact heap_alloc_at (w := V.alloc (.cells ((List.replicate n freeB).flatMap boxC).toArray 70)) (by simp) _
  · exact heap_alloc_old (heap_alloc_new V (.cells ((List.replicate n freeB).flatMap boxC).toArray 70)) _
  · show f ≤ 16384
    omega
  · have := hF0.size; have := hFV.size; omega
  · have := hF0.size; have := hFV.size; omega
  · exact (((hF0.trans hFV).alloc _).alloc _).drew
end Go.Proofs.Ytdlhndbgmldeaaa

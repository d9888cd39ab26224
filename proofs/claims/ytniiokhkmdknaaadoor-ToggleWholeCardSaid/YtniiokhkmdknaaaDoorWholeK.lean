import Derived.Test.YtniiokhkmdknaaaDoorWholeP
namespace Go.Proofs.YtniiokhkmdknaaaDoor
open Go.RowKit
set_option linter.unusedVariables false
set_option linter.unusedSimpArgs false

/-! drydocklaw04.own: marks of their own. -/
theorem info_bool : (Tryd.prog.info? 4).map (fun i => (i.zero, i.size, i.bytes)) = some (some (.bool false), 1, 1) := by kernel_rfl
theorem own_any (w : World) (A : Option Addr) (n c : Nat) (kept : List Bool) (hn : n = kept.length) (hA : CellsAt w A (kept.map Value.bool)) (hnil : A = none → n = 0 ∧ c = 0) (hm : kept.length ≤ 140737488351232) :
    Calls Tryd.prog 22 #[.slice A n c] w fun e w' => ∃ A' c', e = .returned (.slice A' kept.length c') ∧ CellsAt w' A' (kept.map Value.bool) ∧ (∀ b, blkOf A' b → w.heap.size ≤ b) ∧ Fr none_ w w' := by
  subst hn
  have h0 : w.ownsRow w.heap.size 4 1 (.slice none 0 0) 0 [] := World.ownsRow_nil _ _ _ _
  go_enter Tryd.func22, Tryd.ntmps22
  go_wp2_with ((with_reducible refine at_append (.tmp 4) (.tmp 5) 48 w.heap.size 4 (.bool false) 1 1 (v := .slice none 0 0) (n := 0) (xs := []) (A := A) (m := kept.length) (c := c) (news := kept.map Value.bool) Tryd.underlying48 info_bool ?_ ?_ ?_ ?_ h0 hA hnil ?_ ?_ ?_ ?_ ?_ ?_); (focus rfl); (focus decide); (focus rfl); (focus rfl); (focus simp); (focus (intro u hu; obtain ⟨x, _, rfl⟩ := List.mem_map.1 hu; rfl)); (focus unfold maxLen; omega); (focus omega); (focus exact Nat.le_refl _); intro v' w1 hown1 hg)
  go_ret
  rw [Nat.zero_add, List.nil_append] at hown1
  obtain ⟨A', c', rfl, hA', hc', hnil', hbl'⟩ := ownsRow_read hown1
  exact ⟨A', c', rfl, hA', fun b hb => (hbl' b hb).1, Fr.grown (Fr.refl _ _) hg h0 (Nat.le_refl _)⟩
/-- What stands between two texts. -/
structure Wh (w wr : World) (p m1 m2 b1 : Nat) (o : Option Text) (D : DevS) : Prop where
  fr : Fr none_ w wr
  dev : DevAt wr p m1 m2 D
  new : ∀ i, devBlks p m1 m2 i → w.heap.size ≤ i
  up : D.down = false
  loose : D.loose = []
  sec : D.sectors = 11
  tg : Tg 1 10 D o
  ar : wr.heap[b1]? = some (.cells #[.int .i64 1, .int .i64 10] 30 (0, 0))
  ad : ¬ devBlks p m1 m2 b1
theorem Wh.step0 {w wr w' : World} {p m1 m2 b1 : Nat} {o : Option Text} {D : DevS} (h : Wh w wr p m1 m2 b1 o D) (hF : Fr none_ wr w') : Wh w w' p m1 m2 b1 o D :=
  ⟨h.fr.trans hF, h.dev.fr0 hF, h.new, h.up, h.loose, h.sec, h.tg, hF.heap0 h.ar, h.ad⟩
theorem Tg.of_get {f s : Int} {D E : DevS} {o : Option Text} (h : Tg f s D o) (he : ∀ j, E.get j = D.get j) : Tg f s E o := by
  cases o with
  | none => show E.get f = zeroB; rw [he]; exact h
  | some t =>
    have hk : Kept f s D t := h
    exact ⟨hk.n, hk.room, by rw [he]; exact hk.tell, fun i hi => by rw [he]; exact hk.bytes i hi⟩
theorem arm_eq {D : DevS} (hu : D.down = false) {n : Int} (hn : 0 ≤ n) : D.arm n = { D with armed := true, left := n } := by
  unfold DevS.arm; rw [hu, if_neg (by simp; omega)]
theorem arm_E0 {D : DevS} (hu : D.down = false) {n : Int} (hn : 0 ≤ n) : D.armE n = 0 := by
  unfold DevS.armE; rw [hu, if_neg (by omega)]; rfl
theorem Wh.arm {w wr w' : World} {p m1 m2 b1 : Nat} {o : Option Text} {D : DevS} (h : Wh w wr p m1 m2 b1 o D) {n : Int} (hn : 0 ≤ n) (hF : Fr (devBlks p m1 m2) wr w') (hD : DevAt w' p m1 m2 (D.arm n)) : Wh w w' p m1 m2 b1 o (D.arm n) := by
  have e := arm_eq h.up hn
  refine ⟨h.fr.trans' hF (fun k hk hs => by have := h.new k hs; omega), hD, h.new, ?_, ?_, ?_, ?_, hF.heap h.ar h.ad, h.ad⟩
  · rw [e]; exact h.up
  · rw [e]; exact h.loose
  · rw [e]; exact h.sec
  · rw [e]; exact h.tg.of_get (fun j => rfl)
theorem Wh.save {w wr w' : World} {p m1 m2 b1 : Nat} {o : Option Text} {D : DevS} (h : Wh w wr p m1 m2 b1 o D) (l : List UInt8) (hl : l.length ≤ 256) (hn : oN o < 100)
    (hF : Fr (devBlks p m1 m2) wr w') (hD : DevAt w' p m1 m2 (saveT D 1 10 (nextT o l))) (hu : (saveT D 1 10 (nextT o l)).down = false) : Wh w w' p m1 m2 b1 (some (nextT o l)) (saveT D 1 10 (nextT o l)) := by
  have hs := h.sec
  have hl2 : (((nextT o l).text.length : Nat) : Int) ≤ (10 - 1) / 2 * 64 := by rw [nextT_text]; omega
  obtain ⟨i1, i2⟩ := saved (D := D) (f := 1) (s := 10) (by decide) (by decide) (by omega) (nextT o l) hl2 (by rw [next_n]; omega) hu
  exact ⟨h.fr.trans' hF (fun k hk hs => by have := h.new k hs; omega), hD, h.new, hu, flush_up hu, (saveD_sectors _ _ _ _ _).trans hs, i1, hF.heap h.ar h.ad, h.ad⟩
/-- A device that has crashed while a text was saved. -/
structure Cr (w wr : World) (p m1 m2 b1 : Nat) (o : Option Text) (l : List UInt8) (D : DevS) : Prop where
  fr : Fr none_ w wr
  dev : DevAt wr p m1 m2 (saveT D 1 10 (nextT o l))
  new : ∀ i, devBlks p m1 m2 i → w.heap.size ≤ i
  up : D.down = false
  loose : D.loose = []
  sec : D.sectors = 11
  tg : Tg 1 10 D o
  down : (saveT D 1 10 (nextT o l)).down = true
  ar : wr.heap[b1]? = some (.cells #[.int .i64 1, .int .i64 10] 30 (0, 0))
  ad : ¬ devBlks p m1 m2 b1
theorem Cr.step0 {w wr w' : World} {p m1 m2 b1 : Nat} {o : Option Text} {l : List UInt8} {D : DevS} (h : Cr w wr p m1 m2 b1 o l D) (hF : Fr none_ wr w') : Cr w w' p m1 m2 b1 o l D :=
  ⟨h.fr.trans hF, h.dev.fr0 hF, h.new, h.up, h.loose, h.sec, h.tg, h.down, hF.heap0 h.ar, h.ad⟩
theorem Wh.crash {w wr w' : World} {p m1 m2 b1 : Nat} {o : Option Text} {l : List UInt8} {D : DevS} (h : Wh w wr p m1 m2 b1 o D) (hF : Fr (devBlks p m1 m2) wr w') (hD : DevAt w' p m1 m2 (saveT D 1 10 (nextT o l))) (hd : (saveT D 1 10 (nextT o l)).down = true) : Cr w w' p m1 m2 b1 o l D :=
  ⟨h.fr.trans' hF (fun k hk hs => by have := h.new k hs; omega), hD, h.new, h.up, h.loose, h.sec, h.tg, hd, hF.heap h.ar h.ad, h.ad⟩
theorem Cr.start {w wr w' : World} {p m1 m2 b1 : Nat} {o : Option Text} {l : List UInt8} {D : DevS} (h : Cr w wr p m1 m2 b1 o l D) (hl : l.length ≤ 256) (kept : List Bool) (hF : Fr (devBlks p m1 m2) wr w') (hD : DevAt w' p m1 m2 ((saveT D 1 10 (nextT o l)).start kept)) : Wh w w' p m1 m2 b1 o ((saveT D 1 10 (nextT o l)).start kept) := by
  have hs := h.sec
  obtain ⟨i1, i2, i3, i4⟩ := cut_short h.up h.loose (f := 1) (s := 10) (by decide) (by decide) (by omega) h.tg l (by omega) h.down kept
  exact ⟨h.fr.trans' hF (fun k hk hs => by have := h.new k hs; omega), hD, h.new, i1, i2, i3.trans hs, i4, hF.heap h.ar h.ad, h.ad⟩
theorem arm9 (n : Int) : 0 ≤ wrap64 ((IntKind.u64.wrap n).tmod 9) ∧ wrap64 ((IntKind.u64.wrap n).tmod 9) < 9 := by
  have h : 0 ≤ IntKind.u64.wrap n := by rw [IntKind.wrap_u64]; omega
  rw [Int.tmod_eq_emod_of_nonneg h, IntWalk.wrap64_in _ (by omega)]
  omega
end Go.Proofs.YtniiokhkmdknaaaDoor

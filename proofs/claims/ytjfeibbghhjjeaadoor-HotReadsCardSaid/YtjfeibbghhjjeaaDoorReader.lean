import Derived.Test.YtjfeibbghhjjeaaDoorPack
import Derived.Lib.SliceRun
namespace Go.Proofs.YtjfeibbghhjjeaaDoor
open Go.RowKit
set_option linter.unusedVariables false
set_option linter.unusedSimpArgs false

/-! slices.Clone of bytes, pack.Writer.Done, pack.Reader. -/
theorem run_eql_nilS (w : World) (a : Option Addr) (n c : Nat) : (binOp .eql 24 (.slice a n c) (.slice none 0 0)).run Tryd.prog w = .ok (.bool a.isNone) w := Lib.run_eql_slice_nil w 24 5 a n c 0 0 Tryd.underlying24
structure Cloned (w : World) (l : List UInt8) (e : Ending) (w' : World) : Prop where
  ret : ∃ v, e = .returned v ∧ w'.ownsRow w.heap.size 5 1 v l.length (l.map byteV)
  fr : Fr none_ w w'
theorem clone_any (w : World) (A : Option Addr) (n c : Nat) (l : List UInt8) (hn : n = l.length) (hA : CellsAt w A (l.map byteV)) (hnil : A = none → n = 0 ∧ c = 0) (hm : l.length ≤ 140737488355328) :
    Calls Tryd.prog 39 #[.slice A n c] w fun e w' => Cloned w l e w' := by
  subst hn
  cases A with
  | none =>
    obtain ⟨h0, rfl⟩ := hnil rfl
    have : l = [] := List.length_eq_zero_iff.1 h0
    subst this
    have keq := run_eql_nilS w none 0 0
    go_enter Tryd.func39, Tryd.ntmps39
    go_wp2_with fail
    go_ret
    refine Cloned.mk (l := []) ⟨.slice none 0 0, rfl, ?_⟩ (Fr.refl _ _)
    exact World.ownsRow_nil _ _ _ _
  | some a =>
    have hl0 : (w.alloc (.cells #[] 5)).ownsRow w.heap.size 5 1 (.slice (some ⟨w.heap.size, 0, none⟩) 0 0) 0 [] := ownsRow_lit (w := w) (base := w.heap.size) 5 1 0 [] (Nat.le_refl _) (by decide) rfl
    have hA1 := hA.alloc (.cells #[] 5)
    have keq := run_eql_nilS w (some a) l.length c
    go_enter Tryd.func39, Tryd.ntmps39
    go_wp2_with ((with_reducible refine at_append (.tmp 5) (.tmp 6) 24 w.heap.size 5 (.int .u8 0) 1 1 (v := .slice (some ⟨w.heap.size, 0, none⟩) 0 0) (n := 0) (xs := []) (A := some a) (m := l.length) (c := c) (news := l.map byteV) Tryd.underlying24 info_u8 ?_ ?_ ?_ ?_ hl0 hA1 hnil ?_ ?_ ?_ ?_ ?_ ?_); (focus rfl); (focus decide); (focus rfl); (focus rfl); (focus simp); (focus exact bytes_oneCell l); (focus unfold maxLen; omega); (focus omega); (focus simp); intro v' w1 hown1 hg)
    go_ret
    refine Cloned.mk ⟨v', rfl, ?_⟩ (Fr.grown ((Fr.refl _ _).alloc _) hg hl0 (Nat.le_refl _))
    rw [Nat.zero_add, List.nil_append] at hown1
    exact hown1
theorem wdone_any {w : World} {base p : Nat} {l : List UInt8} (h : WriterAt w base p l) (hm : l.length ≤ 140737488351232) :
    Calls Tryd.prog 34 #[ptr p] w fun e w' => Cloned w l e w' := by
  obtain ⟨⟨v, hp, ho⟩, hle⟩ := h
  obtain ⟨A, c, rfl, hA, hc, hnil, hb⟩ := ownsRow_read ho
  have c0 : w.cell? ⟨p, 0, none⟩ = some (.slice A l.length c) := by rw [cell_of_blk hp]; rfl
  go_enter Tryd.func34, Tryd.ntmps34
  go_wp2_with fail
  (with_reducible refine (clone_any w A _ c l rfl hA hnil (by omega)).mono ?_)
  rintro e w1 ⟨⟨v, rfl, hown⟩, hF⟩
  go_wp2_with fail
  go_ret
  exact ⟨⟨v, rfl, hown⟩, hF⟩
/-- A reader: what is left, and its error. -/
structure ReaderAt (w : World) (p : Nat) (l : List UInt8) (e : Int) : Prop where
  blk : ∃ A c, w.heap[p]? = some (.cells #[.slice A l.length c, errV e] 105 (0, 0)) ∧ CellsAt w A (l.map byteV) ∧ l.length ≤ c ∧ (A = none → l.length = 0 ∧ c = 0) ∧ (∀ b, blkOf A b → 0 < l.length → b ≠ p)
  most : l.length ≤ 140737488351232
theorem ReaderAt.fr {S : Nat → Prop} {w w' : World} {p : Nat} {l : List UInt8} {e : Int} (h : ReaderAt w p l e) (hf : Fr S w w') (hn : ¬ S p) (hn2 : ∀ A c b, w.heap[p]? = some (.cells #[.slice A l.length c, errV e] 105 (0, 0)) → blkOf A b → 0 < l.length → ¬ S b) : ReaderAt w' p l e := by
  obtain ⟨⟨A, c, h1, h2, h3, h4, h5⟩, h6⟩ := h
  exact ⟨⟨A, c, hf.heap h1 hn, h2.frp hf (fun b hb hl => hn2 A c b h1 hb (by simpa using hl)), h3, h4, h5⟩, h6⟩
theorem ReaderAt.fr0 {w w' : World} {p : Nat} {l : List UInt8} {e : Int} (h : ReaderAt w p l e) (hf : Fr none_ w w') : ReaderAt w' p l e := h.fr hf (fun h => h) (fun _ _ _ _ _ _ h => h)
theorem rread_any (w : World) (A : Option Addr) (n c : Nat) (l : List UInt8) (hn : n = l.length) (hA : CellsAt w A (l.map byteV)) (hnil : A = none → l.length = 0 ∧ c = 0) (hc : n ≤ c) (hm : l.length ≤ 140737488351232) :
    Calls Tryd.prog 15 #[.slice A n c] w fun e w' => e = .returned (ptr w.heap.size) ∧ Fr none_ w w' ∧ ReaderAt w' w.heap.size l 0 := by
  subst hn
  go_enter Tryd.func15, Tryd.ntmps15
  go_wp2_with fail
  go_ret
  refine ⟨rfl, (Fr.refl _ _).alloc _, ⟨⟨A, c, heap_alloc_new _ _, hA.alloc _, hc, hnil, fun b hb hl => ?_⟩, hm⟩⟩
  have := hA.lt hb (by simpa using hl)
  omega
theorem stuck_any {w : World} {p : Nat} {l : List UInt8} {e : Int} (h : ReaderAt w p l e) : Calls Tryd.prog 61 #[ptr p] w fun en w' => en = .returned (.bool (decide (e ≠ 0))) ∧ w = w' := by
  obtain ⟨⟨A, c, hb, _⟩, _⟩ := h
  by_cases he : e = 0
  · have c1 : w.cell? ⟨p, 1, none⟩ = some .nilIface := by rw [cell_of_blk hb, he]; rfl
    go_enter Tryd.func61, Tryd.ntmps61
    go_wp2_with fail
    go_ret
    exact ⟨by simp [he], rfl⟩
  · have c1 : w.cell? ⟨p, 1, none⟩ = some (.iface 53 (.int .i64 e)) := by rw [cell_of_blk hb, errV_n he]; rfl
    go_enter Tryd.func61, Tryd.ntmps61
    go_wp2_with fail
    go_ret
    exact ⟨by simp [he], rfl⟩
theorem rerr_any {w : World} {p : Nat} {l : List UInt8} {e : Int} (h : ReaderAt w p l e) : Calls Tryd.prog 41 #[ptr p] w fun en w' => en = .returned (errV e) ∧ w = w' := by
  obtain ⟨⟨A, c, hb, _⟩, _⟩ := h
  have c1 : w.cell? ⟨p, 1, none⟩ = some (errV e) := by rw [cell_of_blk hb]; rfl
  go_enter Tryd.func41, Tryd.ntmps41
  go_wp2_with fail
  go_ret
  exact ⟨rfl, rfl⟩
end Go.Proofs.YtjfeibbghhjjeaaDoor

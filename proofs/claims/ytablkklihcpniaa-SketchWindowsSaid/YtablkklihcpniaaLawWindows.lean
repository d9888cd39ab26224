import Derived.Test.YtablkklihcpniaaSketchD
import Derived.Test.YtablkklihcpniaaLaw
namespace Go.Proofs.Ytablkklihcpniaa
open Go.RowKit
set_option linter.unusedVariables false
set_option linter.unusedSimpArgs false
set_option maxHeartbeats 1000000 in
theorem windows_walk (p : Int) (A : Option Addr) (n c : Nat) (l : List UInt8) (w : World) (h : BytesArg w (.slice A n c) A n c l) : Calls Try.prog 6 #[.int .i64 p, .slice A n c] w fun e w' => e = .returned (.bool true) ∧ Fr none_ w w' := by
  have hn := h.len
  have hc := h.cap
  have hm := h.most
  have HN := Lib.hid hn
  clear hn
  go_enter Try.func6, Try.ntmps6
  go_wp2_with (at_builtin; refine wpList_append_any rfl _ _ 32 rfl w.heap.size 5 (.int .u8 0) 1 1 Try.underlying32 info_u8 rfl (by decide) _ 0 [] rfl (World.ownsRow_nil _ _ _ _) A n c (l.map byteV) rfl h.cells h.nil (by rw [HN.out]; simp) (bytes_oneCell l) (by unfold maxLen; omega) (by omega) (by simp) ?_; intro v' w1 hown1 hg)
  have hF0 : Fr none_ w w1 := Fr.grown (Fr.refl _ _) hg (World.ownsRow_nil _ w.heap.size 5 1) (Nat.le_refl _)
  simp only [Nat.zero_add, List.nil_append] at hown1
  obtain ⟨A1, c1, rfl, hA1, _, hn1, _⟩ := ownsRow_read hown1
  go_wp2_with fail
  (with_reducible refine (window_any _ _ _ _ l _ (by have := HN.out; omega) (by have := HN.out; omega) hA1).mono ?_)
  rintro e w2 ⟨rfl, hF1⟩
  go_wp2_with fail
  (with_reducible refine (rwindow_any _ _ _ _ l _ HN.out (by have := HN.out; omega) ((h.cells.fr0 hF0).fr0 hF1) h.nil).mono ?_)
  rintro e w3 ⟨rfl, hF2⟩
  have v1 := conv_bytes (P := Try.prog) (src := 32) (dst := 9) (e := 5) Try.underlying32 Try.underlying5 Try.underlying9 (l := l) (by have := HN.out; omega) ((hA1.fr0 hF1).fr0 hF2) hn1
  have v2 := conv_bytes (P := Try.prog) (src := 32) (dst := 9) (e := 5) Try.underlying32 Try.underlying5 Try.underlying9 (l := l) HN.out (((h.cells.fr0 hF0).fr0 hF1).fr0 hF2) h.nil
  go_wp2_with fail
  (with_reducible refine (ssure_any _).mono ?_)
  rintro e w4 ⟨rfl, hF3⟩
  go_wp2_with fail
  go_ret
  exact ⟨rfl, (((hF0.trans hF1).trans hF2).trans hF3)⟩
theorem sketchWindows_law (W : World) (vs : List Value) (hl : vs.length = [3, 32].length) (hv : ∀ (i : Nat) (t : TypeId) (v : Value), [3, 32][i]? = some t → vs[i]? = some v → RdV Try.prog W t v) :
    Calls Try.prog 6 vs.toArray W fun e w' => e = .returned (.bool true) ∧ Fr none_ W w' := by
  match vs, hl with
  | [v0, v1], _ =>
    obtain ⟨p, rfl, _⟩ := (hv 0 _ v0 rfl rfl).int Try.underlying3
    obtain ⟨A, n, c, l, h⟩ := (hv 1 _ v1 rfl rfl).bytes Try.underlying32 Try.underlying5 (by kernel_rfl) (by kernel_rfl)
    obtain rfl := h.val
    exact windows_walk p A n c l W h
end Go.Proofs.Ytablkklihcpniaa

import Derived.Test.YtagioimkpdcokaaLawSafe
import Derived.Test.YtagioimkpdcokaaLaw
namespace Go.Proofs.Ytagioimkpdcokaa
open Go.RowKit
set_option linter.unusedVariables false
set_option linter.unusedSimpArgs false
theorem cellsOf_u8 : Try.prog.cellsOf 5 = 1 := by kernel_rfl
theorem bytesOf_u8 : Try.prog.bytesOf 5 = 1 := by kernel_rfl
theorem cellsOf_bool : Try.prog.cellsOf 4 = 1 := by kernel_rfl
theorem bytesOf_bool : Try.prog.bytesOf 4 = 1 := by kernel_rfl
theorem cellsOf_int : Try.prog.cellsOf 3 = 1 := by kernel_rfl
theorem cellsOf_bools : Try.prog.cellsOf 68 = 1 := by kernel_rfl
theorem cellsOf_act : Try.prog.cellsOf 70 = 4 := by kernel_rfl
theorem four_of_len {α : Type} (r : List α) (h : r.length = 4) : ∃ a b c d, r = [a, b, c, d] := by
  match r, h with
  | [a, b, c, d], _ => exact ⟨a, b, c, d, rfl⟩
theorem acts_of_rows {W : World} {v : Value} {A : Option Addr} {n c : Nat} {rows : List (List Value)} (hR : RowsArg Try.prog W 70 v A n c 4 rows) : ActsAt W A n := by
  intro i hi
  have hi2 : i < rows.length := by have := hR.len; omega
  obtain ⟨b, o, hA, hc⟩ := hR.cells i hi2
  obtain ⟨hlen, hrd⟩ := hR.rd rows[i] (List.getElem_mem _)
  obtain ⟨_, hf⟩ := hrd.struct Try.underlying70
  clear hrd
  obtain ⟨r, hr⟩ : ∃ r, r = rows[i] := ⟨_, rfl⟩
  rw [← hr] at hlen hf hc
  clear hr
  have h0 : Rd Try.prog W 3 ((r.drop 0).take (Try.prog.cellsOf 3)) := hf 0 (by simp)
  have h1 : Rd Try.prog W 3 ((r.drop 1).take (Try.prog.cellsOf 3)) := hf 1 (by simp)
  have h3 : Rd Try.prog W 68 ((r.drop 3).take (Try.prog.cellsOf 68)) := hf 3 (by simp)
  clear hf
  rw [cellsOf_int] at h0 h1
  rw [cellsOf_bools] at h3
  obtain ⟨u0, u1, u2, u3, rfl⟩ := four_of_len r hlen
  obtain ⟨k0, e0⟩ := rd_int Try.underlying3 u0 h0
  obtain ⟨k1, e1⟩ := rd_int Try.underlying3 u1 h1
  obtain ⟨Ak, nk, ck, kept, hB⟩ := (h3.sl Try.underlying68).ones Value.bool cellsOf_bool (by rw [bytesOf_bool]; omega) (rd_bool Try.underlying4)
  obtain ⟨e3, hn, hcap, hm, hK, _⟩ := hB
  subst e0 e1 e3
  exact ⟨b, o, k0, k1, Ak, nk, ck, kept, hA, hc 0 _ rfl, hc 1 _ rfl, hc 3 _ rfl, hn, by omega, hK⟩
theorem devSafe_law (W : World) (vs : List Value) (hl : vs.length = [44, 44, 65].length) (hv : ∀ (i : Nat) (t : TypeId) (v : Value), [44, 44, 65][i]? = some t → vs[i]? = some v → RdV Try.prog W t v) :
    Calls Try.prog 6 vs.toArray W fun e w' => e = .returned (.bool true) ∧ Fr none_ W w' := by
  match vs, hl with
  | [v0, v1, v2], _ =>
    obtain ⟨A, n, c, a, hB⟩ := (hv 0 _ v0 rfl rfl).bytes Try.underlying44 Try.underlying5 cellsOf_u8 bytesOf_u8
    obtain ⟨A2, n2, c2, b, hB2⟩ := (hv 1 _ v1 rfl rfl).bytes Try.underlying44 Try.underlying5 cellsOf_u8 bytesOf_u8
    obtain ⟨L, m, cL, rows, hR⟩ := ((hv 2 _ v2 rfl rfl).sl Try.underlying65).rows cellsOf_act (by omega)
    have hacts := acts_of_rows hR
    obtain ⟨rfl, hn, _, _, hA, _⟩ := hB
    obtain ⟨rfl, hn2, _, _, hA2, _⟩ := hB2
    obtain ⟨rfl, _, _, _, _, _, _⟩ := hR
    exact safe_walk A n c a A2 n2 c2 b L m cL W hn hA hn2 hA2 hacts
end Go.Proofs.Ytagioimkpdcokaa

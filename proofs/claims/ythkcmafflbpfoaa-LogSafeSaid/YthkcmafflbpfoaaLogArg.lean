import Derived.Test.YthkcmafflbpfoaaLogQ
import Derived.Test.YthkcmafflbpfoaaLaw
namespace Go.Proofs.Ythkcmafflbpfoaa
open Go.RowKit
set_option linter.unusedVariables false
set_option linter.unusedSimpArgs false

/-! texts among a law's arguments: [][]byte. -/
structure LArg (w : World) (A : Option Addr) (n c : Nat) (l : List UInt8) : Prop where
  len : n = l.length
  cap : n ≤ c
  most : c ≤ 140737488355328
  cells : CellsAt w A (l.map byteV)
  nil : A = none → n = 0 ∧ c = 0
def LTxts (w : World) (L : Option Addr) (m : Nat) : Prop := ∀ i, i < m → ∃ b o A n c l, L = some ⟨b, o, none⟩ ∧ w.cell? ⟨b, o + i, none⟩ = some (.slice A n c) ∧ LArg w A n c l
theorem la_u8 : Try.prog.cellsOf 5 = 1 := by kernel_rfl
theorem la_b8 : 1 ≤ Try.prog.bytesOf 5 := by rw [show Try.prog.bytesOf 5 = 1 by kernel_rfl]; exact Nat.le_refl _
theorem la_sl : Try.prog.cellsOf 36 = 1 := by kernel_rfl
theorem la_one {α : Type} (r : List α) (h : r.length = 1) : ∃ a, r = [a] := by
  match r, h with
  | [a], _ => exact ⟨a, rfl⟩
theorem ltxts_of_rows {W : World} {v : Value} {A : Option Addr} {n c : Nat} {rows : List (List Value)} (hR : RowsArg Try.prog W 36 v A n c 1 rows) : LTxts W A n := by
  intro i hi
  have hi2 : i < rows.length := by have := hR.len; omega
  obtain ⟨b, o, hA, hc⟩ := hR.cells i hi2
  obtain ⟨hlen, hrd⟩ := hR.rd rows[i] (List.getElem_mem _)
  obtain ⟨r, hr⟩ : ∃ r, r = rows[i] := ⟨_, rfl⟩
  rw [← hr] at hlen hrd hc
  clear hr
  obtain ⟨u0, rfl⟩ := la_one r hlen
  obtain ⟨Ak, nk, ck, l, hB⟩ := (hrd.sl Try.underlying36).ones byteV la_u8 la_b8 (fun u hu => by
    obtain ⟨n, hn, hw⟩ := hu.int Try.underlying5
    obtain ⟨x, hx⟩ := u8_of_wf hw
    exact ⟨x, by simp at hn; rw [hn, hx]⟩)
  obtain ⟨e2, hn, hcap, hm, hK, hnil⟩ := hB
  subst e2
  exact ⟨b, o, Ak, nk, ck, l, hA, by simpa using hc 0 _ rfl, hn, hcap, Nat.le_trans hm (by omega), hK, hnil⟩
end Go.Proofs.Ythkcmafflbpfoaa

import Derived.Test.YtdlhndbgmldeaaaHRoomsP
import Derived.Test.YtdlhndbgmldeaaaLaw
namespace Go.Proofs.Ytdlhndbgmldeaaa
open Go.RowKit
set_option linter.unusedVariables false
set_option linter.unusedSimpArgs false

/-! drydocklaw17's acts among a law's arguments. -/
structure BArg (w : World) (A : Option Addr) (n c : Nat) (l : List UInt8) : Prop where
  len : n = l.length
  cap : n ≤ c
  most : c ≤ 140737488351232
  cells : CellsAt w A (l.map byteV)
  nil : A = none → n = 0 ∧ c = 0
def HActsAt (w : World) (L : Option Addr) (m : Nat) : Prop := ∀ i, i < m → ∃ b o kd nn A n c l, L = some ⟨b, o, none⟩ ∧ w.cell? ⟨b, o + i * 7, none⟩ = some (.int .i64 kd) ∧ w.cell? ⟨b, o + i * 7 + 1, none⟩ = some (.int .i64 nn) ∧ w.cell? ⟨b, o + i * 7 + 2, none⟩ = some (.slice A n c) ∧ BArg w A n c l
theorem ha_u8 : Try.prog.cellsOf 5 = 1 := by kernel_rfl
theorem ha_b8 : 1 ≤ Try.prog.bytesOf 5 := by rw [show Try.prog.bytesOf 5 = 1 by kernel_rfl]; exact Nat.le_refl _
theorem ha_int : Try.prog.cellsOf 3 = 1 := by kernel_rfl
theorem ha_sl : Try.prog.cellsOf 35 = 1 := by kernel_rfl
theorem ha_act : Try.prog.cellsOf 40 = 7 := by kernel_rfl
theorem seven_of_len {α : Type} (r : List α) (h : r.length = 7) : ∃ a b c d e f g, r = [a, b, c, d, e, f, g] := by
  match r, h with
  | [a, b, c, d, e, f, g], _ => exact ⟨a, b, c, d, e, f, g, rfl⟩
theorem hacts_of_rows {W : World} {v : Value} {A : Option Addr} {n c : Nat} {rows : List (List Value)} (hR : RowsArg Try.prog W 40 v A n c 7 rows) : HActsAt W A n := by
  intro i hi
  have hi2 : i < rows.length := by have := hR.len; omega
  obtain ⟨b, o, hA, hc⟩ := hR.cells i hi2
  obtain ⟨hlen, hrd⟩ := hR.rd rows[i] (List.getElem_mem _)
  obtain ⟨_, hf⟩ := hrd.struct Try.underlying40
  clear hrd
  obtain ⟨r, hr⟩ : ∃ r, r = rows[i] := ⟨_, rfl⟩
  rw [← hr] at hlen hf hc
  clear hr
  have h0 : Rd Try.prog W 3 ((r.drop 0).take (Try.prog.cellsOf 3)) := hf 0 (by simp)
  have h1 : Rd Try.prog W 3 ((r.drop 1).take (Try.prog.cellsOf 3)) := hf 1 (by simp)
  have h2 : Rd Try.prog W 35 ((r.drop 2).take (Try.prog.cellsOf 35)) := hf 2 (by simp)
  clear hf
  rw [ha_int] at h0 h1
  rw [ha_sl] at h2
  obtain ⟨u0, u1, u2, u3, u4, u5, u6, rfl⟩ := seven_of_len r hlen
  obtain ⟨k0, e0⟩ := rd_int Try.underlying3 u0 h0
  obtain ⟨k1, e1⟩ := rd_int Try.underlying3 u1 h1
  obtain ⟨Ak, nk, ck, l, hB⟩ := (h2.sl Try.underlying35).ones byteV ha_u8 ha_b8 (fun u hu => by
    obtain ⟨n, hn, hw⟩ := hu.int Try.underlying5
    obtain ⟨x, hx⟩ := u8_of_wf hw
    exact ⟨x, by simp at hn; rw [hn, hx]⟩)
  obtain ⟨e2, hn, hcap, hm, hK, hnil⟩ := hB
  subst e0 e1 e2
  exact ⟨b, o, k0, k1, Ak, nk, ck, l, hA, hc 0 _ rfl, hc 1 _ rfl, hc 2 _ rfl, hn, hcap, hm, hK, hnil⟩
end Go.Proofs.Ytdlhndbgmldeaaa

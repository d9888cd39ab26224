import Derived.Test.YtdkjmnhblepkaaaLaw
import Derived.Test.YtdkjmnhblepkaaaPlacesP
namespace Go.Proofs.Ytdkjmnhblepkaaa
open Go.RowKit
set_option linter.unusedVariables false
set_option linter.unusedSimpArgs false

/-! drydocklaw18's acts among a law's arguments. -/
structure LArg (w : World) (A : Option Addr) (n c : Nat) (l : List UInt8) : Prop where
  len : n = l.length
  cap : n ≤ c
  most : c ≤ 140737488355328
  cells : CellsAt w A (l.map byteV)
  nil : A = none → n = 0 ∧ c = 0
structure KArg (w : World) (A : Option Addr) (n : Nat) (kept : List Bool) : Prop where
  len : n = kept.length
  most : kept.length ≤ 140737488351232
  cells : CellsAt w A (kept.map Value.bool)
def CActsAt (w : World) (L : Option Addr) (m : Nat) : Prop := ∀ i, i < m → ∃ b o kd nn aa A n c l Ak nk ck kept, L = some ⟨b, o, none⟩ ∧ w.cell? ⟨b, o + i * 5, none⟩ = some (.int .i64 kd) ∧ w.cell? ⟨b, o + i * 5 + 1, none⟩ = some (.int .i64 nn) ∧ w.cell? ⟨b, o + i * 5 + 2, none⟩ = some (.int .i64 aa) ∧ w.cell? ⟨b, o + i * 5 + 3, none⟩ = some (.slice A n c) ∧ w.cell? ⟨b, o + i * 5 + 4, none⟩ = some (.slice Ak nk ck) ∧ LArg w A n c l ∧ KArg w Ak nk kept
theorem ca_u8 : Try.prog.cellsOf 5 = 1 := by kernel_rfl
theorem ca_b8 : 1 ≤ Try.prog.bytesOf 5 := by rw [show Try.prog.bytesOf 5 = 1 by kernel_rfl]; exact Nat.le_refl _
theorem ca_sl : Try.prog.cellsOf 33 = 1 := by kernel_rfl
theorem ca_bool : Try.prog.cellsOf 4 = 1 := by kernel_rfl
theorem ca_bb : 1 ≤ Try.prog.bytesOf 4 := by rw [show Try.prog.bytesOf 4 = 1 by kernel_rfl]; exact Nat.le_refl _
theorem ca_int : Try.prog.cellsOf 3 = 1 := by kernel_rfl
theorem ca_bools : Try.prog.cellsOf 34 = 1 := by kernel_rfl
theorem ca_act : Try.prog.cellsOf 36 = 5 := by kernel_rfl
theorem ca_five {α : Type} (r : List α) (h : r.length = 5) : ∃ a b c d e, r = [a, b, c, d, e] := by
  match r, h with
  | [a, b, c, d, e], _ => exact ⟨a, b, c, d, e, rfl⟩
theorem cacts_of_rows {W : World} {v : Value} {A : Option Addr} {n c : Nat} {rows : List (List Value)} (hR : RowsArg Try.prog W 36 v A n c 5 rows) : CActsAt W A n := by
  intro i hi
  have hi2 : i < rows.length := by have := hR.len; omega
  obtain ⟨b, o, hA, hc⟩ := hR.cells i hi2
  obtain ⟨hlen, hrd⟩ := hR.rd rows[i] (List.getElem_mem _)
  obtain ⟨_, hf⟩ := hrd.struct Try.underlying36
  clear hrd
  obtain ⟨r, hr⟩ : ∃ r, r = rows[i] := ⟨_, rfl⟩
  rw [← hr] at hlen hf hc
  clear hr
  have h0 : Rd Try.prog W 3 ((r.drop 0).take (Try.prog.cellsOf 3)) := hf 0 (by simp)
  have h1 : Rd Try.prog W 3 ((r.drop 1).take (Try.prog.cellsOf 3)) := hf 1 (by simp)
  have h2 : Rd Try.prog W 3 ((r.drop 2).take (Try.prog.cellsOf 3)) := hf 2 (by simp)
  have h3 : Rd Try.prog W 33 ((r.drop 3).take (Try.prog.cellsOf 33)) := hf 3 (by simp)
  have h4 : Rd Try.prog W 34 ((r.drop 4).take (Try.prog.cellsOf 34)) := hf 4 (by simp)
  clear hf
  rw [ca_int] at h0 h1 h2
  rw [ca_sl] at h3
  rw [ca_bools] at h4
  obtain ⟨u0, u1, u2, u3, u4, rfl⟩ := ca_five r hlen
  obtain ⟨k0, e0⟩ := rd_int Try.underlying3 u0 h0
  obtain ⟨k1, e1⟩ := rd_int Try.underlying3 u1 h1
  obtain ⟨k2, e2⟩ := rd_int Try.underlying3 u2 h2
  obtain ⟨Ad, nd, cd, l, hB⟩ := (h3.sl Try.underlying33).ones byteV ca_u8 ca_b8 (fun u hu => by
    obtain ⟨n, hn, hw⟩ := hu.int Try.underlying5
    obtain ⟨x, hx⟩ := u8_of_wf hw
    exact ⟨x, by simp at hn; rw [hn, hx]⟩)
  obtain ⟨Ak, nk, ck, kept, hK⟩ := (h4.sl Try.underlying34).ones Value.bool ca_bool ca_bb (rd_bool Try.underlying4)
  obtain ⟨e3, hn, hcap, hm, hC, hnil⟩ := hB
  obtain ⟨e4, hn2, hcap2, hm2, hC2, hnil2⟩ := hK
  subst e0 e1 e2 e3 e4
  exact ⟨b, o, k0, k1, k2, Ad, nd, cd, l, Ak, nk, ck, kept, hA, hc 0 _ rfl, hc 1 _ rfl, hc 2 _ rfl, hc 3 _ rfl, hc 4 _ rfl, ⟨hn, hcap, Nat.le_trans hm (by omega), hC, hnil⟩, ⟨hn2, by omega, hC2⟩⟩
theorem ca_mod (x : Int) (q : Nat) (hq : 0 < q) (hq2 : q ≤ 100) : ∃ k : Nat, k < q ∧ wrap64 ((IntKind.u64.wrap x).tmod (q : Int)) = (k : Int) := by
  have h : 0 ≤ IntKind.u64.wrap x := by rw [IntKind.wrap_u64]; omega
  generalize IntKind.u64.wrap x = y at *
  have h1 : y.tmod (q : Int) = y % (q : Int) := Int.tmod_eq_emod_of_nonneg h
  have h2 := Int.emod_nonneg y (show (q : Int) ≠ 0 by omega)
  have h3 := Int.emod_lt_of_pos y (show 0 < (q : Int) by omega)
  rw [h1]
  generalize y % (q : Int) = z at *
  rw [IntWalk.wrap64_in z (by omega)]
  exact ⟨z.toNat, by omega, by omega⟩
end Go.Proofs.Ytdkjmnhblepkaaa

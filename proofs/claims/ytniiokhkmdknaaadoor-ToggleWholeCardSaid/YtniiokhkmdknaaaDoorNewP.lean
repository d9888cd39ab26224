import Derived.Test.YtniiokhkmdknaaaDoorTogSure
import Derived.Test.YtniiokhkmdknaaaDoorLaw
namespace Go.Proofs.YtniiokhkmdknaaaDoor
open Go.RowKit
set_option linter.unusedVariables false
set_option linter.unusedSimpArgs false

/-! Texts among a law's arguments; what a toggle's device holds between a law's calls. -/
structure TextAt (w : World) (A : Option Addr) (n c : Nat) (l : List UInt8) : Prop where
  len : n = l.length
  cap : n ≤ c
  most : c ≤ 140737488351232
  cells : CellsAt w A (l.map byteV)
  nil : A = none → n = 0 ∧ c = 0
def TextsAt (w : World) (L : Option Addr) (m : Nat) : Prop := ∀ i, i < m → ∃ b o A n c l, L = some ⟨b, o, none⟩ ∧ w.cell? ⟨b, o + i, none⟩ = some (.slice A n c) ∧ TextAt w A n c l
theorem texts_of_rows {w : World} {v : Value} {L : Option Addr} {m c : Nat} {rows : List (List Value)} (hc : Tryd.prog.cellsOf 5 = 1) (hb : 1 ≤ Tryd.prog.bytesOf 5) (h : RowsArg Tryd.prog w 32 v L m c 1 rows) : TextsAt w L m := by
  intro i hi
  have hi2 : i < rows.length := h.len ▸ hi
  obtain ⟨b, o, hL, hcell⟩ := h.cells i hi2
  obtain ⟨h1, h2⟩ := h.rd (rows[i]'hi2) (List.getElem_mem _)
  obtain ⟨u, hu⟩ := List.length_eq_one_iff.1 h1
  rw [hu] at h2
  obtain ⟨A, n, c, l, hB⟩ := (h2.sl Tryd.underlying32).ones byteV hc hb (fun u hu => by
    obtain ⟨n, hn, hw⟩ := hu.int Tryd.underlying5
    obtain ⟨x, hx⟩ := u8_of_wf hw
    exact ⟨x, by simp at hn; rw [hn, hx]⟩)
  refine ⟨b, o, A, n, c, l, hL, ?_, hB.len, hB.cap, hB.most, hB.cells, hB.nil⟩
  have := hcell 0 u (by rw [hu]; rfl)
  rw [← hB.val]
  simpa using this
def oN : Option Text → Nat
  | none => 0
  | some t => t.n
def oT : Option Text → List UInt8
  | none => []
  | some t => t.text
theorem next_n (o : Option Text) (l : List UInt8) : (nextT o l).n = oN o + 1 := by cases o <;> rfl
structure Nw (w wr : World) (p m1 m2 b1 : Nat) (x0 x1 : UInt8) (o : Option Text) (D : DevS) : Prop where
  fr : Fr none_ w wr
  dev : DevAt wr p m1 m2 D
  new : ∀ i, devBlks p m1 m2 i → w.heap.size ≤ i
  calm : Calm D
  sec : D.sectors = 13
  tg : Tg 2 10 D o
  g1 : D.get 1 = padB [x0]
  g12 : D.get 12 = padB [x1]
  ar : wr.heap[b1]? = some (.cells #[.int .i64 2, .int .i64 10] 30 (0, 0))
  bx : wr.heap[w.heap.size]? = some (.cells #[byteV x0, byteV x1] 23 (0, 0))
  ad : ¬ devBlks p m1 m2 b1
  bd : ¬ devBlks p m1 m2 w.heap.size
theorem Nw.step0 {w wr w' : World} {p m1 m2 b1 : Nat} {x0 x1 : UInt8} {o : Option Text} {D : DevS} (h : Nw w wr p m1 m2 b1 x0 x1 o D) (hF : Fr none_ wr w') : Nw w w' p m1 m2 b1 x0 x1 o D :=
  ⟨h.fr.trans hF, h.dev.fr0 hF, h.new, h.calm, h.sec, h.tg, h.g1, h.g12, hF.heap0 h.ar, hF.heap0 h.bx, h.ad, h.bd⟩
theorem Nw.save {w wr w' : World} {p m1 m2 b1 : Nat} {x0 x1 : UInt8} {o : Option Text} {D : DevS} (h : Nw w wr p m1 m2 b1 x0 x1 o D) (l : List UInt8) (hl : l.length ≤ 256) (hn : oN o < 100)
    (hF : Fr (devBlks p m1 m2) wr w') (hD : DevAt w' p m1 m2 (saveT D 2 10 (nextT o l))) : Nw w w' p m1 m2 b1 x0 x1 (some (nextT o l)) (saveT D 2 10 (nextT o l)) := by
  have hs := h.sec
  have hl2 : (((nextT o l).text.length : Nat) : Int) ≤ (10 - 1) / 2 * 64 := by rw [nextT_text]; omega
  have hc := h.calm.saveT (f := 2) (s := 10) (by decide) (by decide) (by omega) (nextT o l) hl2
  obtain ⟨i1, i2⟩ := saved (D := D) (f := 2) (s := 10) (by decide) (by decide) (by omega) (nextT o l) hl2 (by rw [next_n]; omega) hc.up
  exact ⟨h.fr.trans' hF (fun k hk hs => by have := h.new k hs; omega), hD, h.new, hc, (saveD_sectors _ _ _ _ _).trans hs, i1, by rw [i2 1 (by omega)]; exact h.g1, by rw [i2 12 (by omega)]; exact h.g12, hF.heap h.ar h.ad, hF.heap h.bx h.bd, h.ad, h.bd⟩
end Go.Proofs.YtniiokhkmdknaaaDoor

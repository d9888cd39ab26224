import Derived.Test.YtdkjmnhblepkaaaCold16
import Derived.Test.YtdkjmnhblepkaaaCold11
import Derived.Test.YtdkjmnhblepkaaaLoseC
namespace Go.Proofs.Ytdkjmnhblepkaaa
open Go.RowKit
set_option linter.unusedVariables false
set_option linter.unusedSimpArgs false
set_option maxRecDepth 100000

/-! cold: what a law holds between its calls; drydocklaw18.sure. -/
structure CL (w wr : World) (x lb pb c g : Nat) (ds : List (Nat × Nat × Nat)) (Ds : List DevS) (C : ColdS) (l : List (PlaceS × Value)) : Prop where
  col : ColdAt wr x lb pb c g (ds.map (·.1)) C l
  dev : DevsAt wr ds Ds
  fr : Fr none_ w wr
  ge : (∀ i, devsB ds i → w.heap.size ≤ i) ∧ w.heap.size ≤ g ∧ w.heap.size ≤ pb
theorem CL.step0 {w wr w' : World} {x lb pb c g : Nat} {ds : List (Nat × Nat × Nat)} {Ds : List DevS} {C : ColdS} {l : List (PlaceS × Value)} (h : CL w wr x lb pb c g ds Ds C l) (hF : Fr none_ wr w') : CL w w' x lb pb c g ds Ds C l :=
  ⟨h.col.fr0 hF, h.dev.fr0 hF, h.fr.trans hF, h.ge⟩
def coldB (ds : List (Nat × Nat × Nat)) (g pb : Nat) (i : Nat) : Prop := devsB ds i ∨ i = g ∨ i = pb
theorem CL.base {w wr w' : World} {x lb pb c g : Nat} {ds : List (Nat × Nat × Nat)} {Ds : List DevS} {C : ColdS} {l : List (PlaceS × Value)} (h : CL w wr x lb pb c g ds Ds C l) (hF : Fr (coldB ds g pb) wr w') : Fr none_ w w' :=
  h.fr.trans' hF (fun i hi e => by
    have h1 := h.ge.1
    have h2 := h.ge.2
    rcases e with e | e | e
    · have := h1 i e; omega
    · omega
    · omega)
theorem CL.put {w wr w' : World} {x lb pb c g : Nat} {ds : List (Nat × Nat × Nat)} {Ds : List DevS} {C : ColdS} {l : List (PlaceS × Value)} (h : CL w wr x lb pb c g ds Ds C l) {k : Nat} {txt : List UInt8} {e : Ending} (hp : PutOk wr x lb pb c g ds Ds C l k txt e w') :
    e = .returned (.tuple #[.int .i64 (k : Int), .nilIface]) ∧ Fr (coldB ds g pb) wr w' ∧ ∃ sv, CL w w' x lb pb c g ds (putDs Ds ((C.first + k * sectC C.d C.size : Nat) : Int) (sectC C.d C.size) (partsP C txt) ds.length) (C.putP k ⟨1, txt.length, (partsP C txt).map sumF⟩) (l.set k (⟨1, txt.length, (partsP C txt).map sumF⟩, sv)) := by
  obtain ⟨h1, ⟨sv, h2⟩, h3, h4⟩ := hp
  exact ⟨h1, h4, sv, h2, h3, h.base h4, h.ge⟩
theorem CL.turn {w wr w' : World} {x lb pb c g : Nat} {ds : List (Nat × Nat × Nat)} {Ds : List DevS} {C C' : ColdS} {l l' : List (PlaceS × Value)} (h : CL w wr x lb pb c g ds Ds C l) (hF : Fr (fun i => i = pb) wr w') (hC : ColdAt w' x lb pb c g (ds.map (·.1)) C' l') : CL w w' x lb pb c g ds Ds C' l' :=
  ⟨hC, h.dev.fr hF (fun i hi b hb e => by subst e; exact dev_cellsC (h.dev.at_ i hi (by rw [← h.dev.len]; exact hi)) h.col.pls.blk (by decide) hb), h.base (hF.mono (fun _ _ e => .inr (.inr e))), h.ge⟩
theorem CL.got {w wr w' : World} {x lb pb c g : Nat} {ds : List (Nat × Nat × Nat)} {Ds : List DevS} {C : ColdS} {l : List (PlaceS × Value)} (h : CL w wr x lb pb c g ds Ds C l) (hF : Fr (fun i => i = g) wr w') (hf : FieldAt w' g) : CL w w' x lb pb c g ds Ds C l :=
  ⟨h.col.fld hF hf, h.dev.fld h.col.code.fd hF, h.base (hF.mono (fun _ _ e => .inr (.inl e))), h.ge⟩
theorem CL.onDev {w wr w' : World} {x lb pb c g : Nat} {ds : List (Nat × Nat × Nat)} {Ds : List DevS} {C : ColdS} {l : List (PlaceS × Value)} (h : CL w wr x lb pb c g ds Ds C l) (i : Nat) (hi : i < ds.length) {D : DevS} (hF : Fr (devBlks ds[i].1 ds[i].2.1 ds[i].2.2) wr w') (hD : DevAt w' ds[i].1 ds[i].2.1 ds[i].2.2 D) : CL w w' x lb pb c g ds (Ds.set i D) C l :=
  ⟨h.col.devs' h.dev (hF.mono (fun _ _ e => ⟨i, hi, e⟩)), h.dev.set i hi hF hD, h.base (hF.mono (fun _ _ e => .inl ⟨i, hi, e⟩)), h.ge⟩
theorem CL.new {w w1 w2 : World} {s n : Nat} {ds : List (Nat × Nat × Nat)} {x lb pb c g : Nat} {C : ColdS} {l : List (PlaceS × Value)} (hF1 : Fr none_ w w1) (hN : NewDs w w1 s n ds) (hF2 : Fr none_ w1 w2) (hC : ColdAt w2 x lb pb c g (ds.map (·.1)) C l) (hpb : w1.heap.size ≤ pb) (hg : w1.heap.size ≤ g) : CL w w2 x lb pb c g ds (List.replicate n (newD (s : Int))) C l := by
  have hz := hF1.size
  exact ⟨hC, hN.at_.fr0 hF2, hF1.trans hF2, fun i hi => by obtain ⟨j, hj, hd⟩ := hi; exact hN.ge j hj i hd, by omega, by omega⟩
/-- a slice of devices stays -/
theorem CL.keepA {w wr w' : World} {x lb pb c g : Nat} {ds : List (Nat × Nat × Nat)} {Ds : List DevS} {C : ColdS} {l : List (PlaceS × Value)} (h : CL w wr x lb pb c g ds Ds C l) (hF : Fr (coldB ds g pb) wr w') {A : Option Addr} {vs : List Value} (hA : CellsAt wr A vs) {T : TypeId} (hT : ∀ b, blkOf A b → ∃ c, wr.heap[b]? = some (.cells c T (0, 0))) (h1 : T ≠ 76) (h2 : T ≠ 104) (h3 : T ≠ 60) : CellsAt w' A vs ∧ ∀ b, blkOf A b → ∃ c, w'.heap[b]? = some (.cells c T (0, 0)) := by
  have hn : ∀ b, blkOf A b → ¬ coldB ds g pb b := fun b hb e => by
    obtain ⟨cc, hcc⟩ := hT b hb
    rcases e with e | e | e
    · exact devsB_cells h.dev hcc h1 e
    · subst e
      obtain ⟨cg, hg⟩ := fieldAt_blk h.col.code.fd
      rw [hg] at hcc
      exact h2 (Obj.cells.inj (Option.some.inj hcc)).2.1.symm
    · subst e
      rw [h.col.pls.blk] at hcc
      exact h3 (Obj.cells.inj (Option.some.inj hcc)).2.1.symm
  exact ⟨hA.fr hF hn, fun b hb => by obtain ⟨cc, hcc⟩ := hT b hb; exact ⟨cc, hF.heap hcc (hn b hb)⟩⟩
/-- sure's devices, its places and its box -/
def sC : ColdS := newCold 2 1 0 1 100
def sD : List DevS := List.replicate 3 (newD 4)
def sP : List (List UInt8) := partsP sC someB
def sD1 : List DevS := putDs sD 0 1 sP 3
def sD2 : List DevS := sD1.set 0 ((sD1.getD 0 (newD 4)).lose)
def sPl : PlaceS := ⟨1, 10, sP.map sumF⟩
theorem s_there : theresC sD2 0 10 2 (sP.map sumF) = [false, true, true] := by decide +kernel
theorem s_got : gotF 2 1 10 (rowsC sD2 0 10 2) [false, true, true] = someB := by decide +kernel
theorem s_pick : pickN [false, true, true] 2 3 = [1, 2] := by decide +kernel
theorem s_piv : pivOk [rowF 2 1, rowF 2 2] 2 := fun j hj => by
  obtain rfl | rfl : j = 0 ∨ j = 1 := by omega
  · rw [some_piv.1]; decide
  · rw [some_piv.2]; decide
end Go.Proofs.Ytdkjmnhblepkaaa

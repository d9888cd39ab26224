import Derived.Test.YtjfeibbghhjjeaaDoorLawHReads
import Derived.Test.YtjfeibbghhjjeaaDoorLaw
namespace Go.Proofs.YtjfeibbghhjjeaaDoor
open Go.RowKit
set_option linter.unusedVariables false
set_option linter.unusedSimpArgs false
set_option maxRecDepth 100000
theorem hr_cellsOf_u8 : Tryd.prog.cellsOf 5 = 1 := by kernel_rfl
theorem hr_bytesOf_u8 : Tryd.prog.bytesOf 5 = 1 := by kernel_rfl
theorem three_cells {cs : Array Value} (hs : cs.size = 3) {x y z : Value} (ha : (cs.toList.drop 0).take 1 = [x]) (hb : (cs.toList.drop 1).take 1 = [y]) (hc : (cs.toList.drop 2).take 1 = [z]) : Value.agg cs = .agg #[x, y, z] := by
  obtain ⟨l⟩ := cs
  match l, hs with
  | [u, v, t], _ =>
    simp at ha hb hc
    rw [ha, hb, hc]
theorem rd_config {W : World} {v : Value} (h : RdV Tryd.prog W 23 v) : ∃ a b c : Int, v = cfgV a b c := by
  obtain ⟨cs, rfl, hs, hf⟩ := h.struct Tryd.underlying23
  obtain ⟨a, ha, _⟩ := (hf 0 (by decide)).int Tryd.underlying3
  obtain ⟨b, hb, _⟩ := (hf 1 (by decide)).int Tryd.underlying3
  obtain ⟨c, hc, _⟩ := (hf 2 (by decide)).int Tryd.underlying3
  have h2 : Tryd.prog.cellsOf 23 = 3 := by kernel_rfl
  have h1 : Tryd.prog.cellsOf 3 = 1 := by kernel_rfl
  rw [h2] at hs
  have ha : (cs.toList.drop 0).take (Tryd.prog.cellsOf 3) = [.int .i64 a] := ha
  have hb : (cs.toList.drop 1).take (Tryd.prog.cellsOf 3) = [.int .i64 b] := hb
  have hc : (cs.toList.drop 2).take (Tryd.prog.cellsOf 3) = [.int .i64 c] := hc
  rw [h1] at ha hb hc
  exact ⟨a, b, c, three_cells hs ha hb hc⟩
theorem hreads_walk {w : World} (A : Option Addr) (nn cc : Nat) (l : List UInt8) (f n s : Int) (hnl : nn = l.length) (hnc : nn ≤ cc) (hm : l.length ≤ 140737488351232) (hA : CellsAt w A (l.map byteV)) (hnil : A = none → nn = 0 ∧ cc = 0) (hg : ErrT w) :
    Calls Tryd.prog 3 #[cfgV f n s, .slice A nn cc] w fun e w' => e = .returned (.bool true) ∧ Fr none_ w w' := by
  have hsec : (newD 12).sectors = 12 := rfl
  have hlen : ((newRef 12).now.length : Int) = 12 := by simp [newRef]
  by_cases hb : confBad 12 f n s
  · exact hreads_bad A nn cc f n s 1 (by decide) hg (fun W p m1 m2 hd hF => hdec_conf hd f n s hb A nn cc) (fun W cs hd hF => rdec17_conf hd f n s (by rw [hlen]; exact hb) A nn cc)
  · unfold confBad at hb
    obtain ⟨k, rfl⟩ : ∃ k : Nat, n = (k : Int) := ⟨n.toNat, by omega⟩
    obtain ⟨t, rfl⟩ : ∃ t : Nat, s = (t : Int) := ⟨s.toNat, by omega⟩
    have hf : 0 ≤ f := by omega
    have hk : 1 ≤ k ∧ k ≤ 1024 := by omega
    have ht : 1 ≤ t ∧ t ≤ 1024 := by omega
    have hkt : (k : Int) * (t : Int) = ((k * t : Nat) : Int) := by simp
    have hfit : f + ((k * t : Nat) : Int) ≤ 12 := by rw [← hkt]; omega
    have hk1 : k * 1 ≤ k * t := Nat.mul_le_mul_left _ ht.1
    have hk12 : k ≤ 12 := by omega
    have hmd := made_le k hk12
    by_cases hE : openE l = 0
    · have hold : ∀ bb, blkOf A bb → bb < w.heap.size := by
        intro bb hbb
        have h4 : 4 ≤ l.length := by
          unfold openE at hE
          split at hE
          · cases hE
          · omega
        obtain ⟨b0, o0, hA0, hc0⟩ := hA 0 (by rw [List.length_map]; omega)
        rw [hA0] at hbb
        have := blkOf_some hbb
        rw [this]
        exact cell_lt hc0
      have PE : ∀ W p m1 m2, DevAt W p m1 m2 (newD 12) → Fr none_ w W → Calls Tryd.prog 6 #[ptr p, cfgV f k t, .slice A nn cc] W fun e w' => HDec W p f k t l e w' := fun W p m1 m2 hd hF => hdec_any hd f k t hf hk ht hfit hmd A nn cc l hnl (hA.fr0 hF) hnc hm hE
      have RE : ∀ W cs, RDV W cs (newRef 12) → Fr none_ w W → Calls Tryd.prog 7 #[.agg cs, cfgV f k t, .slice A nn cc] W fun e w' => RDec W f k t l e w' := fun W cs hd hF => rdec17_ok hd f k t hf hk ht (by rw [hlen]; exact hfit) hmd A nn cc l hnl (hA.fr0 hF) hnc hm (fun bb hbb => Nat.lt_of_lt_of_le (hold bb hbb) hF.size) hE
      by_cases hform : formOK (t * 64) k l
      · exact hreads_good A nn cc l f k t hf ⟨hk.1, hk12⟩ ht hfit hnl hA hnil hE hform hg PE RE
      · exact hreads_bad A nn cc f k t 3 (by decide) hg (fun W p m1 m2 hd hF => (PE W p m1 m2 hd hF).mono (fun e w' h => ⟨h.2.1 hform, h.2.2⟩)) (fun W cs hd hF => (RE W cs hd hF).mono (fun e w' h => ⟨h.2.1 hform, h.2.2⟩))
    · exact hreads_bad A nn cc f k t (openE l) hE hg (fun W p m1 m2 hd hF => hdec_open hd f k t hf hk ht hfit hmd A nn cc l hnl (hA.fr0 hF) hnc hm hE) (fun W cs hd hF => rdec17_open hd f k t hf hk ht (by rw [hlen]; exact hfit) hmd A nn cc l hnl (hA.fr0 hF) hnc hm hE)
theorem hotReads_law (W : World) (vs : List Value) (hg : ErrT W) (hl : vs.length = [23, 24].length) (hv : ∀ (i : Nat) (t : TypeId) (v : Value), [23, 24][i]? = some t → vs[i]? = some v → RdV Tryd.prog W t v) :
    Calls Tryd.prog 3 vs.toArray W fun e w' => e = .returned (.bool true) ∧ Fr none_ W w' := by
  match vs, hl with
  | [v0, v1], _ =>
    obtain ⟨a, b, c, rfl⟩ := rd_config (hv 0 _ v0 rfl rfl)
    obtain ⟨A, n, cp, l, hB⟩ := (hv 1 _ v1 rfl rfl).bytes Tryd.underlying24 Tryd.underlying5 hr_cellsOf_u8 hr_bytesOf_u8
    obtain ⟨rfl, hn, hnc, hm, hA, hnil⟩ := hB
    exact hreads_walk A n cp l a b c hn hnc (by omega) hA hnil hg
end Go.Proofs.YtjfeibbghhjjeaaDoor

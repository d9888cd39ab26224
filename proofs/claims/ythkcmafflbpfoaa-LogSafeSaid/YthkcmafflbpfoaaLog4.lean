import Derived.Test.YthkcmafflbpfoaaLog3
import Derived.Test.YthkcmafflbpfoaaDevAll
namespace Go.Proofs.Ythkcmafflbpfoaa
open Go.RowKit
set_option linter.unusedVariables false
set_option linter.unusedSimpArgs false
set_option maxRecDepth 100000

/-! log: check, write. -/
theorem dev_cells {w : World} {p m1 m2 : Nat} {D : DevS} (hD : DevAt w p m1 m2 D) {g : Nat} {c : Array Value} {T : TypeId} (hb : w.heap[g]? = some (.cells c T (0, 0))) (hT : T ≠ 54) : ¬ devBlks p m1 m2 g := by
  obtain ⟨⟨⟨es, c1, h1, _⟩, _⟩, ⟨⟨es2, c2, h2, _⟩, _⟩⟩ := And.intro hD.now hD.loose
  have h0 := hD.blk
  rintro (rfl | rfl | rfl)
  · rw [hb] at h0; cases h0; exact hT rfl
  · rw [hb] at h1; cases h1
  · rw [hb] at h2; cases h2
theorem SzAt.frD {w w' : World} {v : Value} {l : List Nat} {p m1 m2 : Nat} {D : DevS} (h : SzAt w v l) (hD : DevAt w p m1 m2 D) (hF : Fr (devBlks p m1 m2) w w') : SzAt w' v l := by
  rcases h.rep with h | ⟨g, o, cap, full, h1, h2, h3⟩
  · exact ⟨.inl h⟩
  · exact ⟨.inr ⟨g, o, cap, full, h1, hF.heap h2 (dev_cells hD h2 (by decide)), h3⟩⟩
theorem LogAt.frD {w w' : World} {b p m1 m2 : Nat} {l : LogS} {D : DevS} (h : LogAt w b p l) (hD : DevAt w p m1 m2 D) (hF : Fr (devBlks p m1 m2) w w') : LogAt w' b p l := by
  obtain ⟨⟨v, h1, h2⟩, h3⟩ := h
  exact ⟨⟨v, hF.heap h1 (dev_cells hD h1 (by decide)), h2.frD hD hF⟩, h3⟩
/-- where a sector of the log lies -/
def LogS.sec (l : LogS) (i : Nat) : Nat := l.first + (l.at_ + i) % l.secs
theorem sec_lt (l : LogS) (i : Nat) (h : 2 ≤ l.secs) : l.sec i < l.first + l.secs := by
  unfold LogS.sec
  have := Nat.mod_lt (l.at_ + i) (show 0 < l.secs by omega)
  omega
theorem sec_ar (fi se at_ i : Nat) (h1 : fi ≤ 16384) (h2 : 2 ≤ se) (h3 : se ≤ 16384) (h4 : at_ < se) (h5 : i ≤ 1000000) :
    wrap64 ((at_ : Int) + (i : Int)) = ((at_ + i : Nat) : Int) ∧ ((at_ + i : Nat) : Int).tmod (se : Int) = (((at_ + i) % se : Nat) : Int) ∧ wrap64 ((fi : Int) + (((at_ + i) % se : Nat) : Int)) = ((fi + (at_ + i) % se : Nat) : Int) := by
  have hlt := Nat.mod_lt (at_ + i) (show 0 < se by omega)
  refine ⟨?_, ?_, ?_⟩
  · rw [IntWalk.wrap64_in _ (by omega)]; omega
  · rw [Int.tmod_eq_emod_of_nonneg (by omega)]; exact (Int.natCast_emod _ _).symm
  · obtain ⟨r, hr⟩ : ∃ r, r = (at_ + i) % se := ⟨_, rfl⟩
    rw [← hr] at hlt ⊢
    rw [IntWalk.wrap64_in _ (by omega)]; omega
set_option maxHeartbeats 1000000 in
theorem lwrite_any {w : World} {b p m1 m2 : Nat} {l : LogS} {D : DevS} (h : LogAt w b p l) (hD : DevAt w p m1 m2 D) (i : Nat) (hi : i ≤ 1000000) (A : Option Addr) (n c : Nat) (bs : List UInt8) (hn : n = bs.length) (hA : CellsAt w A (bs.map byteV)) (hap : ∀ b, blkOf A b → 0 < bs.length → ¬ devBlks p m1 m2 b) :
    Calls Try.prog 27 #[ptr b, .int .i64 (i : Int), .slice A n c] w fun e w' => e = .returned (errV (D.writeE (l.sec i : Nat) bs.length)) ∧ Fr (devBlks p m1 m2) w w' ∧ DevAt w' p m1 m2 (D.write (l.sec i : Nat) bs) := by
  obtain ⟨A1, cap, c0, c1, c2, c3, c4, c5, c6, hA1⟩ := h.cellsAll
  have hm := h.most
  have hF0 := (Fr.refl none_ w).drew
  have hwr := write_any (hD.fr0 hF0) (l.sec i : Nat) A n c bs hn (hA.fr0 hF0) hap
  obtain ⟨s, hs⟩ : ∃ s, s = l.sec i := ⟨_, rfl⟩
  rw [← hs] at hwr ⊢
  have d0 : w.drew.cell? ⟨b, 0, none⟩ = some (ptr p) := c0
  have d1 : w.drew.cell? ⟨b, 1, none⟩ = some (.int .i64 (l.first : Int)) := c1
  have d2 : w.drew.cell? ⟨b, 2, none⟩ = some (.int .i64 (l.secs : Int)) := c2
  have d3 : w.drew.cell? ⟨b, 3, none⟩ = some (.int .i64 (l.at_ : Int)) := c3
  have hz : ¬ (l.secs : Int) = 0 := by omega
  have hz2 : ¬ l.secs = 0 := by omega
  obtain ⟨e1, e2, e4⟩ := sec_ar l.first l.secs l.at_ i hm.1 hm.2.1 hm.2.2.1 hm.2.2.2.1 hi
  rw [show l.first + (l.at_ + i) % l.secs = s from hs.symm] at e4
  have hwr2 : Calls Try.prog 47 #[ptr p, .int .i64 (wrap64 ((l.first : Int) + (wrap64 ((l.at_ : Int) + (i : Int))).tmod (l.secs : Int))), .slice A n c] w.drew fun e w' => e = .returned (errV (D.writeE (s : Int) bs.length)) ∧ Fr (devBlks p m1 m2) w.drew w' ∧ DevAt w' p m1 m2 (D.write (s : Int) bs) := by
    rw [e1, e2, e4]; exact hwr
  have HWR := Lib.hid hwr2
  clear hn hwr hwr2 hs hm e1 e2 e4
  go_enter Try.func27, Try.ntmps27
  go_wp2_with fail
  go_still_tail 23, (by kernel_rfl)
  go_wp2_with fail
  (with_reducible refine HWR.out.mono ?_)
  rintro e w1 ⟨rfl, hF1, hD1⟩
  go_wp2_with fail
  go_ret
  exact ⟨rfl, (Fr.of0 hF0).trans hF1, hD1⟩
end Go.Proofs.Ythkcmafflbpfoaa

import Derived.Test.YtablkklihcpniaaSketchD
import Derived.Test.YtablkklihcpniaaLaw
import Derived.Deep.RegionHeld3
namespace Go.Proofs.Ytablkklihcpniaa
open Go.RowKit
set_option linter.unusedVariables false
set_option linter.unusedSimpArgs false
def skC (s : Sk) : List Value := [.int .u32 (s.a : Int), .int .u32 (s.b : Int), .int .u32 (s.c : Int), .int .u32 (s.d : Int)]
theorem skC_len (s : Sk) : (skC s).length = 4 := rfl
theorem SkAt.drew {w : World} {A : Option Addr} {l : List Sk} (h : SkAt w A l) : SkAt w.drew A l := h
theorem SkAt.of_cells {w : World} {A : Option Addr} {l : List Sk} (h : CellsAt w A (l.flatMap skC)) : SkAt w A l := by
  intro k hk
  have g : ∀ i, i < 4 → (l.flatMap skC)[k * 4 + i]? = (skC l[k])[i]? := fun i hi => flatMap_get skC 4 skC_len l k i hk hi
  obtain ⟨b, o, hA, h0⟩ := h.getD ((g 0 (by omega)).trans rfl)
  obtain ⟨b1, o1, hA1, h1⟩ := h.getD ((g 1 (by omega)).trans rfl)
  obtain ⟨b2, o2, hA2, h2⟩ := h.getD ((g 2 (by omega)).trans rfl)
  obtain ⟨b3, o3, hA3, h3⟩ := h.getD ((g 3 (by omega)).trans rfl)
  rw [hA] at hA1 hA2 hA3
  cases hA1; cases hA2; cases hA3
  exact ⟨b, o, hA, h0, h1, h2, h3⟩
theorem info_sk : (Try.prog.info? 27).map (fun i => (i.zero, i.size, i.bytes)) = some (some (.agg #[.int .u32 0, .int .u32 0, .int .u32 0, .int .u32 0]), 4, 16) := by kernel_rfl
theorem skC_oneCell1 (x : Sk) : ∀ u ∈ skC x, u.oneCell' = true := by
  intro u hx
  simp [skC] at hx
  rcases hx with rfl | rfl | rfl | rfl <;> rfl
theorem skC_oneCell (l : List Sk) : ∀ u ∈ l.flatMap skC, u.oneCell' = true := by
  intro u hu
  obtain ⟨x, _, hx⟩ := List.mem_flatMap.1 hu
  simp [skC] at hx
  rcases hx with rfl | rfl | rfl | rfl <;> rfl
set_option maxHeartbeats 1000000 in
theorem bestLaw_walk (n c : Nat) (A : Option Addr) (l : List Sk) (s : Sk) (w : World) (hn : n = l.length) (hl : l.length * 16 ≤ 140737488351232) (hA : SkAt w A l) :
    Calls Try.prog 4 #[.slice A n c, sk s.a s.b s.c s.d] w fun e w' => e = .returned (.bool true) ∧ Fr none_ w w' := by
  subst hn
  go_enter Try.func4, Try.ntmps4
  go_wp2_with fail
  go_loopw [5, 6] (fun v i wr => ∃ k : Nat, k ≤ l.length ∧ i = .int .i64 k ∧ wr.ownsRow (w.heap.size + 1) 27 4 v k ((l.take k).flatMap skC) ∧ Fr none_ w wr ∧
    wr.heap[w.heap.size]? = some (.cells #[.int .u32 s.a, .int .u32 s.b, .int .u32 s.c, .int .u32 s.d] 25 (0, 0))) (fun _ i _ => l.length - (intOf i).toNat)
  case atStart => exact ⟨0, by omega, rfl, World.ownsRow_nil _ _ _ _, (Fr.refl _ _).alloc _, heap_alloc_new _ _⟩
  case round =>
    obtain ⟨k, hk, rfl, hown, hF, hs⟩ := hrel
    have hz : w.heap.size < wr.heap.size := blk_lt hs
    by_cases hlt : k < l.length
    · obtain ⟨b, o, rfl, h0, h1, h2, h3⟩ := hA.fr0 hF k hlt
      have HS := Lib.hid hs
      have HO := Lib.hid hown
      have ht := Lib.hid (show (l.take (k + 1)).flatMap skC = (l.take k).flatMap skC ++ skC l[k] by rw [List.take_succ_eq_append_getElem hlt, List.flatMap_append]; simp)
      have hnew := CellsAt.whole (w := wr.alloc (.cells (skC l[k]).toArray 27)) (l := skC l[k]) (heap_alloc_new wr _)
      clear hs hown
      go_wp2_with (at_builtin; refine wpList_append_any rfl _ _ 36 rfl (w.heap.size + 1) 27 _ 4 16 Try.underlying36 info_sk rfl (by decide) _ k _ rfl (ownsRow_fr0 HO.out ((Fr.refl _ _).alloc _)) _ 1 1 (skC l[k]) rfl hnew (fun h => by cases h) rfl (skC_oneCell1 _) (by unfold maxLen; omega) (by omega) (by simp; omega) ?_; intro v' w1 hown1 hg; rw [← ht.out] at hown1)
      go_roundw
      case rel =>
        have ho2 := ownsRow_fr0 HO.out ((Fr.refl none_ wr).alloc (.cells (skC l[k]).toArray 27))
        exact ⟨k + 1, by omega, by go_num, hown1, Fr.grown (hF.alloc _) hg ho2 (by omega), (Fr.of_grown hg).heap (heap_alloc_old HS.out _) (fun e => by have := (ownsRow_lt ho2 e).1; omega)⟩
      case measure => simp [intOf]; omega
    · have hk2 : k = l.length := by omega
      subst hk2
      rw [List.take_length] at hown
      have s0 : wr.cell? ⟨w.heap.size, 0, none⟩ = some (.int .u32 s.a) := by rw [cell_of_blk hs]; rfl
      have s1 : wr.cell? ⟨w.heap.size, 1, none⟩ = some (.int .u32 s.b) := by rw [cell_of_blk hs]; rfl
      have s2 : wr.cell? ⟨w.heap.size, 2, none⟩ = some (.int .u32 s.c) := by rw [cell_of_blk hs]; rfl
      have s3 : wr.cell? ⟨w.heap.size, 3, none⟩ = some (.int .u32 s.d) := by rw [cell_of_blk hs]; rfl
      obtain ⟨A1, c1, rfl, hA1, _, hn1, _⟩ := ownsRow_read hown
      have hS1 := SkAt.of_cells hA1
      have hS0 := hA.fr0 hF
      have HS := Lib.hid hs
      have HO := Lib.hid hown
      clear hs hown
      go_wp2_with fail
      go_region_held3 (fun w' => (w'.cell? ⟨w.heap.size, 0, none⟩ = some (.int .u32 s.a) ∧ w'.cell? ⟨w.heap.size, 1, none⟩ = some (.int .u32 s.b) ∧ w'.cell? ⟨w.heap.size, 2, none⟩ = some (.int .u32 s.c) ∧ w'.cell? ⟨w.heap.size, 3, none⟩ = some (.int .u32 s.d))) (first | exact ⟨m0, m1, m2, m3⟩ | exact ⟨k0, k1, k2, k3⟩ | exact ⟨g0, g1, g2, g3⟩ | exact ⟨s0, s1, s2, s3⟩) (first | (go_at_call 15; (with_reducible refine (best_any _ _ _ l s _ rfl (by omega) hS1.drew).mono ?_); rintro e w1 ⟨rfl, hF1⟩; have g0 := hF1.undrew.cell0 s0; have g1 := hF1.undrew.cell0 s1; have g2 := hF1.undrew.cell0 s2; have g3 := hF1.undrew.cell0 s3) | (go_at_call 16; (with_reducible refine (rbest_any _ _ _ l s _ rfl (by omega) (hS0.fr0 hF1.undrew)).mono ?_); rintro e w2 ⟨rfl, hF2⟩; have k0 := hF2.cell0 g0; have k1 := hF2.cell0 g1; have k2 := hF2.cell0 g2; have k3 := hF2.cell0 g3) | (go_at_call 14; (with_reducible refine (ssure_any _).mono ?_); rintro e w3 ⟨rfl, hF3⟩; have m0 := hF3.cell0 k0; have m1 := hF3.cell0 k1; have m2 := hF3.cell0 k2; have m3 := hF3.cell0 k3))
      go_wp2
      go_ret
      exact ⟨rfl, ((hF.trans hF1.undrew).trans hF2).trans hF3⟩
theorem sk_slice {w : World} {v : Value} (h : RdV Try.prog w 35 v) : ∃ A n c l, v = .slice A n c ∧ n = l.length ∧ l.length * 16 ≤ 140737488351232 ∧ SkAt w A l := by
  have ce : Try.prog.cellsOf 25 = 4 := by kernel_rfl
  have be : Try.prog.bytesOf 25 = 16 := by kernel_rfl
  rcases h.slice Try.underlying35 with rfl | ⟨a, len, cap, rfl, hl, hm, hr, hx⟩
  · exact ⟨none, 0, 0, [], rfl, rfl, by simp, SkAt.nil _ _⟩
  · rw [be] at hr
    have hsp : 0 < len → a.spot = none := fun h0 => by
      obtain ⟨ecs, g1, g2, g3⟩ := hx 0 h0
      have g4 := cell_spot (g2 0 (by rw [g1, ce]; omega))
      simpa [Addr.add] using g4
    obtain ⟨l, hll, hp⟩ := list_choose (fun i (x : Sk) => ∀ j (hj : j < 4), w.cell? ⟨a.block, a.off + i * 4 + j, none⟩ = some ((skC x)[j]'hj)) len (fun i hi => by
      obtain ⟨ecs, h1, h2, h3⟩ := hx i hi
      obtain ⟨p, q, r, s, rfl, _⟩ := h3.words4 Try.underlying25 Try.underlying24 (by kernel_rfl) ce
      refine ⟨⟨p, q, r, s⟩, fun j hj => ?_⟩
      have h4 := h2 j hj
      rw [ce] at h4
      exact add_add h4 (hsp (by omega)))
    refine ⟨some a, len, cap, l, rfl, hll.symm, by omega, fun k hk => ⟨a.block, a.off, ?_, ?_⟩⟩
    · have := hsp (by omega)
      cases a; simp at this; subst this; rfl
    · exact ⟨hp k hk 0 (by omega), hp k hk 1 (by omega), hp k hk 2 (by omega), hp k hk 3 (by omega)⟩
theorem sketchBest_law (W : World) (vs : List Value) (hl : vs.length = [35, 25].length) (hv : ∀ (i : Nat) (t : TypeId) (v : Value), [35, 25][i]? = some t → vs[i]? = some v → RdV Try.prog W t v) :
    Calls Try.prog 4 vs.toArray W fun e w' => e = .returned (.bool true) ∧ Fr none_ W w' := by
  match vs, hl with
  | [v0, v1], _ =>
    obtain ⟨A, n, c, l, rfl, hn, hm, hA⟩ := sk_slice (hv 0 _ v0 rfl rfl)
    obtain ⟨a', b', c', d', rfl, _⟩ := (hv 1 _ v1 rfl rfl).words4 Try.underlying25 Try.underlying24 (by kernel_rfl) (by kernel_rfl)
    exact bestLaw_walk n c A l ⟨a', b', c', d'⟩ W hn hm hA
end Go.Proofs.Ytablkklihcpniaa

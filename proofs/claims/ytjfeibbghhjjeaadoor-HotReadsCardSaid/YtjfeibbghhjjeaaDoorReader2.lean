import Derived.Test.YtjfeibbghhjjeaaDoorNumber
namespace Go.Proofs.YtjfeibbghhjjeaaDoor
open Go.RowKit
set_option linter.unusedVariables false
set_option linter.unusedSimpArgs false
theorem numberF_k {l : List UInt8} {n k : Nat} (h : numberF l = (n, k, 0)) : 1 ≤ k ∧ k ≤ l.length := by
  cases l with
  | nil => simp [numberF] at h
  | cons x r =>
    rw [numberF_cons] at h
    split at h
    · simp at h
    · split at h
      · simp only [Prod.mk.injEq] at h
        simp only [List.length_cons]
        omega
      · simp at h
theorem numberF_n (l : List UInt8) : (numberF l).1 < 18446744073709551616 := by
  cases l with
  | nil => simp [numberF]
  | cons x r =>
    rw [numberF_cons]
    split
    · simp
    · split
      · exact foldN_lt _ (firstB_lt x) _
      · simp
/-- the error behind a bounded number: 0 if it is taken -/
def boundE (l : List UInt8) (most : Nat) (above left : Int) : Int :=
  if (numberF l).2.2 ≠ 0 then (numberF l).2.2 else if most < (numberF l).1 then above else if l.length - (numberF l).2.1 < (numberF l).1 then left else 0
def boundN (l : List UInt8) (most : Nat) (above left : Int) : Nat := if boundE l most above left = 0 then (numberF l).1 else 0
def boundL (l : List UInt8) (most : Nat) (above left : Int) : List UInt8 := if boundE l most above left = 0 then l.drop (numberF l).2.1 else l
theorem ReaderAt.bad {w : World} {p : Nat} {l : List UInt8} {e : Int} (h : ReaderAt w p l e) (e' : Int) : Fr (fun i => i = p) w (w.setCell ⟨p, 1, none⟩ (errV e')) ∧ ReaderAt (w.setCell ⟨p, 1, none⟩ (errV e')) p l e' := by
  obtain ⟨⟨A, c, h1, h2, h3, h4, h5⟩, h6⟩ := h
  have hf := Fr.set w p 1 (errV e')
  exact ⟨hf, ⟨A, c, by rw [heap_setCell_same h1]; rfl, h2.frp hf (fun b hb hl e => h5 b hb (by simpa using hl) e), h3, h4, h5⟩, h6⟩
/-- k bytes are taken off. -/
theorem ReaderAt.skip {w : World} {p : Nat} {l : List UInt8} {e : Int} {b o c : Nat} (h1 : w.heap[p]? = some (.cells #[.slice (some ⟨b, o, none⟩) l.length c, errV e] 105 (0, 0))) (h2 : CellsAt w (some ⟨b, o, none⟩) (l.map byteV)) (h3 : l.length ≤ c) (h5 : 0 < l.length → b ≠ p) (h6 : l.length ≤ 140737488351232) (k : Nat) (hk : k ≤ l.length) (A' : Option Addr) (hA' : A' = some ⟨b, o + k, none⟩ ∨ (k = l.length ∧ A' = some ⟨b, o, none⟩)) :
    Fr (fun i => i = p) w (w.setCell ⟨p, 0, none⟩ (.slice A' (l.length - k) (c - k))) ∧ ReaderAt (w.setCell ⟨p, 0, none⟩ (.slice A' (l.length - k) (c - k))) p (l.drop k) e := by
  have hf := Fr.set w p 0 (.slice A' (l.length - k) (c - k))
  refine ⟨hf, ⟨A', c - k, by rw [heap_setCell_same h1, List.length_drop]; rfl, ?_, by rw [List.length_drop]; omega, fun hn => ?_, fun x hx hl => ?_⟩, by rw [List.length_drop]; omega⟩
  · rcases hA' with rfl | ⟨rfl, rfl⟩
    · have h7 := h2.frp hf (fun x hx hl e => by have := blkOf_some hx; subst this; exact h5 (by simpa using hl) e)
      have h8 := h7.sub k (l.length - k) (by simp; omega)
      have e1 : ((l.map byteV).drop k).take (l.length - k) = (l.drop k).map byteV := by rw [← List.map_drop, List.take_of_length_le (by simp)]
      rw [e1] at h8
      exact h8
    · rw [List.drop_length]; exact CellsAt.nil _ _
  · rcases hA' with rfl | ⟨_, rfl⟩ <;> cases hn
  · rw [List.length_drop] at hl
    rcases hA' with rfl | ⟨hkl, rfl⟩
    · have := blkOf_some hx; subst this; exact h5 (by omega)
    · omega
set_option maxHeartbeats 1000000 in
set_option maxRecDepth 100000 in
theorem bounded_any {w : World} {p : Nat} {l : List UInt8} (h : ReaderAt w p l 0) (most : Nat) (above left : Int) (hab : above ≠ 0) (hmost : most < 18446744073709551616) :
    Calls Tryd.prog 40 #[ptr p, .agg #[.int .u64 (most : Int), errV above, errV left]] w fun en w' => en = .returned (.int .u64 (boundN l most above left : Nat)) ∧ Fr (fun i => i = p) w w' ∧ ReaderAt w' p (boundL l most above left) (boundE l most above left) := by
  have hb0 := h.fr0 ((Fr.refl _ _).alloc (.cells #[.int .u64 (most : Int), errV above, errV left] 108))
  obtain ⟨n, hn⟩ : ∃ n, n = boundN l most above left := ⟨_, rfl⟩
  obtain ⟨L, hL⟩ : ∃ L, L = boundL l most above left := ⟨_, rfl⟩
  obtain ⟨E, hE⟩ : ∃ E, E = boundE l most above left := ⟨_, rfl⟩
  rw [← hn, ← hL, ← hE]
  have HN := Lib.hid hn
  have HL := Lib.hid hL
  have HE := Lib.hid hE
  clear hn hL hE
  obtain ⟨⟨A, c, hb, hA, hc, hnil, hap⟩, hmo⟩ := hb0
  obtain ⟨nn, kk, e1, hT⟩ : ∃ nn kk e1, numberF l = (nn, kk, e1) := ⟨_, _, _, rfl⟩
  have hT2 : (nn : Int) < 18446744073709551616 := by have := numberF_n l; rw [hT] at this; omega
  have h3 := heap_alloc_new w (.cells #[.int .u64 (most : Int), errV above, errV left] 108)
  have hpw : p < w.heap.size := by obtain ⟨⟨_, _, h0, _⟩, _⟩ := h; exact blk_lt h0
  by_cases he1 : e1 = 0
  · subst he1
    obtain ⟨k1, k2⟩ := numberF_k hT
    have hposl : 0 < l.length := by omega
    obtain ⟨ba, oa, rfl⟩ := hA.addr (by simpa using hposl)
    have hst : ReaderAt (w.alloc (.cells #[.int .u64 (most : Int), errV above, errV left] 108)) p l 0 := h.fr0 ((Fr.refl _ _).alloc _)
    have c0 : (w.alloc (.cells #[.int .u64 (most : Int), errV above, errV left] 108)).cell? ⟨p, 0, none⟩ = some (.slice (some ⟨ba, oa, none⟩) l.length c) := by rw [cell_of_blk hb]; rfl
    have c1 : (w.alloc (.cells #[.int .u64 (most : Int), errV above, errV left] 108)).cell? ⟨p, 1, none⟩ = some .nilIface := by rw [cell_of_blk hb]; rfl
    have m0 : (w.alloc (.cells #[.int .u64 (most : Int), errV above, errV left] 108)).cell? ⟨w.heap.size, 0, none⟩ = some (.int .u64 (most : Int)) := by rw [cell_of_blk h3]; rfl
    have m1 : (w.alloc (.cells #[.int .u64 (most : Int), errV above, errV left] 108)).cell? ⟨w.heap.size, 1, none⟩ = some (.iface 53 (.int .i64 above)) := by rw [cell_of_blk h3, ← errV_n hab]; rfl
    have m2 : (w.alloc (.cells #[.int .u64 (most : Int), errV above, errV left] 108)).cell? ⟨w.heap.size, 2, none⟩ = some (errV left) := by rw [cell_of_blk h3]; rfl
    have e2 : numV (nn, kk, 0) = .tuple #[.int .u64 (nn : Int), .int .i64 (kk : Int), .nilIface] := rfl
    obtain ⟨d, hd⟩ : ∃ d, d = l.length - kk := ⟨_, rfl⟩
    have hwr : IntKind.u64.wrap ((l.length : Int) - (kk : Int)) = (d : Int) := by rw [IntKind.wrap_u64]; omega
    have HD := Lib.hid hd
    clear hd
    go_enter Tryd.func40, Tryd.ntmps40
    go_wp2_with fail
    (with_reducible refine (stuck_any hst).mono ?_)
    rintro e w1 ⟨rfl, rfl⟩
    go_wp2_with fail
    (with_reducible refine (number_any _ (some ⟨ba, oa, none⟩) l.length c l rfl hA hc hmo).mono ?_)
    rintro e w1 ⟨rfl, hF1⟩
    rw [hT, e2]
    have hst1 := hst.fr0 hF1
    have c2 := hF1.cell0 c0
    have c3 := hF1.cell0 c1
    have f1 := hF1.frozen c1 (fun h => h) (frozen_of_blk hb 1)
    have f0 := hF1.frozen c0 (fun h => h) (frozen_of_blk hb 0)
    have n0 := hF1.cell0 m0
    have n1 := hF1.cell0 m1
    have n2 := hF1.cell0 m2
    have hbF := hF1.heap0 hb
    have hAF := hA.fr0 hF1
    clear m0 m1 m2 c0 c1
    by_cases hm1 : most < nn
    · have hEE : E = above := by rw [HE.out]; unfold boundE; rw [hT]; simp [hm1]
      have hNN : n = 0 := by rw [HN.out]; unfold boundN; rw [← HE.out, hEE, if_neg hab]
      have hLL : L = l := by rw [HL.out]; unfold boundL; rw [← HE.out, hEE, if_neg hab]
      have HEE := Lib.hid hEE
      have HNN := Lib.hid hNN
      have HLL := Lib.hid hLL
      clear hEE hNN hLL HE HN HL
      have hbd := hst1.bad above
      rw [errV_n hab] at hbd
      have hm2 : (most : Int) < (nn : Int) := by omega
      go_wp2_with fail
      go_ret
      exact ⟨by rw [HNN.out]; rfl, (((Fr.refl _ _).alloc _).trans (Fr.of0 hF1)).trans hbd.1, by rw [HEE.out, HLL.out]; exact hbd.2⟩
    · have hm2 : ¬ (most : Int) < (nn : Int) := by omega
      by_cases hlf : l.length - kk < nn ∧ left ≠ 0
      · obtain ⟨hlf, hl0⟩ := hlf
        have hEE : E = left := by rw [HE.out]; unfold boundE; rw [hT]; simp [hm1, hlf]
        have hNN : n = 0 := by rw [HN.out]; unfold boundN; rw [← HE.out, hEE, if_neg hl0]
        have hLL : L = l := by rw [HL.out]; unfold boundL; rw [← HE.out, hEE, if_neg hl0]
        have HEE := Lib.hid hEE
        have HNN := Lib.hid hNN
        have HLL := Lib.hid hLL
        clear hEE hNN hLL HE HN HL
        have hbd := hst1.bad left
        rw [errV_n hl0] at hbd n2
        have hlf2 : d < nn := by have := HD.out; omega
        go_wp2_with fail
        go_ret
        exact ⟨by rw [HNN.out]; rfl, (((Fr.refl _ _).alloc _).trans (Fr.of0 hF1)).trans hbd.1, by rw [HEE.out, HLL.out]; exact hbd.2⟩
      · have hEE : E = 0 := by
          rw [HE.out]; unfold boundE; rw [hT]
          by_cases hx : l.length - kk < nn
          · have : left = 0 := by
              by_cases hl0 : left = 0
              · exact hl0
              · exact absurd ⟨hx, hl0⟩ hlf
            simp [this]; omega
          · simp [hx]; omega
        have hNN : n = nn := by rw [HN.out]; unfold boundN; rw [← HE.out, hEE, if_pos rfl, hT]
        have hLL : L = l.drop kk := by rw [HL.out]; unfold boundL; rw [← HE.out, hEE, if_pos rfl, hT]
        have HEE := Lib.hid hEE
        have HNN := Lib.hid hNN
        have HLL := Lib.hid hLL
        clear hEE hNN hLL HE HN HL
        have hsk := fun A' hA' => ReaderAt.skip hbF hAF hc (fun hl => hap ba ⟨oa, rfl⟩ hl) hmo kk k2 A' hA'
        have HSK := Lib.hid hsk
        obtain hx | ⟨hx, hl0⟩ : ¬ d < nn ∨ (d < nn ∧ left = 0) := by
          have := HD.out
          by_cases hx : l.length - kk < nn
          · right
            refine ⟨by omega, ?_⟩
            by_cases hl0 : left = 0
            · exact hl0
            · exact absurd ⟨hx, hl0⟩ hlf
          · left; omega
        · clear hsk hlf
          obtain hck | hck : c = kk ∨ ¬ c = kk := by omega
          · subst hck
            have hb2 := HSK.out (some ⟨ba, oa, none⟩) (.inr ⟨by omega, rfl⟩)
            rw [show l.length - c = 0 by omega, Nat.sub_self] at hb2
            go_wp2_with fail
            go_ret
            exact ⟨by rw [HNN.out]; rfl, (((Fr.refl _ _).alloc _).trans (Fr.of0 hF1)).trans (by simpa [show l.length - c = 0 by omega] using hb2.1), by rw [HEE.out, HLL.out]; simpa [show l.length - c = 0 by omega] using hb2.2⟩
          · have hb2 := HSK.out _ (.inl rfl)
            go_wp2_with fail
            go_ret
            exact ⟨by rw [HNN.out]; rfl, (((Fr.refl _ _).alloc _).trans (Fr.of0 hF1)).trans hb2.1, by rw [HEE.out, HLL.out]; exact hb2.2⟩
        · clear hsk hlf
          rw [hl0, errV_0] at n2
          obtain hck | hck : c = kk ∨ ¬ c = kk := by omega
          · subst hck
            have hb2 := HSK.out (some ⟨ba, oa, none⟩) (.inr ⟨by omega, rfl⟩)
            rw [show l.length - c = 0 by omega, Nat.sub_self] at hb2
            go_wp2_with fail
            go_ret
            exact ⟨by rw [HNN.out]; rfl, (((Fr.refl _ _).alloc _).trans (Fr.of0 hF1)).trans (by simpa [show l.length - c = 0 by omega] using hb2.1), by rw [HEE.out, HLL.out]; simpa [show l.length - c = 0 by omega] using hb2.2⟩
          · have hb2 := HSK.out _ (.inl rfl)
            go_wp2_with fail
            go_ret
            exact ⟨by rw [HNN.out]; rfl, (((Fr.refl _ _).alloc _).trans (Fr.of0 hF1)).trans hb2.1, by rw [HEE.out, HLL.out]; exact hb2.2⟩
  · have hEE : E = e1 := by rw [HE.out]; unfold boundE; rw [hT]; simp [he1]
    have hNN : n = 0 := by rw [HN.out]; unfold boundN; rw [← HE.out, hEE, if_neg he1]
    have hLL : L = l := by rw [HL.out]; unfold boundL; rw [← HE.out, hEE, if_neg he1]
    rw [hEE, hNN, hLL]
    clear hEE hNN hLL HE HN HL
    have hst : ReaderAt (w.alloc (.cells #[.int .u64 (most : Int), errV above, errV left] 108)) p l 0 := h.fr0 ((Fr.refl _ _).alloc _)
    have c0 : (w.alloc (.cells #[.int .u64 (most : Int), errV above, errV left] 108)).cell? ⟨p, 0, none⟩ = some (.slice A l.length c) := by rw [cell_of_blk hb]; rfl
    have c1 : (w.alloc (.cells #[.int .u64 (most : Int), errV above, errV left] 108)).cell? ⟨p, 1, none⟩ = some .nilIface := by rw [cell_of_blk hb]; rfl
    go_enter Tryd.func40, Tryd.ntmps40
    go_wp2_with fail
    (with_reducible refine (stuck_any hst).mono ?_)
    rintro e w1 ⟨rfl, rfl⟩
    go_wp2_with fail
    (with_reducible refine (number_any _ A l.length c l rfl hA hc hmo).mono ?_)
    rintro e w1 ⟨rfl, hF1⟩
    rw [hT]
    have hst1 := hst.fr0 hF1
    have c2 := hF1.cell0 c1
    have f1 := hF1.frozen c1 (fun h => h) (frozen_of_blk hb 1)
    have e2 : numV (nn, kk, e1) = .tuple #[.int .u64 (nn : Int), .int .i64 (kk : Int), .iface 53 (.int .i64 e1)] := by unfold numV; rw [errV_n he1]
    rw [e2]
    have hbd := hst1.bad e1
    rw [errV_n he1] at hbd
    go_wp2_with fail
    go_ret
    exact ⟨rfl, (((Fr.refl _ _).alloc _).trans (Fr.of0 hF1)).trans hbd.1, hbd.2⟩
end Go.Proofs.YtjfeibbghhjjeaaDoor

import Derived.Test.YtagioimkpdcokaaSafeP
import Derived.Test.YtagioimkpdcokaaLawDev
namespace Go.Proofs.Ytagioimkpdcokaa
open Go.RowKit
set_option linter.unusedVariables false
set_option linter.unusedSimpArgs false
/-- What the law reads of its list of acts. -/
def ActsAt (w : World) (A : Option Addr) (m : Nat) : Prop := ∀ i, i < m → ∃ b o kind at_ Ak nk ck, ∃ kept : List Bool, A = some ⟨b, o, none⟩ ∧ w.cell? ⟨b, o + i * 4, none⟩ = some (.int .i64 kind) ∧ w.cell? ⟨b, o + i * 4 + 1, none⟩ = some (.int .i64 at_) ∧
  w.cell? ⟨b, o + i * 4 + 3, none⟩ = some (.slice Ak nk ck) ∧ nk = kept.length ∧ kept.length ≤ 140737488351232 ∧ CellsAt w Ak (kept.map Value.bool)
theorem padB_len {l : List UInt8} (h : l.length ≤ 64) : (padB l).length = 64 := by simp [padB]; omega
structure Wn (w wr : World) (p m1 m2 : Nat) (D : DevS) : Prop where
  fr : Fr none_ w wr
  dev : DevAt wr p m1 m2 D
  new : ∀ i, devBlks p m1 m2 i → w.heap.size ≤ i
theorem Wn.step {w wr w' : World} {p m1 m2 : Nat} {D D' : DevS} (h : Wn w wr p m1 m2 D) (hF : Fr (devBlks p m1 m2) wr w') (hD : DevAt w' p m1 m2 D') : Wn w w' p m1 m2 D' :=
  ⟨h.fr.trans' hF (fun k hk hs => by have := h.new k hs; omega), hD, h.new⟩
theorem Wn.step0 {w wr w' : World} {p m1 m2 : Nat} {D : DevS} (h : Wn w wr p m1 m2 D) (hF : Fr none_ wr w') : Wn w w' p m1 m2 D := h.step (Fr.of0 hF) (h.dev.fr0 hF)
theorem Wn.apart {w wr : World} {p m1 m2 : Nat} {D : DevS} (h : Wn w wr p m1 m2 D) {A : Option Addr} {vs : List Value} (hA : CellsAt w A vs) : ∀ b, blkOf A b → 0 < vs.length → ¬ devBlks p m1 m2 b := fun b hb hv hd => by
  have := hA.lt hb hv; have := h.new b hd; omega
theorem writeE_0 {D : DevS} (h : Fit D) (i : Int) (hi : 0 ≤ i ∧ i < 4) (n : Nat) (hn : n ≤ 64) : D.writeE i n = 0 := by
  have := h.at i.toNat (by omega)
  rw [Int.toNat_of_nonneg hi.1] at this
  unfold DevS.writeE
  rw [this, h.armed]
  simp
  omega
theorem u64_nonneg (x : Int) : 0 ≤ IntKind.u64.wrap x := by
  rw [IntKind.wrap_u64]; omega
theorem safe_s (x : Int) : wrap64 (2 + wrap64 ((IntKind.u64.wrap x).tmod 2)) = 2 ∨ wrap64 (2 + wrap64 ((IntKind.u64.wrap x).tmod 2)) = 3 := by
  have h := u64_nonneg x
  rw [Int.tmod_eq_emod_of_nonneg h]
  generalize IntKind.u64.wrap x = y at *
  have : y % 2 = 0 ∨ y % 2 = 1 := by omega
  rcases this with h | h <;> rw [h]
  · exact .inl (by decide +kernel)
  · exact .inr (by decide +kernel)
/-- What the loop keeps. -/
structure Lp (w wr : World) (p m1 m2 : Nat) (a b : List UInt8) (g1 g2 : Nat) (D : DevS) : Prop where
  wn : Wn w wr p m1 m2 D
  sf : Sf a b D
  h1 : wr.heap[g1]? = some (.cells ((padB a).map byteV).toArray 139 (0, 0))
  h2 : wr.heap[g2]? = some (.cells ((padB b).map byteV).toArray 139 (0, 0))
  d1 : ¬ devBlks p m1 m2 g1
  d2 : ¬ devBlks p m1 m2 g2
theorem Lp.step {w wr w' : World} {p m1 m2 : Nat} {a b : List UInt8} {g1 g2 : Nat} {D D' : DevS} (h : Lp w wr p m1 m2 a b g1 g2 D) (hF : Fr (devBlks p m1 m2) wr w') (hD : DevAt w' p m1 m2 D') (hs : Sf a b D') : Lp w w' p m1 m2 a b g1 g2 D' :=
  ⟨h.wn.step hF hD, hs, hF.heap h.h1 h.d1, hF.heap h.h2 h.d2, h.d1, h.d2⟩
theorem Lp.step0 {w wr w' : World} {p m1 m2 : Nat} {a b : List UInt8} {g1 g2 : Nat} {D : DevS} (h : Lp w wr p m1 m2 a b g1 g2 D) (hF : Fr none_ wr w') : Lp w w' p m1 m2 a b g1 g2 D := h.step (Fr.of0 hF) (h.wn.dev.fr0 hF) h.sf
set_option maxHeartbeats 2000000 in
set_option maxRecDepth 100000 in
theorem safe_walk (A : Option Addr) (n c : Nat) (a : List UInt8) (A2 : Option Addr) (n2 c2 : Nat) (b : List UInt8) (L : Option Addr) (m cL : Nat) (w : World) (hn : n = a.length) (hA : CellsAt w A (a.map byteV)) (hn2 : n2 = b.length) (hA2 : CellsAt w A2 (b.map byteV)) (hL : ActsAt w L m) :
    Calls Try.prog 6 #[.slice A n c, .slice A2 n2 c2, .slice L m cL] w fun e w' => e = .returned (.bool true) ∧ Fr none_ w w' := by
  subst hn hn2
  go_enter Try.func6, Try.ntmps6
  go_wp2_with fail
  (with_reducible refine (new_ok 4 _ (by decide) (by decide)).mono ?_)
  rintro e w1 ⟨p, m1, m2, rfl, hF1, hD1, hfr⟩
  rw [errV_0]
  have hW1 : Wn w w1 p m1 m2 (newD 4) := ⟨hF1, hD1, hfr⟩
  clear hF1 hD1 hfr
  by_cases ha : 64 < a.length
  · have ha1 : decide ((64 : Int) < (a.length : Int)) = true := by simp; omega
    go_wp2_with fail
    (with_reducible refine (dsure_any _).mono ?_)
    rintro e w2 ⟨rfl, hF2⟩
    go_wp2_with fail
    go_ret
    exact ⟨rfl, hW1.fr.trans hF2⟩
  by_cases hb : 64 < b.length
  · have ha1 : decide ((64 : Int) < (a.length : Int)) = false := by simp; omega
    have hb1 : decide ((64 : Int) < (b.length : Int)) = true := by simp; omega
    go_wp2_with fail
    (with_reducible refine (dsure_any _).mono ?_)
    rintro e w2 ⟨rfl, hF2⟩
    go_wp2_with fail
    go_ret
    exact ⟨rfl, hW1.fr.trans hF2⟩
  have ha1 : decide ((64 : Int) < (a.length : Int)) = false := by simp; omega
  have hb1 : decide ((64 : Int) < (b.length : Int)) = false := by simp; omega
  have fa : a.length ≤ 64 := by omega
  have fb : b.length ≤ 64 := by omega
  have f0 := newD_fit
  have f1 := f0.write 0 a
  have f2 := f1.flush
  have f3 := f2.write 1 a
  have f4 := f3.flush
  have f5 : Fit (safeD a b) := f4.write 1 b
  obtain ⟨hSf, hnow⟩ := safe_sf a b fa fb
  have hold := hSf.get0
  have t0 : (safeD a b).atE 0 = 0 := f5.at 0 (by omega)
  have t1 : (safeD a b).atE 1 = 0 := f5.at 1 (by omega)
  go_wp2_with fail
  (with_reducible refine (write_any hW1.dev 0 _ _ _ a rfl (hA.fr0 hW1.fr) (fun x hx hv => hW1.apart (hA) x hx (by simpa using hv))).mono ?_)
  rintro e w2 ⟨rfl, hF2, hD2⟩
  rw [show errV ((newD 4).writeE 0 a.length) = .nilIface from congrArg errV (a₂ := 0) (writeE_0 f0 0 (by omega) _ fa)]
  have hW2 := hW1.step hF2 hD2
  clear hW1 hF2 hD2
  go_wp2_with fail
  (with_reducible refine (flush_any hW2.dev).mono ?_)
  rintro e w3 ⟨rfl, hF3, hD3⟩
  rw [show errV ((newD 4).write 0 a).flushE = .nilIface from congrArg errV (a₂ := 0) f1.flushE]
  have hW3 := hW2.step hF3 hD3
  clear hW2 hF3 hD3
  go_wp2_with fail
  (with_reducible refine (write_any hW3.dev 1 _ _ _ a rfl (hA.fr0 hW3.fr) (fun x hx hv => hW3.apart (hA) x hx (by simpa using hv))).mono ?_)
  rintro e w4 ⟨rfl, hF4, hD4⟩
  rw [show errV (((newD 4).write 0 a).flush.writeE 1 a.length) = .nilIface from congrArg errV (a₂ := 0) (writeE_0 f2 1 (by omega) _ fa)]
  have hW4 := hW3.step hF4 hD4
  clear hW3 hF4 hD4
  go_wp2_with fail
  (with_reducible refine (flush_any hW4.dev).mono ?_)
  rintro e w5 ⟨rfl, hF5, hD5⟩
  rw [show errV (((newD 4).write 0 a).flush.write 1 a).flushE = .nilIface from congrArg errV (a₂ := 0) f3.flushE]
  have hW5 := hW4.step hF5 hD5
  clear hW4 hF5 hD5
  go_wp2_with fail
  (with_reducible refine (write_any hW5.dev 1 _ _ _ b rfl (hA2.fr0 hW5.fr) (fun x hx hv => hW5.apart (hA2) x hx (by simpa using hv))).mono ?_)
  rintro e w6 ⟨rfl, hF6, hD6⟩
  rw [show errV ((((newD 4).write 0 a).flush.write 1 a).flush.writeE 1 b.length) = .nilIface from congrArg errV (a₂ := 0) (writeE_0 f4 1 (by omega) _ fb)]
  have hW6 : Wn w w6 p m1 m2 (safeD a b) := hW5.step hF6 hD6
  clear hW5 hF6 hD6 f0 f1 f2 f3 f4
  go_wp2_with fail
  (with_reducible refine (read_ok hW6.dev 0 t0).mono ?_)
  rintro e w7 ⟨g1, rfl, hg1, hF7, hb7⟩
  rw [errV_0]
  rw [hold] at hb7
  have hW7 := hW6.step0 hF7
  have hd1 : ¬ devBlks p m1 m2 g1 := hW6.dev.new hg1
  have hgw1 : w.heap.size ≤ g1 := Nat.le_trans hW6.fr.size hg1
  clear hW6 hF7 
  go_wp2_with fail
  (with_reducible refine (read_ok hW7.dev 1 t1).mono ?_)
  rintro e w8 ⟨g2, rfl, hg2, hF8, hb8⟩
  rw [errV_0]
  rw [hnow] at hb8
  have hW8 := hW7.step0 hF8
  have hd2 : ¬ devBlks p m1 m2 g2 := hW7.dev.new hg2
  have hb78 := hF8.heap0 hb7
  clear hW7 hF8 hb7 f5 hold
  go_wp2_with fail
  have hLp : Lp w w8 p m1 m2 a b g1 g2 (safeD a b) := ⟨hW8, hSf, hb78, hb8, hd1, hd2⟩
  clear hW8 hSf hb78 hb8 hd1 hd2 hA hA2 hnow hg1 hg2 hgw1
  go_loopw [18] (fun i wr => ∃ k : Nat, ∃ D, k ≤ m ∧ k ≤ 20 ∧ i = .int .i64 k ∧ Lp w wr p m1 m2 a b g1 g2 D) (fun i _ => m - (intOf i).toNat)
  case atStart => exact ⟨0, _, by omega, by omega, rfl, hLp⟩
  case round =>
    clear hLp
    obtain ⟨k, D, hkm, hk20, rfl, hR⟩ := hrel
    by_cases hlt : k < m ∧ k < 20
    · obtain ⟨hlm, hl20⟩ := hlt
      obtain ⟨bL, oL, kind, at_, Ak, nk, ck, kept, rfl, c0, c1, c3, rfl, hkl, hAk⟩ := hL k hlm
      have c0 := hR.wn.fr.cell0 c0
      have c1 := hR.wn.fr.cell0 c1
      have c3 := hR.wn.fr.cell0 c3
      have hS := Lib.hid (safe_s at_)
      clear hL
      by_cases hk4 : wrap64 ((IntKind.u64.wrap kind).tmod 8) ≤ 4
      · generalize hs : wrap64 (2 + wrap64 ((IntKind.u64.wrap at_).tmod 2)) = s at *
        go_wp2_with fail
        rw [hs]
        (with_reducible refine (write_any hR.wn.dev s none 0 0 [] rfl (CellsAt.nil _ _) (fun x hx => absurd hx (blkOf_none x))).mono ?_)
        rintro e w9 ⟨rfl, hF9, hD9⟩
        go_wp2_with fail
        go_roundw
        case rel => exact ⟨k + 1, _, by omega, by omega, by go_num, hR.step hF9 hD9 (hR.sf.write s hS.out)⟩
        case measure => simp [intOf]; omega
      · go_wp2_with fail
        (with_reducible refine (start_any hR.wn.dev Ak _ ck kept rfl (hAk.fr0 hR.wn.fr) (fun x hx hv => hR.wn.apart hAk x hx (by simpa using hv)) hkl).mono ?_)
        rintro e w9 ⟨rfl, hF9, hD9⟩
        go_wp2_with fail
        go_roundw
        case rel => exact ⟨k + 1, _, by omega, by omega, by go_num, hR.step hF9 hD9 (hR.sf.start kept)⟩
        case measure => simp [intOf]; omega
    · clear hL
      obtain hlm | ⟨hlm, hl20⟩ : ¬ k < m ∨ (k < m ∧ 20 ≤ (k : Int)) := by omega
      all_goals
        go_wp2_with fail
        (with_reducible refine (start_any hR.wn.dev none 0 0 [] rfl (CellsAt.nil _ _) (fun x hx => absurd hx (blkOf_none x)) (by simp)).mono ?_)
        rintro e w9 ⟨rfl, hF9, hD9⟩
        have hR9 := hR.step hF9 hD9 (hR.sf.start [])
        have hlo := start_loose hR.sf.fit.lost []
        generalize D.start [] = E at *
        have t0 : E.atE 0 = 0 := hR9.sf.fit.at 0 (by omega)
        have t1 : E.atE 1 = 0 := hR9.sf.fit.at 1 (by omega)
        clear hR hF9 hD9
        go_wp2_with fail
        (with_reducible refine (read_ok hR9.wn.dev 0 t0).mono ?_)
        rintro e w10 ⟨g3, rfl, hg3, hF10, hb10⟩
        rw [errV_0]
        rw [hR9.sf.get0] at hb10
        have hR10 := hR9.step0 hF10
        clear hR9 hF10
        go_wp2_with fail
        (with_reducible refine (read_ok hR10.wn.dev 1 t1).mono ?_)
        rintro e w11 ⟨g4, rfl, hg4, hF11, hb11⟩
        rw [errV_0]
        have hb10 := hF11.heap0 hb10
        have hR11 := hR10.step0 hF11
        clear hR10 hF11
        obtain ⟨y, hy⟩ : ∃ y, y = E.get 1 := ⟨_, rfl⟩
        rw [← hy] at hb11
        have hy2 := hR11.sf.get1
        rw [← hy] at hy2
        have hl4 : y.length = 64 := by rw [hy]; exact hR11.wn.dev.get_len 1
        have k1 := conv_bytes (P := Try.prog) Try.underlying44 Try.underlying5 Try.underlying9 (w := w11) (A := some ⟨g1, 0, none⟩) (n := 64) (c := 64) (l := padB a) (padB_len fa).symm (CellsAt.whole hR11.h1)
        have k2 := conv_bytes (P := Try.prog) Try.underlying44 Try.underlying5 Try.underlying9 (w := w11) (A := some ⟨g2, 0, none⟩) (n := 64) (c := 64) (l := padB b) (padB_len fb).symm (CellsAt.whole hR11.h2)
        have k3 := conv_bytes (P := Try.prog) Try.underlying44 Try.underlying5 Try.underlying9 (w := w11) (A := some ⟨g3, 0, none⟩) (n := 64) (c := 64) (l := padB a) (padB_len fa).symm (CellsAt.whole hb10)
        have k4 := conv_bytes (P := Try.prog) Try.underlying44 Try.underlying5 Try.underlying9 (w := w11) (A := some ⟨g4, 0, none⟩) (n := 64) (c := 64) (l := y) hl4.symm (CellsAt.whole hb11)
        have hsort : (sortedKeys E.loose).length = 0 := by rw [hlo, sortedKeys_len]; rfl
        clear hy hb10 hb11 t0 t1
        by_cases hya : y = padB a
        · go_wp2_with fail
          (with_reducible refine (loose_any hR11.wn.dev).mono ?_)
          rintro e w12 ⟨⟨v, rfl, hown⟩, hF12⟩
          obtain ⟨A1, cc, rfl, _, _, _, _⟩ := ownsRow_read hown
          rw [hsort]
          clear hown
          go_wp2_with fail
          (with_reducible refine (dsure_any _).mono ?_)
          rintro e w13 ⟨rfl, hF13⟩
          go_wp2_with fail
          go_ret
          exact ⟨rfl, (hR11.wn.fr.trans hF12).trans hF13⟩
        · have hyb : y = padB b := hy2.resolve_left hya
          clear hy2
          subst hyb
          go_wp2_with fail
          (with_reducible refine (loose_any hR11.wn.dev).mono ?_)
          rintro e w12 ⟨⟨v, rfl, hown⟩, hF12⟩
          obtain ⟨A1, cc, rfl, _, _, _, _⟩ := ownsRow_read hown
          rw [hsort]
          clear hown
          go_wp2_with fail
          (with_reducible refine (dsure_any _).mono ?_)
          rintro e w13 ⟨rfl, hF13⟩
          go_wp2_with fail
          go_ret
          exact ⟨rfl, (hR11.wn.fr.trans hF12).trans hF13⟩
end Go.Proofs.Ytagioimkpdcokaa

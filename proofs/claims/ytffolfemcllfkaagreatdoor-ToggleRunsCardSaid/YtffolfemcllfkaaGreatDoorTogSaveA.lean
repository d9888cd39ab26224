import Derived.Test.YtffolfemcllfkaaGreatDoorTogSave
import Derived.Test.YtffolfemcllfkaaGreatDoorTogLoadM
namespace Go.Proofs.YtffolfemcllfkaaGreatDoor
open Go.RowKit
set_option linter.unusedVariables false
set_option linter.unusedSimpArgs false

/-! toggle.Save: any case -/
set_option maxHeartbeats 2000000 in
set_option maxRecDepth 100000 in
theorem tsave_bad {w : World} {p m1 m2 : Nat} {D : DevS} (h : DevAt w p m1 m2 D) (f s : Int) (v : Value) (E : Int) (hE : E ≠ 0) (hE8 : E ≠ 8)
    (hrd : ∀ w', DevAt w' p m1 m2 D → Calls Tryz.prog 53 #[area f s, ptr p] w' fun e w'' => e = .returned (.tuple #[tellerV 0 false 0, errV E]) ∧ Fr none_ w' w'') :
    Calls Tryz.prog 18 #[ptr p, area f s, v] w fun e w' => e = .returned (errV E) ∧ Fr none_ w w' := by
  have h2 := h.fr0 ((Fr.refl none_ w).alloc (.cells #[.int .i64 f, .int .i64 s] 36))
  have HRD := Lib.hid (hrd _ h2)
  have his : ∀ W, Calls Tryz.prog 54 #[.iface 106 (.int .i64 E), .iface 106 (.int .i64 8)] W fun e w' => e = .returned (.bool false) ∧ W = w' := fun W => by
    have := is_any E 8 (by decide) W
    rw [errV_n hE, errV_n (n := 8) (by decide), show decide (E = 8) = false by simpa using hE8] at this
    exact this
  have HI := Lib.hid his
  clear hrd his h2
  go_enter Tryz.func18, Tryz.ntmps18
  go_wp2_with fail
  (with_reducible refine HRD.out.mono ?_)
  rintro e w1 ⟨rfl, hF1⟩
  rw [errV_n hE]
  go_wp2_with fail
  (with_reducible refine (HI.out _).mono ?_)
  rintro e w2 ⟨rfl, rfl⟩
  go_wp2_with fail
  go_ret
  exact ⟨by rw [errV_n hE]; rfl, (((Fr.refl none_ w).alloc _).trans hF1).alloc _⟩
theorem lookD_none {D : DevS} {f s : Int} (hm : D.sectors ≤ 16384) (h : (lookD D f s).err = 8) : D.down = false ∧ 0 ≤ f ∧ (3 ≤ s ∧ s ≤ 16384) ∧ f + s ≤ D.sectors ∧ lookD D f s = ⟨0, false, 0, 8⟩ := by
  have hb := lookD_bad (D := D) (f := f) (s := s) (by rw [h]; decide)
  rw [h] at hb
  unfold lookD at h
  split at h
  · cases h
  · rename_i h1
    split at h
    · rename_i h2
      exfalso
      unfold DevS.atE at h
      split at h
      · cases h
      · split at h <;> cases h
    · rename_i h2
      have hd : D.down = false := by
        unfold DevS.atE at h2
        cases hx : D.down
        · rfl
        · rw [hx, if_pos rfl] at h2; exact absurd (by decide) h2
      exact ⟨hd, by omega, ⟨by omega, by omega⟩, by omega, hb⟩
/-- the place that is taken -/
def nextSec (t : TellR) : Bool := decide (t.err = 0) && !t.sec
def saveBad (D : DevS) (f s : Int) (n : Nat) : Prop := ((lookD D f s).err ≠ 0 ∧ (lookD D f s).err ≠ 8) ∨ roomF s < (n : Int)
instance (D : DevS) (f s : Int) (n : Nat) : Decidable (saveBad D f s n) := by unfold saveBad; exact inferInstance
def saveA (D : DevS) (f s : Int) (l : List UInt8) : DevS :=
  if saveBad D f s l.length then D
  else saveD D (fromF (nextSec (lookD D f s)) f s) f l (tellB ((lookD D f s).n + 1) (nextSec (lookD D f s)) l.length)
def saveAE (D : DevS) (f s : Int) (l : List UInt8) : Int :=
  if (lookD D f s).err ≠ 0 ∧ (lookD D f s).err ≠ 8 then (lookD D f s).err
  else if roomF s < (l.length : Int) then 2
  else if (saveA D f s l).down then 13 else 0
def SaveAP (w : World) (p m1 m2 : Nat) (D : DevS) (f s : Int) (l : List UInt8) (e : Ending) (w' : World) : Prop := e = .returned (errV (saveAE D f s l)) ∧ Fr (devBlks p m1 m2) w w' ∧ DevAt w' p m1 m2 (saveA D f s l)
theorem tsave_all {w : World} {p m1 m2 : Nat} {D : DevS} (h : DevAt w p m1 m2 D) (f s : Int)
    (A : Option Addr) (n c : Nat) (l : List UInt8) (hn : n = l.length) (hA : CellsAt w A (l.map byteV)) (hap : ∀ b, blkOf A b → 0 < l.length → ¬ devBlks p m1 m2 b) (hcap : l.length ≤ c) :
    Calls Tryz.prog 18 #[ptr p, area f s, .slice A n c] w fun e w' => SaveAP w p m1 m2 D f s l e w' := by
  have hm := h.most
  by_cases hb : (lookD D f s).err ≠ 0 ∧ (lookD D f s).err ≠ 8
  · have h1 : saveA D f s l = D := by unfold saveA; rw [if_pos (.inl hb)]
    have h2 : saveAE D f s l = (lookD D f s).err := by unfold saveAE; rw [if_pos hb]
    have h3 := lookD_bad hb.1
    refine (tsave_bad h f s (.slice A n c) (lookD D f s).err hb.1 hb.2 (fun w' h' => (tread_any h' f s).mono (fun e w'' ⟨g1, g2⟩ => ⟨by rw [g1, h3] <;> rfl, g2⟩))).mono ?_
    rintro e w' ⟨g1, g2⟩
    unfold SaveAP
    rw [h1, h2]
    exact ⟨g1, Fr.of0 g2, h.fr0 g2⟩
  · by_cases h8 : (lookD D f s).err = 8
    · obtain ⟨hd, hf, hs, hfs, hL⟩ := lookD_none hm.2 h8
      have hr : roomF s = (s - 1) / 2 * 64 := by unfold roomF; rw [if_neg (by omega)]
      have hrd : ∀ w', DevAt w' p m1 m2 D → Calls Tryz.prog 53 #[area f s, ptr p] w' fun e w'' => e = .returned (.tuple #[tellerV 0 false (0 : Nat), errV 8]) ∧ Fr none_ w' w'' := fun w' h' => (tread_any h' f s).mono (fun e w'' ⟨g1, g2⟩ => ⟨by rw [g1, hL] <;> rfl, g2⟩)
      by_cases hl : roomF s < (l.length : Int)
      · have h1 : saveA D f s l = D := by unfold saveA; rw [if_pos (.inr hl)]
        have h2 : saveAE D f s l = 2 := by unfold saveAE; rw [if_neg hb, if_pos hl]
        refine (tsave_long_none h f s hd hf hs hfs A n c l hn hA hap hcap (by omega) 0 0 (by decide) hrd).mono ?_
        rintro e w' ⟨g1, g2⟩
        unfold SaveAP
        rw [h1, h2]
        exact ⟨g1, Fr.of0 g2, h.fr0 g2⟩
      · have h1 : saveA D f s l = saveD D (fromF false f s) f l (tellB (0 + 1) false l.length) := by
          unfold saveA; rw [if_neg (by unfold saveBad; rintro (h | h); exact hb h; exact hl h), hL]; rfl
        have h2 : saveAE D f s l = if (saveA D f s l).down then 13 else 0 := by unfold saveAE; rw [if_neg hb, if_neg hl]
        refine (tsave_none h f s hd hf hs hfs A n c l hn hA hap hcap (by omega) 0 0 (by decide) hrd).mono ?_
        rintro e w' ⟨g1, g2, g3⟩
        unfold SaveAP
        rw [h2, h1]
        exact ⟨g1, g2, g3⟩
    · have h0 : (lookD D f s).err = 0 := by
        cases Classical.em ((lookD D f s).err = 0) with
        | inl h => exact h
        | inr h => exact absurd ⟨h, h8⟩ hb
      obtain ⟨hd, hf, hs, hfs, hnn, hll⟩ := lookD_ok hm.2 h0
      have hr : roomF s = (s - 1) / 2 * 64 := by unfold roomF; rw [if_neg (by omega)]
      have hrd : ∀ w', DevAt w' p m1 m2 D → Calls Tryz.prog 53 #[area f s, ptr p] w' fun e w'' => e = .returned (.tuple #[tellerV (lookD D f s).n (lookD D f s).sec (lookD D f s).long, errV 0]) ∧ Fr none_ w' w'' := fun w' h' => (tread_any h' f s).mono (fun e w'' ⟨g1, g2⟩ => ⟨by rw [g1, h0] <;> rfl, g2⟩)
      cases hsec : (lookD D f s).sec
      · rw [hsec] at hrd
        by_cases hl : roomF s < (l.length : Int)
        · have h1 : saveA D f s l = D := by unfold saveA; rw [if_pos (.inr hl)]
          have h2 : saveAE D f s l = 2 := by unfold saveAE; rw [if_neg hb, if_pos hl]
          refine (tsave_long_first h f s hd hf hs hfs A n c l hn hA hap hcap (by omega) _ _ hnn hrd).mono ?_
          rintro e w' ⟨g1, g2⟩
          unfold SaveAP
          rw [h1, h2]
          exact ⟨g1, Fr.of0 g2, h.fr0 g2⟩
        · have hns : nextSec (lookD D f s) = true := by unfold nextSec; rw [h0, hsec]; rfl
          have h1 : saveA D f s l = saveD D (fromF true f s) f l (tellB ((lookD D f s).n + 1) true l.length) := by
            unfold saveA; rw [if_neg (by unfold saveBad; rintro (h | h); exact hb h; exact hl h), hns]
          have h2 : saveAE D f s l = if (saveA D f s l).down then 13 else 0 := by unfold saveAE; rw [if_neg hb, if_neg hl]
          refine (tsave_first h f s hd hf hs hfs A n c l hn hA hap hcap (by omega) _ _ hnn hrd).mono ?_
          rintro e w' ⟨g1, g2, g3⟩
          unfold SaveAP
          rw [h2, h1]
          exact ⟨g1, g2, g3⟩
      · rw [hsec] at hrd
        by_cases hl : roomF s < (l.length : Int)
        · have h1 : saveA D f s l = D := by unfold saveA; rw [if_pos (.inr hl)]
          have h2 : saveAE D f s l = 2 := by unfold saveAE; rw [if_neg hb, if_pos hl]
          refine (tsave_long_second h f s hd hf hs hfs A n c l hn hA hap hcap (by omega) _ _ hnn hrd).mono ?_
          rintro e w' ⟨g1, g2⟩
          unfold SaveAP
          rw [h1, h2]
          exact ⟨g1, Fr.of0 g2, h.fr0 g2⟩
        · have hns : nextSec (lookD D f s) = false := by unfold nextSec; rw [h0, hsec]; rfl
          have h1 : saveA D f s l = saveD D (fromF false f s) f l (tellB ((lookD D f s).n + 1) false l.length) := by
            unfold saveA; rw [if_neg (by unfold saveBad; rintro (h | h); exact hb h; exact hl h), hns]
          have h2 : saveAE D f s l = if (saveA D f s l).down then 13 else 0 := by unfold saveAE; rw [if_neg hb, if_neg hl]
          refine (tsave_second h f s hd hf hs hfs A n c l hn hA hap hcap (by omega) _ _ hnn hrd).mono ?_
          rintro e w' ⟨g1, g2, g3⟩
          unfold SaveAP
          rw [h2, h1]
          exact ⟨g1, g2, g3⟩
end Go.Proofs.YtffolfemcllfkaaGreatDoor

import Derived.Test.YtffolfemcllfkaaGreatDoorToggle
import Derived.Test.YtffolfemcllfkaaGreatDoorWrN
import Derived.Test.YtffolfemcllfkaaGreatDoorDevAll
namespace Go.Proofs.YtffolfemcllfkaaGreatDoor
open Go.RowKit
set_option linter.unusedVariables false
set_option linter.unusedSimpArgs false

/-! toggle, the plain part: what a device holds behind a text is saved. -/
theorem flush_down {D : DevS} (hd : D.down = true) : D.flush = D := by unfold DevS.flush; rw [if_pos hd]
theorem flush_downE (D : DevS) : D.flush.down = D.down := by unfold DevS.flush; split <;> rfl
theorem flush_sectors (D : DevS) : D.flush.sectors = D.sectors := by unfold DevS.flush; split <;> rfl
theorem flush_get (D : DevS) (s : Int) : D.flush.get s = D.get s := by unfold DevS.flush; split <;> rfl
def tellB (n : Nat) (b : Bool) (long : Nat) : List UInt8 := encF n ++ (if b then 1 else 0) :: encF long
theorem tellB_len (n : Nat) (b : Bool) (long : Nat) (h : long ≤ 524288) : (tellB n b long).length ≤ 14 := by
  have h1 := behindF_le n
  have h2 : behindF long ≤ 2 := by unfold behindF; (repeat' split) <;> omega
  simp only [tellB, List.length_append, List.length_cons, encF_len]
  omega
def wrote (D : DevS) (s : Int) (l : List UInt8) : DevS := (wrN D s l (cnt l.length)).flush
/-- the device behind Save -/
def saveD (D : DevS) (s f : Int) (l tl : List UInt8) : DevS := ((wrote D s l).write f tl).flush
theorem saveD_down1 (D : DevS) (s f : Int) (l tl : List UInt8) (k : Nat) (hk : k ≤ cnt l.length) (hd : (wrN D s l k).down = true) : saveD D s f l tl = wrN D s l k := by
  have := wrN_down D s l k hd (cnt l.length - k)
  rw [Nat.add_sub_cancel' hk] at this
  unfold saveD wrote
  rw [this, flush_down hd, write_down hd, flush_down hd]
theorem Calm.flush {D : DevS} (h : Calm D) : Calm D.flush := by
  unfold DevS.flush; rw [h.up]; exact ⟨h.up, h.armed⟩
theorem wrote_sectors (D : DevS) (s : Int) (l : List UInt8) : (wrote D s l).sectors = D.sectors := by unfold wrote; rw [flush_sectors, wrN_sectors]
theorem saveD_sectors (D : DevS) (s f : Int) (l tl : List UInt8) : (saveD D s f l tl).sectors = D.sectors := by unfold saveD; rw [flush_sectors, write_sectors, wrote_sectors]
theorem saveD_get (D : DevS) {s f : Int} (h0 : 0 ≤ s) (l tl : List UInt8) (h1 : s + cnt l.length ≤ D.sectors) (hf : 0 ≤ f ∧ f < D.sectors) (ht : tl.length ≤ 64) (hd : (saveD D s f l tl).down = false) (j : Int) :
    (saveD D s f l tl).get j = if j = f then padB tl else if s ≤ j ∧ j < s + cnt l.length then padB (chunk l (j - s).toNat) else D.get j := by
  unfold saveD at hd ⊢
  rw [flush_downE] at hd
  obtain ⟨i1, i2⟩ := write_up hf.1 (by rw [wrote_sectors]; exact hf.2) ht hd
  rw [flush_get, i2, get_put]
  unfold wrote at i1 ⊢
  rw [flush_downE] at i1
  rw [flush_get, wrN_get D h0 l _ h1 i1]
theorem Calm.saveD {D : DevS} (h : Calm D) {s f : Int} (h0 : 0 ≤ s) (l tl : List UInt8) (h1 : s + cnt l.length ≤ D.sectors) (hf : 0 ≤ f ∧ f < D.sectors) (ht : tl.length ≤ 64) : Calm (saveD D s f l tl) := by
  have i3 : Calm (wrote D s l) := (h.wrN h0 l _ h1).flush
  unfold Proofs.YtffolfemcllfkaaGreatDoor.saveD
  rw [i3.write hf.1 (by rw [wrote_sectors]; exact hf.2) ht]
  exact (i3.put _ _).flush
/-! What is kept: nothing, or the n-th text. -/
structure Text where
  n : Nat
  second : Bool
  text : List UInt8
structure TKept (f s : Int) (D : DevS) (t : Text) : Prop where
  n : 0 < t.n ∧ t.n ≤ 18446744073709551614
  room : (t.text.length : Int) ≤ (s - 1) / 2 * 64
  tell : D.get f = padB (tellB t.n t.second t.text.length)
  bytes : ∀ i : Nat, i < cnt t.text.length → D.get (fromF t.second f s + (i : Nat)) = padB (chunk t.text i)
def Tg (f s : Int) (D : DevS) : Option Text → Prop
  | none => D.get f = zeroB
  | some t => TKept f s D t
def nextT : Option Text → List UInt8 → Text
  | none, l => ⟨1, false, l⟩
  | some t, l => ⟨t.n + 1, !t.second, l⟩
def saveT (D : DevS) (f s : Int) (t : Text) : DevS := saveD D (fromF t.second f s) f t.text (tellB t.n t.second t.text.length)
theorem cnt_room {n : Nat} {s : Int} (h : (n : Int) ≤ (s - 1) / 2 * 64) : (cnt n : Int) ≤ (s - 1) / 2 := by unfold cnt; omega
theorem nextT_text (o : Option Text) (l : List UInt8) : (nextT o l).text = l := by cases o <;> rfl
/-- what Save's bounds are -/
theorem save_in {D : DevS} {f s : Int} (hf : 0 ≤ f) (hs : 3 ≤ s ∧ s ≤ 16384) (hfs : f + s ≤ D.sectors) (t : Text) (hl : (t.text.length : Int) ≤ (s - 1) / 2 * 64) :
    f + 1 ≤ fromF t.second f s ∧ fromF t.second f s + cnt t.text.length ≤ f + s ∧ (tellB t.n t.second t.text.length).length ≤ 64 := by
  have hc := cnt_room hl
  have hb : f + 1 ≤ fromF t.second f s ∧ fromF t.second f s + (s - 1) / 2 ≤ f + s := by unfold fromF; split <;> omega
  have hr := tellB_len t.n t.second t.text.length (by omega)
  exact ⟨hb.1, by omega, by omega⟩
theorem saved {D : DevS} {f s : Int} (hf : 0 ≤ f) (hs : 3 ≤ s ∧ s ≤ 16384) (hfs : f + s ≤ D.sectors) (t : Text) (hl : (t.text.length : Int) ≤ (s - 1) / 2 * 64) (hn : 0 < t.n ∧ t.n ≤ 18446744073709551614) (hd : (saveT D f s t).down = false) :
    Tg f s (saveT D f s t) (some t) ∧ ∀ j, j < f ∨ f + s ≤ j → (saveT D f s t).get j = D.get j := by
  obtain ⟨b1, b2, b3⟩ := save_in hf hs hfs t hl
  have i3 := saveD_get D (s := fromF t.second f s) (f := f) (by omega) t.text (tellB t.n t.second t.text.length) (by omega) (by omega) b3 hd
  refine ⟨⟨hn, hl, ?_, fun i hi => ?_⟩, fun j hj => ?_⟩
  · unfold saveT; rw [i3, if_pos rfl]
  · unfold saveT; rw [i3, if_neg (by omega), if_pos (by omega)]
    congr 2
    omega
  · unfold saveT; rw [i3, if_neg (by omega), if_neg (by omega)]
theorem Calm.saveT {D : DevS} (h : Calm D) {f s : Int} (hf : 0 ≤ f) (hs : 3 ≤ s ∧ s ≤ 16384) (hfs : f + s ≤ D.sectors) (t : Text) (hl : (t.text.length : Int) ≤ (s - 1) / 2 * 64) : Calm (saveT D f s t) := by
  obtain ⟨b1, b2, b3⟩ := save_in hf hs hfs t hl
  exact h.saveD (by omega) t.text _ (by omega) (by omega) b3
end Go.Proofs.YtffolfemcllfkaaGreatDoor

import Derived.Test.YtniiokhkmdknaaaDoorToggle
namespace Go.Proofs.YtniiokhkmdknaaaDoor
open Go.RowKit
set_option linter.unusedVariables false
set_option linter.unusedSimpArgs false

/-! toggle, the plain part: what a device holds behind a text is saved. -/
theorem atE_up {D : DevS} (hd : D.down = false) {s : Int} (h0 : 0 ≤ s) (h1 : s < D.sectors) : D.atE s = 0 := by
  unfold DevS.atE; rw [hd, if_neg (by simp), if_neg (by omega)]
theorem write_down {D : DevS} (hd : D.down = true) (s : Int) (l : List UInt8) : D.write s l = D := by
  have : D.atE s ≠ 0 := by unfold DevS.atE; rw [hd]; simp
  unfold DevS.write; rw [if_pos (.inl this)]
theorem flush_down {D : DevS} (hd : D.down = true) : D.flush = D := by unfold DevS.flush; rw [if_pos hd]
theorem flush_downE (D : DevS) : D.flush.down = D.down := by unfold DevS.flush; split <;> rfl
theorem write_sectors (D : DevS) (s : Int) (l : List UInt8) : (D.write s l).sectors = D.sectors := by
  unfold DevS.write; (repeat' split) <;> rfl
theorem flush_sectors (D : DevS) : D.flush.sectors = D.sectors := by unfold DevS.flush; split <;> rfl
theorem flush_get (D : DevS) (s : Int) : D.flush.get s = D.get s := by unfold DevS.flush; split <;> rfl
theorem writeE_eq (D : DevS) (s : Int) (h0 : 0 ≤ s) (h1 : s < D.sectors) (l : List UInt8) (hl : l.length ≤ 64) : D.writeE s l.length = if (D.write s l).down then 13 else 0 := by
  cases hd : D.down
  · have ha := atE_up hd h0 h1
    have e1 : D.write s l = if D.armed = true ∧ D.left = 0 then { D with crashed := true } else D.put s l := by unfold DevS.write; rw [ha, if_neg (by omega)]
    have e2 : D.writeE s l.length = if D.armed = true ∧ D.left = 0 then 13 else 0 := by unfold DevS.writeE; rw [ha, if_neg (by decide), if_neg (by omega)]
    rw [e1, e2]
    by_cases hc : D.armed = true ∧ D.left = 0
    · rw [if_pos hc, if_pos hc]; rfl
    · rw [if_neg hc, if_neg hc]
      have : (D.put s l).down = false := hd
      rw [this]; rfl
  · rw [write_down hd, hd]
    have : D.atE s = 13 := by unfold DevS.atE; rw [hd]; rfl
    unfold DevS.writeE; rw [this]; rfl
/-- the k-th sector's bytes of a text -/
def chunk (l : List UInt8) (k : Nat) : List UInt8 := (l.drop (64 * k)).take 64
theorem chunk_len (l : List UInt8) (k : Nat) : (chunk l k).length = min 64 (l.length - 64 * k) := by unfold chunk; rw [List.length_take, List.length_drop]
/-- a text's sectors from `at` on -/
def wrN (D : DevS) (s : Int) (l : List UInt8) : Nat → DevS
  | 0 => D
  | k + 1 => (wrN D s l k).write (s + k) (chunk l k)
def cnt (n : Nat) : Nat := (n + 63) / 64
theorem wrN_sectors (D : DevS) (s : Int) (l : List UInt8) (k : Nat) : (wrN D s l k).sectors = D.sectors := by
  induction k with
  | zero => rfl
  | succ k ih => show (DevS.write _ _ _).sectors = _; rw [write_sectors, ih]
theorem wrN_down (D : DevS) (s : Int) (l : List UInt8) (k : Nat) (hd : (wrN D s l k).down = true) (j : Nat) : wrN D s l (k + j) = wrN D s l k := by
  induction j with
  | zero => rfl
  | succ j ih =>
    show (wrN D s l (k + j)).write _ _ = _
    rw [ih, write_down hd]
def tellB (n : Nat) (b : Bool) (long : Nat) : List UInt8 := encF n ++ (if b then 1 else 0) :: encF long
theorem tellB_len (n : Nat) (b : Bool) (long : Nat) (h : long ≤ 524288) : (tellB n b long).length ≤ 14 := by
  have h1 := behindF_le n
  have h2 : behindF long ≤ 2 := by unfold behindF; (repeat' split) <;> omega
  simp only [tellB, List.length_append, List.length_cons, encF_len]
  omega
def wrote (D : DevS) (s : Int) (l : List UInt8) : DevS := (wrN D s l (cnt l.length)).flush
/-- the device behind Save -/
def saveD (D : DevS) (s f : Int) (l tl : List UInt8) : DevS := ((wrote D s l).write f tl).flush
theorem saveD_down1 (D : DevS) (s f : Int) (l tl : List UInt8) (k : Nat) (hk : k ≤ cnt l.length) (hd : (wrN D s l k).down = true) : saveD D s f l tl = wrN D s l k := by
  have := wrN_down D s l k hd (cnt l.length - k)
  rw [Nat.add_sub_cancel' hk] at this
  unfold saveD wrote
  rw [this, flush_down hd, write_down hd, flush_down hd]
/-- The text that lies from s on, as sectors that are read. -/
def joined (D : DevS) (s : Int) (k : Nat) : List UInt8 := (List.range k).flatMap (fun i => D.get (s + (i : Nat)))
theorem joined_succ (D : DevS) (s : Int) (k : Nat) : joined D s (k + 1) = joined D s k ++ D.get (s + (k : Nat)) := by
  unfold joined; rw [List.range_succ, List.flatMap_append]; simp
theorem joined_len (D : DevS) (s : Int) (hl : ∀ i, (D.get i).length = 64) (k : Nat) : (joined D s k).length = k * 64 := by
  unfold joined; rw [flatMap_len _ 64 (fun x => hl _), List.length_range]
theorem joined_full (D : DevS) (s : Int) (l : List UInt8) (k : Nat) (h : ∀ i : Nat, i < k → D.get (s + (i : Nat)) = padB (chunk l i)) (hk : 64 * k ≤ l.length) : joined D s k = l.take (64 * k) := by
  induction k with
  | zero => rfl
  | succ k ih =>
    rw [joined_succ, ih (fun i hi => h i (by omega)) (by omega), h k (by omega)]
    have hc : (chunk l k).length = 64 := by rw [chunk_len]; omega
    unfold padB
    rw [hc]
    show l.take (64 * k) ++ (chunk l k ++ []) = _
    rw [List.append_nil]
    unfold chunk
    rw [show 64 * (k + 1) = 64 * k + 64 by omega, List.take_add]
theorem joined_text (D : DevS) (s : Int) (l : List UInt8) (h : ∀ i : Nat, i < cnt l.length → D.get (s + (i : Nat)) = padB (chunk l i)) : (joined D s (cnt l.length)).take l.length = l := by
  by_cases hr : l.length % 64 = 0
  · have hc : 64 * cnt l.length = l.length := by unfold cnt; omega
    rw [joined_full D s l _ h (by omega), hc, List.take_length, List.take_length]
  · have hc : cnt l.length = l.length / 64 + 1 := by unfold cnt; omega
    rw [hc, joined_succ, joined_full D s l _ (fun i hi => h i (by omega)) (by omega), h _ (by omega)]
    have hck : chunk l (l.length / 64) = l.drop (64 * (l.length / 64)) := by unfold chunk; exact List.take_of_length_le (by rw [List.length_drop]; omega)
    rw [hck]
    unfold padB
    rw [← List.append_assoc, List.take_append_drop]
    exact List.take_left
/-! A device that does not crash. -/
structure Calm (D : DevS) : Prop where
  up : D.down = false
  armed : D.armed = false
theorem Calm.write {D : DevS} (h : Calm D) {s : Int} (h0 : 0 ≤ s) (h1 : s < D.sectors) {l : List UInt8} (hl : l.length ≤ 64) : D.write s l = D.put s l := by
  unfold DevS.write
  rw [atE_up h.up h0 h1, if_neg (by omega), h.armed, if_neg (by simp)]
theorem Calm.put {D : DevS} (h : Calm D) (s : Int) (l : List UInt8) : Calm (D.put s l) := ⟨h.up, h.armed⟩
theorem Calm.flush {D : DevS} (h : Calm D) : Calm D.flush := by
  unfold DevS.flush; rw [h.up]; exact ⟨h.up, h.armed⟩
theorem get_put (D : DevS) (s : Int) (l : List UInt8) (j : Int) : (D.put s l).get j = if j = s then padB l else D.get j := by
  unfold DevS.get DevS.put
  simp only [mget_mset]
  split <;> rfl
theorem write_up {D : DevS} {s : Int} (h0 : 0 ≤ s) (h1 : s < D.sectors) {l : List UInt8} (hl : l.length ≤ 64) (hd : (D.write s l).down = false) : D.down = false ∧ D.write s l = D.put s l := by
  cases hu : D.down
  · refine ⟨rfl, ?_⟩
    have ha := atE_up hu h0 h1
    unfold DevS.write at hd ⊢
    rw [ha, if_neg (by omega)] at hd ⊢
    by_cases hc : D.armed = true ∧ D.left = 0
    · rw [if_pos hc] at hd; cases hd
    · rw [if_neg hc]
  · rw [write_down hu, hu] at hd; cases hd
theorem wrN_get (D : DevS) {s : Int} (h0 : 0 ≤ s) (l : List UInt8) (k : Nat) (h1 : s + k ≤ D.sectors) (hd : (wrN D s l k).down = false) (j : Int) : (wrN D s l k).get j = if s ≤ j ∧ j < s + k then padB (chunk l (j - s).toNat) else D.get j := by
  induction k with
  | zero => rw [if_neg (by omega)]; rfl
  | succ k ih =>
    obtain ⟨i1, i2⟩ := write_up (D := wrN D s l k) (s := s + k) (l := chunk l k) (by omega) (by rw [wrN_sectors]; omega) (by rw [chunk_len]; omega) hd
    show (DevS.write _ _ _).get j = _
    rw [i2, get_put, ih (by omega) i1]
    by_cases hj : j = s + k
    · subst hj
      rw [if_pos rfl, if_pos (by omega)]
      congr 2
      omega
    · rw [if_neg hj]
      by_cases hs : s ≤ j ∧ j < s + k
      · rw [if_pos hs, if_pos (by omega)]
      · rw [if_neg hs, if_neg (by omega)]
theorem wrote_sectors (D : DevS) (s : Int) (l : List UInt8) : (wrote D s l).sectors = D.sectors := by unfold wrote; rw [flush_sectors, wrN_sectors]
theorem saveD_sectors (D : DevS) (s f : Int) (l tl : List UInt8) : (saveD D s f l tl).sectors = D.sectors := by unfold saveD; rw [flush_sectors, write_sectors, wrote_sectors]
theorem saveD_get (D : DevS) {s f : Int} (h0 : 0 ≤ s) (l tl : List UInt8) (h1 : s + cnt l.length ≤ D.sectors) (hf : 0 ≤ f ∧ f < D.sectors) (ht : tl.length ≤ 64) (hd : (saveD D s f l tl).down = false) (j : Int) :
    (saveD D s f l tl).get j = if j = f then padB tl else if s ≤ j ∧ j < s + cnt l.length then padB (chunk l (j - s).toNat) else D.get j := by
  unfold saveD at hd ⊢
  rw [flush_downE] at hd
  obtain ⟨i1, i2⟩ := write_up hf.1 (by rw [wrote_sectors]; exact hf.2) ht hd
  rw [flush_get, i2, get_put]
  unfold wrote at i1 ⊢
  rw [flush_downE] at i1
  rw [flush_get, wrN_get D h0 l _ h1 i1]
theorem Calm.wrN {D : DevS} (h : Calm D) {s : Int} (h0 : 0 ≤ s) (l : List UInt8) (k : Nat) (h1 : s + k ≤ D.sectors) : Calm (wrN D s l k) := by
  induction k with
  | zero => exact h
  | succ k ih =>
    have i1 := ih (by omega)
    show Calm (DevS.write _ _ _)
    rw [i1.write (by omega) (by rw [wrN_sectors]; omega) (by rw [chunk_len]; omega)]
    exact i1.put _ _
theorem Calm.saveD {D : DevS} (h : Calm D) {s f : Int} (h0 : 0 ≤ s) (l tl : List UInt8) (h1 : s + cnt l.length ≤ D.sectors) (hf : 0 ≤ f ∧ f < D.sectors) (ht : tl.length ≤ 64) : Calm (saveD D s f l tl) := by
  have i3 : Calm (wrote D s l) := (h.wrN h0 l _ h1).flush
  unfold Proofs.YtniiokhkmdknaaaDoor.saveD
  rw [i3.write hf.1 (by rw [wrote_sectors]; exact hf.2) ht]
  exact (i3.put _ _).flush
/-! What is kept: nothing, or the n-th text. -/
structure Text where
  n : Nat
  second : Bool
  text : List UInt8
structure Kept (f s : Int) (D : DevS) (t : Text) : Prop where
  n : 0 < t.n ∧ t.n ≤ 18446744073709551614
  room : (t.text.length : Int) ≤ (s - 1) / 2 * 64
  tell : D.get f = padB (tellB t.n t.second t.text.length)
  bytes : ∀ i : Nat, i < cnt t.text.length → D.get (fromF t.second f s + (i : Nat)) = padB (chunk t.text i)
def Tg (f s : Int) (D : DevS) : Option Text → Prop
  | none => D.get f = zeroB
  | some t => Kept f s D t
def nextT : Option Text → List UInt8 → Text
  | none, l => ⟨1, false, l⟩
  | some t, l => ⟨t.n + 1, !t.second, l⟩
def saveT (D : DevS) (f s : Int) (t : Text) : DevS := saveD D (fromF t.second f s) f t.text (tellB t.n t.second t.text.length)
theorem cnt_room {n : Nat} {s : Int} (h : (n : Int) ≤ (s - 1) / 2 * 64) : (cnt n : Int) ≤ (s - 1) / 2 := by unfold cnt; omega
theorem nextT_text (o : Option Text) (l : List UInt8) : (nextT o l).text = l := by cases o <;> rfl
/-- what Save's bounds are -/
theorem save_in {D : DevS} {f s : Int} (hf : 0 ≤ f) (hs : 3 ≤ s ∧ s ≤ 16384) (hfs : f + s ≤ D.sectors) (t : Text) (hl : (t.text.length : Int) ≤ (s - 1) / 2 * 64) :
    f + 1 ≤ fromF t.second f s ∧ fromF t.second f s + cnt t.text.length ≤ f + s ∧ (tellB t.n t.second t.text.length).length ≤ 64 := by
  have hc := cnt_room hl
  have hb : f + 1 ≤ fromF t.second f s ∧ fromF t.second f s + (s - 1) / 2 ≤ f + s := by unfold fromF; split <;> omega
  have hr := tellB_len t.n t.second t.text.length (by omega)
  exact ⟨hb.1, by omega, by omega⟩
theorem saved {D : DevS} {f s : Int} (hf : 0 ≤ f) (hs : 3 ≤ s ∧ s ≤ 16384) (hfs : f + s ≤ D.sectors) (t : Text) (hl : (t.text.length : Int) ≤ (s - 1) / 2 * 64) (hn : 0 < t.n ∧ t.n ≤ 18446744073709551614) (hd : (saveT D f s t).down = false) :
    Tg f s (saveT D f s t) (some t) ∧ ∀ j, j < f ∨ f + s ≤ j → (saveT D f s t).get j = D.get j := by
  obtain ⟨b1, b2, b3⟩ := save_in hf hs hfs t hl
  have i3 := saveD_get D (s := fromF t.second f s) (f := f) (by omega) t.text (tellB t.n t.second t.text.length) (by omega) (by omega) b3 hd
  refine ⟨⟨hn, hl, ?_, fun i hi => ?_⟩, fun j hj => ?_⟩
  · unfold saveT; rw [i3, if_pos rfl]
  · unfold saveT; rw [i3, if_neg (by omega), if_pos (by omega)]
    congr 2
    omega
  · unfold saveT; rw [i3, if_neg (by omega), if_neg (by omega)]
theorem Calm.saveT {D : DevS} (h : Calm D) {f s : Int} (hf : 0 ≤ f) (hs : 3 ≤ s ∧ s ≤ 16384) (hfs : f + s ≤ D.sectors) (t : Text) (hl : (t.text.length : Int) ≤ (s - 1) / 2 * 64) : Calm (saveT D f s t) := by
  obtain ⟨b1, b2, b3⟩ := save_in hf hs hfs t hl
  exact h.saveD (by omega) t.text _ (by omega) (by omega) b3
end Go.Proofs.YtniiokhkmdknaaaDoor

import Derived.Test.YtdkjmnhblepkaaaDev
namespace Go.Proofs.Ytdkjmnhblepkaaa
open Go.RowKit
set_option linter.unusedVariables false
set_option linter.unusedSimpArgs false
theorem info_blk : (Try.prog.info? 107).map (fun i => (i.zero, i.size)) = some (some (blkV zeroB), 64) := by kernel_rfl
theorem size_blk : (Try.prog.info? 107).map (·.size) = some 64 := (zero_of_info info_blk).2
theorem zero_blk : ∀ w, (zeroValue 107).run Try.prog w = .ok (blkV zeroB) w := (zero_of_info info_blk).1
theorem blk_oneCell (l : List UInt8) : ∀ u ∈ (l.map byteV).toArray.toList, u.oneCell' = true := by
  intro u hu; simp at hu; obtain ⟨x, _, rfl⟩ := hu; rfl
theorem get_eq (D : DevS) (s : Int) : (mget (mapV blkV D.now) s).getD (blkV zeroB) = .agg ((D.get s).map byteV).toArray := by
  rw [mget_mapV]; unfold DevS.get; cases mget D.now s <;> rfl
theorem mget_mem {α : Type} {m : List (Int × α)} {k : Int} {v : α} (h : mget m k = some v) : (k, v) ∈ m := by
  unfold mget at h
  cases hf : m.find? (fun x => x.1 == k) with
  | none => rw [hf] at h; cases h
  | some x =>
    rw [hf] at h
    simp at h
    have h1 := List.mem_of_find?_eq_some hf
    have h2 := List.find?_some hf
    simp at h2
    rw [← h, ← h2]; exact h1
theorem DevAt.get_len {w : World} {p m1 m2 : Nat} {D : DevS} (h : DevAt w p m1 m2 D) (s : Int) : (D.get s).length = 64 := by
  unfold DevS.get
  cases hm : mget D.now s with
  | none => simp [zeroB]
  | some b => exact h.len _ (mget_mem hm)
def ReadOk (w : World) (b : Blk) (e : Ending) (w' : World) : Prop := ∃ g, e = .returned (.tuple #[.slice (some ⟨g, 0, none⟩) 64 64, errV 0]) ∧ w.heap.size ≤ g ∧ Fr none_ w w' ∧ w'.heap[g]? = some (.cells (b.map byteV).toArray 107 (0, 0))
theorem read_err {w : World} {p m1 m2 : Nat} {D : DevS} (h : DevAt w p m1 m2 D) (s : Int) (hE : D.atE s ≠ 0) : Calls Try.prog 53 #[ptr p, .int .i64 s] w fun e w' => e = .returned (.tuple #[.slice none 0 0, errV (D.atE s)]) ∧ w = w' := by
  go_enter Try.func53, Try.ntmps53
  go_wp2_with fail
  (with_reducible refine (at_any h s).mono ?_)
  rintro e w' ⟨rfl, rfl⟩
  rw [errV_n hE]
  go_wp2_with fail
  go_ret2
  exact ⟨by rw [errV_n hE]; rfl, rfl⟩
set_option maxHeartbeats 400000 in
theorem read_ok {w : World} {p m1 m2 : Nat} {D : DevS} (h : DevAt w p m1 m2 D) (s : Int) (hE : D.atE s = 0) : Calls Try.prog 53 #[ptr p, .int .i64 s] w fun e w' => ReadOk w (D.get s) e w' := by
  obtain ⟨c0, c1, c2, c3, c4, c5, c6, c7⟩ := h.cellsAll
  have hl := h.get_len s
  have hlk := run_lookup_plain (P := Try.prog) (T := 74) Try.underlying74 Try.underlying3 zero_blk h.now s
  rw [get_eq] at hlk
  have HL := Lib.hid hl
  clear hl
  go_enter Try.func53, Try.ntmps53
  go_wp2_with fail
  (with_reducible refine (at_any h s).mono ?_)
  rintro e w' ⟨rfl, rfl⟩
  rw [hE, errV_0]
  go_wp2_with (refine wpList_store_blk rfl 107 (.tmp 7) (.tmp 19) rfl rfl rfl (heap_alloc_new _ _) (by simp [HL.out]) (by rw [size_blk]; simp [HL.out]) (blk_oneCell _) ?_; intro w1 hF1 hb1)
  go_ret2
  exact ⟨_, rfl, Nat.le_refl _, ((Fr.refl _ _).alloc _).own hF1 (Nat.le_refl _), hb1⟩
/-! Write -/
def padB (b : List UInt8) : Blk := b ++ List.replicate (64 - b.length) 0
/-- the sector s is written, b and noughts behind -/
def DevS.put (D : DevS) (s : Int) (b : List UInt8) : DevS :=
  { D with left := wrap64 (D.left - 1), writes := wrap64 (D.writes + 1), loose := if (mget D.loose s).isSome then D.loose else mset D.loose s (D.get s), now := mset D.now s (padB b) }
def DevS.writeE (D : DevS) (s : Int) (n : Nat) : Int := if D.atE s ≠ 0 then D.atE s else if 64 < n then 2 else if D.armed = true ∧ D.left = 0 then 13 else 0
def DevS.write (D : DevS) (s : Int) (b : List UInt8) : DevS :=
  if D.atE s ≠ 0 ∨ 64 < b.length then D else if D.armed = true ∧ D.left = 0 then { D with crashed := true } else D.put s b
theorem write_err {w : World} {p m1 m2 : Nat} {D : DevS} (h : DevAt w p m1 m2 D) (s : Int) (A : Option Addr) (n c : Nat) (hE : D.atE s ≠ 0) : Calls Try.prog 33 #[ptr p, .int .i64 s, .slice A n c] w fun e w' => e = .returned (errV (D.atE s)) ∧ w = w' := by
  go_enter Try.func33, Try.ntmps33
  go_wp2_with fail
  (with_reducible refine (at_any h s).mono ?_)
  rintro e w' ⟨rfl, rfl⟩
  rw [errV_n hE]
  go_wp2_with fail
  go_ret
  exact ⟨by rw [errV_n hE]; rfl, rfl⟩
theorem write_long {w : World} {p m1 m2 : Nat} {D : DevS} (h : DevAt w p m1 m2 D) (s : Int) (A : Option Addr) (n c : Nat) (hE : D.atE s = 0) (hn : 64 < n) : Calls Try.prog 33 #[ptr p, .int .i64 s, .slice A n c] w fun e w' => e = .returned (errV 2) ∧ w = w' := by
  go_enter Try.func33, Try.ntmps33
  go_wp2_with fail
  (with_reducible refine (at_any h s).mono ?_)
  rintro e w' ⟨rfl, rfl⟩
  rw [hE, errV_0]
  go_wp2_with fail
  go_ret
  exact ⟨rfl, rfl⟩
theorem DevAt.setCell {w : World} {p m1 m2 : Nat} {D D' : DevS} (h : DevAt w p m1 m2 D) (o : Nat) (v : Value) (hc : D'.cells m1 m2 = (D.cells m1 m2).setIfInBounds o v) (h1 : D'.now = D.now) (h2 : D'.loose = D.loose) (h3 : D'.sectors = D.sectors) :
    DevAt (w.setCell ⟨p, o, none⟩ v) p m1 m2 D' := by
  have hf := Fr.set w p o v
  refine ⟨by rw [heap_setCell_same h.blk, hc], ?_, ?_, h.ne, by rw [h1]; exact h.len, by rw [h2]; exact h.len2, by rw [h2, h3]; exact h.keys, by rw [h3]; exact h.most⟩
  · rw [h1]; exact h.now.fr hf (fun e => h.pne.1 e.symm)
  · rw [h2]; exact h.loose.fr hf (fun e => h.pne.2 e.symm)
theorem write_crash {w : World} {p m1 m2 : Nat} {D : DevS} (h : DevAt w p m1 m2 D) (s : Int) (A : Option Addr) (n c : Nat) (hE : D.atE s = 0) (hn : n ≤ 64) (ha : D.armed = true) (hl : D.left = 0) :
    Calls Try.prog 33 #[ptr p, .int .i64 s, .slice A n c] w fun e w' => e = .returned (errV 13) ∧ Fr (devBlks p m1 m2) w w' ∧ DevAt w' p m1 m2 { D with crashed := true } := by
  obtain ⟨c0, c1, c2, c3, c4, c5, c6, c7⟩ := h.cellsAll
  have f6 := h.frozen 6
  rw [ha] at c4
  rw [hl] at c5
  have HA := Lib.hid ha
  have HL := Lib.hid hl
  clear ha hl
  have hn2 : ¬ 64 < n := by omega
  go_enter Try.func33, Try.ntmps33
  go_wp2_with fail
  (with_reducible refine (at_any h s).mono ?_)
  rintro e w' ⟨rfl, rfl⟩
  rw [hE, errV_0]
  go_wp2_with fail
  go_ret
  exact ⟨rfl, (Fr.set w p 6 (.bool true)).mono (fun i _ e => .inl e), h.setCell 6 (.bool true) (by rw [DevS.cells, DevS.cells]; rfl) rfl rfl rfl⟩
end Go.Proofs.Ytdkjmnhblepkaaa

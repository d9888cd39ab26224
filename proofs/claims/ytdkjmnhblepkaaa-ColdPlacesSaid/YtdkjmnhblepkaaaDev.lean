import Derived.Test.YtdkjmnhblepkaaaProg
import Derived.Test.YtdkjmnhblepkaaaMaps
import Derived.StillTailTactics
import Derived.Deep.QuietTactic
import Derived.BigQuiet
import Derived.Deep.MidRow
namespace Go.Proofs.Ytdkjmnhblepkaaa
open Go.RowKit
set_option linter.unusedVariables false
set_option linter.unusedSimpArgs false

/-! A device in memory, and what its methods do to it. -/
abbrev Blk := List UInt8
structure DevS where
  sectors : Int
  now : List (Int × Blk)
  loose : List (Int × Blk)
  writes : Int
  armed : Bool
  left : Int
  crashed : Bool
  lost : Bool
def blkV (b : Blk) : Value := .agg (b.map byteV).toArray
def zeroB : Blk := List.replicate 64 0
/-- what a sector holds -/
def DevS.get (D : DevS) (s : Int) : Blk := (mget D.now s).getD zeroB
def DevS.cells (D : DevS) (m1 m2 : Nat) : Array Value := #[.int .i64 D.sectors, .map (some m1), .map (some m2), .int .i64 D.writes, .bool D.armed, .int .i64 D.left, .bool D.crashed, .bool D.lost]
/-- The device at block p of w, its maps at m1 and m2. -/
structure DevAt (w : World) (p m1 m2 : Nat) (D : DevS) : Prop where
  blk : w.heap[p]? = some (.cells (D.cells m1 m2) 76 (0, 0))
  now : IMap w m1 (mapV blkV D.now)
  loose : IMap w m2 (mapV blkV D.loose)
  ne : m1 ≠ m2
  len : ∀ x ∈ D.now, x.2.length = 64
  len2 : ∀ x ∈ D.loose, x.2.length = 64
  keys : ∀ x ∈ D.loose, 0 ≤ x.1 ∧ x.1 < D.sectors
  most : 1 ≤ D.sectors ∧ D.sectors ≤ 16384
def devBlks (p m1 m2 : Nat) (i : Nat) : Prop := i = p ∨ i = m1 ∨ i = m2
theorem DevAt.pne {w : World} {p m1 m2 : Nat} {D : DevS} (h : DevAt w p m1 m2 D) : p ≠ m1 ∧ p ≠ m2 := by
  obtain ⟨⟨⟨es, c, hb, _⟩, _⟩, ⟨⟨es2, c2, hb2, _⟩, _⟩⟩ := And.intro h.now h.loose
  constructor
  · rintro rfl; have := h.blk; rw [hb] at this; cases this
  · rintro rfl; have := h.blk; rw [hb2] at this; cases this
theorem DevAt.fr {S : Nat → Prop} {w w' : World} {p m1 m2 : Nat} {D : DevS} (h : DevAt w p m1 m2 D) (hf : Fr S w w') (hn : ∀ i, devBlks p m1 m2 i → ¬ S i) : DevAt w' p m1 m2 D :=
  ⟨hf.heap h.blk (hn p (.inl rfl)), h.now.fr hf (hn m1 (.inr (.inl rfl))), h.loose.fr hf (hn m2 (.inr (.inr rfl))), h.ne, h.len, h.len2, h.keys, h.most⟩
theorem DevAt.fr0 {w w' : World} {p m1 m2 : Nat} {D : DevS} (h : DevAt w p m1 m2 D) (hf : Fr none_ w w') : DevAt w' p m1 m2 D := h.fr hf (fun _ _ h => h)
theorem DevAt.lt {w : World} {p m1 m2 : Nat} {D : DevS} (h : DevAt w p m1 m2 D) : ∀ i, devBlks p m1 m2 i → i < w.heap.size := by
  rintro i (rfl | rfl | rfl)
  · exact blk_lt h.blk
  · exact h.now.lt
  · exact h.loose.lt
theorem DevAt.cellsAll {w : World} {p m1 m2 : Nat} {D : DevS} (h : DevAt w p m1 m2 D) :
    w.cell? ⟨p, 0, none⟩ = some (.int .i64 D.sectors) ∧ w.cell? ⟨p, 1, none⟩ = some (.map (some m1)) ∧ w.cell? ⟨p, 2, none⟩ = some (.map (some m2)) ∧ w.cell? ⟨p, 3, none⟩ = some (.int .i64 D.writes) ∧
    w.cell? ⟨p, 4, none⟩ = some (.bool D.armed) ∧ w.cell? ⟨p, 5, none⟩ = some (.int .i64 D.left) ∧ w.cell? ⟨p, 6, none⟩ = some (.bool D.crashed) ∧ w.cell? ⟨p, 7, none⟩ = some (.bool D.lost) := by
  refine ⟨?_, ?_, ?_, ?_, ?_, ?_, ?_, ?_⟩ <;> (rw [cell_of_blk h.blk]; rfl)
theorem DevAt.frozen {w : World} {p m1 m2 : Nat} {D : DevS} (h : DevAt w p m1 m2 D) (o : Nat) : w.frozen? ⟨p, o, none⟩ = false := frozen_of_blk h.blk o
def errV (n : Int) : Value := if n = 0 then .nilIface else .iface 52 (.int .i64 n)
theorem errV_0 : errV 0 = .nilIface := rfl
theorem errV_n {n : Int} (h : n ≠ 0) : errV n = .iface 52 (.int .i64 n) := if_neg h
abbrev ptr (p : Nat) : Value := .pointer (some ⟨p, 0, none⟩)

def newD (n : Int) : DevS := ⟨n, [], [], 0, false, 0, false, false⟩
set_option maxHeartbeats 400000 in
theorem new_bad (n : Int) (w : World) (h : n < 1 ∨ 16384 < n) : Calls Try.prog 13 #[.int .i64 n] w fun e w' => e = .returned (.tuple #[.pointer none, errV 1]) ∧ w = w' := by
  rcases h with h | h
  · go_enter Try.func13, Try.ntmps13
    go_wp2
    go_ret2
    exact ⟨rfl, rfl⟩
  · have h2 : ¬ n < 1 := by omega
    go_enter Try.func13, Try.ntmps13
    go_wp2
    go_ret2
    exact ⟨rfl, rfl⟩
def NewPost (n : Int) (w : World) (e : Ending) (w' : World) : Prop := ∃ p m1 m2, e = .returned (.tuple #[ptr p, errV 0]) ∧ Fr none_ w w' ∧ DevAt w' p m1 m2 (newD n) ∧ ∀ i, devBlks p m1 m2 i → w.heap.size ≤ i
set_option maxHeartbeats 400000 in
theorem new_ok (n : Int) (w : World) (h1 : 1 ≤ n) (h2 : n ≤ 16384) : Calls Try.prog 13 #[.int .i64 n] w fun e w' => NewPost n w e w' := by
  have hmm := @run_makeMap Try.prog
  have n1 : ¬ n < 1 := by omega
  go_enter Try.func13, Try.ntmps13
  go_wp2
  go_ret2
  refine ⟨w.heap.size + 1 + 1, w.heap.size, w.heap.size + 1, rfl, (((Fr.refl _ _).alloc _).alloc _).alloc _, ⟨heap_alloc_at (by simp) _, ?_, ?_, by omega, by simp [newD], by simp [newD], by simp [newD], h1, h2⟩, ?_⟩
  · exact ((IMap.made w).fr0 ((Fr.refl _ _).alloc _)).fr0 ((Fr.refl _ _).alloc _)
  · exact (IMap.made_at (w := w.alloc (.map #[] 0)) (by simp)).fr0 ((Fr.refl _ _).alloc _)
  · rintro i (rfl | rfl | rfl) <;> omega
theorem sectors_any {w : World} {p m1 m2 : Nat} {D : DevS} (h : DevAt w p m1 m2 D) : Calls Try.prog 15 #[ptr p] w fun e w' => e = .returned (.int .i64 D.sectors) ∧ w = w' := by
  obtain ⟨c0, c1, c2, c3, c4, c5, c6, c7⟩ := h.cellsAll
  go_enter Try.func15, Try.ntmps15
  go_wp2
  go_ret
  exact ⟨rfl, rfl⟩
def DevS.down (D : DevS) : Bool := D.crashed || D.lost
theorem down_any {w : World} {p m1 m2 : Nat} {D : DevS} (h : DevAt w p m1 m2 D) : Calls Try.prog 30 #[ptr p] w fun e w' => e = .returned (.bool D.down) ∧ w = w' := by
  obtain ⟨c0, c1, c2, c3, c4, c5, c6, c7⟩ := h.cellsAll
  cases hc : D.crashed <;> rw [hc] at c6
  all_goals
    go_enter Try.func30, Try.ntmps30
    go_wp2
    go_ret
    exact ⟨by simp [DevS.down, hc], rfl⟩
def DevS.readyE (D : DevS) : Int := if D.down then 13 else 0
theorem ready_any {w : World} {p m1 m2 : Nat} {D : DevS} (h : DevAt w p m1 m2 D) : Calls Try.prog 50 #[ptr p] w fun e w' => e = .returned (errV D.readyE) ∧ w = w' := by
  cases hd : D.down
  all_goals
    go_enter Try.func50, Try.ntmps50
    go_wp2_with fail
    (with_reducible refine (down_any h).mono ?_)
    rintro e w' ⟨rfl, rfl⟩
    rw [hd]
    go_wp2_with fail
    go_ret
    exact ⟨by simp [DevS.readyE, hd, errV], rfl⟩
def DevS.atE (D : DevS) (s : Int) : Int := if D.down then 13 else if s < 0 ∨ D.sectors ≤ s then 4 else 0
set_option maxHeartbeats 400000 in
theorem at_any {w : World} {p m1 m2 : Nat} {D : DevS} (h : DevAt w p m1 m2 D) (s : Int) : Calls Try.prog 42 #[ptr p, .int .i64 s] w fun e w' => e = .returned (errV (D.atE s)) ∧ w = w' := by
  obtain ⟨c0, c1, c2, c3, c4, c5, c6, c7⟩ := h.cellsAll
  cases hd : D.down
  · have hE : D.readyE = 0 := by simp [DevS.readyE, hd]
    by_cases hs : s < 0
    · go_enter Try.func42, Try.ntmps42
      go_wp2_with fail
      (with_reducible refine (ready_any h).mono ?_)
      rintro e w' ⟨rfl, rfl⟩
      rw [hE, errV_0]
      go_wp2_with fail
      go_ret
      exact ⟨by simp [DevS.atE, hd, errV, hs], rfl⟩
    · by_cases h2 : D.sectors ≤ s
      all_goals
        go_enter Try.func42, Try.ntmps42
        go_wp2_with fail
        (with_reducible refine (ready_any h).mono ?_)
        rintro e w' ⟨rfl, rfl⟩
        rw [hE, errV_0]
        go_wp2_with fail
        go_ret
        exact ⟨by simp [DevS.atE, hd, errV, hs, h2], rfl⟩
  · have hE : D.readyE = 13 := by simp [DevS.readyE, hd]
    go_enter Try.func42, Try.ntmps42
    go_wp2_with fail
    (with_reducible refine (ready_any h).mono ?_)
    rintro e w' ⟨rfl, rfl⟩
    rw [hE, errV_n (by decide)]
    go_wp2_with fail
    go_ret
    exact ⟨by simp [DevS.atE, hd, errV], rfl⟩
end Go.Proofs.Ytdkjmnhblepkaaa

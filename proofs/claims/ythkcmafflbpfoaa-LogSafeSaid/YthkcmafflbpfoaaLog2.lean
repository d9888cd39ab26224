import Derived.Test.YthkcmafflbpfoaaLog
import Derived.Test.YthkcmafflbpfoaaWrN
import Derived.Deep.RegionHeld3
namespace Go.Proofs.Ythkcmafflbpfoaa
open Go.RowKit
set_option linter.unusedVariables false
set_option linter.unusedSimpArgs false
set_option maxRecDepth 100000

/-! log: the log in memory; tagged, used, write, alive, Next, Free. -/
structure LogS where
  first : Nat
  secs : Nat
  at_ : Nat
  seq : Nat
  sizes : List Nat
  dead : Int
def natV (n : Nat) : Value := .int .i64 (n : Int)
/-- a slice of sizes: some of a block of ints -/
structure SzAt (w : World) (v : Value) (l : List Nat) : Prop where
  rep : (v = .slice none 0 0 ∧ l = []) ∨ ∃ g o cap, ∃ full : List Value, v = .slice (some ⟨g, o, none⟩) l.length cap ∧ w.heap[g]? = some (.cells full.toArray 3 (0, 0)) ∧ o + cap ≤ full.length ∧ l.length ≤ cap ∧ (full.drop o).take l.length = l.map natV
def LogS.cells (l : LogS) (p : Nat) (v : Value) : Array Value := #[ptr p, natV l.first, natV l.secs, natV l.at_, natV l.seq, v, errV l.dead]
structure LogAt (w : World) (b p : Nat) (l : LogS) : Prop where
  blk : ∃ v, w.heap[b]? = some (.cells (l.cells p v) 60 (0, 0)) ∧ SzAt w v l.sizes
  most : l.first ≤ 16384 ∧ 2 ≤ l.secs ∧ l.secs ≤ 16384 ∧ l.at_ < l.secs ∧ l.seq ≤ 1099511627777 ∧ l.sizes.length ≤ 16384 ∧ ∀ x ∈ l.sizes, x ≤ 16384
theorem SzAt.fr0 {w w' : World} {v : Value} {l : List Nat} (h : SzAt w v l) (hF : Fr none_ w w') : SzAt w' v l := by
  rcases h.rep with h | ⟨g, o, cap, full, h1, h2, h3⟩
  · exact ⟨.inl h⟩
  · exact ⟨.inr ⟨g, o, cap, full, h1, hF.heap0 h2, h3⟩⟩
theorem LogAt.fr0 {w w' : World} {b p : Nat} {l : LogS} (h : LogAt w b p l) (hF : Fr none_ w w') : LogAt w' b p l := by
  obtain ⟨⟨v, h1, h2⟩, h3⟩ := h
  exact ⟨⟨v, hF.heap0 h1, h2.fr0 hF⟩, h3⟩
/-- the sizes' cells -/
theorem SzAt.read {w : World} {v : Value} {l : List Nat} (h : SzAt w v l) : ∃ A cap, v = .slice A l.length cap ∧ CellsAt w A (l.map natV) ∧ l.length ≤ cap := by
  rcases h.rep with ⟨rfl, rfl⟩ | ⟨g, o, cap, full, rfl, h2, h3, h4, h5⟩
  · exact ⟨none, 0, rfl, CellsAt.nil _ _, Nat.le_refl _⟩
  · refine ⟨_, cap, rfl, ?_, h4⟩
    rw [← h5]
    have := CellsAt.of_blk h2 o l.length (by simp; omega)
    simpa using this
def sumN (l : List Nat) : Nat := l.foldl (· + ·) 0
theorem sumN_le (l : List Nat) (h : ∀ x ∈ l, x ≤ 16384) : ∀ s, l.foldl (· + ·) s ≤ s + 16384 * l.length := by
  induction l with
  | nil => intro s; simp
  | cons x l ih =>
    intro s
    have h1 := h x (by simp)
    have h2 := ih (fun y hy => h y (by simp [hy])) (s + x)
    rw [List.foldl_cons, List.length_cons]
    omega
theorem LogAt.cellsAll {w : World} {b p : Nat} {l : LogS} (h : LogAt w b p l) : ∃ A cap, w.cell? ⟨b, 0, none⟩ = some (ptr p) ∧ w.cell? ⟨b, 1, none⟩ = some (.int .i64 (l.first : Int)) ∧ w.cell? ⟨b, 2, none⟩ = some (.int .i64 (l.secs : Int)) ∧ w.cell? ⟨b, 3, none⟩ = some (.int .i64 (l.at_ : Int)) ∧
    w.cell? ⟨b, 4, none⟩ = some (.int .i64 (l.seq : Int)) ∧ w.cell? ⟨b, 5, none⟩ = some (.slice A l.sizes.length cap) ∧ w.cell? ⟨b, 6, none⟩ = some (errV l.dead) ∧ CellsAt w A (l.sizes.map natV) := by
  obtain ⟨⟨v, h1, h2⟩, h3⟩ := h
  obtain ⟨A, cap, rfl, hA, hc⟩ := h2.read
  refine ⟨A, cap, ?_, ?_, ?_, ?_, ?_, ?_, ?_, hA⟩ <;> (rw [cell_of_blk h1]; rfl)
set_option maxHeartbeats 1000000 in
theorem used_any {w : World} {b p : Nat} {l : LogS} (h : LogAt w b p l) : Calls Try.prog 26 #[ptr b] w fun e w' => e = .returned (.int .i64 (sumN l.sizes : Nat)) ∧ w = w' := by
  obtain ⟨A, cap, c0, c1, c2, c3, c4, c5, c6, hA⟩ := h.cellsAll
  have hlen := h.most.2.2.2.2.2.1
  have hmx := h.most.2.2.2.2.2.2
  obtain ⟨ls, hls⟩ : ∃ ls, ls = l.sizes := ⟨_, rfl⟩
  rw [← hls] at c5 hA hlen hmx ⊢
  have HMX := Lib.hid hmx
  clear hmx hls
  go_enter Try.func26, Try.ntmps26
  go_wp2_with fail
  go_loop [3, 11] (fun n i => ∃ k s : Nat, k ≤ ls.length ∧ i = .int .i64 (k : Int) ∧ n = .int .i64 (s : Int) ∧ s = sumN (ls.take k)) (fun _ i => ls.length - (intOf i).toNat)
  case atStart => exact ⟨0, 0, by omega, rfl, rfl, rfl⟩
  case round =>
    obtain ⟨k, s, hk, rfl, rfl, hs⟩ := hrel
    have hsb : s ≤ 16384 * 16384 := by
      have := sumN_le (ls.take k) (fun x hx => HMX.out x (List.mem_of_mem_take hx)) 0
      unfold sumN at hs
      rw [← hs, List.length_take] at this
      omega
    by_cases hlt : k < ls.length
    · have hst := foldl_take_succ (· + ·) 0 ls k hlt
      have hx16 := HMX.out ls[k] (List.getElem_mem _)
      obtain ⟨g, o, rfl, hc⟩ := hA k (by rw [List.length_map]; exact hlt)
      rw [List.getElem_map] at hc
      obtain ⟨x, hx⟩ : ∃ x, x = ls[k] := ⟨_, rfl⟩
      rw [← hx] at hc hst hx16
      replace hc : w.cell? ⟨g, o + k, none⟩ = some (.int .i64 (x : Int)) := hc
      have HST := Lib.hid hst
      have HS := Lib.hid hs
      have k1 : (k : Int) < (ls.length : Int) := by omega
      have k2 : (0 : Int) ≤ (k : Int) := by omega
      clear hst hx hs
      go_wp2_with fail
      go_round
      case rel => exact ⟨k + 1, s + x, by omega, by go_num, by go_num, by unfold sumN; rw [HST.out, HS.out]; rfl⟩
      case measure => simp [intOf]; omega
    · have hkk : k = ls.length := by omega
      have k1 : ¬ (k : Int) < (ls.length : Int) := by omega
      have HS := Lib.hid hs
      clear hs
      go_wp2_with fail
      go_ret
      exact ⟨by rw [HS.out, hkk, List.take_length]; rfl, rfl⟩
theorem alive_any {w : World} {b p : Nat} {l : LogS} (h : LogAt w b p l) : Calls Try.prog 18 #[ptr b] w fun e w' => e = .returned (errV l.dead) ∧ w = w' := by
  obtain ⟨A, cap, c0, c1, c2, c3, c4, c5, c6, hA⟩ := h.cellsAll
  go_enter Try.func18, Try.ntmps18
  go_wp2_with fail
  go_ret
  exact ⟨rfl, rfl⟩
theorem next_any {w : World} {b p : Nat} {l : LogS} (h : LogAt w b p l) : Calls Try.prog 20 #[ptr b] w fun e w' => e = .returned (.int .i64 ((l.seq + l.sizes.length : Nat) : Int)) ∧ Fr none_ w w' := by
  obtain ⟨A, cap, c0, c1, c2, c3, c4, c5, c6, hA⟩ := h.cellsAll
  have hm := h.most
  have d4 : w.drew.cell? ⟨b, 4, none⟩ = some (.int .i64 (l.seq : Int)) := c4
  have d5 : w.drew.cell? ⟨b, 5, none⟩ = some (.slice A l.sizes.length cap) := c5
  have hw : IntKind.i64.wrap ((l.seq : Int) + (l.sizes.length : Int)) = ((l.seq + l.sizes.length : Nat) : Int) := by rw [IntWalk.i64_in _ (by omega)]; omega
  have HW := Lib.hid hw
  clear hm hw
  go_enter Try.func20, Try.ntmps20
  go_wp2_with fail
  go_still (by kernel_rfl)
  go_wp2_with fail
  go_ret
  exact ⟨by rw [← HW.out]; rfl, (Fr.refl _ _).drew⟩
theorem free_any {w : World} {b p : Nat} {l : LogS} (h : LogAt w b p l) : Calls Try.prog 24 #[ptr b] w fun e w' => e = .returned (.int .i64 ((l.secs : Int) - (sumN l.sizes : Nat))) ∧ Fr none_ w w' := by
  obtain ⟨A, cap, c0, c1, c2, c3, c4, c5, c6, hA⟩ := h.cellsAll
  have hm := h.most
  have hsb := sumN_le l.sizes hm.2.2.2.2.2.2 0
  have hus := used_any (h.fr0 (Fr.refl none_ w).drew)
  obtain ⟨s, hs⟩ : ∃ s, s = sumN l.sizes := ⟨_, rfl⟩
  have hsb2 : s ≤ 16384 * 16384 := by rw [hs]; unfold sumN; omega
  rw [← hs] at hus ⊢
  have d2 : w.drew.cell? ⟨b, 2, none⟩ = some (.int .i64 (l.secs : Int)) := c2
  have hw : IntKind.i64.wrap ((l.secs : Int) - (s : Int)) = (l.secs : Int) - (s : Int) := by rw [IntWalk.i64_in _ (by omega)]
  have HW := Lib.hid hw
  have HUS := Lib.hid hus
  clear hm hw hus hs hsb
  go_enter Try.func24, Try.ntmps24
  go_wp2_with fail
  go_region_held3 (fun W => W.cell? ⟨b, 2, none⟩ = some (.int .i64 (l.secs : Int))) (exact d2) (first
    | (go_at_call 26; (with_reducible refine HUS.out.mono ?_); rintro e x1 ⟨rfl, hx1⟩; subst hx1))
  go_wp2_with fail
  go_ret
  refine ⟨?_, (Fr.refl _ _).drew⟩
  show Ending.returned (Value.int .i64 (IntKind.i64.wrap ((l.secs : Int) - (s : Int)))) = _
  rw [HW.out]
end Go.Proofs.Ythkcmafflbpfoaa

import Derived.Test.YtdkjmnhblepkaaaCold8
namespace Go.Proofs.Ytdkjmnhblepkaaa
open Go.RowKit
set_option linter.unusedVariables false
set_option linter.unusedSimpArgs false
set_option maxRecDepth 100000

/-! drydocklaw18.devices. -/
theorem own_typeC {w : World} {base n size : Nat} {e : TypeId} {v : Value} {xs : List Value} (h : w.ownsRow base e size v n xs) {b : Nat} (hb : v.ownBlock = some b) : ∃ c, w.heap[b]? = some (.cells c e (0, 0)) := by
  obtain ⟨_, h2⟩ := h
  rcases h2 with ⟨rfl, _⟩ | ⟨g, cap, cur, rfl, _, hg, _⟩
  · simp [Value.ownBlock] at hb
  · have : g = b := by simpa [Value.ownBlock] using hb
    subst this
    exact ⟨cur, hg⟩
theorem DevsAt.snoc {w : World} {ds : List (Nat × Nat × Nat)} {Ds : List DevS} (h : DevsAt w ds Ds) {p m1 m2 B : Nat} {D : DevS} (hD : DevAt w p m1 m2 D) (h1 : ∀ i (hi : i < ds.length) b, devBlks ds[i].1 ds[i].2.1 ds[i].2.2 b → b < B) (h2 : ∀ b, devBlks p m1 m2 b → B ≤ b) : DevsAt w (ds ++ [(p, m1, m2)]) (Ds ++ [D]) := by
  have hl := h.len
  refine ⟨by simp [hl], fun i k1 k2 => ?_, fun i j k1 k2 hij b hb hb2 => ?_⟩
  · by_cases e : i < ds.length
    · rw [List.getElem_append_left e, List.getElem_append_left (by omega)]
      exact h.at_ i e (by omega)
    · have e2 : i = ds.length := by rw [List.length_append, List.length_singleton] at k1; omega
      subst e2
      rw [List.getElem_append_right (by omega), List.getElem_append_right (by omega)]
      simp only [Nat.sub_self, hl, List.getElem_cons_zero]
      exact hD
  · rw [List.length_append, List.length_singleton] at k1 k2
    by_cases ei : i < ds.length
    · by_cases ej : j < ds.length
      · rw [List.getElem_append_left ei] at hb
        rw [List.getElem_append_left ej] at hb2
        exact h.apart i j ei ej hij b hb hb2
      · have e2 : j = ds.length := by omega
        subst e2
        rw [List.getElem_append_left ei] at hb
        rw [List.getElem_append_right (by omega)] at hb2
        simp only [Nat.sub_self, List.getElem_cons_zero] at hb2
        have := h1 i ei b hb
        have := h2 b hb2
        omega
    · have e1 : i = ds.length := by omega
      subst e1
      have ej : j < ds.length := by omega
      rw [List.getElem_append_right (by omega)] at hb
      simp only [Nat.sub_self, List.getElem_cons_zero] at hb
      rw [List.getElem_append_left ej] at hb2
      have := h1 j ej b hb2
      have := h2 b hb
      omega
/-- new devices, in blocks of their own -/
structure NewDs (w wr : World) (s n : Nat) (ds : List (Nat × Nat × Nat)) : Prop where
  len : ds.length = n
  at_ : DevsAt wr ds (List.replicate n (newD (s : Int)))
  ge : ∀ i (h : i < ds.length) b, devBlks ds[i].1 ds[i].2.1 ds[i].2.2 b → w.heap.size ≤ b
def DevicesP (w : World) (s n : Nat) (e : Ending) (w' : World) : Prop := ∃ A c ds, e = .returned (.slice A n c) ∧ NewDs w w' s n ds ∧ CellsAt w' A ((ds.map (·.1)).map ptr) ∧ (A = none → n = 0 ∧ c = 0) ∧ (∀ b, blkOf A b → ∃ c, w'.heap[b]? = some (.cells c 46 (0, 0))) ∧ Fr none_ w w'
set_option maxHeartbeats 4000000 in
theorem devices_any (n s : Nat) (hn : n ≤ 100) (hs : 1 ≤ s ∧ s ≤ 16384) (w : World) :
    Calls Try.prog 4 #[.int .i64 (n : Int), .int .i64 (s : Int)] w fun e w' => DevicesP w s n e w' := by
  go_enter Try.func4, Try.ntmps4
  go_wp2_with fail
  go_loopw [5, 6] (fun v i wr => ∃ (k : Nat) (ds : List (Nat × Nat × Nat)), k ≤ n ∧ i = .int .i64 k ∧ wr.ownsRow w.heap.size 46 1 v k ((ds.map (·.1)).map ptr) ∧ NewDs w wr s k ds ∧ Fr none_ w wr) (fun _ i _ => n - (intOf i).toNat)
  case atStart => exact ⟨0, [], by omega, rfl, World.ownsRow_nil _ _ _ _, ⟨rfl, ⟨rfl, fun i h => absurd h (by simp), fun i j h => absurd h (by simp)⟩, fun i h => absurd h (by simp)⟩, Fr.refl _ _⟩
  case round =>
    obtain ⟨k, ds, hk, rfl, ho, hN, hF⟩ := hrel
    by_cases hkn : k < n
    · have q1 : (k : Int) < (n : Int) := by omega
      have hsz := hF.size
      have HO := Lib.hid ho
      have HN := Lib.hid hN
      clear ho hN
      go_wp2_with fail
      (with_reducible refine (new_ok (s : Int) _ (by omega) (by omega)).mono ?_)
      rintro e w1 ⟨p, m1, m2, rfl, hF1, hD1, hn1⟩
      rw [errV_0]
      go_upto_region 8 with fail
      have hsz1 := hF1.size
      have hal := (Fr.refl none_ w1).alloc (.cells #[ptr p] 46)
      have howna := ownsRow_fr0 (ownsRow_fr0 HO.out hF1) hal
      have hFa := (hF.trans hF1).trans hal
      have HAZ := Lib.hid (CellsAt.one w1 (ptr p) 46)
      have HD := Lib.hid (And.intro hD1 (And.intro hn1 hF1))
      clear hD1 hn1
      go_wp2_with ((with_reducible refine at_append (.tmp 21) (.tmp 23) 23 w.heap.size 46 (.pointer none) 1 8 (n := k) (A := some ⟨w1.heap.size, 0, none⟩) (m := 1) (c := 1) (news := [ptr p]) Try.underlying23 info_pdev ?_ ?_ ?_ ?_ howna HAZ.out ?_ ?_ ?_ ?_ ?_ ?_ ?_); (focus rfl); (focus decide); (focus rfl); (focus rfl); (focus (intro h; cases h)); (focus rfl); (focus (intro u hu; rw [List.mem_singleton.1 hu]; rfl)); (focus (unfold maxLen; omega)); (focus omega); (focus (rw [World.size_alloc]; omega)); intro v' w4 hown4 hg4; have H4 := Lib.hid (And.intro hown4 hg4); clear hown4 hg4)
      have hNS : NewDs w w4 s (k + 1) (ds ++ [(p, m1, m2)]) := by
        obtain ⟨hD1, hn1, hF1⟩ := HD.out
        have hN := HN.out
        have hFg := Fr.of_grown H4.out.2
        have hdA := hN.at_.fr0 (hF1.trans hal)
        have hD2 := hD1.fr0 hal
        have hnot : ∀ {q a b : Nat} {D : DevS}, DevAt (w1.alloc (.cells #[ptr p] 46)) q a b D → ∀ y, devBlks q a b y → ¬ (_ : Option Nat) = some y := fun {q a b D} hdv y hy e => by
          obtain ⟨cc, hcc⟩ := own_typeC howna e
          exact dev_cellsC hdv hcc (by decide) hy
        have hA4 := hdA.fr hFg (fun i h1 y hy => hnot (hdA.at_ i h1 (by rw [← hdA.len]; exact h1)) y hy)
        have hD4 := hD2.fr hFg (fun y hy => hnot hD2 y hy)
        have hsn := hA4.snoc (B := wr.heap.size) hD4 (fun i h1 y hy => (hN.at_.at_ i h1 (by rw [← hN.at_.len]; exact h1)).lt y hy) hn1
        refine ⟨by rw [List.length_append, List.length_singleton, hN.len], by rw [List.replicate_succ']; exact hsn, fun i h1 y hy => ?_⟩
        by_cases e : i < ds.length
        · rw [List.getElem_append_left e] at hy
          exact hN.ge i e y hy
        · have e2 : i = ds.length := by rw [List.length_append, List.length_singleton] at h1; omega
          subst e2
          rw [List.getElem_append_right (by omega)] at hy
          simp only [Nat.sub_self, List.getElem_cons_zero] at hy
          have := hn1 y hy
          omega
      have HNS := Lib.hid hNS
      clear hNS
      go_roundw
      case rel => exact ⟨k + 1, ds ++ [(p, m1, m2)], by omega, by go_num, by rw [List.map_append, List.map_append]; exact H4.out.1, HNS.out, Fr.grown hFa H4.out.2 howna (Nat.le_refl _)⟩
      case measure => simp [intOf]; omega
    · have hk2 : k = n := by omega
      subst hk2
      obtain ⟨A9, c9, rfl, g1, g2, g3, g4⟩ := ownsRow_read ho
      have hty := fun b (hb : blkOf A9 b) => own_typeC ho (g4 b hb).2
      clear ho
      go_wp2_with fail
      go_ret
      exact ⟨A9, c9, ds, rfl, hN, g1, g3, hty, hF⟩
end Go.Proofs.Ytdkjmnhblepkaaa

import Derived.Test.YtniiokhkmdknaaaDoorTogRead
namespace Go.Proofs.YtniiokhkmdknaaaDoor
open Go.RowKit
set_option linter.unusedVariables false
set_option linter.unusedSimpArgs false

/-! toggle.Load -/
set_option maxHeartbeats 4000000 in
set_option maxRecDepth 100000 in
theorem tload_none {w : World} {p m1 m2 : Nat} {D : DevS} (h : DevAt w p m1 m2 D) (f s : Int) (hd : D.down = false) (hf : 0 ≤ f) (hs : 3 ≤ s ∧ s ≤ 16384) (hfs : f + s ≤ D.sectors) (hb : allZ (D.get f) 64 = true) :
    Calls Tryd.prog 10 #[ptr p, area f s] w fun e w' => e = .returned (.tuple #[.slice none 0 0, .int .u64 0, errV 8]) ∧ Fr none_ w w' := by
  have h2 := h.fr0 ((Fr.refl none_ w).alloc (.cells #[.int .i64 f, .int .i64 s] 30))
  go_enter Tryd.func10, Tryd.ntmps10
  go_wp2_with fail
  (with_reducible refine (tread_none h2 f s hd hf hs hfs hb).mono ?_)
  rintro e w1 ⟨rfl, hF1⟩
  rw [errV_n (by decide)]
  go_wp2_with fail
  go_ret3
  exact ⟨by rw [errV_n (by decide)]; rfl, (((Fr.refl none_ w).alloc _).trans hF1).alloc _⟩
def Loaded (w : World) (l : List UInt8) (n : Nat) (e : Ending) (w' : World) : Prop := ∃ A c, e = .returned (.tuple #[.slice A l.length c, .int .u64 (n : Nat), errV 0]) ∧ CellsAt w' A (l.map byteV) ∧ (A = none → l.length = 0 ∧ c = 0) ∧ (∀ b, blkOf A b → w.heap.size ≤ b) ∧ Fr none_ w w'
structure LdR (w2 wr : World) (D : DevS) (a : Int) (k : Nat) (v : Value) : Prop where
  own : wr.ownsRow w2.heap.size 5 1 v (k * 64) ((joined D a k).map byteV)
  fr : Fr none_ w2 wr
  nil : k = 0 → v = .slice none 0 0
set_option maxHeartbeats 4000000 in
set_option maxRecDepth 100000 in
theorem tload_ok {w : World} {p m1 m2 : Nat} {D : DevS} (h : DevAt w p m1 m2 D) (f s : Int) (hd : D.down = false) (hf : 0 ≤ f) (hs : 3 ≤ s ∧ s ≤ 16384) (hfs : f + s ≤ D.sectors) {n : Nat} {sec : Bool} {long : Nat} (hT : Tells (D.get f) ((s - 1) / 2 * 64) n sec long) :
    Calls Tryd.prog 10 #[ptr p, area f s] w fun e w' => Loaded w ((joined D (fromF sec f s) (cnt long)).take long) n e w' := by
  have hm := h.most
  have h2 := h.fr0 ((Fr.refl none_ w).alloc (.cells #[.int .i64 f, .int .i64 s] 30))
  have hlen := h.get_len
  have hmost := hT.most
  have hin : f + 1 ≤ fromF sec f s ∧ fromF sec f s + (s - 1) / 2 ≤ f + s := by unfold fromF; split <;> omega
  have hc := cnt_room hT.most
  go_enter Tryd.func10, Tryd.ntmps10
  go_wp2_with fail
  (with_reducible refine (tread_ok h2 f s hd hf hs hfs hT).mono ?_)
  rintro e w1 ⟨rfl, hF1⟩
  rw [errV_0]
  have ha1 := heap_alloc_old (hF1.heap0 (heap_alloc_new w (.cells #[.int .i64 f, .int .i64 s] 30))) (.cells #[.int .u64 (n : Nat), .bool sec, .int .i64 (long : Nat)] 59)
  have c0 : (w1.alloc (.cells #[.int .u64 (n : Nat), .bool sec, .int .i64 (long : Nat)] 59)).cell? ⟨w.heap.size, 0, none⟩ = some (.int .i64 f) := by rw [cell_of_blk ha1]; rfl
  have c1 : (w1.alloc (.cells #[.int .u64 (n : Nat), .bool sec, .int .i64 (long : Nat)] 59)).cell? ⟨w.heap.size, 1, none⟩ = some (.int .i64 s) := by rw [cell_of_blk ha1]; rfl
  go_wp2_with fail
  (with_reducible refine (from_any n sec long f s _ hs ⟨hf, by omega⟩).mono ?_)
  rintro e w2 ⟨rfl, hF2⟩
  have hb1 := hF2.heap0 (heap_alloc_new w1 (.cells #[.int .u64 (n : Nat), .bool sec, .int .i64 (long : Nat)] 59))
  obtain ⟨q, hq⟩ : ∃ q, q = w1.heap.size := ⟨_, rfl⟩
  rw [← hq] at hb1 ⊢
  clear hq
  have hF3 : Fr none_ w w2 := ((((Fr.refl none_ w).alloc _).trans hF1).alloc _).trans hF2
  have hD2 := h.fr0 hF3
  obtain ⟨a, ha⟩ : ∃ a, a = fromF sec f s := ⟨_, rfl⟩
  rw [← ha] at hin ⊢
  have HA := Lib.hid ha
  clear hF1 hF2 c0 c1 ha1 h2 ha hT
  have d0 : w2.cell? ⟨q, 0, none⟩ = some (.int .u64 (n : Nat)) := by rw [cell_of_blk hb1]; rfl
  have d2 : w2.cell? ⟨q, 2, none⟩ = some (.int .i64 (long : Nat)) := by rw [cell_of_blk hb1]; rfl
  go_wp2_with fail
  go_loopw [9, 10] (fun v i wr => ∃ k : Nat, k ≤ cnt long ∧ i = .int .i64 (a + k) ∧ LdR w2 wr D a k v) (fun _ i _ => cnt long - (intOf i - a).toNat)
  case atStart => exact ⟨0, by omega, by simp, ⟨by simpa [joined] using World.ownsRow_nil _ _ _ _, Fr.refl _ _, fun _ => rfl⟩⟩
  case round =>
    obtain ⟨k, hk, rfl, hR⟩ := hrel
    obtain ⟨A, c, rfl, hA, hkc, hnil, hblk⟩ := ownsRow_read hR.own
    have d0 := hR.fr.cell0 d0
    have d2 := hR.fr.cell0 d2
    by_cases hlt : k * 64 < long
    · have hlt2 : ((k * 64 : Nat) : Int) < (long : Int) := by omega
      have hkl : k < cnt long := by unfold cnt; omega
      have hE := atE_up hd (s := a + k) (by omega) (by omega)
      go_wp2_with fail
      (with_reducible refine (read_ok (hD2.fr0 hR.fr) (a + k) hE).mono ?_)
      rintro e w3 ⟨g, rfl, hg, hF4, hb4⟩
      rw [errV_0]
      have ho := ownsRow_fr0 hR.own hF4
      have hA4 : CellsAt w3 (some ⟨g, 0, none⟩) ((D.get (a + k)).map byteV) := CellsAt.whole hb4
      have hl4 := hlen (a + k)
      have hsz := hR.fr.size
      have hsz2 := hF4.size
      go_wp2_with ((with_reducible refine at_append (.tmp 41) (.tmp 42) 32 w2.heap.size 5 (.int .u8 0) 1 1 (n := k * 64) (xs := (joined D a k).map byteV) (A := some ⟨g, 0, none⟩) (m := 64) (c := 64) (news := (D.get (a + k)).map byteV) Tryd.underlying32 info_u8 ?_ ?_ ?_ ?_ ho hA4 ?_ ?_ ?_ ?_ ?_ ?_ ?_); (focus rfl); (focus decide); (focus rfl); (focus rfl); (focus (intro h; cases h)); (focus simp [hl4]); (focus exact bytes_oneCell _); (focus unfold maxLen; omega); (focus omega); (focus omega); intro v' w4 hown4 hg4)
      go_roundw
      case rel =>
        refine ⟨k + 1, by omega, by go_num, ⟨?_, Fr.grown (hR.fr.trans hF4) hg4 ho (Nat.le_refl _), by omega⟩⟩
        rw [joined_succ, List.map_append, show (k + 1) * 64 = k * 64 + 64 by omega]
        exact hown4
      case measure => simp [intOf]; omega
    · have hlt2 : ¬ ((k * 64 : Nat) : Int) < (long : Int) := by omega
      have hkl : k = cnt long := by unfold cnt at hk ⊢; omega
      by_cases h0 : long = 0
      · subst h0
        have hk0 : k = 0 := by rw [hkl]; rfl
        subst hk0
        have hv := hR.nil rfl
        cases hv
        have hFr := hR.fr
        clear hkl hk hlt2 hR hA hkc hnil hblk hc hmost
        have d2 : wr.cell? ⟨q, 2, none⟩ = some (.int .i64 0) := d2
        go_wp2_with fail
        go_still (by kernel_rfl)
        go_wp2_with fail
        go_ret3
        exact ⟨none, 0, rfl, CellsAt.nil _ _, fun _ => ⟨rfl, rfl⟩, fun b hb => absurd hb (blkOf_none b), (hF3.trans hFr).drew⟩
      · obtain ⟨ba, oa, rfl⟩ := hA.addr (by rw [List.length_map, joined_len D a hlen]; omega)
        have hlc : (long : Int) ≤ (c : Int) := by omega
        have hjl := joined_len D a hlen k
        have hcut : CellsAt wr.drew (some ⟨ba, oa, none⟩) (((joined D a k).take long).map byteV) := by
          have h8 := hA.drew.sub 0 long (by rw [List.length_map, hjl]; omega)
          rw [List.drop_zero, ← List.map_take] at h8
          exact h8
        have hll : ((joined D a k).take long).length = long := by rw [List.length_take, hjl]; omega
        have hw2 := hF3.size
        go_wp2_with fail
        go_still (by kernel_rfl)
        go_wp2_with fail
        go_ret3
        rw [← HA.out, ← hkl]
        refine ⟨some ⟨ba, oa, none⟩, long, ?_, hcut, (fun h => by cases h), fun b hb => ?_, (hF3.trans hR.fr).drew⟩
        · rw [hll]; rfl
        · have := (hblk b hb).1
          omega
end Go.Proofs.YtniiokhkmdknaaaDoor

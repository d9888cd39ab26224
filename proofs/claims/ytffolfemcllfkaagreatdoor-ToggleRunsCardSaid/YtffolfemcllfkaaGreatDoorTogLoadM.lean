import Derived.Test.YtffolfemcllfkaaGreatDoorTogReadM
namespace Go.Proofs.YtffolfemcllfkaaGreatDoor
open Go.RowKit
set_option linter.unusedVariables false
set_option linter.unusedSimpArgs false

/-! toggle.Load -/
set_option maxHeartbeats 4000000 in
set_option maxRecDepth 100000 in
theorem tload_none {w : World} {p m1 m2 : Nat} {D : DevS} (h : DevAt w p m1 m2 D) (f s : Int) (hd : D.down = false) (hf : 0 ≤ f) (hs : 3 ≤ s ∧ s ≤ 16384) (hfs : f + s ≤ D.sectors) (hb : allZ (D.get f) 64 = true) :
    Calls Tryz.prog 20 #[ptr p, area f s] w fun e w' => e = .returned (.tuple #[.slice none 0 0, .int .u64 0, errV 8]) ∧ Fr none_ w w' := by
  have h2 := h.fr0 ((Fr.refl none_ w).alloc (.cells #[.int .i64 f, .int .i64 s] 36))
  go_enter Tryz.func20, Tryz.ntmps20
  go_wp2_with fail
  (with_reducible refine (tread_none h2 f s hd hf hs hfs hb).mono ?_)
  rintro e w1 ⟨rfl, hF1⟩
  rw [errV_n (by decide)]
  go_wp2_with fail
  go_ret3
  exact ⟨by rw [errV_n (by decide)]; rfl, (((Fr.refl none_ w).alloc _).trans hF1).alloc _⟩
def Loaded (w : World) (l : List UInt8) (n : Nat) (e : Ending) (w' : World) : Prop := ∃ A c, e = .returned (.tuple #[.slice A l.length c, .int .u64 (n : Nat), errV 0]) ∧ CellsAt w' A (l.map byteV) ∧ (A = none → l.length = 0 ∧ c = 0) ∧ (∀ b, blkOf A b → w.heap.size ≤ b) ∧ Fr none_ w w'
structure LdR (w2 wr : World) (D : DevS) (a : Int) (k : Nat) (v : Value) : Prop where
  own : wr.ownsRow w2.heap.size 5 1 v (k * 64) ((joined D a k).map byteV)
  fr : Fr none_ w2 wr
  nil : k = 0 → v = .slice none 0 0
set_option maxHeartbeats 4000000 in
set_option maxRecDepth 100000 in
theorem tload_ok {w : World} {p m1 m2 : Nat} {D : DevS} (h : DevAt w p m1 m2 D) (f s : Int) (hd : D.down = false) (hf : 0 ≤ f) (hs : 3 ≤ s ∧ s ≤ 16384) (hfs : f + s ≤ D.sectors) {n : Nat} {sec : Bool} {long : Nat} (hT : Tells (D.get f) ((s - 1) / 2 * 64) n sec long) :
    Calls Tryz.prog 20 #[ptr p, area f s] w fun e w' => Loaded w ((joined D (fromF sec f s) (cnt long)).take long) n e w' := by
  have hm := h.most
  have h2 := h.fr0 ((Fr.refl none_ w).alloc (.cells #[.int .i64 f, .int .i64 s] 36))
  have hlen := h.get_len
  have hmost := hT.most
  have hin : f + 1 ≤ fromF sec f s ∧ fromF sec f s + (s - 1) / 2 ≤ f + s := by unfold fromF; split <;> omega
  have hc := cnt_room hT.most
  go_enter Tryz.func20, Tryz.ntmps20
  go_wp2_with fail
  (with_reducible refine (tread_ok h2 f s hd hf hs hfs hT).mono ?_)
  rintro e w1 ⟨rfl, hF1⟩
  rw [errV_0]
  have ha1 := heap_alloc_old (hF1.heap0 (heap_alloc_new w (.cells #[.int .i64 f, .int .i64 s] 36))) (.cells #[.int .u64 (n : Nat), .bool sec, .int .i64 (long : Nat)] 117)
  have c0 : (w1.alloc (.cells #[.int .u64 (n : Nat), .bool sec, .int .i64 (long : Nat)] 117)).cell? ⟨w.heap.size, 0, none⟩ = some (.int .i64 f) := by rw [cell_of_blk ha1]; rfl
  have c1 : (w1.alloc (.cells #[.int .u64 (n : Nat), .bool sec, .int .i64 (long : Nat)] 117)).cell? ⟨w.heap.size, 1, none⟩ = some (.int .i64 s) := by rw [cell_of_blk ha1]; rfl
  go_wp2_with fail
  (with_reducible refine (from_any n sec long f s _ hs ⟨hf, by omega⟩).mono ?_)
  rintro e w2 ⟨rfl, hF2⟩
  have hb1 := hF2.heap0 (heap_alloc_new w1 (.cells #[.int .u64 (n : Nat), .bool sec, .int .i64 (long : Nat)] 117))
  obtain ⟨q, hq⟩ : ∃ q, q = w1.heap.size := ⟨_, rfl⟩
  rw [← hq] at hb1 ⊢
  clear hq
  have hF3 : Fr none_ w w2 := ((((Fr.refl none_ w).alloc _).trans hF1).alloc _).trans hF2
  have hD2 := h.fr0 hF3
  obtain ⟨a, ha⟩ : ∃ a, a = fromF sec f s := ⟨_, rfl⟩
  rw [← ha] at hin ⊢
  have HA := Lib.hid ha
  clear hF1 hF2 c0 c1 ha1 h2 ha hT
  have d0 : w2.cell? ⟨q, 0, none⟩ = some (.int .u64 (n : Nat)) := by rw [cell_of_blk hb1]; rfl
  have d2 : w2.cell? ⟨q, 2, none⟩ = some (.int .i64 (long : Nat)) := by rw [cell_of_blk hb1]; rfl
  go_wp2_with fail
  go_loopw [9, 10] (fun v i wr => ∃ k : Nat, k ≤ cnt long ∧ i = .int .i64 (a + k) ∧ LdR w2 wr D a k v) (fun _ i _ => cnt long - (intOf i - a).toNat)
  case atStart => exact ⟨0, by omega, by simp, ⟨by simpa [joined] using World.ownsRow_nil _ _ _ _, Fr.refl _ _, fun _ => rfl⟩⟩
  case round =>
    obtain ⟨k, hk, rfl, hR⟩ := hrel
    obtain ⟨A, c, rfl, hA, hkc, hnil, hblk⟩ := ownsRow_read hR.own
    have d0 := hR.fr.cell0 d0
    have d2 := hR.fr.cell0 d2
    by_cases hlt : k * 64 < long
    · have hlt2 : ((k * 64 : Nat) : Int) < (long : Int) := by omega
      have hkl : k < cnt long := by unfold cnt; omega
      have hE := atE_up hd (s := a + k) (by omega) (by omega)
      go_wp2_with fail
      (with_reducible refine (read_ok (hD2.fr0 hR.fr) (a + k) hE).mono ?_)
      rintro e w3 ⟨g, rfl, hg, hF4, hb4⟩
      rw [errV_0]
      have ho := ownsRow_fr0 hR.own hF4
      have hA4 : CellsAt w3 (some ⟨g, 0, none⟩) ((D.get (a + k)).map byteV) := CellsAt.whole hb4
      have hl4 := hlen (a + k)
      have hsz := hR.fr.size
      have hsz2 := hF4.size
      go_wp2_with ((with_reducible refine at_append (.tmp 41) (.tmp 42) 37 w2.heap.size 5 (.int .u8 0) 1 1 (n := k * 64) (xs := (joined D a k).map byteV) (A := some ⟨g, 0, none⟩) (m := 64) (c := 64) (news := (D.get (a + k)).map byteV) Tryz.underlying37 info_u8 ?_ ?_ ?_ ?_ ho hA4 ?_ ?_ ?_ ?_ ?_ ?_ ?_); (focus rfl); (focus decide); (focus rfl); (focus rfl); (focus (intro h; cases h)); (focus simp [hl4]); (focus exact bytes_oneCell _); (focus unfold maxLen; omega); (focus omega); (focus omega); intro v' w4 hown4 hg4)
      go_roundw
      case rel =>
        refine ⟨k + 1, by omega, by go_num, ⟨?_, Fr.grown (hR.fr.trans hF4) hg4 ho (Nat.le_refl _), by omega⟩⟩
        rw [joined_succ, List.map_append, show (k + 1) * 64 = k * 64 + 64 by omega]
        exact hown4
      case measure => simp [intOf]; omega
    · have hlt2 : ¬ ((k * 64 : Nat) : Int) < (long : Int) := by omega
      have hkl : k = cnt long := by unfold cnt at hk ⊢; omega
      by_cases h0 : long = 0
      · subst h0
        have hk0 : k = 0 := by rw [hkl]; rfl
        subst hk0
        have hv := hR.nil rfl
        cases hv
        have hFr := hR.fr
        clear hkl hk hlt2 hR hA hkc hnil hblk hc hmost
        have d2 : wr.cell? ⟨q, 2, none⟩ = some (.int .i64 0) := d2
        go_wp2_with fail
        go_still (by kernel_rfl)
        go_wp2_with fail
        go_ret3
        exact ⟨none, 0, rfl, CellsAt.nil _ _, fun _ => ⟨rfl, rfl⟩, fun b hb => absurd hb (blkOf_none b), (hF3.trans hFr).drew⟩
      · obtain ⟨ba, oa, rfl⟩ := hA.addr (by rw [List.length_map, joined_len D a hlen]; omega)
        have hlc : (long : Int) ≤ (c : Int) := by omega
        have hjl := joined_len D a hlen k
        have hcut : CellsAt wr.drew (some ⟨ba, oa, none⟩) (((joined D a k).take long).map byteV) := by
          have h8 := hA.drew.sub 0 long (by rw [List.length_map, hjl]; omega)
          rw [List.drop_zero, ← List.map_take] at h8
          exact h8
        have hll : ((joined D a k).take long).length = long := by rw [List.length_take, hjl]; omega
        have hw2 := hF3.size
        go_wp2_with fail
        go_still (by kernel_rfl)
        go_wp2_with fail
        go_ret3
        rw [← HA.out, ← hkl]
        refine ⟨some ⟨ba, oa, none⟩, long, ?_, hcut, (fun h => by cases h), fun b hb => ?_, (hF3.trans hR.fr).drew⟩
        · rw [hll]; rfl
        · have := (hblk b hb).1
          omega
end Go.Proofs.YtffolfemcllfkaaGreatDoor
namespace Go.Proofs.YtffolfemcllfkaaGreatDoor
open Go.RowKit
set_option linter.unusedVariables false
set_option linter.unusedSimpArgs false

/-! toggle.Load: any case -/
set_option maxHeartbeats 4000000 in
set_option maxRecDepth 100000 in
theorem tload_hrd {w : World} {p m1 m2 : Nat} {D : DevS} (h : DevAt w p m1 m2 D) (f s : Int) (hd : D.down = false) (hf : 0 ≤ f) (hs : 3 ≤ s ∧ s ≤ 16384) (hfs : f + s ≤ D.sectors) {n : Nat} {sec : Bool} {long : Nat} (hmost : (long : Int) ≤ (s - 1) / 2 * 64) (hrd : ∀ w', DevAt w' p m1 m2 D → Calls Tryz.prog 53 #[area f s, ptr p] w' fun e w'' => e = .returned (.tuple #[tellerV n sec long, errV 0]) ∧ Fr none_ w' w'') :
    Calls Tryz.prog 20 #[ptr p, area f s] w fun e w' => Loaded w ((joined D (fromF sec f s) (cnt long)).take long) n e w' := by
  have hm := h.most
  have h2 := h.fr0 ((Fr.refl none_ w).alloc (.cells #[.int .i64 f, .int .i64 s] 36))
  have hlen := h.get_len
  have hin : f + 1 ≤ fromF sec f s ∧ fromF sec f s + (s - 1) / 2 ≤ f + s := by unfold fromF; split <;> omega
  have hc := cnt_room hmost
  go_enter Tryz.func20, Tryz.ntmps20
  go_wp2_with fail
  (with_reducible refine (hrd _ h2).mono ?_)
  rintro e w1 ⟨rfl, hF1⟩
  rw [errV_0]
  have ha1 := heap_alloc_old (hF1.heap0 (heap_alloc_new w (.cells #[.int .i64 f, .int .i64 s] 36))) (.cells #[.int .u64 (n : Nat), .bool sec, .int .i64 (long : Nat)] 117)
  have c0 : (w1.alloc (.cells #[.int .u64 (n : Nat), .bool sec, .int .i64 (long : Nat)] 117)).cell? ⟨w.heap.size, 0, none⟩ = some (.int .i64 f) := by rw [cell_of_blk ha1]; rfl
  have c1 : (w1.alloc (.cells #[.int .u64 (n : Nat), .bool sec, .int .i64 (long : Nat)] 117)).cell? ⟨w.heap.size, 1, none⟩ = some (.int .i64 s) := by rw [cell_of_blk ha1]; rfl
  go_wp2_with fail
  (with_reducible refine (from_any n sec long f s _ hs ⟨hf, by omega⟩).mono ?_)
  rintro e w2 ⟨rfl, hF2⟩
  have hb1 := hF2.heap0 (heap_alloc_new w1 (.cells #[.int .u64 (n : Nat), .bool sec, .int .i64 (long : Nat)] 117))
  obtain ⟨q, hq⟩ : ∃ q, q = w1.heap.size := ⟨_, rfl⟩
  rw [← hq] at hb1 ⊢
  clear hq
  have hF3 : Fr none_ w w2 := ((((Fr.refl none_ w).alloc _).trans hF1).alloc _).trans hF2
  have hD2 := h.fr0 hF3
  obtain ⟨a, ha⟩ : ∃ a, a = fromF sec f s := ⟨_, rfl⟩
  rw [← ha] at hin ⊢
  have HA := Lib.hid ha
  clear hF1 hF2 c0 c1 ha1 h2 ha hrd
  have d0 : w2.cell? ⟨q, 0, none⟩ = some (.int .u64 (n : Nat)) := by rw [cell_of_blk hb1]; rfl
  have d2 : w2.cell? ⟨q, 2, none⟩ = some (.int .i64 (long : Nat)) := by rw [cell_of_blk hb1]; rfl
  go_wp2_with fail
  go_loopw [9, 10] (fun v i wr => ∃ k : Nat, k ≤ cnt long ∧ i = .int .i64 (a + k) ∧ LdR w2 wr D a k v) (fun _ i _ => cnt long - (intOf i - a).toNat)
  case atStart => exact ⟨0, by omega, by simp, ⟨by simpa [joined] using World.ownsRow_nil _ _ _ _, Fr.refl _ _, fun _ => rfl⟩⟩
  case round =>
    obtain ⟨k, hk, rfl, hR⟩ := hrel
    obtain ⟨A, c, rfl, hA, hkc, hnil, hblk⟩ := ownsRow_read hR.own
    have d0 := hR.fr.cell0 d0
    have d2 := hR.fr.cell0 d2
    by_cases hlt : k * 64 < long
    · have hlt2 : ((k * 64 : Nat) : Int) < (long : Int) := by omega
      have hkl : k < cnt long := by unfold cnt; omega
      have hE := atE_up hd (s := a + k) (by omega) (by omega)
      go_wp2_with fail
      (with_reducible refine (read_ok (hD2.fr0 hR.fr) (a + k) hE).mono ?_)
      rintro e w3 ⟨g, rfl, hg, hF4, hb4⟩
      rw [errV_0]
      have ho := ownsRow_fr0 hR.own hF4
      have hA4 : CellsAt w3 (some ⟨g, 0, none⟩) ((D.get (a + k)).map byteV) := CellsAt.whole hb4
      have hl4 := hlen (a + k)
      have hsz := hR.fr.size
      have hsz2 := hF4.size
      go_wp2_with ((with_reducible refine at_append (.tmp 41) (.tmp 42) 37 w2.heap.size 5 (.int .u8 0) 1 1 (n := k * 64) (xs := (joined D a k).map byteV) (A := some ⟨g, 0, none⟩) (m := 64) (c := 64) (news := (D.get (a + k)).map byteV) Tryz.underlying37 info_u8 ?_ ?_ ?_ ?_ ho hA4 ?_ ?_ ?_ ?_ ?_ ?_ ?_); (focus rfl); (focus decide); (focus rfl); (focus rfl); (focus (intro h; cases h)); (focus simp [hl4]); (focus exact bytes_oneCell _); (focus unfold maxLen; omega); (focus omega); (focus omega); intro v' w4 hown4 hg4)
      go_roundw
      case rel =>
        refine ⟨k + 1, by omega, by go_num, ⟨?_, Fr.grown (hR.fr.trans hF4) hg4 ho (Nat.le_refl _), by omega⟩⟩
        rw [joined_succ, List.map_append, show (k + 1) * 64 = k * 64 + 64 by omega]
        exact hown4
      case measure => simp [intOf]; omega
    · have hlt2 : ¬ ((k * 64 : Nat) : Int) < (long : Int) := by omega
      have hkl : k = cnt long := by unfold cnt at hk ⊢; omega
      by_cases h0 : long = 0
      · subst h0
        have hk0 : k = 0 := by rw [hkl]; rfl
        subst hk0
        have hv := hR.nil rfl
        cases hv
        have hFr := hR.fr
        clear hkl hk hlt2 hR hA hkc hnil hblk hc hmost
        have d2 : wr.cell? ⟨q, 2, none⟩ = some (.int .i64 0) := d2
        go_wp2_with fail
        go_still (by kernel_rfl)
        go_wp2_with fail
        go_ret3
        exact ⟨none, 0, rfl, CellsAt.nil _ _, fun _ => ⟨rfl, rfl⟩, fun b hb => absurd hb (blkOf_none b), (hF3.trans hFr).drew⟩
      · obtain ⟨ba, oa, rfl⟩ := hA.addr (by rw [List.length_map, joined_len D a hlen]; omega)
        have hlc : (long : Int) ≤ (c : Int) := by omega
        have hjl := joined_len D a hlen k
        have hcut : CellsAt wr.drew (some ⟨ba, oa, none⟩) (((joined D a k).take long).map byteV) := by
          have h8 := hA.drew.sub 0 long (by rw [List.length_map, hjl]; omega)
          rw [List.drop_zero, ← List.map_take] at h8
          exact h8
        have hll : ((joined D a k).take long).length = long := by rw [List.length_take, hjl]; omega
        have hw2 := hF3.size
        go_wp2_with fail
        go_still (by kernel_rfl)
        go_wp2_with fail
        go_ret3
        rw [← HA.out, ← hkl]
        refine ⟨some ⟨ba, oa, none⟩, long, ?_, hcut, (fun h => by cases h), fun b hb => ?_, (hF3.trans hR.fr).drew⟩
        · rw [hll]; rfl
        · have := (hblk b hb).1
          omega
/-- what Load tells -/
def loadT (D : DevS) (f s : Int) : List UInt8 := if (lookD D f s).err ≠ 0 then [] else (joined D (fromF (lookD D f s).sec f s) (cnt (lookD D f s).long)).take (lookD D f s).long
structure LoadP (w : World) (D : DevS) (f s : Int) (e : Ending) (w' : World) : Prop where
  ret : ∃ A c, e = .returned (.tuple #[.slice A (loadT D f s).length c, .int .u64 ((lookD D f s).n : Nat), errV (lookD D f s).err]) ∧ CellsAt w' A ((loadT D f s).map byteV) ∧ (A = none → (loadT D f s).length = 0 ∧ c = 0)
  fr : Fr none_ w w'
set_option maxRecDepth 100000 in
theorem tload_err {w : World} {p m1 m2 : Nat} {D : DevS} (h : DevAt w p m1 m2 D) (f s : Int) (E : Int) (hE : E ≠ 0) (hrd : ∀ w', DevAt w' p m1 m2 D → Calls Tryz.prog 53 #[area f s, ptr p] w' fun e w'' => e = .returned (.tuple #[tellerV 0 false 0, errV E]) ∧ Fr none_ w' w'') :
    Calls Tryz.prog 20 #[ptr p, area f s] w fun e w' => e = .returned (.tuple #[.slice none 0 0, .int .u64 0, errV E]) ∧ Fr none_ w w' := by
  have h2 := h.fr0 ((Fr.refl none_ w).alloc (.cells #[.int .i64 f, .int .i64 s] 36))
  have HR := Lib.hid (hrd _ h2)
  clear hrd
  go_enter Tryz.func20, Tryz.ntmps20
  go_wp2_with fail
  (with_reducible refine HR.out.mono ?_)
  rintro e w1 ⟨rfl, hF1⟩
  rw [errV_n hE]
  go_wp2_with fail
  go_ret3
  exact ⟨by rw [errV_n hE]; rfl, (((Fr.refl none_ w).alloc _).trans hF1).alloc _⟩
theorem lookD_bad {D : DevS} {f s : Int} (h : (lookD D f s).err ≠ 0) : lookD D f s = ⟨0, false, 0, (lookD D f s).err⟩ := by
  unfold lookD at h ⊢
  split
  · rfl
  · split
    · rfl
    · rename_i h1 h2
      rw [if_neg h1, if_neg h2] at h
      unfold tellF at h ⊢
      split
      · rfl
      · split
        · rfl
        · rename_i h3 h4
          rw [if_neg h3, if_neg h4] at h
          exact absurd rfl h
theorem lookD_ok {D : DevS} {f s : Int} (hm : D.sectors ≤ 16384) (h : (lookD D f s).err = 0) : D.down = false ∧ 0 ≤ f ∧ (3 ≤ s ∧ s ≤ 16384) ∧ f + s ≤ D.sectors ∧ (lookD D f s).n ≤ 18446744073709551614 ∧ ((lookD D f s).long : Int) ≤ (s - 1) / 2 * 64 := by
  unfold lookD at h ⊢
  split at h
  · cases h
  · rename_i h1
    split at h
    · rename_i h2; exact absurd h h2
    · rename_i h2
      rw [if_neg h1, if_neg h2]
      have hd : D.down = false := by
        unfold DevS.atE at h2
        cases hx : D.down
        · rfl
        · rw [hx, if_pos rfl] at h2; exact absurd (by decide) h2
      have hf : 0 ≤ f := by omega
      have hs : 3 ≤ s := by omega
      have hfs : f + s ≤ D.sectors := by omega
      have hr : roomF s = (s - 1) / 2 * 64 := by unfold roomF; rw [if_neg (by omega)]
      refine ⟨hd, hf, ⟨hs, by omega⟩, hfs, ?_, ?_⟩
      · unfold tellF
        split
        · exact Nat.zero_le _
        · split
          · exact Nat.zero_le _
          · exact uintN_le' (D.get f) 0 18446744073709551614
      · have h0 : 0 ≤ (s - 1) / 2 * 64 := by omega
        unfold tellF
        split
        · exact h0
        · split
          · exact h0
          · have := uintN_le' (tL2 (D.get f)) (tE2 (D.get f)) (roomF s).toNat
            show ((uintN (tL2 (D.get f)) (tE2 (D.get f)) (roomF s).toNat : Nat) : Int) ≤ _
            omega
theorem tload_all {w : World} {p m1 m2 : Nat} {D : DevS} (h : DevAt w p m1 m2 D) (f s : Int) :
    Calls Tryz.prog 20 #[ptr p, area f s] w fun e w' => LoadP w D f s e w' := by
  have hm := h.most
  by_cases he : (lookD D f s).err = 0
  · obtain ⟨hd, hf, hs, hfs, hn, hl⟩ := lookD_ok hm.2 he
    have hT : loadT D f s = (joined D (fromF (lookD D f s).sec f s) (cnt (lookD D f s).long)).take (lookD D f s).long := by unfold loadT; rw [if_neg (by rw [he]; simp)]
    refine (tload_hrd h f s hd hf hs hfs (n := (lookD D f s).n) (sec := (lookD D f s).sec) hl (fun w' h' => (tread_any h' f s).mono (fun e w'' ⟨h1, h2⟩ => ⟨by rw [h1, he] <;> rfl, h2⟩))).mono ?_
    rintro e w' ⟨A, c, h1, h2, h3, h4, h5⟩
    rw [← hT] at h1 h2 h3
    exact ⟨⟨A, c, by rw [h1, he], h2, h3⟩, h5⟩
  · have hb := lookD_bad he
    have hT : loadT D f s = [] := by unfold loadT; rw [if_pos he]
    refine (tload_err h f s (lookD D f s).err he (fun w' h' => (tread_any h' f s).mono (fun e w'' ⟨h1, h2⟩ => ⟨by rw [h1, hb] <;> rfl, h2⟩))).mono ?_
    rintro e w' ⟨h1, h2⟩
    refine ⟨⟨none, 0, ?_, by rw [hT]; exact CellsAt.nil _ _, fun _ => by rw [hT]; exact ⟨rfl, rfl⟩⟩, h2⟩
    rw [h1, hT, hb]
    rfl
end Go.Proofs.YtffolfemcllfkaaGreatDoor

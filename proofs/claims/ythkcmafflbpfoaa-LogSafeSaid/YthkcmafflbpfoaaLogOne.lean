import Derived.Test.YthkcmafflbpfoaaLogP
import Derived.Deep.DeepCutAuto
import Derived.Deep.CutBlock
namespace Go.Proofs.Ythkcmafflbpfoaa
open Go.RowKit
set_option linter.unusedVariables false
set_option linter.unusedSimpArgs false
set_option maxRecDepth 100000

/-! log: one, whatever bytes there are. -/
theorem uintN_le (B : List UInt8) : uintN B 0 1099511627776 ≤ 1099511627776 := by
  unfold uintN boundN
  rw [if_pos rfl]
  split
  · rename_i h
    unfold boundE at h
    split at h
    · omega
    · split at h
      · omega
      · omega
  · omega
theorem boundL_len (l : List UInt8) (m : Nat) (a b : Int) : (boundL l m a b).length ≤ l.length := by
  unfold boundL; split
  · rw [List.length_drop]; omega
  · omega
theorem oneL_len (B : List UInt8) : (oneL B).length ≤ B.length := by
  unfold oneL uintL; rw [if_pos rfl]; exact boundL_len _ _ _ _
theorem bytL_len (l : List UInt8) (e : Int) : (bytL l e).length ≤ l.length := by
  unfold bytL; split
  · rw [List.length_drop]; have := boundL_len l 65536 2 12; omega
  · omega
theorem wsub_n (a b x : Nat) (h : x = a - b) (hb : b ≤ a) (ha : a ≤ 1048576) : wrap64 ((a : Int) - (b : Int)) = (x : Int) := by rw [show (a : Int) - (b : Int) = (x : Int) by omega, IntWalk.wrap64_in _ (by omega)]
theorem wadd4_n (a x : Nat) (h : x = a + 4) (ha : a ≤ 1048576) : wrap64 ((a : Int) + 4) = (x : Int) := by rw [show (a : Int) + 4 = (x : Int) by omega, IntWalk.wrap64_in _ (by omega)]
theorem wrapN0 (N0 : Nat) (h : N0 ≤ 1099511627776) : IntKind.i64.wrap (N0 : Int) = (N0 : Int) := by rw [IntWalk.i64_in _ (by omega)]
structure OnR (V wr : World) (l : List UInt8) (seq k : Nat) (a b : Value) : Prop where
  rest : ∃ A c, a = .slice A (l.length - k * 64) c ∧ CellsAt V A ((l.drop (k * 64)).map byteV) ∧ l.length - k * 64 ≤ c ∧ (A = none → l.length - k * 64 = 0 ∧ c = 0)
  own : wr.ownsRow V.heap.size 5 1 b (k * 56) ((preB l k).map byteV)
  fr : Fr none_ V wr
def lenS : Value → Nat | .slice _ n _ => n | _ => 0
structure OneRes (w : World) (o : Option (List UInt8 × Nat)) (seq : Nat) (e : Ending) (w' : World) : Prop where
  no : o = none → e = .returned (.tuple #[.agg #[.int .i64 0, .slice none 0 0], .int .i64 0])
  yes : ∀ d n, o = some (d, n) → ∃ v, e = .returned (.tuple #[.agg #[.int .i64 (seq : Int), v], .int .i64 (n : Int)]) ∧ w'.ownsRow w.heap.size 5 1 v d.length (d.map byteV)
  fr : Fr none_ w w'
theorem oneF_no {B : List UInt8} {seq : Nat} (h : ¬ oneOk B seq) : oneF B seq = none := by unfold oneF; rw [if_neg h]
theorem oneF_yes {B : List UInt8} {seq : Nat} (h : oneOk B seq) : oneF B seq = some (oneD B, secN (oneR B)) := by unfold oneF; rw [if_pos h]
set_option maxHeartbeats 4000000 in
theorem one_any {w : World} (A : Option Addr) (n c : Nat) (l : List UInt8) (hn : n = l.length) (hA : CellsAt w A (l.map byteV)) (hnil : A = none → n = 0 ∧ c = 0) (hc : n ≤ c) (seq : Nat) (hs : seq < 4611686018427387904) (hm : l.length ≤ 1048576) (hdv : ∃ M, l.length = M * 64) (K : Nat) (hT : TagK l seq K) :
    Calls Try.prog 16 #[.slice A n c, .int .i64 (seq : Int)] w fun e w' => OneRes w (oneF (preB l K) seq) seq e w' := by
  subst hn
  have htg : ∀ W, Calls Try.prog 28 #[.int .i64 (seq : Int)] W fun e w' => Cloned W (tagL seq) e w' := fun W => tagged_any seq hs W
  have HTG := Lib.hid htg
  have HTK := Lib.hid hT
  have HDV := Lib.hid hdv
  have htl : (tagL seq).length = 8 := by simp [tagL]
  have HTL := Lib.hid htl
  have HA := Lib.hid (And.intro hA (And.intro hnil hc))
  clear htg hT hdv htl hA hnil hc
  go_enter Try.func16, Try.ntmps16
  go_upto_block 0 with fail
  obtain ⟨V, hV⟩ : ∃ V, V = w.alloc (.cells #[.int .i64 0, .slice none 0 0] 49) := ⟨_, rfl⟩
  have hFV : Fr none_ w V := by rw [hV]; exact (Fr.refl none_ w).alloc _
  have hVb : V.heap[w.heap.size]? = some (.cells #[.int .i64 0, .slice none 0 0] 49 (0, 0)) := by rw [hV]; exact heap_alloc_new _ _
  rw [← hV]
  have HFV := Lib.hid hFV
  have HVB := Lib.hid hVb
  clear hFV hVb hV
  go_cut [0, 6] (fun a b wx => wx.ownsRow V.heap.size 5 1 b (K * 56) ((preB l K).map byteV) ∧ Fr none_ V wx)
  case first =>
    go_wp2_with fail
    go_loopw [0, 6] (fun a b wr => ∃ k : Nat, k ≤ K ∧ OnR V wr l seq k a b) (fun a _ _ => lenS a)
    case atStart => exact ⟨0, Nat.zero_le _, ⟨⟨A, c, by simp, by simpa using HA.out.1.fr0 HFV.out, by simpa using HA.out.2.2, by simpa using HA.out.2.1⟩, by simpa [preB] using World.ownsRow_nil _ _ _ _, Fr.refl _ _⟩⟩
    case round =>
      obtain ⟨k, hk, hR⟩ := hrel
      obtain ⟨⟨A', c', rfl, hA', hc', hnil'⟩, hown, hFr⟩ := hR
      obtain ⟨n', hn'⟩ : ∃ n', n' = l.length - k * 64 := ⟨_, rfl⟩
      rw [← hn'] at hc' hnil' ⊢
      have hAV := hA'
      replace hA' := hA'.fr0 hFr
      obtain ⟨M, hM⟩ := HDV.out
      have hKl := HTK.out.le
      have HN := Lib.hid hn'
      by_cases hlt : k < K
      · have hd : decide ((l.drop (k * 64)).take 8 = tagL seq) = true := by simpa using HTK.out.tags k hlt
        have hn64 : 64 ≤ n' := by omega
        obtain ⟨g, o, rfl⟩ := hA'.addr (by rw [List.length_map, List.length_drop]; omega)
        have HFR := Lib.hid hFr
        have hAb : CellsAt wr (some ⟨g, o + 8, none⟩) (((l.drop (k * 64 + 8)).take 56).map byteV) := by
          have := hA'.sub 8 56 (by rw [List.length_map, List.length_drop]; omega)
          rw [← List.map_drop, ← List.map_take, List.drop_drop] at this
          exact this
        have hAr : CellsAt V (some ⟨g, o + 64, none⟩) ((l.drop ((k + 1) * 64)).map byteV) := by
          have := hAV.sub 64 (n' - 64) (by rw [List.length_map, List.length_drop]; omega)
          rw [← List.map_drop, ← List.map_take, List.drop_drop, List.take_of_length_le (by rw [List.length_drop]; omega), show k * 64 + 64 = (k + 1) * 64 by omega] at this
          exact this
        have hlb : ((l.drop (k * 64 + 8)).take 56).length = 56 := by rw [List.length_take, List.length_drop]; omega
        have hkb : k * 56 ≤ 1048576 := by omega
        have k64 : (64 : Int) ≤ (c' : Int) := by omega
        have k64n : (64 : Int) ≤ (n' : Int) := by omega
        have HAB := Lib.hid (And.intro hAb (And.intro hAr hlb))
        clear hAb hAr hlb hn' hKl hM hAV
        have hX0 : Fr none_ wr wr.drew := (Fr.refl _ _).drew
        have hA8 : CellsAt wr (some ⟨g, o, none⟩) (((l.drop (k * 64)).take 8).map byteV) := by
          have := hA'.sub 0 8 (by rw [List.length_map, List.length_drop]; have := HN.out; omega)
          rw [List.drop_zero, ← List.map_take] at this
          exact this
        have hl8 : ((l.drop (k * 64)).take 8).length = 8 := by rw [List.length_take, List.length_drop]; have := HN.out; omega
        have HA8 := Lib.hid hA8
        have k1 : (0 : Int) < (n' : Int) := by omega
        have k1n : 0 < n' := by omega
        have k2 : (8 : Int) ≤ (c' : Int) := by omega
        have htl : (tagL seq).length = 8 := HTL.out
        clear hA8 hA' hnil'
        by_cases hc64 : c' = 64
        · have hn2 : n' = 64 := by omega
          subst hc64
          subst hn2
          go_wp2_with fail
          go_region_held3 (fun _ => True) (trivial) (first
            | (go_at_call 28; (with_reducible refine (HTG.out _).mono ?_); rintro e x1 ⟨⟨v, rfl, hown1⟩, hY1⟩; obtain ⟨A1, c1, rfl, hA1, hc1, hnil1, hbl1⟩ := ownsRow_read hown1; have hX1 := hX0.trans hY1)
            | (go_at_call 31; (with_reducible refine (equal_any (some ⟨g, o, none⟩) 8 _ ((l.drop (k * 64)).take 8) A1 8 c1 (tagL seq) hl8.symm (HA8.out.fr0 hX1) (fun h => by cases h) htl.symm hA1 (fun h => by have := hnil1 h; omega)).mono ?_); rintro e x2 ⟨rfl, hx2⟩; subst hx2; rw [hd]))
          have hownx := ownsRow_fr0 hown hX1
          have hsz1 := hX1.size
          have hszw := HFR.out.size
          obtain ⟨hAb, hAr, hlb⟩ := HAB.out
          have hA2 := hAb.fr0 hX1
          clear hAb hY1 hX0 hA1 hown1 hnil1 hbl1 hd
          go_wp2_with ((with_reducible refine at_append (.tmp 21) (.tmp 23) 36 V.heap.size 5 (.int .u8 0) 1 1 (n := k * 56) (A := some ⟨g, o + 8, none⟩) (m := 56) (c := 56) (news := ((l.drop (k * 64 + 8)).take 56).map byteV) Try.underlying36 info_u8g ?_ ?_ ?_ ?_ hownx hA2 ?_ ?_ ?_ ?_ ?_ ?_ ?_); (focus rfl); (focus decide); (focus rfl); (focus rfl); (focus (intro h; cases h)); (focus (rw [List.length_map, hlb])); (focus exact bytes_oneL _); (focus unfold maxLen; omega); (focus omega); (focus omega); intro v' w4 hown4 hg4)
          have hF4 := Fr.of_grown hg4
          have hF4b : Fr none_ V w4 := Fr.grown (HFR.out.trans hX1) hg4 hownx (Nat.le_refl _)
          go_roundw
          case rel =>
            refine ⟨k + 1, by omega, ⟨⟨some ⟨g, o, none⟩, 0, by rw [show l.length - (k + 1) * 64 = 0 by have := HN.out; omega], by rw [List.drop_eq_nil_of_le (by have := HN.out; omega)]; exact CellsAt.nil _ _, by have := HN.out; omega, fun h => by first | cases h | (have := HN.out; omega)⟩, ?_, hF4b⟩⟩
            rw [preB_succ, List.map_append, show (k + 1) * 56 = k * 56 + 56 by omega]
            exact hown4
          case measure => simp [lenS]; try omega
        · go_wp2_with fail
          go_region_held3 (fun _ => True) (trivial) (first
            | (go_at_call 28; (with_reducible refine (HTG.out _).mono ?_); rintro e x1 ⟨⟨v, rfl, hown1⟩, hY1⟩; obtain ⟨A1, c1, rfl, hA1, hc1, hnil1, hbl1⟩ := ownsRow_read hown1; have hX1 := hX0.trans hY1)
            | (go_at_call 31; (with_reducible refine (equal_any (some ⟨g, o, none⟩) 8 _ ((l.drop (k * 64)).take 8) A1 8 c1 (tagL seq) hl8.symm (HA8.out.fr0 hX1) (fun h => by cases h) htl.symm hA1 (fun h => by have := hnil1 h; omega)).mono ?_); rintro e x2 ⟨rfl, hx2⟩; subst hx2; rw [hd]))
          have hownx := ownsRow_fr0 hown hX1
          have hsz1 := hX1.size
          have hszw := HFR.out.size
          obtain ⟨hAb, hAr, hlb⟩ := HAB.out
          have hA2 := hAb.fr0 hX1
          clear hAb hY1 hX0 hA1 hown1 hnil1 hbl1 hd
          go_wp2_with ((with_reducible refine at_append (.tmp 21) (.tmp 23) 36 V.heap.size 5 (.int .u8 0) 1 1 (n := k * 56) (A := some ⟨g, o + 8, none⟩) (m := 56) (c := c' - 8) (news := ((l.drop (k * 64 + 8)).take 56).map byteV) Try.underlying36 info_u8g ?_ ?_ ?_ ?_ hownx hA2 ?_ ?_ ?_ ?_ ?_ ?_ ?_); (focus rfl); (focus decide); (focus rfl); (focus rfl); (focus (intro h; cases h)); (focus (rw [List.length_map, hlb])); (focus exact bytes_oneL _); (focus unfold maxLen; omega); (focus omega); (focus omega); intro v' w4 hown4 hg4)
          have hF4 := Fr.of_grown hg4
          have hF4b : Fr none_ V w4 := Fr.grown (HFR.out.trans hX1) hg4 hownx (Nat.le_refl _)
          go_roundw
          case rel =>
            refine ⟨k + 1, by omega, ⟨⟨some ⟨g, o + 64, none⟩, c' - 64, by rw [show l.length - (k + 1) * 64 = n' - 64 by have := HN.out; omega], hAr, by have := HN.out; omega, fun h => by first | cases h | (have := HN.out; omega)⟩, ?_, hF4b⟩⟩
            rw [preB_succ, List.map_append, show (k + 1) * 56 = k * 56 + 56 by omega]
            exact hown4
          case measure => simp [lenS]; try omega
      · obtain rfl : k = K := by omega
        by_cases hn0 : n' = 0
        · clear hn' HN hM hKl hA' hnil' hAV
          subst hn0
          go_wp2_with fail
          refine wp_region_held_drew (S := fun _ => True) (by kernel_rfl) trivial (fun hHeld0 => ?_)
          refine wpAnyH_take (i := 0) (oi := _) (v := ?va1) rfl (by kernel_rfl) (by kernel_rfl) (by kernel_rfl) (fun _ _ _ h => h) (Or.inl ⟨by rfl, ?hya1⟩) (by assumption) ?resta1
          case hya1 => (intro w hSw; (try dsimp only at hSw); go_simp; try with_reducible rfl)
          try simp only [List.getElem_toArray, List.getElem_cons_zero, List.getElem_cons_succ, Act.put, List.setIfInBounds_toArray, List.set_cons_zero, List.set_cons_succ]
          refine wpAnyH_take (i := 1) (oi := _) (v := ?va2) rfl (by kernel_rfl) (by kernel_rfl) (by kernel_rfl) (fun _ _ _ h => h) (Or.inl ⟨by rfl, ?hya2⟩) (by assumption) ?resta2
          case hya2 => (intro w hSw; (try dsimp only at hSw); go_simp; try with_reducible rfl)
          try simp only [List.getElem_toArray, List.getElem_cons_zero, List.getElem_cons_succ, Act.put, List.setIfInBounds_toArray, List.set_cons_zero, List.set_cons_succ]
          refine wpAnyH_take (i := 2) (oi := _) (v := ?va3) rfl (by kernel_rfl) (by kernel_rfl) (by kernel_rfl) (fun _ _ _ h => h) (Or.inl ⟨by rfl, ?hya3⟩) (by assumption) ?resta3
          case hya3 => (intro w hSw; (try dsimp only at hSw); go_simp; try with_reducible rfl)
          try simp only [List.getElem_toArray, List.getElem_cons_zero, List.getElem_cons_succ, Act.put, List.setIfInBounds_toArray, List.set_cons_zero, List.set_cons_succ]
          refine wpAnyH_take (i := 3) (oi := _) (v := ?va4) rfl (by kernel_rfl) (by kernel_rfl) (by kernel_rfl) (fun _ _ _ h => h) (Or.inl ⟨by rfl, ?hya4⟩) (by assumption) ?resta4
          case hya4 => (intro w hSw; (try dsimp only at hSw); go_simp; try with_reducible rfl)
          try simp only [List.getElem_toArray, List.getElem_cons_zero, List.getElem_cons_succ, Act.put, List.setIfInBounds_toArray, List.set_cons_zero, List.set_cons_succ]
          refine wpAnyH_take (i := 4) (oi := _) (v := undef) rfl (by kernel_rfl) (by kernel_rfl) (by kernel_rfl) (fun _ _ _ h => h) (Or.inr ⟨by rfl, rfl⟩) (by assumption) ?resta5
          try simp only [List.getElem_toArray, List.getElem_cons_zero, List.getElem_cons_succ, Act.put, List.setIfInBounds_toArray, List.set_cons_zero, List.set_cons_succ]
          refine wpAnyH_take (i := 5) (oi := _) (v := undef) rfl (by kernel_rfl) (by kernel_rfl) (by kernel_rfl) (fun _ _ _ h => h) (Or.inr ⟨by rfl, rfl⟩) (by assumption) ?resta6
          try simp only [List.getElem_toArray, List.getElem_cons_zero, List.getElem_cons_succ, Act.put, List.setIfInBounds_toArray, List.set_cons_zero, List.set_cons_succ]
          refine wpAnyH_take (i := 6) (oi := _) (v := undef) rfl (by kernel_rfl) (by kernel_rfl) (by kernel_rfl) (fun _ _ _ h => h) (Or.inr ⟨by rfl, rfl⟩) (by assumption) ?resta7
          try simp only [List.getElem_toArray, List.getElem_cons_zero, List.getElem_cons_succ, Act.put, List.setIfInBounds_toArray, List.set_cons_zero, List.set_cons_succ]
          refine wpAnyH_take (i := 7) (oi := _) (v := undef) rfl (by kernel_rfl) (by kernel_rfl) (by kernel_rfl) (fun _ _ _ h => h) (Or.inr ⟨by rfl, rfl⟩) (by assumption) ?resta8
          try simp only [List.getElem_toArray, List.getElem_cons_zero, List.getElem_cons_succ, Act.put, List.setIfInBounds_toArray, List.set_cons_zero, List.set_cons_succ]
          refine wpAnyH_take (i := 8) (oi := _) (v := undef) rfl (by kernel_rfl) (by kernel_rfl) (by kernel_rfl) (fun _ _ _ h => h) (Or.inr ⟨by rfl, rfl⟩) (by assumption) ?resta9
          try simp only [List.getElem_toArray, List.getElem_cons_zero, List.getElem_cons_succ, Act.put, List.setIfInBounds_toArray, List.set_cons_zero, List.set_cons_succ]
          refine wpAnyH_take (i := 9) (oi := _) (v := ?va10) rfl (by kernel_rfl) (by kernel_rfl) (by kernel_rfl) (fun _ _ _ h => h) (Or.inl ⟨by rfl, ?hya10⟩) (by assumption) ?resta10
          case hya10 => (intro w hSw; (try dsimp only at hSw); go_simp; try with_reducible rfl)
          try simp only [List.getElem_toArray, List.getElem_cons_zero, List.getElem_cons_succ, Act.put, List.setIfInBounds_toArray, List.set_cons_zero, List.set_cons_succ]
          refine wpAnyH_done (by kernel_rfl) ?_ _
          go_wp2_with fail
          go_meet
          exact ⟨ownsRow_fr0 hown (Fr.refl _ _).drew, hFr.drew⟩
        · have hn64 : 64 ≤ n' := by omega
          have hne : (l.drop (k * 64)).take 8 ≠ tagL seq := by exact HTK.out.stop.resolve_left (by omega)
          have hd : decide ((l.drop (k * 64)).take 8 = tagL seq) = false := by simpa using hne
          obtain ⟨g, o, rfl⟩ := hA'.addr (by rw [List.length_map, List.length_drop]; omega)
          have hX0 : Fr none_ wr wr.drew := (Fr.refl _ _).drew
          have hA8 : CellsAt wr (some ⟨g, o, none⟩) (((l.drop (k * 64)).take 8).map byteV) := by
            have := hA'.sub 0 8 (by rw [List.length_map, List.length_drop]; have := HN.out; omega)
            rw [List.drop_zero, ← List.map_take] at this
            exact this
          have hl8 : ((l.drop (k * 64)).take 8).length = 8 := by rw [List.length_take, List.length_drop]; have := HN.out; omega
          have HA8 := Lib.hid hA8
          have k1 : (0 : Int) < (n' : Int) := by omega
          have k1n : 0 < n' := by omega
          have k2 : (8 : Int) ≤ (c' : Int) := by omega
          have htl : (tagL seq).length = 8 := HTL.out
          clear hA8 hA' hnil' hne hn0 hn' hM hKl hAV
          go_wp2_with fail
          go_region_held3 (fun _ => True) (trivial) (first
            | (go_at_call 28; (with_reducible refine (HTG.out _).mono ?_); rintro e x1 ⟨⟨v, rfl, hown1⟩, hY1⟩; obtain ⟨A1, c1, rfl, hA1, hc1, hnil1, hbl1⟩ := ownsRow_read hown1; have hX1 := hX0.trans hY1)
            | (go_at_call 31; (with_reducible refine (equal_any (some ⟨g, o, none⟩) 8 _ ((l.drop (k * 64)).take 8) A1 8 c1 (tagL seq) hl8.symm (HA8.out.fr0 hX1) (fun h => by cases h) htl.symm hA1 (fun h => by have := hnil1 h; omega)).mono ?_); rintro e x2 ⟨rfl, hx2⟩; subst hx2; rw [hd]))
          go_wp2_with fail
          go_meet
          exact ⟨ownsRow_fr0 hown hX1, hFr.trans hX1⟩
  case rest =>
    obtain ⟨hown, hFc⟩ := hcut
    obtain ⟨Ab, cb, rfl, hAb, hcb, hnilb, hblb⟩ := ownsRow_read hown
    have hBl := preB_len l K HTK.out.le
    have hKl := HTK.out.le
    obtain ⟨B, hB⟩ : ∃ B, B = preB l K := ⟨_, rfl⟩
    obtain ⟨L, hL⟩ : ∃ L, L = K * 56 := ⟨_, rfl⟩
    rw [← hB, ← hL] at hBl
    rw [← hB] at hAb
    have HB := Lib.hid hB
    rw [← hL] at hcb hnilb ⊢
    have hL0 : L ≤ 1048576 := by omega
    have hFw : Fr none_ w wc := HFV.out.trans hFc
    have hb0 := hFc.heap0 HVB.out
    have hlt : w.heap.size < wc.heap.size := blk_lt hb0
    have HB0 := Lib.hid hb0
    have HAB := Lib.hid (And.intro hAb (And.intro hnilb hcb))
    clear hown hblb hB hL hKl hb0 HVB HFV HTK HDV HA HTG
    go_wp2_with fail
    (with_reducible refine (rread_any wc Ab L cb B hBl.symm hAb (fun h => by have := hnilb h; omega) hcb (by omega)).mono ?_)
    rintro e y1 ⟨rfl, hF1, hR1⟩
    have hU := ruint_any hR1 1099511627776 (by decide)
    obtain ⟨N0, hN0⟩ : ∃ N0, N0 = uintN B 0 1099511627776 := ⟨_, rfl⟩
    have hN0l := uintN_le B
    rw [← hN0] at hU hN0l
    rw [show ((1099511627776 : Nat) : Int) = 1099511627776 from rfl] at hU
    have HU := Lib.hid hU
    have HN0 := Lib.hid hN0
    clear hN0 hU hAb hnilb hcb
    go_wp2_with fail
    (with_reducible refine HU.out.mono ?_)
    rintro e y2 ⟨rfl, hF2, hR2⟩
    have hR2' : ReaderAt y2 wc.heap.size (oneL B) (oneE B) := hR2
    clear hR2
    go_wp2_with fail
    (with_reducible refine (rbytes_any hR2').mono ?_)
    rintro e y3 ⟨⟨v3, rfl, hown3⟩, hF3, hR3⟩
    obtain ⟨E, hE⟩ : ∃ E, E = bytE (oneL B) (oneE B) := ⟨_, rfl⟩
    obtain ⟨T, hT⟩ : ∃ T, T = bytL (oneL B) (oneE B) := ⟨_, rfl⟩
    obtain ⟨D, hD⟩ : ∃ D, D = oneD B := ⟨_, rfl⟩
    have hD' : D = bytD (oneL B) (oneE B) := hD
    rw [← hD'] at hown3
    rw [← hE, ← hT] at hR3
    have hTl : T.length ≤ L := by rw [hT, ← hBl]; exact Nat.le_trans (bytL_len _ _) (oneL_len B)
    have hDl : D.length ≤ 65536 := by rw [hD']; exact bytD_len _ _
    have hRr : oneR B = L - T.length + 4 := by unfold oneR; rw [← hT, hBl]
    have hok : oneOk B seq ↔ (E = 0 ∧ L - T.length + 4 ≤ L ∧ N0 = seq ∧ B.take (L - T.length + 4) = seaB D seq) := by
      unfold oneOk
      rw [hRr, ← hD, ← hE, ← HN0.out, hBl]
    obtain ⟨X, hX⟩ : ∃ X, X = L - T.length := ⟨_, rfl⟩
    rw [← hX] at hok hRr
    obtain ⟨LT, hLT⟩ : ∃ LT, LT = T.length := ⟨_, rfl⟩
    obtain ⟨A3, c3, rfl, hA3, hc3, hnil3, hbl3⟩ := ownsRow_read hown3
    obtain ⟨ND, hND⟩ : ∃ ND, ND = D.length := ⟨_, rfl⟩
    rw [← hND] at hDl hc3 hnil3 hown3 ⊢
    rw [← hLT] at hTl hX
    have hle := left_any hR3
    rw [← hLT] at hle
    have HLE := Lib.hid hle
    have hF03 : Fr none_ wc y3 := (hF1.trans' hF2 (fun k hk e => by omega)).trans' hF3 (fun k hk e => by omega)
    have hXL : X ≤ 1048576 := by omega
    have hyb : wc.heap.size ≤ y2.heap.size := (hF1.trans' hF2 (fun k hk e => by omega)).size
    have kx : wrap64 ((L : Int) - (LT : Int)) = (X : Int) := wsub_n L LT X hX hTl hL0
    have HK := Lib.hid (And.intro hok (And.intro hRr (And.intro hD hT)))
    have HND := Lib.hid hND
    have HX := Lib.hid (And.intro hX hTl)
    clear hok hRr hD hD' hT hE hND hX hLT hTl hle hR2' hF1 hF2 hF3 hR1
    go_wp2_with fail
    (with_reducible refine HLE.out.mono ?_)
    rintro e y4 ⟨rfl, hy4⟩
    subst hy4
    go_upto_region 8 with fail
    go_cut [63] (fun cv wx => cv = .bool (decide (¬ oneOk B seq)) ∧ Fr none_ y3 wx)
    case first =>
      have hR3d := hR3.fr0 (Fr.refl none_ y3).drew
      have hdr : Fr none_ y3 y3.drew := (Fr.refl none_ y3).drew
      clear kx
      by_cases hE0 : E = 0
      · subst hE0
        by_cases hle4 : X + 4 ≤ L
        · have q1 : ¬ (L : Int) < (X : Int) + 4 := by omega
          have q1n : ¬ L < X + 4 := by omega
          have q1d : decide ((L : Int) < (X : Int) + 4) = false := decide_eq_false q1
          clear q1
          by_cases hsq : N0 = seq
          · have q2 : ((N0 : Int) == (seq : Int)) = true := by subst hsq; simp
            have q3 : ((N0 : Int) != (seq : Int)) = false := by rw [bne, q2]; rfl
            have hw0 := wrapN0 N0 hN0l
            obtain ⟨hAb, hnilb, hcb⟩ := HAB.out
            obtain ⟨g, o, rfl⟩ := hAb.addr (by rw [List.length_map]; omega)
            have hAt : CellsAt y3 (some ⟨g, o, none⟩) ((B.take (X + 4)).map byteV) := by
              have := (hAb.sub 0 (X + 4) (by rw [List.length_map]; omega)).fr0 hF03
              rw [List.drop_zero, ← List.map_take] at this
              exact this
            have hltk : (B.take (X + 4)).length = X + 4 := by rw [List.length_take]; omega
            have hlt2 : ((X : Int) + 4).toNat = (B.take (X + 4)).length := by rw [hltk]; omega
            have hsea : ∀ W, Fr none_ y3 W → Calls Try.prog 25 #[.slice A3 ND c3, .int .i64 (seq : Int)] W fun e w' => Cloned W (seaB D seq) e w' := fun W hF => sealed_any A3 ND c3 D seq HND.out (hA3.fr0 hF) hnil3 (by have := HND.out; omega) hs
            have HSEA := Lib.hid hsea
            have HAT := Lib.hid hAt
            have k3 : (X : Int) + 4 ≤ (cb : Int) := by omega
            have k4 : (0 : Int) ≤ (X : Int) + 4 := by omega
            have k3n : X + 4 ≤ cb := by omega
            have hX0 : Fr none_ y3 y3.drew := hdr
            obtain ⟨bq, hbq⟩ : ∃ bq, bq = decide (B.take (X + 4) = seaB D seq) := ⟨_, rfl⟩
            have hres : decide (¬ oneOk B seq) = !bq := by
              rw [hbq]
              by_cases hq : B.take (X + 4) = seaB D seq
              · rw [decide_eq_true hq, decide_eq_false (p := ¬ oneOk B seq) (fun h => h (HK.out.1.2 ⟨rfl, hle4, hsq, hq⟩))]; rfl
              · rw [decide_eq_false hq, decide_eq_true (p := ¬ oneOk B seq) (fun h => hq (HK.out.1.1 h).2.2.2)]; rfl
            have HRES := Lib.hid hres
            have HBQ := Lib.hid hbq
            clear hsea hAt hAb hnilb hcb hres hbq q2 hle4 hsq q1n hA3
            go_region_held3 (fun _ => True) (trivial) (first
              | (go_at_call 36; (with_reducible refine (rerr_any hR3d).mono ?_); rintro e x0 ⟨rfl, hz⟩; subst hz; rw [errV_0])
              | (go_at_call 25; (with_reducible refine (HSEA.out _ hX0).mono ?_); rintro e x1 ⟨⟨v, rfl, hown1⟩, hY1⟩; obtain ⟨A1, c1, rfl, hA1, hc1, hnil1, hbl1⟩ := ownsRow_read hown1; have hX1 := hX0.trans hY1)
              | (go_at_call 31; (first | ((with_reducible refine (equal_any (some ⟨g, o, none⟩) (X + 4) cb (B.take (X + 4)) A1 _ c1 (seaB D seq) hltk.symm (HAT.out.fr0 hX1) (fun h => by cases h) rfl hA1 hnil1).mono ?_)) | ((with_reducible refine (equal_any (some ⟨g, o, none⟩) _ cb (B.take (X + 4)) A1 _ c1 (seaB D seq) hlt2 (HAT.out.fr0 hX1) (fun h => by cases h) rfl hA1 hnil1).mono ?_))); rintro e x2 ⟨rfl, hx2⟩; subst hx2; rw [← HBQ.out]))
            go_wp2_with fail
            go_meet
            exact ⟨by rw [HRES.out], hX1⟩
          · have hno : ¬ oneOk B seq := fun h => hsq (HK.out.1.1 h).2.2.1
            have q2 : ((N0 : Int) == (seq : Int)) = false := by rw [beq_eq_false_iff_ne]; omega
            have q3 : ((N0 : Int) != (seq : Int)) = true := by rw [bne, q2]; rfl
            clear q2
            have hw0 := wrapN0 N0 hN0l
            refine wp_region_held_drew (S := fun _ => True) (by kernel_rfl) trivial (fun hHeld0 => ?_)
            refine wpAnyH_take (i := 0) (oi := _) (v := ?vc1) rfl (by kernel_rfl) (by kernel_rfl) (by kernel_rfl) (fun _ _ _ h => h) (Or.inl ⟨by rfl, ?hyc1⟩) (by assumption) ?restc1
            case hyc1 => (intro w hSw; (try dsimp only at hSw); go_simp; try with_reducible rfl)
            try simp only [List.getElem_toArray, List.getElem_cons_zero, List.getElem_cons_succ, Act.put, List.setIfInBounds_toArray, List.set_cons_zero, List.set_cons_succ]
            refine wpAnyH_ready (rs := [1]) (by kernel_rfl) (by simp) ?_
            refine AllReadyH.cons (o := _) rfl (fun KK hKK => ?_) AllReadyH.nil
            go_simp
            ((with_reducible refine (rerr_any hR3d).mono ?_); rintro e z1 ⟨rfl, hz⟩; subst hz; rw [errV_0])
            go_wp2_with fail
            refine hKK.out _ _ ?hSc2 (fun hHeld2 => ?restc2)
            case hSc2 => trivial
            clear hKK KK
            try simp only [List.getElem_toArray, List.getElem_cons_zero, List.getElem_cons_succ, Act.put, List.setIfInBounds_toArray, List.set_cons_zero, List.set_cons_succ]
            refine wpAnyH_take (i := 2) (oi := _) (v := ?vc3) rfl (by kernel_rfl) (by kernel_rfl) (by kernel_rfl) (fun _ _ _ h => h) (Or.inl ⟨by rfl, ?hyc3⟩) (by assumption) ?restc3
            case hyc3 => (intro w hSw; (try dsimp only at hSw); go_simp; try with_reducible rfl)
            try simp only [List.getElem_toArray, List.getElem_cons_zero, List.getElem_cons_succ, Act.put, List.setIfInBounds_toArray, List.set_cons_zero, List.set_cons_succ]
            refine wpAnyH_take (i := 3) (oi := _) (v := ?vc4) rfl (by kernel_rfl) (by kernel_rfl) (by kernel_rfl) (fun _ _ _ h => h) (Or.inl ⟨by rfl, ?hyc4⟩) (by assumption) ?restc4
            case hyc4 => (intro w hSw; (try dsimp only at hSw); go_simp; try with_reducible rfl)
            try simp only [List.getElem_toArray, List.getElem_cons_zero, List.getElem_cons_succ, Act.put, List.setIfInBounds_toArray, List.set_cons_zero, List.set_cons_succ]
            refine wpAnyH_take (i := 4) (oi := _) (v := ?vc5) rfl (by kernel_rfl) (by kernel_rfl) (by kernel_rfl) (fun _ _ _ h => h) (Or.inl ⟨by rfl, ?hyc5⟩) (by assumption) ?restc5
            case hyc5 => (intro w hSw; (try dsimp only at hSw); go_simp; try with_reducible rfl)
            try simp only [List.getElem_toArray, List.getElem_cons_zero, List.getElem_cons_succ, Act.put, List.setIfInBounds_toArray, List.set_cons_zero, List.set_cons_succ]
            refine wpAnyH_take (i := 5) (oi := _) (v := ?vc6) rfl (by kernel_rfl) (by kernel_rfl) (by kernel_rfl) (fun _ _ _ h => h) (Or.inl ⟨by rfl, ?hyc6⟩) (by assumption) ?restc6
            case hyc6 => (intro w hSw; (try dsimp only at hSw); go_simp; try with_reducible rfl)
            try simp only [List.getElem_toArray, List.getElem_cons_zero, List.getElem_cons_succ, Act.put, List.setIfInBounds_toArray, List.set_cons_zero, List.set_cons_succ]
            refine wpAnyH_take (i := 6) (oi := _) (v := ?vc7) rfl (by kernel_rfl) (by kernel_rfl) (by kernel_rfl) (fun _ _ _ h => h) (Or.inl ⟨by rfl, ?hyc7⟩) (by assumption) ?restc7
            case hyc7 => (intro w hSw; (try dsimp only at hSw); go_simp; try with_reducible rfl)
            try simp only [List.getElem_toArray, List.getElem_cons_zero, List.getElem_cons_succ, Act.put, List.setIfInBounds_toArray, List.set_cons_zero, List.set_cons_succ]
            refine wpAnyH_take (i := 7) (oi := _) (v := ?vc8) rfl (by kernel_rfl) (by kernel_rfl) (by kernel_rfl) (fun _ _ _ h => h) (Or.inl ⟨by rfl, ?hyc8⟩) (by assumption) ?restc8
            case hyc8 => (intro w hSw; (try dsimp only at hSw); go_simp; try with_reducible rfl)
            try simp only [List.getElem_toArray, List.getElem_cons_zero, List.getElem_cons_succ, Act.put, List.setIfInBounds_toArray, List.set_cons_zero, List.set_cons_succ]
            refine wpAnyH_take (i := 8) (oi := _) (v := ?vc9) rfl (by kernel_rfl) (by kernel_rfl) (by kernel_rfl) (fun _ _ _ h => h) (Or.inl ⟨by rfl, ?hyc9⟩) (by assumption) ?restc9
            case hyc9 => (intro w hSw; (try dsimp only at hSw); go_simp; try with_reducible rfl)
            try simp only [List.getElem_toArray, List.getElem_cons_zero, List.getElem_cons_succ, Act.put, List.setIfInBounds_toArray, List.set_cons_zero, List.set_cons_succ]
            refine wpAnyH_take (i := 9) (oi := _) (v := ?vc10) rfl (by kernel_rfl) (by kernel_rfl) (by kernel_rfl) (fun _ _ _ h => h) (Or.inl ⟨by rfl, ?hyc10⟩) (by assumption) ?restc10
            case hyc10 => (intro w hSw; (try dsimp only at hSw); go_simp; try with_reducible rfl)
            try simp only [List.getElem_toArray, List.getElem_cons_zero, List.getElem_cons_succ, Act.put, List.setIfInBounds_toArray, List.set_cons_zero, List.set_cons_succ]
            refine wpAnyH_take (i := 10) (oi := _) (v := ?vc11) rfl (by kernel_rfl) (by kernel_rfl) (by kernel_rfl) (fun _ _ _ h => h) (Or.inl ⟨by rfl, ?hyc11⟩) (by assumption) ?restc11
            case hyc11 => (intro w hSw; (try dsimp only at hSw); go_simp; try with_reducible rfl)
            try simp only [List.getElem_toArray, List.getElem_cons_zero, List.getElem_cons_succ, Act.put, List.setIfInBounds_toArray, List.set_cons_zero, List.set_cons_succ]
            refine wpAnyH_take (i := 11) (oi := _) (v := ?vc12) rfl (by kernel_rfl) (by kernel_rfl) (by kernel_rfl) (fun _ _ _ h => h) (Or.inl ⟨by rfl, ?hyc12⟩) (by assumption) ?restc12
            case hyc12 => (intro w hSw; (try dsimp only at hSw); go_simp; try with_reducible rfl)
            try simp only [List.getElem_toArray, List.getElem_cons_zero, List.getElem_cons_succ, Act.put, List.setIfInBounds_toArray, List.set_cons_zero, List.set_cons_succ]
            refine wpAnyH_take (i := 12) (oi := _) (v := ?vc13) rfl (by kernel_rfl) (by kernel_rfl) (by kernel_rfl) (fun _ _ _ h => h) (Or.inl ⟨by rfl, ?hyc13⟩) (by assumption) ?restc13
            case hyc13 => (intro w hSw; (try dsimp only at hSw); go_simp; try with_reducible rfl)
            try simp only [List.getElem_toArray, List.getElem_cons_zero, List.getElem_cons_succ, Act.put, List.setIfInBounds_toArray, List.set_cons_zero, List.set_cons_succ]
            refine wpAnyH_take (i := 13) (oi := _) (v := ?vc14) rfl (by kernel_rfl) (by kernel_rfl) (by kernel_rfl) (fun _ _ _ h => h) (Or.inl ⟨by rfl, ?hyc14⟩) (by assumption) ?restc14
            case hyc14 => (intro w hSw; (try dsimp only at hSw); go_simp; try with_reducible rfl)
            try simp only [List.getElem_toArray, List.getElem_cons_zero, List.getElem_cons_succ, Act.put, List.setIfInBounds_toArray, List.set_cons_zero, List.set_cons_succ]
            refine wpAnyH_take (i := 14) (oi := _) (v := ?vc15) rfl (by kernel_rfl) (by kernel_rfl) (by kernel_rfl) (fun _ _ _ h => h) (Or.inl ⟨by rfl, ?hyc15⟩) (by assumption) ?restc15
            case hyc15 => (intro w hSw; (try dsimp only at hSw); go_simp; try with_reducible rfl)
            try simp only [List.getElem_toArray, List.getElem_cons_zero, List.getElem_cons_succ, Act.put, List.setIfInBounds_toArray, List.set_cons_zero, List.set_cons_succ]
            refine wpAnyH_take (i := 15) (oi := _) (v := ?vc16) rfl (by kernel_rfl) (by kernel_rfl) (by kernel_rfl) (fun _ _ _ h => h) (Or.inl ⟨by rfl, ?hyc16⟩) (by assumption) ?restc16
            case hyc16 => (intro w hSw; (try dsimp only at hSw); go_simp; try with_reducible rfl)
            try simp only [List.getElem_toArray, List.getElem_cons_zero, List.getElem_cons_succ, Act.put, List.setIfInBounds_toArray, List.set_cons_zero, List.set_cons_succ]
            refine wpAnyH_take (i := 16) (oi := _) (v := undef) rfl (by kernel_rfl) (by kernel_rfl) (by kernel_rfl) (fun _ _ _ h => h) (Or.inr ⟨by rfl, rfl⟩) (by assumption) ?restc17
            try simp only [List.getElem_toArray, List.getElem_cons_zero, List.getElem_cons_succ, Act.put, List.setIfInBounds_toArray, List.set_cons_zero, List.set_cons_succ]
            refine wpAnyH_take (i := 17) (oi := _) (v := undef) rfl (by kernel_rfl) (by kernel_rfl) (by kernel_rfl) (fun _ _ _ h => h) (Or.inr ⟨by rfl, rfl⟩) (by assumption) ?restc18
            try simp only [List.getElem_toArray, List.getElem_cons_zero, List.getElem_cons_succ, Act.put, List.setIfInBounds_toArray, List.set_cons_zero, List.set_cons_succ]
            refine wpAnyH_take (i := 18) (oi := _) (v := undef) rfl (by kernel_rfl) (by kernel_rfl) (by kernel_rfl) (fun _ _ _ h => h) (Or.inr ⟨by rfl, rfl⟩) (by assumption) ?restc19
            try simp only [List.getElem_toArray, List.getElem_cons_zero, List.getElem_cons_succ, Act.put, List.setIfInBounds_toArray, List.set_cons_zero, List.set_cons_succ]
            refine wpAnyH_take (i := 19) (oi := _) (v := undef) rfl (by kernel_rfl) (by kernel_rfl) (by kernel_rfl) (fun _ _ _ h => h) (Or.inr ⟨by rfl, rfl⟩) (by assumption) ?restc20
            try simp only [List.getElem_toArray, List.getElem_cons_zero, List.getElem_cons_succ, Act.put, List.setIfInBounds_toArray, List.set_cons_zero, List.set_cons_succ]
            refine wpAnyH_take (i := 20) (oi := _) (v := undef) rfl (by kernel_rfl) (by kernel_rfl) (by kernel_rfl) (fun _ _ _ h => h) (Or.inr ⟨by rfl, rfl⟩) (by assumption) ?restc21
            try simp only [List.getElem_toArray, List.getElem_cons_zero, List.getElem_cons_succ, Act.put, List.setIfInBounds_toArray, List.set_cons_zero, List.set_cons_succ]
            refine wpAnyH_take (i := 21) (oi := _) (v := undef) rfl (by kernel_rfl) (by kernel_rfl) (by kernel_rfl) (fun _ _ _ h => h) (Or.inr ⟨by rfl, rfl⟩) (by assumption) ?restc22
            try simp only [List.getElem_toArray, List.getElem_cons_zero, List.getElem_cons_succ, Act.put, List.setIfInBounds_toArray, List.set_cons_zero, List.set_cons_succ]
            refine wpAnyH_take (i := 22) (oi := _) (v := undef) rfl (by kernel_rfl) (by kernel_rfl) (by kernel_rfl) (fun _ _ _ h => h) (Or.inr ⟨by rfl, rfl⟩) (by assumption) ?restc23
            try simp only [List.getElem_toArray, List.getElem_cons_zero, List.getElem_cons_succ, Act.put, List.setIfInBounds_toArray, List.set_cons_zero, List.set_cons_succ]
            refine wpAnyH_take (i := 23) (oi := _) (v := undef) rfl (by kernel_rfl) (by kernel_rfl) (by kernel_rfl) (fun _ _ _ h => h) (Or.inr ⟨by rfl, rfl⟩) (by assumption) ?restc24
            try simp only [List.getElem_toArray, List.getElem_cons_zero, List.getElem_cons_succ, Act.put, List.setIfInBounds_toArray, List.set_cons_zero, List.set_cons_succ]
            refine wpAnyH_take (i := 24) (oi := _) (v := ?vc25) rfl (by kernel_rfl) (by kernel_rfl) (by kernel_rfl) (fun _ _ _ h => h) (Or.inl ⟨by rfl, ?hyc25⟩) (by assumption) ?restc25
            case hyc25 => (intro w hSw; (try dsimp only at hSw); go_simp; try with_reducible rfl)
            try simp only [List.getElem_toArray, List.getElem_cons_zero, List.getElem_cons_succ, Act.put, List.setIfInBounds_toArray, List.set_cons_zero, List.set_cons_succ]
            refine wpAnyH_done (by kernel_rfl) ?_ _
            go_wp2_with fail
            go_meet
            exact ⟨by rw [decide_eq_true hno], hdr⟩
        · have hno : ¬ oneOk B seq := fun h => hle4 (HK.out.1.1 h).2.1
          have q1 : (L : Int) < (X : Int) + 4 := by omega
          have q1n : L < X + 4 := by omega
          refine wp_region_held_drew (S := fun _ => True) (by kernel_rfl) trivial (fun hHeld0 => ?_)
          refine wpAnyH_take (i := 0) (oi := _) (v := ?vb1) rfl (by kernel_rfl) (by kernel_rfl) (by kernel_rfl) (fun _ _ _ h => h) (Or.inl ⟨by rfl, ?hyb1⟩) (by assumption) ?restb1
          case hyb1 => (intro w hSw; (try dsimp only at hSw); go_simp; try with_reducible rfl)
          try simp only [List.getElem_toArray, List.getElem_cons_zero, List.getElem_cons_succ, Act.put, List.setIfInBounds_toArray, List.set_cons_zero, List.set_cons_succ]
          refine wpAnyH_ready (rs := [1]) (by kernel_rfl) (by simp) ?_
          refine AllReadyH.cons (o := _) rfl (fun KK hKK => ?_) AllReadyH.nil
          go_simp
          ((with_reducible refine (rerr_any hR3d).mono ?_); rintro e z1 ⟨rfl, hz⟩; subst hz; rw [errV_0])
          go_wp2_with fail
          refine hKK.out _ _ ?hSb2 (fun hHeld2 => ?restb2)
          case hSb2 => trivial
          clear hKK KK
          try simp only [List.getElem_toArray, List.getElem_cons_zero, List.getElem_cons_succ, Act.put, List.setIfInBounds_toArray, List.set_cons_zero, List.set_cons_succ]
          refine wpAnyH_take (i := 2) (oi := _) (v := ?vb3) rfl (by kernel_rfl) (by kernel_rfl) (by kernel_rfl) (fun _ _ _ h => h) (Or.inl ⟨by rfl, ?hyb3⟩) (by assumption) ?restb3
          case hyb3 => (intro w hSw; (try dsimp only at hSw); go_simp; try with_reducible rfl)
          try simp only [List.getElem_toArray, List.getElem_cons_zero, List.getElem_cons_succ, Act.put, List.setIfInBounds_toArray, List.set_cons_zero, List.set_cons_succ]
          refine wpAnyH_take (i := 3) (oi := _) (v := ?vb4) rfl (by kernel_rfl) (by kernel_rfl) (by kernel_rfl) (fun _ _ _ h => h) (Or.inl ⟨by rfl, ?hyb4⟩) (by assumption) ?restb4
          case hyb4 => (intro w hSw; (try dsimp only at hSw); go_simp; try with_reducible rfl)
          try simp only [List.getElem_toArray, List.getElem_cons_zero, List.getElem_cons_succ, Act.put, List.setIfInBounds_toArray, List.set_cons_zero, List.set_cons_succ]
          refine wpAnyH_take (i := 4) (oi := _) (v := ?vb5) rfl (by kernel_rfl) (by kernel_rfl) (by kernel_rfl) (fun _ _ _ h => h) (Or.inl ⟨by rfl, ?hyb5⟩) (by assumption) ?restb5
          case hyb5 => (intro w hSw; (try dsimp only at hSw); go_simp; try with_reducible rfl)
          try simp only [List.getElem_toArray, List.getElem_cons_zero, List.getElem_cons_succ, Act.put, List.setIfInBounds_toArray, List.set_cons_zero, List.set_cons_succ]
          refine wpAnyH_take (i := 5) (oi := _) (v := ?vb6) rfl (by kernel_rfl) (by kernel_rfl) (by kernel_rfl) (fun _ _ _ h => h) (Or.inl ⟨by rfl, ?hyb6⟩) (by assumption) ?restb6
          case hyb6 => (intro w hSw; (try dsimp only at hSw); go_simp; try with_reducible rfl)
          try simp only [List.getElem_toArray, List.getElem_cons_zero, List.getElem_cons_succ, Act.put, List.setIfInBounds_toArray, List.set_cons_zero, List.set_cons_succ]
          refine wpAnyH_take (i := 6) (oi := _) (v := ?vb7) rfl (by kernel_rfl) (by kernel_rfl) (by kernel_rfl) (fun _ _ _ h => h) (Or.inl ⟨by rfl, ?hyb7⟩) (by assumption) ?restb7
          case hyb7 => (intro w hSw; (try dsimp only at hSw); go_simp; try with_reducible rfl)
          try simp only [List.getElem_toArray, List.getElem_cons_zero, List.getElem_cons_succ, Act.put, List.setIfInBounds_toArray, List.set_cons_zero, List.set_cons_succ]
          refine wpAnyH_take (i := 7) (oi := _) (v := ?vb8) rfl (by kernel_rfl) (by kernel_rfl) (by kernel_rfl) (fun _ _ _ h => h) (Or.inl ⟨by rfl, ?hyb8⟩) (by assumption) ?restb8
          case hyb8 => (intro w hSw; (try dsimp only at hSw); go_simp; try with_reducible rfl)
          try simp only [List.getElem_toArray, List.getElem_cons_zero, List.getElem_cons_succ, Act.put, List.setIfInBounds_toArray, List.set_cons_zero, List.set_cons_succ]
          refine wpAnyH_take (i := 8) (oi := _) (v := ?vb9) rfl (by kernel_rfl) (by kernel_rfl) (by kernel_rfl) (fun _ _ _ h => h) (Or.inl ⟨by rfl, ?hyb9⟩) (by assumption) ?restb9
          case hyb9 => (intro w hSw; (try dsimp only at hSw); go_simp; try with_reducible rfl)
          try simp only [List.getElem_toArray, List.getElem_cons_zero, List.getElem_cons_succ, Act.put, List.setIfInBounds_toArray, List.set_cons_zero, List.set_cons_succ]
          refine wpAnyH_take (i := 9) (oi := _) (v := ?vb10) rfl (by kernel_rfl) (by kernel_rfl) (by kernel_rfl) (fun _ _ _ h => h) (Or.inl ⟨by rfl, ?hyb10⟩) (by assumption) ?restb10
          case hyb10 => (intro w hSw; (try dsimp only at hSw); go_simp; try with_reducible rfl)
          try simp only [List.getElem_toArray, List.getElem_cons_zero, List.getElem_cons_succ, Act.put, List.setIfInBounds_toArray, List.set_cons_zero, List.set_cons_succ]
          refine wpAnyH_take (i := 10) (oi := _) (v := undef) rfl (by kernel_rfl) (by kernel_rfl) (by kernel_rfl) (fun _ _ _ h => h) (Or.inr ⟨by rfl, rfl⟩) (by assumption) ?restb11
          try simp only [List.getElem_toArray, List.getElem_cons_zero, List.getElem_cons_succ, Act.put, List.setIfInBounds_toArray, List.set_cons_zero, List.set_cons_succ]
          refine wpAnyH_take (i := 11) (oi := _) (v := undef) rfl (by kernel_rfl) (by kernel_rfl) (by kernel_rfl) (fun _ _ _ h => h) (Or.inr ⟨by rfl, rfl⟩) (by assumption) ?restb12
          try simp only [List.getElem_toArray, List.getElem_cons_zero, List.getElem_cons_succ, Act.put, List.setIfInBounds_toArray, List.set_cons_zero, List.set_cons_succ]
          refine wpAnyH_take (i := 12) (oi := _) (v := undef) rfl (by kernel_rfl) (by kernel_rfl) (by kernel_rfl) (fun _ _ _ h => h) (Or.inr ⟨by rfl, rfl⟩) (by assumption) ?restb13
          try simp only [List.getElem_toArray, List.getElem_cons_zero, List.getElem_cons_succ, Act.put, List.setIfInBounds_toArray, List.set_cons_zero, List.set_cons_succ]
          refine wpAnyH_take (i := 13) (oi := _) (v := undef) rfl (by kernel_rfl) (by kernel_rfl) (by kernel_rfl) (fun _ _ _ h => h) (Or.inr ⟨by rfl, rfl⟩) (by assumption) ?restb14
          try simp only [List.getElem_toArray, List.getElem_cons_zero, List.getElem_cons_succ, Act.put, List.setIfInBounds_toArray, List.set_cons_zero, List.set_cons_succ]
          refine wpAnyH_take (i := 14) (oi := _) (v := ?vb15) rfl (by kernel_rfl) (by kernel_rfl) (by kernel_rfl) (fun _ _ _ h => h) (Or.inl ⟨by rfl, ?hyb15⟩) (by assumption) ?restb15
          case hyb15 => (intro w hSw; (try dsimp only at hSw); go_simp; try with_reducible rfl)
          try simp only [List.getElem_toArray, List.getElem_cons_zero, List.getElem_cons_succ, Act.put, List.setIfInBounds_toArray, List.set_cons_zero, List.set_cons_succ]
          refine wpAnyH_take (i := 15) (oi := _) (v := ?vb16) rfl (by kernel_rfl) (by kernel_rfl) (by kernel_rfl) (fun _ _ _ h => h) (Or.inl ⟨by rfl, ?hyb16⟩) (by assumption) ?restb16
          case hyb16 => (intro w hSw; (try dsimp only at hSw); go_simp; try with_reducible rfl)
          try simp only [List.getElem_toArray, List.getElem_cons_zero, List.getElem_cons_succ, Act.put, List.setIfInBounds_toArray, List.set_cons_zero, List.set_cons_succ]
          refine wpAnyH_take (i := 16) (oi := _) (v := undef) rfl (by kernel_rfl) (by kernel_rfl) (by kernel_rfl) (fun _ _ _ h => h) (Or.inr ⟨by rfl, rfl⟩) (by assumption) ?restb17
          try simp only [List.getElem_toArray, List.getElem_cons_zero, List.getElem_cons_succ, Act.put, List.setIfInBounds_toArray, List.set_cons_zero, List.set_cons_succ]
          refine wpAnyH_take (i := 17) (oi := _) (v := undef) rfl (by kernel_rfl) (by kernel_rfl) (by kernel_rfl) (fun _ _ _ h => h) (Or.inr ⟨by rfl, rfl⟩) (by assumption) ?restb18
          try simp only [List.getElem_toArray, List.getElem_cons_zero, List.getElem_cons_succ, Act.put, List.setIfInBounds_toArray, List.set_cons_zero, List.set_cons_succ]
          refine wpAnyH_take (i := 18) (oi := _) (v := undef) rfl (by kernel_rfl) (by kernel_rfl) (by kernel_rfl) (fun _ _ _ h => h) (Or.inr ⟨by rfl, rfl⟩) (by assumption) ?restb19
          try simp only [List.getElem_toArray, List.getElem_cons_zero, List.getElem_cons_succ, Act.put, List.setIfInBounds_toArray, List.set_cons_zero, List.set_cons_succ]
          refine wpAnyH_take (i := 19) (oi := _) (v := undef) rfl (by kernel_rfl) (by kernel_rfl) (by kernel_rfl) (fun _ _ _ h => h) (Or.inr ⟨by rfl, rfl⟩) (by assumption) ?restb20
          try simp only [List.getElem_toArray, List.getElem_cons_zero, List.getElem_cons_succ, Act.put, List.setIfInBounds_toArray, List.set_cons_zero, List.set_cons_succ]
          refine wpAnyH_take (i := 20) (oi := _) (v := undef) rfl (by kernel_rfl) (by kernel_rfl) (by kernel_rfl) (fun _ _ _ h => h) (Or.inr ⟨by rfl, rfl⟩) (by assumption) ?restb21
          try simp only [List.getElem_toArray, List.getElem_cons_zero, List.getElem_cons_succ, Act.put, List.setIfInBounds_toArray, List.set_cons_zero, List.set_cons_succ]
          refine wpAnyH_take (i := 21) (oi := _) (v := undef) rfl (by kernel_rfl) (by kernel_rfl) (by kernel_rfl) (fun _ _ _ h => h) (Or.inr ⟨by rfl, rfl⟩) (by assumption) ?restb22
          try simp only [List.getElem_toArray, List.getElem_cons_zero, List.getElem_cons_succ, Act.put, List.setIfInBounds_toArray, List.set_cons_zero, List.set_cons_succ]
          refine wpAnyH_take (i := 22) (oi := _) (v := undef) rfl (by kernel_rfl) (by kernel_rfl) (by kernel_rfl) (fun _ _ _ h => h) (Or.inr ⟨by rfl, rfl⟩) (by assumption) ?restb23
          try simp only [List.getElem_toArray, List.getElem_cons_zero, List.getElem_cons_succ, Act.put, List.setIfInBounds_toArray, List.set_cons_zero, List.set_cons_succ]
          refine wpAnyH_take (i := 23) (oi := _) (v := undef) rfl (by kernel_rfl) (by kernel_rfl) (by kernel_rfl) (fun _ _ _ h => h) (Or.inr ⟨by rfl, rfl⟩) (by assumption) ?restb24
          try simp only [List.getElem_toArray, List.getElem_cons_zero, List.getElem_cons_succ, Act.put, List.setIfInBounds_toArray, List.set_cons_zero, List.set_cons_succ]
          refine wpAnyH_take (i := 24) (oi := _) (v := ?vb25) rfl (by kernel_rfl) (by kernel_rfl) (by kernel_rfl) (fun _ _ _ h => h) (Or.inl ⟨by rfl, ?hyb25⟩) (by assumption) ?restb25
          case hyb25 => (intro w hSw; (try dsimp only at hSw); go_simp; try with_reducible rfl)
          try simp only [List.getElem_toArray, List.getElem_cons_zero, List.getElem_cons_succ, Act.put, List.setIfInBounds_toArray, List.set_cons_zero, List.set_cons_succ]
          refine wpAnyH_done (by kernel_rfl) ?_ _
          go_wp2_with fail
          go_meet
          exact ⟨by rw [decide_eq_true hno], hdr⟩
      · have hno : ¬ oneOk B seq := fun h => hE0 (HK.out.1.1 h).1
        refine wp_region_held_drew (S := fun _ => True) (by kernel_rfl) trivial (fun hHeld0 => ?_)
        refine wpAnyH_take (i := 0) (oi := _) (v := ?vd1) rfl (by kernel_rfl) (by kernel_rfl) (by kernel_rfl) (fun _ _ _ h => h) (Or.inl ⟨by rfl, ?hyd1⟩) (by assumption) ?restd1
        case hyd1 => (intro w hSw; (try dsimp only at hSw); go_simp; try with_reducible rfl)
        try simp only [List.getElem_toArray, List.getElem_cons_zero, List.getElem_cons_succ, Act.put, List.setIfInBounds_toArray, List.set_cons_zero, List.set_cons_succ]
        refine wpAnyH_ready (rs := [1]) (by kernel_rfl) (by simp) ?_
        refine AllReadyH.cons (o := _) rfl (fun KK hKK => ?_) AllReadyH.nil
        go_simp
        ((with_reducible refine (rerr_any hR3d).mono ?_); rintro e z1 ⟨rfl, hz⟩; subst hz; rw [errV_n hE0])
        go_wp2_with fail
        refine hKK.out _ _ ?hSd2 (fun hHeld2 => ?restd2)
        case hSd2 => trivial
        clear hKK KK
        try simp only [List.getElem_toArray, List.getElem_cons_zero, List.getElem_cons_succ, Act.put, List.setIfInBounds_toArray, List.set_cons_zero, List.set_cons_succ]
        refine wpAnyH_take (i := 2) (oi := _) (v := ?vd3) rfl (by kernel_rfl) (by kernel_rfl) (by kernel_rfl) (fun _ _ _ h => h) (Or.inl ⟨by rfl, ?hyd3⟩) (by assumption) ?restd3
        case hyd3 => (intro w hSw; (try dsimp only at hSw); go_simp; try with_reducible rfl)
        try simp only [List.getElem_toArray, List.getElem_cons_zero, List.getElem_cons_succ, Act.put, List.setIfInBounds_toArray, List.set_cons_zero, List.set_cons_succ]
        refine wpAnyH_take (i := 3) (oi := _) (v := ?vd4) rfl (by kernel_rfl) (by kernel_rfl) (by kernel_rfl) (fun _ _ _ h => h) (Or.inl ⟨by rfl, ?hyd4⟩) (by assumption) ?restd4
        case hyd4 => (intro w hSw; (try dsimp only at hSw); go_simp; try with_reducible rfl)
        try simp only [List.getElem_toArray, List.getElem_cons_zero, List.getElem_cons_succ, Act.put, List.setIfInBounds_toArray, List.set_cons_zero, List.set_cons_succ]
        refine wpAnyH_take (i := 4) (oi := _) (v := undef) rfl (by kernel_rfl) (by kernel_rfl) (by kernel_rfl) (fun _ _ _ h => h) (Or.inr ⟨by rfl, rfl⟩) (by assumption) ?restd5
        try simp only [List.getElem_toArray, List.getElem_cons_zero, List.getElem_cons_succ, Act.put, List.setIfInBounds_toArray, List.set_cons_zero, List.set_cons_succ]
        refine wpAnyH_take (i := 5) (oi := _) (v := undef) rfl (by kernel_rfl) (by kernel_rfl) (by kernel_rfl) (fun _ _ _ h => h) (Or.inr ⟨by rfl, rfl⟩) (by assumption) ?restd6
        try simp only [List.getElem_toArray, List.getElem_cons_zero, List.getElem_cons_succ, Act.put, List.setIfInBounds_toArray, List.set_cons_zero, List.set_cons_succ]
        refine wpAnyH_take (i := 6) (oi := _) (v := undef) rfl (by kernel_rfl) (by kernel_rfl) (by kernel_rfl) (fun _ _ _ h => h) (Or.inr ⟨by rfl, rfl⟩) (by assumption) ?restd7
        try simp only [List.getElem_toArray, List.getElem_cons_zero, List.getElem_cons_succ, Act.put, List.setIfInBounds_toArray, List.set_cons_zero, List.set_cons_succ]
        refine wpAnyH_take (i := 7) (oi := _) (v := undef) rfl (by kernel_rfl) (by kernel_rfl) (by kernel_rfl) (fun _ _ _ h => h) (Or.inr ⟨by rfl, rfl⟩) (by assumption) ?restd8
        try simp only [List.getElem_toArray, List.getElem_cons_zero, List.getElem_cons_succ, Act.put, List.setIfInBounds_toArray, List.set_cons_zero, List.set_cons_succ]
        refine wpAnyH_take (i := 8) (oi := _) (v := ?vd9) rfl (by kernel_rfl) (by kernel_rfl) (by kernel_rfl) (fun _ _ _ h => h) (Or.inl ⟨by rfl, ?hyd9⟩) (by assumption) ?restd9
        case hyd9 => (intro w hSw; (try dsimp only at hSw); go_simp; try with_reducible rfl)
        try simp only [List.getElem_toArray, List.getElem_cons_zero, List.getElem_cons_succ, Act.put, List.setIfInBounds_toArray, List.set_cons_zero, List.set_cons_succ]
        refine wpAnyH_take (i := 9) (oi := _) (v := ?vd10) rfl (by kernel_rfl) (by kernel_rfl) (by kernel_rfl) (fun _ _ _ h => h) (Or.inl ⟨by rfl, ?hyd10⟩) (by assumption) ?restd10
        case hyd10 => (intro w hSw; (try dsimp only at hSw); go_simp; try with_reducible rfl)
        try simp only [List.getElem_toArray, List.getElem_cons_zero, List.getElem_cons_succ, Act.put, List.setIfInBounds_toArray, List.set_cons_zero, List.set_cons_succ]
        refine wpAnyH_take (i := 10) (oi := _) (v := undef) rfl (by kernel_rfl) (by kernel_rfl) (by kernel_rfl) (fun _ _ _ h => h) (Or.inr ⟨by rfl, rfl⟩) (by assumption) ?restd11
        try simp only [List.getElem_toArray, List.getElem_cons_zero, List.getElem_cons_succ, Act.put, List.setIfInBounds_toArray, List.set_cons_zero, List.set_cons_succ]
        refine wpAnyH_take (i := 11) (oi := _) (v := undef) rfl (by kernel_rfl) (by kernel_rfl) (by kernel_rfl) (fun _ _ _ h => h) (Or.inr ⟨by rfl, rfl⟩) (by assumption) ?restd12
        try simp only [List.getElem_toArray, List.getElem_cons_zero, List.getElem_cons_succ, Act.put, List.setIfInBounds_toArray, List.set_cons_zero, List.set_cons_succ]
        refine wpAnyH_take (i := 12) (oi := _) (v := undef) rfl (by kernel_rfl) (by kernel_rfl) (by kernel_rfl) (fun _ _ _ h => h) (Or.inr ⟨by rfl, rfl⟩) (by assumption) ?restd13
        try simp only [List.getElem_toArray, List.getElem_cons_zero, List.getElem_cons_succ, Act.put, List.setIfInBounds_toArray, List.set_cons_zero, List.set_cons_succ]
        refine wpAnyH_take (i := 13) (oi := _) (v := undef) rfl (by kernel_rfl) (by kernel_rfl) (by kernel_rfl) (fun _ _ _ h => h) (Or.inr ⟨by rfl, rfl⟩) (by assumption) ?restd14
        try simp only [List.getElem_toArray, List.getElem_cons_zero, List.getElem_cons_succ, Act.put, List.setIfInBounds_toArray, List.set_cons_zero, List.set_cons_succ]
        refine wpAnyH_take (i := 14) (oi := _) (v := ?vd15) rfl (by kernel_rfl) (by kernel_rfl) (by kernel_rfl) (fun _ _ _ h => h) (Or.inl ⟨by rfl, ?hyd15⟩) (by assumption) ?restd15
        case hyd15 => (intro w hSw; (try dsimp only at hSw); go_simp; try with_reducible rfl)
        try simp only [List.getElem_toArray, List.getElem_cons_zero, List.getElem_cons_succ, Act.put, List.setIfInBounds_toArray, List.set_cons_zero, List.set_cons_succ]
        refine wpAnyH_take (i := 15) (oi := _) (v := ?vd16) rfl (by kernel_rfl) (by kernel_rfl) (by kernel_rfl) (fun _ _ _ h => h) (Or.inl ⟨by rfl, ?hyd16⟩) (by assumption) ?restd16
        case hyd16 => (intro w hSw; (try dsimp only at hSw); go_simp; try with_reducible rfl)
        try simp only [List.getElem_toArray, List.getElem_cons_zero, List.getElem_cons_succ, Act.put, List.setIfInBounds_toArray, List.set_cons_zero, List.set_cons_succ]
        refine wpAnyH_take (i := 16) (oi := _) (v := undef) rfl (by kernel_rfl) (by kernel_rfl) (by kernel_rfl) (fun _ _ _ h => h) (Or.inr ⟨by rfl, rfl⟩) (by assumption) ?restd17
        try simp only [List.getElem_toArray, List.getElem_cons_zero, List.getElem_cons_succ, Act.put, List.setIfInBounds_toArray, List.set_cons_zero, List.set_cons_succ]
        refine wpAnyH_take (i := 17) (oi := _) (v := undef) rfl (by kernel_rfl) (by kernel_rfl) (by kernel_rfl) (fun _ _ _ h => h) (Or.inr ⟨by rfl, rfl⟩) (by assumption) ?restd18
        try simp only [List.getElem_toArray, List.getElem_cons_zero, List.getElem_cons_succ, Act.put, List.setIfInBounds_toArray, List.set_cons_zero, List.set_cons_succ]
        refine wpAnyH_take (i := 18) (oi := _) (v := undef) rfl (by kernel_rfl) (by kernel_rfl) (by kernel_rfl) (fun _ _ _ h => h) (Or.inr ⟨by rfl, rfl⟩) (by assumption) ?restd19
        try simp only [List.getElem_toArray, List.getElem_cons_zero, List.getElem_cons_succ, Act.put, List.setIfInBounds_toArray, List.set_cons_zero, List.set_cons_succ]
        refine wpAnyH_take (i := 19) (oi := _) (v := undef) rfl (by kernel_rfl) (by kernel_rfl) (by kernel_rfl) (fun _ _ _ h => h) (Or.inr ⟨by rfl, rfl⟩) (by assumption) ?restd20
        try simp only [List.getElem_toArray, List.getElem_cons_zero, List.getElem_cons_succ, Act.put, List.setIfInBounds_toArray, List.set_cons_zero, List.set_cons_succ]
        refine wpAnyH_take (i := 20) (oi := _) (v := undef) rfl (by kernel_rfl) (by kernel_rfl) (by kernel_rfl) (fun _ _ _ h => h) (Or.inr ⟨by rfl, rfl⟩) (by assumption) ?restd21
        try simp only [List.getElem_toArray, List.getElem_cons_zero, List.getElem_cons_succ, Act.put, List.setIfInBounds_toArray, List.set_cons_zero, List.set_cons_succ]
        refine wpAnyH_take (i := 21) (oi := _) (v := undef) rfl (by kernel_rfl) (by kernel_rfl) (by kernel_rfl) (fun _ _ _ h => h) (Or.inr ⟨by rfl, rfl⟩) (by assumption) ?restd22
        try simp only [List.getElem_toArray, List.getElem_cons_zero, List.getElem_cons_succ, Act.put, List.setIfInBounds_toArray, List.set_cons_zero, List.set_cons_succ]
        refine wpAnyH_take (i := 22) (oi := _) (v := undef) rfl (by kernel_rfl) (by kernel_rfl) (by kernel_rfl) (fun _ _ _ h => h) (Or.inr ⟨by rfl, rfl⟩) (by assumption) ?restd23
        try simp only [List.getElem_toArray, List.getElem_cons_zero, List.getElem_cons_succ, Act.put, List.setIfInBounds_toArray, List.set_cons_zero, List.set_cons_succ]
        refine wpAnyH_take (i := 23) (oi := _) (v := undef) rfl (by kernel_rfl) (by kernel_rfl) (by kernel_rfl) (fun _ _ _ h => h) (Or.inr ⟨by rfl, rfl⟩) (by assumption) ?restd24
        try simp only [List.getElem_toArray, List.getElem_cons_zero, List.getElem_cons_succ, Act.put, List.setIfInBounds_toArray, List.set_cons_zero, List.set_cons_succ]
        refine wpAnyH_take (i := 24) (oi := _) (v := ?vd25) rfl (by kernel_rfl) (by kernel_rfl) (by kernel_rfl) (fun _ _ _ h => h) (Or.inl ⟨by rfl, ?hyd25⟩) (by assumption) ?restd25
        case hyd25 => (intro w hSw; (try dsimp only at hSw); go_simp; try with_reducible rfl)
        try simp only [List.getElem_toArray, List.getElem_cons_zero, List.getElem_cons_succ, Act.put, List.setIfInBounds_toArray, List.set_cons_zero, List.set_cons_succ]
        refine wpAnyH_done (by kernel_rfl) ?_ _
        go_wp2_with fail
        go_meet
        exact ⟨by rw [decide_eq_true hno], hdr⟩
    case rest =>
      obtain ⟨rfl, hFz⟩ := hcut
      have hb3 := (hF03.trans hFz).heap0 HB0.out
      have hFwc : Fr none_ w wc := hFw.trans (hF03.trans hFz)
      have hownz := ownsRow_fr0 hown3 hFz
      have hwy : w.heap.size < y2.heap.size := by omega
      have z0 : wc.cell? ⟨w.heap.size, 0, none⟩ = some (.int .i64 0) := by rw [cell_of_blk hb3]; rfl
      have z1 : wc.cell? ⟨w.heap.size, 1, none⟩ = some (.slice none 0 0) := by rw [cell_of_blk hb3]; rfl
      have zf := frozen_of_blk hb3
      have hs4 : ∀ W, Calls Try.prog 37 #[.int .i64 ((X : Int) + 4)] W fun e w' => e = .returned (.int .i64 (secN (X + 4) : Nat)) ∧ W = w' := fun W => by
        have := sectors_of (X + 4) (by omega) W
        rw [show ((X + 4 : Nat) : Int) = (X : Int) + 4 by omega] at this
        exact this
      have HS4 := Lib.hid hs4
      have HOZ := Lib.hid hownz
      clear hs4 hownz hown3 hA3 hF03 hFz hR3 kx
      by_cases hok : oneOk B seq
      · have hd : decide (¬ oneOk B seq) = false := decide_eq_false (p := ¬ oneOk B seq) (fun h => h hok)
        rw [hd]
        go_wp2_with fail
        (with_reducible refine (HS4.out _).mono ?_)
        rintro e y5 ⟨rfl, hy5⟩
        subst hy5
        go_wp2_with fail
        have hend := heap_setCell_same (heap_setCell_same hb3 (o := 0) (.int .i64 (seq : Int))) (o := 1) (.slice A3 ND c3)
        refine bodyPost_ret (res_one (b := w.heap.size) hend rfl rfl rfl rfl) rfl ?_
        have hFe := (Fr.set wc w.heap.size 0 (.int .i64 (seq : Int))).trans (Fr.set _ w.heap.size 1 (.slice A3 ND c3))
        rw [← HB.out, oneF_yes hok]
        refine ⟨fun h => (by cases h), fun d n hdn => ?_, ?_⟩
        · obtain ⟨-, hr, hDD, -⟩ := HK.out
          cases hdn
          rw [hr, ← hDD, ← HND.out]
          exact ⟨_, rfl, ownsRow_mono (ownsRow_fr HOZ.out hFe (fun k hk hs => by have := (ownsRow_lt HOZ.out hk).1; omega)) (by omega)⟩
        · exact (hFwc.setCell (fun h => absurd h (by simp)) _).setCell (fun h => absurd h (by simp)) _
      · have hd : decide (¬ oneOk B seq) = true := decide_eq_true (p := ¬ oneOk B seq) hok
        rw [hd]
        go_wp2_with fail
        have hend := heap_setCell_same (heap_setCell_same hb3 (o := 0) (.int .i64 0)) (o := 1) (.slice none 0 0)
        refine bodyPost_ret (res_one (b := w.heap.size) hend rfl rfl rfl rfl) rfl ?_
        rw [← HB.out, oneF_no hok]
        exact ⟨fun _ => rfl, (fun d n h => by cases h), (hFwc.setCell (fun h => absurd h (by simp)) _).setCell (fun h => absurd h (by simp)) _⟩
end Go.Proofs.Ythkcmafflbpfoaa

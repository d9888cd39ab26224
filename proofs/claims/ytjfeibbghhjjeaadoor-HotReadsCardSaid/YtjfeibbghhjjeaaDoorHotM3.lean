import Derived.Test.YtjfeibbghhjjeaaDoorHotM1
import Derived.Test.YtjfeibbghhjjeaaDoorHotM2
import Derived.Deep.RegionHeld3
namespace Go.Proofs.YtjfeibbghhjjeaaDoor
open Go.RowKit
set_option linter.unusedVariables false
set_option linter.unusedSimpArgs false
set_option maxRecDepth 100000

/-! hot.room, at. -/
structure HotS.Ok (H : HotS) : Prop where
  used : ∀ i (hi : i < H.boxes.length), H.boxes[i].used ≤ H.sectors * 64
  live : ∀ i (hi : i < H.boxes.length), H.boxes[i].live ≤ H.boxes[i].used
def HotS.roomO (H : HotS) (n : Nat) : Option Nat := match H.inO 1 with
  | some i => if (H.boxes.getD i freeB).used + n ≤ H.sectors * 64 then some i else none
  | none => none
set_option maxHeartbeats 16000000 in
theorem room_any {w : World} {h bx p : Nat} {H : HotS} (hh : HotAt w h bx p H) (hok : H.Ok) (n : Nat) : Calls Tryd.prog 49 #[ptr h, .int .i64 (n : Int)] w fun e w' => e = .returned (.int .i64 (optI (H.roomO n))) ∧ Fr none_ w w' := by
  have hin := in_any hh 1
  have HI := Lib.hid hin
  clear hin
  cases hi : H.inO 1 with
  | none =>
    have hs : H.roomO n = none := by unfold HotS.roomO; rw [hi]
    have HS := Lib.hid hs
    have HII := Lib.hid hi
    clear hs hi
    go_enter Tryd.func49, Tryd.ntmps49
    go_wp2_with fail
    (with_reducible refine HI.out.mono ?_)
    rintro e w1 ⟨rfl, hF1⟩
    rw [HII.out, show optI none = -1 from rfl]
    go_wp2_with fail
    refine wp_region_held_drew (S := fun _ => True) (by kernel_rfl) trivial (fun hHeld0 => ?_)
    refine wpAnyH_take (i := 0) (oi := _) (v := ?v1) rfl (by kernel_rfl) (by kernel_rfl) (by kernel_rfl) (fun _ _ _ h => h) (Or.inl ⟨by rfl, ?hy1⟩) (by assumption) ?rest1
    case hy1 => (intro w hSw; (try dsimp only at hSw); go_simp; try with_reducible rfl)
    try simp only [List.getElem_toArray, List.getElem_cons_zero, List.getElem_cons_succ, Act.put, List.setIfInBounds_toArray, List.set_cons_zero, List.set_cons_succ]
    refine wpAnyH_take (i := 1) (oi := _) (v := ?v2) rfl (by kernel_rfl) (by kernel_rfl) (by kernel_rfl) (fun _ _ _ h => h) (Or.inl ⟨by rfl, ?hy2⟩) (by assumption) ?rest2
    case hy2 => (intro w hSw; (try dsimp only at hSw); go_simp; try with_reducible rfl)
    try simp only [List.getElem_toArray, List.getElem_cons_zero, List.getElem_cons_succ, Act.put, List.setIfInBounds_toArray, List.set_cons_zero, List.set_cons_succ]
    refine wpAnyH_take (i := 2) (oi := _) (v := ?v3) rfl (by kernel_rfl) (by kernel_rfl) (by kernel_rfl) (fun _ _ _ h => h) (Or.inl ⟨by rfl, ?hy3⟩) (by assumption) ?rest3
    case hy3 => (intro w hSw; (try dsimp only at hSw); go_simp; try with_reducible rfl)
    try simp only [List.getElem_toArray, List.getElem_cons_zero, List.getElem_cons_succ, Act.put, List.setIfInBounds_toArray, List.set_cons_zero, List.set_cons_succ]
    refine wpAnyH_take (i := 3) (oi := _) (v := undef) rfl (by kernel_rfl) (by kernel_rfl) (by kernel_rfl) (fun _ _ _ h => h) (Or.inr ⟨by rfl, rfl⟩) (by assumption) ?rest4
    try simp only [List.getElem_toArray, List.getElem_cons_zero, List.getElem_cons_succ, Act.put, List.setIfInBounds_toArray, List.set_cons_zero, List.set_cons_succ]
    refine wpAnyH_take (i := 4) (oi := _) (v := undef) rfl (by kernel_rfl) (by kernel_rfl) (by kernel_rfl) (fun _ _ _ h => h) (Or.inr ⟨by rfl, rfl⟩) (by assumption) ?rest5
    try simp only [List.getElem_toArray, List.getElem_cons_zero, List.getElem_cons_succ, Act.put, List.setIfInBounds_toArray, List.set_cons_zero, List.set_cons_succ]
    refine wpAnyH_take (i := 5) (oi := _) (v := undef) rfl (by kernel_rfl) (by kernel_rfl) (by kernel_rfl) (fun _ _ _ h => h) (Or.inr ⟨by rfl, rfl⟩) (by assumption) ?rest6
    try simp only [List.getElem_toArray, List.getElem_cons_zero, List.getElem_cons_succ, Act.put, List.setIfInBounds_toArray, List.set_cons_zero, List.set_cons_succ]
    refine wpAnyH_take (i := 6) (oi := _) (v := undef) rfl (by kernel_rfl) (by kernel_rfl) (by kernel_rfl) (fun _ _ _ h => h) (Or.inr ⟨by rfl, rfl⟩) (by assumption) ?rest7
    try simp only [List.getElem_toArray, List.getElem_cons_zero, List.getElem_cons_succ, Act.put, List.setIfInBounds_toArray, List.set_cons_zero, List.set_cons_succ]
    refine wpAnyH_take (i := 7) (oi := _) (v := undef) rfl (by kernel_rfl) (by kernel_rfl) (by kernel_rfl) (fun _ _ _ h => h) (Or.inr ⟨by rfl, rfl⟩) (by assumption) ?rest8
    try simp only [List.getElem_toArray, List.getElem_cons_zero, List.getElem_cons_succ, Act.put, List.setIfInBounds_toArray, List.set_cons_zero, List.set_cons_succ]
    refine wpAnyH_take (i := 8) (oi := _) (v := undef) rfl (by kernel_rfl) (by kernel_rfl) (by kernel_rfl) (fun _ _ _ h => h) (Or.inr ⟨by rfl, rfl⟩) (by assumption) ?rest9
    try simp only [List.getElem_toArray, List.getElem_cons_zero, List.getElem_cons_succ, Act.put, List.setIfInBounds_toArray, List.set_cons_zero, List.set_cons_succ]
    refine wpAnyH_take (i := 9) (oi := _) (v := undef) rfl (by kernel_rfl) (by kernel_rfl) (by kernel_rfl) (fun _ _ _ h => h) (Or.inr ⟨by rfl, rfl⟩) (by assumption) ?rest10
    try simp only [List.getElem_toArray, List.getElem_cons_zero, List.getElem_cons_succ, Act.put, List.setIfInBounds_toArray, List.set_cons_zero, List.set_cons_succ]
    refine wpAnyH_take (i := 10) (oi := _) (v := undef) rfl (by kernel_rfl) (by kernel_rfl) (by kernel_rfl) (fun _ _ _ h => h) (Or.inr ⟨by rfl, rfl⟩) (by assumption) ?rest11
    try simp only [List.getElem_toArray, List.getElem_cons_zero, List.getElem_cons_succ, Act.put, List.setIfInBounds_toArray, List.set_cons_zero, List.set_cons_succ]
    refine wpAnyH_take (i := 11) (oi := _) (v := undef) rfl (by kernel_rfl) (by kernel_rfl) (by kernel_rfl) (fun _ _ _ h => h) (Or.inr ⟨by rfl, rfl⟩) (by assumption) ?rest12
    try simp only [List.getElem_toArray, List.getElem_cons_zero, List.getElem_cons_succ, Act.put, List.setIfInBounds_toArray, List.set_cons_zero, List.set_cons_succ]
    refine wpAnyH_take (i := 12) (oi := _) (v := undef) rfl (by kernel_rfl) (by kernel_rfl) (by kernel_rfl) (fun _ _ _ h => h) (Or.inr ⟨by rfl, rfl⟩) (by assumption) ?rest13
    try simp only [List.getElem_toArray, List.getElem_cons_zero, List.getElem_cons_succ, Act.put, List.setIfInBounds_toArray, List.set_cons_zero, List.set_cons_succ]
    refine wpAnyH_take (i := 13) (oi := _) (v := undef) rfl (by kernel_rfl) (by kernel_rfl) (by kernel_rfl) (fun _ _ _ h => h) (Or.inr ⟨by rfl, rfl⟩) (by assumption) ?rest14
    try simp only [List.getElem_toArray, List.getElem_cons_zero, List.getElem_cons_succ, Act.put, List.setIfInBounds_toArray, List.set_cons_zero, List.set_cons_succ]
    refine wpAnyH_take (i := 14) (oi := _) (v := undef) rfl (by kernel_rfl) (by kernel_rfl) (by kernel_rfl) (fun _ _ _ h => h) (Or.inr ⟨by rfl, rfl⟩) (by assumption) ?rest15
    try simp only [List.getElem_toArray, List.getElem_cons_zero, List.getElem_cons_succ, Act.put, List.setIfInBounds_toArray, List.set_cons_zero, List.set_cons_succ]
    refine wpAnyH_take (i := 15) (oi := _) (v := undef) rfl (by kernel_rfl) (by kernel_rfl) (by kernel_rfl) (fun _ _ _ h => h) (Or.inr ⟨by rfl, rfl⟩) (by assumption) ?rest16
    try simp only [List.getElem_toArray, List.getElem_cons_zero, List.getElem_cons_succ, Act.put, List.setIfInBounds_toArray, List.set_cons_zero, List.set_cons_succ]
    refine wpAnyH_take (i := 16) (oi := _) (v := undef) rfl (by kernel_rfl) (by kernel_rfl) (by kernel_rfl) (fun _ _ _ h => h) (Or.inr ⟨by rfl, rfl⟩) (by assumption) ?rest17
    try simp only [List.getElem_toArray, List.getElem_cons_zero, List.getElem_cons_succ, Act.put, List.setIfInBounds_toArray, List.set_cons_zero, List.set_cons_succ]
    refine wpAnyH_take (i := 17) (oi := _) (v := undef) rfl (by kernel_rfl) (by kernel_rfl) (by kernel_rfl) (fun _ _ _ h => h) (Or.inr ⟨by rfl, rfl⟩) (by assumption) ?rest18
    try simp only [List.getElem_toArray, List.getElem_cons_zero, List.getElem_cons_succ, Act.put, List.setIfInBounds_toArray, List.set_cons_zero, List.set_cons_succ]
    refine wpAnyH_take (i := 18) (oi := _) (v := undef) rfl (by kernel_rfl) (by kernel_rfl) (by kernel_rfl) (fun _ _ _ h => h) (Or.inr ⟨by rfl, rfl⟩) (by assumption) ?rest19
    try simp only [List.getElem_toArray, List.getElem_cons_zero, List.getElem_cons_succ, Act.put, List.setIfInBounds_toArray, List.set_cons_zero, List.set_cons_succ]
    refine wpAnyH_take (i := 19) (oi := _) (v := ?v20) rfl (by kernel_rfl) (by kernel_rfl) (by kernel_rfl) (fun _ _ _ h => h) (Or.inl ⟨by rfl, ?hy20⟩) (by assumption) ?rest20
    case hy20 => (intro w hSw; (try dsimp only at hSw); go_simp; try with_reducible rfl)
    try simp only [List.getElem_toArray, List.getElem_cons_zero, List.getElem_cons_succ, Act.put, List.setIfInBounds_toArray, List.set_cons_zero, List.set_cons_succ]
    refine wpAnyH_done (by kernel_rfl) ?_ _
    go_wp2_with fail
    go_ret
    exact ⟨by rw [HS.out]; rfl, hF1.drew⟩
  | some i =>
    obtain ⟨hil, hst⟩ := inO_lt hi
    have hu := hok.used i hil
    have hs : H.roomO n = if H.boxes[i].used + n ≤ H.sectors * 64 then some i else none := by unfold HotS.roomO; rw [hi]; simp [List.getD_eq_getElem?_getD, hil]
    have hsz : ∀ W, Calls Tryd.prog 17 #[confV H] W fun e w' => e = .returned (.int .i64 ((H.sectors * 64 : Nat) : Int)) ∧ Fr none_ W w' := fun W => size_any H hh.most.2 W
    have hm := hh.most.2
    have HS := Lib.hid hs
    have HII := Lib.hid hi
    have HSZ := Lib.hid hsz
    have hn0 : (0 : Int) ≤ (i : Int) := by omega
    have hn1 : (i : Int) < (H.boxes.length : Int) := by omega
    obtain ⟨u, hux⟩ : ∃ u, u = H.boxes[i].used := ⟨_, rfl⟩
    rw [← hux] at hu
    obtain ⟨z, hz⟩ : ∃ z, z = H.sectors * 64 := ⟨_, rfl⟩
    rw [← hz] at hu
    have HUX := Lib.hid hux
    have HZ := Lib.hid hz
    have hzz : z ≤ 65536 := by omega
    have hbx : ∀ W, Fr none_ w W → (W.cell? ⟨h, 1, none⟩ = some (.int .i64 H.first) ∧ W.cell? ⟨h, 2, none⟩ = some (.int .i64 (H.boxes.length : Int)) ∧ W.cell? ⟨h, 3, none⟩ = some (.int .i64 (H.sectors : Int)) ∧ W.cell? ⟨h, 4, none⟩ = some (.slice (some ⟨bx, 0, none⟩) H.boxes.length H.boxes.length)) ∧ W.cell? ⟨bx, i * 3 + 1, none⟩ = some (.int .i64 (u : Int)) := fun W hF => by
      have hh1 := hh.fr0 hF
      obtain ⟨c0, c1, c2, c3, c4⟩ := hh1.cellsAll
      obtain ⟨b0, b1, b2⟩ := box_cells hh1.bxs i hil
      exact ⟨⟨c1, c2, c3, c4⟩, by rw [b1, HUX.out]⟩
    have HBX := Lib.hid hbx
    clear hs hi hst hsz hux hz hbx hm
    go_enter Tryd.func49, Tryd.ntmps49
    go_wp2_with fail
    (with_reducible refine HI.out.mono ?_)
    rintro e w1 ⟨rfl, hF1⟩
    rw [HII.out, show optI (some i) = (i : Int) from rfl]
    have hs1 := HBX.out _ hF1.drew
    obtain ⟨d, hdd⟩ : ∃ d : Nat, z = u + d := ⟨z - u, by omega⟩
    have hwr : IntKind.i64.wrap ((z : Int) - (u : Int)) = (d : Int) := by rw [IntWalk.i64_in _ (by omega)]; omega
    have HD := Lib.hid hdd
    have HWR := Lib.hid hwr
    clear hdd hwr hzz hu
    by_cases hfit : n ≤ d
    all_goals
      go_wp2_with fail
      have hwr := HWR.out
      first
        | have hc2 : (n : Int) ≤ (d : Int) := by omega
        | have hc2 : ¬ (n : Int) ≤ (d : Int) := by omega
      go_region_held3 (fun W => (W.cell? ⟨h, 1, none⟩ = some (.int .i64 H.first) ∧ W.cell? ⟨h, 2, none⟩ = some (.int .i64 (H.boxes.length : Int)) ∧ W.cell? ⟨h, 3, none⟩ = some (.int .i64 (H.sectors : Int)) ∧ W.cell? ⟨h, 4, none⟩ = some (.slice (some ⟨bx, 0, none⟩) H.boxes.length H.boxes.length)) ∧ W.cell? ⟨bx, i * 3 + 1, none⟩ = some (.int .i64 (u : Int))) (first | exact hs1 | exact HBX.out _ (hF1.drew.trans hX)) (first
        | (go_at_call 17; (with_reducible refine (HSZ.out _).mono ?_); rintro e x1 ⟨rfl, hX⟩; rw [← HZ.out]))
      go_wp2_with fail
      go_ret
    · exact ⟨by rw [HS.out, ← HUX.out, ← HZ.out, if_pos (by have := HD.out; omega)]; rfl, hF1.drew.trans hX⟩
    · exact ⟨by rw [HS.out, ← HUX.out, ← HZ.out, if_neg (by have := HD.out; omega)]; rfl, hF1.drew.trans hX⟩
end Go.Proofs.YtjfeibbghhjjeaaDoor
namespace Go.Proofs.YtjfeibbghhjjeaaDoor
open Go.RowKit
set_option linter.unusedVariables false
set_option linter.unusedSimpArgs false
set_option maxRecDepth 100000

/-! hot.write -/
structure HwR (w wr : World) (p m1 m2 : Nat) (D : DevS) (s : Int) (T : List UInt8) (k : Nat) (v : Value) : Prop where
  dev : DevAt wr p m1 m2 (wrN D s T k)
  fr : Fr (devBlks p m1 m2) w wr
  rest : ∃ A' c', v = .slice A' (T.length - 64 * k) c' ∧ CellsAt wr A' ((T.drop (64 * k)).map byteV) ∧ T.length - 64 * k ≤ c' ∧ ∀ b, blkOf A' b → w.heap.size ≤ b
theorem chk_cells {w : World} {b o : Nat} {l : List UInt8} {k : Nat} (h : CellsAt w (some ⟨b, o, none⟩) ((l.drop (64 * k)).map byteV)) : CellsAt w (some ⟨b, o, none⟩) ((chunk l k).map byteV) := by
  have h1 := h.sub 0 (min 64 (l.length - 64 * k)) (by rw [List.length_map, List.length_drop]; omega)
  rw [List.drop_zero, ← List.map_take] at h1
  have : (l.drop (64 * k)).take (min 64 (l.length - 64 * k)) = chunk l k := by
    unfold chunk
    rw [← List.take_take, List.take_of_length_le (l := (l.drop (64 * k))) (by rw [List.length_drop]; omega)]
  rw [← this]
  exact h1
theorem rst_cells {w : World} {b o : Nat} {l : List UInt8} {k : Nat} (h : CellsAt w (some ⟨b, o, none⟩) ((l.drop (64 * k)).map byteV)) (hk : 64 * k + 64 ≤ l.length) : CellsAt w (some ⟨b, o + 64, none⟩) ((l.drop (64 * (k + 1))).map byteV) := by
  have h1 := h.sub 64 (l.length - 64 * (k + 1)) (by rw [List.length_map, List.length_drop]; omega)
  rw [← List.map_drop, ← List.map_take, List.drop_drop, show 64 * k + 64 = 64 * (k + 1) by omega, List.take_of_length_le (by rw [List.length_drop]; omega)] at h1
  exact h1
theorem hw_ar {fr n a r S tl : Nat} (ha : a = fr / 64) (hr : r = fr % 64) (ht : tl = r + n) (hf : fr + n ≤ S * 64) (hn : 0 < n) : r < 64 ∧ a < S ∧ a + cnt tl ≤ S ∧ 0 < tl := by
  unfold cnt; omega
def HwPost (w : World) (p m1 m2 : Nat) (X : DevS) (e : Ending) (w' : World) : Prop := e = .returned (errV 0) ∧ Fr (devBlks p m1 m2) w w' ∧ DevAt w' p m1 m2 X
set_option maxHeartbeats 4000000 in
theorem hwrite_any {w : World} {h bx p m1 m2 : Nat} {H : HotS} {D : DevS} (hh : Hd w h bx p m1 m2 H D) (hc : Calm D) (i_ fr : Nat) (hi : i_ < H.boxes.length) (A : Option Addr) (n c : Nat) (l : List UInt8) (hn : n = l.length) (hp : 0 < l.length) (hfit : fr + l.length ≤ H.sectors * 64) (hA : CellsAt w A (l.map byteV)) :
    Calls Tryd.prog 52 #[ptr h, .int .i64 (i_ : Int), .int .i64 (fr : Int), .slice A n c] w fun e w' => HwPost w p m1 m2 (hwrite D H i_ fr l) e w' := by
  have hlen := hh.dev.get_len
  have hm := hh.hot.most
  have htl := txtOf_len hlen H i_ fr l
  obtain ⟨T, hT⟩ : ∃ T, T = txtOf D H i_ fr l := ⟨_, rfl⟩
  rw [← hT] at htl
  have hX : hwrite D H i_ fr l = wrN D (sectorF H i_ (fr / 64)) T (cnt T.length) := by rw [hT]; rfl
  have hTT : (D.get (sectorF H i_ (fr / 64))).take (fr % 64) ++ l = T := by rw [hT]; rfl
  obtain ⟨X, hX2⟩ : ∃ X, X = hwrite D H i_ fr l := ⟨_, rfl⟩
  rw [← hX2] at hX ⊢
  clear hX2 hT
  have hdiv : ((fr : Int).tdiv 64) = ((fr / 64 : Nat) : Int) := by rw [Int.tdiv_eq_ediv_of_nonneg (by omega)]; omega
  have hmod : ((fr : Int).tmod 64) = ((fr % 64 : Nat) : Int) := by rw [Int.tmod_eq_emod_of_nonneg (by omega)]; omega
  obtain ⟨a, ha⟩ : ∃ a, a = fr / 64 := ⟨_, rfl⟩
  obtain ⟨r, hr⟩ : ∃ r, r = fr % 64 := ⟨_, rfl⟩
  rw [← ha] at hdiv hX hTT
  rw [← hr] at htl hTT hmod
  obtain ⟨hr64, haS, haC, htp⟩ := hw_ar ha hr htl hfit hp
  have hat := fun k (hk : a + k < H.sectors) => hh.at0 i_ (a + k) hi hk
  have hwa : wrap64 (a : Int) = (a : Int) := by rw [IntWalk.wrap64_in _ (by omega)]
  have hwr : wrap64 (r : Int) = (r : Int) := by rw [IntWalk.wrap64_in _ (by omega)]
  have HWA := Lib.hid hwa
  have HWR := Lib.hid hwr
  have HAT := Lib.hid hat
  have HAC := Lib.hid haC
  clear hwa hwr hat haC hlen
  have HX := Lib.hid hX
  have HTT := Lib.hid hTT
  have HTL := Lib.hid htl
  have HA := Lib.hid ha
  have HR := Lib.hid hr
  have HN := Lib.hid hn
  clear hX hTT htl ha hr hn
  go_enter Tryd.func52, Tryd.ntmps52
  go_wp2_with fail
  have hat := HAT.out
  have hE0 := atE_up hh.up (hat 0 (by omega)).1 (hat 0 (by omega)).2
  have hsec : ∀ W, Fr none_ w W → Calls Tryd.prog 72 #[ptr h, .int .i64 (i_ : Int), .int .i64 (a : Int)] W fun e w' => e = .returned (.int .i64 (sectorF H i_ a)) ∧ Fr none_ W w' := fun W hF => sector_any (hh.fr0 hF).hot i_ a (by omega) (by omega)
  have hrd : ∀ W, Fr none_ w W → Calls Tryd.prog 71 #[ptr p, .int .i64 (sectorF H i_ a)] W fun e w' => ReadOk W (D.get (sectorF H i_ a)) e w' := fun W hF => read_ok (hh.fr0 hF).dev _ hE0
  have hst : ∀ W, Fr none_ w W → W.cell? ⟨h, 0, none⟩ = some (ptr p) := fun W hF => (hh.fr0 hF).hot.cellsAll.1
  have hX0 : Fr none_ w w.drew := (Fr.refl _ _).drew
  have hs0 := hst _ hX0
  have HSEC := Lib.hid hsec
  have HRD := Lib.hid hrd
  have HST := Lib.hid hst
  clear hsec hrd hst hE0 hat
  go_region_held3 (fun W => W.cell? ⟨h, 0, none⟩ = some (ptr p)) (first | exact hs0 | exact HST.out _ hX1 | exact HST.out _ hX2) (first
    | (go_at_call 72; (with_reducible refine (HSEC.out _ hX0).mono ?_); rintro e x1 ⟨rfl, hY1⟩; have hX1 := hX0.trans hY1)
    | (go_at_call 71; (with_reducible refine (HRD.out x1 hX1).mono ?_); rintro e x2 ⟨g, rfl, hg, hY2, hb2⟩; rw [errV_0]; have hX2 := hX1.trans hY2))
  have hgw : w.heap.size ≤ g := by have := hX1.size; omega
  have hA2 := hA.fr0 hX2
  have hl2 : (D.get (sectorF H i_ a)).length = 64 := hh.dev.get_len _
  have hr1 : (0 : Int) ≤ (r : Int) := by omega
  have hr2 : (r : Int) ≤ 64 := by omega
  have hr3 : r ≤ 64 := by omega
  have HY := Lib.hid (And.intro hX2 hgw)
  have hln := HN.out
  clear hX1 hX0 hs0 hY1 hY2 hg
  go_wp2_with ((with_reducible refine at_app_arr (.tmp 37) (.tmp 38) 24 5 (.int .u8 0) Tryd.underlying24 info_u8h ?_ (g := g) (n := r) (cap := 64) (full := (D.get (sectorF H i_ a)).map byteV) (A := A) (m := n) (c := c) (news := l.map byteV) ?_ ?_ hb2 ?_ hr3 hA2 ?_ ?_ ?_ ?_ ?_ ?_); (focus rfl); (focus rfl); (focus rfl); (focus rw [List.length_map, hl2]); (focus rw [List.length_map, hln]); (focus omega); (focus exact bytes_one _); (focus unfold maxLen; omega); (focus omega); intro g2 c2 w4 hg4 hc4 hF4 hA4)
  obtain ⟨hX2, hgw⟩ := HY.out
  have hF4' := hX2.own hF4 hgw
  have hD4 := hh.dev.fr0 hF4'
  have hg2 : w.heap.size ≤ g2 := by
    rcases hg4 with rfl | h
    · exact hgw
    · have := hX2.size; omega
  have hA4T : CellsAt w4 (some ⟨g2, 0, none⟩) (T.map byteV) := by rw [← HTT.out, List.map_append, List.map_take]; exact hA4
  have hR0 : HwR w w4 p m1 m2 D (sectorF H i_ a) T 0 (.slice (some ⟨g2, 0, none⟩) (r + l.length) c2) := by
    have := HTL.out
    exact ⟨hD4, Fr.of0 hF4', some ⟨g2, 0, none⟩, c2, by rw [this]; rfl, by simpa using hA4T, by omega, fun b hb => by obtain rfl := blkOf_some hb; exact hg2⟩
  clear hF4 hF4' hD4 hg2 hA4T hA4 hX2 hgw hA2 hb2 hl2 hg4 hA hr1 hr2 hr3
  go_loopw [11, 13] (fun v i wr => ∃ q k : Nat, q = a + k ∧ k ≤ cnt T.length ∧ i = .int .i64 (q : Int) ∧ HwR w wr p m1 m2 D (sectorF H i_ a) T k v) (fun _ i _ => cnt T.length - ((intOf i).toNat - a))
  case atStart => exact ⟨a, 0, rfl, by omega, rfl, hR0⟩
  case round =>
    obtain ⟨q, k, hq, hk, rfl, hR⟩ := hrel
    obtain ⟨A', c', rfl, hA', hc', hb'⟩ := hR.rest
    clear hR0
    by_cases hlt : 64 * k < T.length
    · obtain ⟨ba, oa, rfl⟩ := hA'.addr (by rw [List.length_map, List.length_drop]; omega)
      have hkl : k < cnt T.length := by unfold cnt; omega
      have hks : a + k < H.sectors := by have := HAC.out; omega
      have hat := HAT.out k hks
      have hat0 := HAT.out 0 (by omega)
      rw [Nat.add_zero] at hat0
      have hsk := sectorF_add H i_ a k
      have hck : Calm (wrN D (sectorF H i_ a) T k) := hc.wrN hat0.1 T k (by omega)
      have hcl := chunk_len T k
      have hw1 := hck.write (s := sectorF H i_ a + (k : Nat)) (by omega) (by rw [wrN_sectors]; omega) (l := chunk T k) (by omega)
      have hwe := writeE_eq (wrN D (sectorF H i_ a) T k) (sectorF H i_ a + (k : Nat)) (by omega) (by rw [wrN_sectors]; omega) (chunk T k) (by omega)
      rw [hw1, (hck.put _ _).up, if_neg (by decide)] at hwe
      have hch := chk_cells hA'
      have hbl := hb' ba ⟨oa, rfl⟩
      obtain ⟨m, hmm⟩ : ∃ m, m = (chunk T k).length := ⟨_, rfl⟩
      have hwr : ∀ W, Fr none_ wr W → Calls Tryd.prog 73 #[ptr p, .int .i64 (sectorF H i_ (a + k)), .slice (some ⟨ba, oa, none⟩) m c'] W fun e w' => e = .returned .nilIface ∧ Fr (devBlks p m1 m2) W w' ∧ DevAt w' p m1 m2 (wrN D (sectorF H i_ a) T (k + 1)) := fun W hF => by
        refine (write_any (hR.dev.fr0 hF) (sectorF H i_ (a + k)) (some ⟨ba, oa, none⟩) m c' (chunk T k) hmm (hch.fr0 hF) (fun b hb _ hd => by have := blkOf_some hb; subst this; have := hh.dev.lt _ hd; omega)).mono ?_
        rintro e w' ⟨h1, h2, h3⟩
        rw [hsk] at h1 h3
        exact ⟨by rw [h1, hwe, errV_0], h2, h3⟩
      have hhot := hh.hot.fr hR.fr hh.hd hh.bd
      have hsec : ∀ W, Fr none_ wr W → Calls Tryd.prog 72 #[ptr h, .int .i64 (i_ : Int), .int .i64 (q : Int)] W fun e w' => e = .returned (.int .i64 (sectorF H i_ (a + k))) ∧ Fr none_ W w' := fun W hF => by rw [hq]; exact sector_any (hhot.fr0 hF) i_ (a + k) (by omega) (by omega)
      have hst : ∀ W, Fr none_ wr W → W.cell? ⟨h, 0, none⟩ = some (ptr p) := fun W hF => (hhot.fr0 hF).cellsAll.1
      have hst2 : ∀ W W', Fr none_ wr W → Fr (devBlks p m1 m2) W W' → W'.cell? ⟨h, 0, none⟩ = some (ptr p) := fun W W' hF hG => ((hhot.fr0 hF).fr hG hh.hd hh.bd).cellsAll.1
      have hX0 : Fr none_ wr wr.drew := (Fr.refl _ _).drew
      have hs0 := hst _ hX0
      rw [← hmm] at hcl
      obtain ⟨L, hL⟩ : ∃ L, L = T.length - 64 * k := ⟨_, rfl⟩
      rw [← hL]
      have hmn : (if (64 : Int) < (L : Int) then (64 : Int) else (L : Int)) = (m : Int) := by split <;> omega
      have q0 : (0 : Int) < (L : Int) := by omega
      have q0n : 0 < L := by omega
      have q1 : (m : Int) ≤ (L : Int) := by omega
      have q1n : m ≤ L := by omega
      have q2 : (m : Int) ≤ (c' : Int) := by omega
      have q3 : (0 : Int) ≤ (m : Int) := by omega
      have hqb : q ≤ 1024 := by omega
      have hrn : T.length - 64 * (k + 1) = L - m := by omega
      have HL := Lib.hid hL
      have HSEC := Lib.hid hsec
      have HWRT := Lib.hid hwr
      have HST := Lib.hid hst
      have HST2 := Lib.hid hst2
      have HCL := Lib.hid hcl
      have HMM := Lib.hid hmm
      have HQ := Lib.hid hq
      have HRN := Lib.hid hrn
      have HQB := Lib.hid hqb
      clear hsec hwr hst hst2 hwe hw1 hsk hat hat0 hcl hmm hq hrn hqb hck hhot hL
      go_wp2_with fail
      go_region_held3 (fun W => W.cell? ⟨h, 0, none⟩ = some (ptr p)) (first | exact hs0 | exact HST.out _ hX1 | exact HST2.out _ _ hX1 hY2) (first
        | (go_at_call 72; (with_reducible refine (HSEC.out _ hX0).mono ?_); rintro e x1 ⟨rfl, hY1⟩; have hX1 := hX0.trans hY1)
        | (go_at_call 73; (with_reducible refine (HWRT.out x1 hX1).mono ?_); rintro e x2 ⟨rfl, hY2, hD2⟩))
      have hFx : Fr (devBlks p m1 m2) w x2 := (hR.fr.trans0 hX1).trans hY2
      have hA5 : CellsAt x2 (some ⟨ba, oa, none⟩) ((T.drop (64 * k)).map byteV) := (hA'.fr0 hX1).fr hY2 (fun b hb hd => by have := blkOf_some hb; subst this; have := hh.dev.lt _ hd; omega)
      clear hX1 hX0 hs0 hY1 hY2
      by_cases hmc : c' = m
      · subst hmc
        go_wp2_with fail
        go_roundw
        case rel =>
          have hcl := HCL.out
          have hL := HL.out
          have hq := HQ.out
          have hqb := HQB.out
          refine ⟨q + 1, k + 1, by omega, by omega, by rw [IntWalk.wrap64_in _ (by omega)]; rfl, hD2, hFx, some ⟨ba, oa, none⟩, 0, by rw [HRN.out, show L - c' = 0 by omega], ?_, ?_, hb'⟩
          · rw [List.drop_of_length_le (by omega)]; exact CellsAt.nil _ _
          · omega
        case measure => have := HQ.out; have := HQB.out; rw [IntWalk.wrap64_in _ (by omega)]; simp [intOf]; omega
      · go_wp2_with fail
        go_roundw
        case rel =>
          have hcl := HCL.out
          have hL := HL.out
          have hq := HQ.out
          have hqb := HQB.out
          refine ⟨q + 1, k + 1, by omega, by omega, by rw [IntWalk.wrap64_in _ (by omega)]; rfl, hD2, hFx, some ⟨ba, oa + m, none⟩, c' - m, by rw [HRN.out], ?_, by omega, fun x hx => hb' x (by obtain ⟨o, ho⟩ := hx; cases ho; exact ⟨oa, rfl⟩)⟩
          by_cases h64 : 64 * k + 64 ≤ T.length
          · have : m = 64 := by omega
            rw [this]
            exact rst_cells hA5 h64
          · rw [List.drop_of_length_le (by omega)]; exact CellsAt.nil _ _
        case measure => have := HQ.out; have := HQB.out; rw [IntWalk.wrap64_in _ (by omega)]; simp [intOf]; omega
    · have hz0 : T.length - 64 * k = 0 := by omega
      have hkl : k = cnt T.length := by unfold cnt at hk ⊢; omega
      subst hkl
      have hdev := hR.dev
      have hfr := hR.fr
      rw [hz0]
      clear hR hA' hc' hlt hk hz0 hq
      go_wp2_with fail
      go_ret
      exact ⟨by rw [errV_0]; rfl, hfr, by rw [HX.out]; exact hdev⟩
end Go.Proofs.YtjfeibbghhjjeaaDoor
namespace Go.Proofs.YtjfeibbghhjjeaaDoor
open Go.RowKit
set_option linter.unusedVariables false
set_option linter.unusedSimpArgs false
set_option maxRecDepth 100000

/-! hot.at, Get -/
abbrev locV (i fr n sum : Nat) : Value := .agg #[.int .i64 (i : Int), .int .i64 (fr : Int), .int .i64 (n : Int), .int .u32 (sum : Int)]
set_option maxHeartbeats 4000000 in
theorem hat_any {w : World} {h bx p : Nat} {H : HotS} (hh : HotAt w h bx p H) (i fr n sum : Nat) (hi : i < H.boxes.length) (hs : H.boxes[i].state ≠ 0) (hn : 1 ≤ n) (hfit : fr + n ≤ H.boxes[i].used) (hu : H.boxes[i].used ≤ 65536) :
    Calls Tryd.prog 53 #[ptr h, locV i fr n sum] w fun e w' => e = .returned (.tuple #[.pointer (some ⟨bx, i * 3, none⟩), errV 0]) ∧ Fr none_ w w' := by
  obtain ⟨V, hV⟩ : ∃ V, V = w.alloc (.cells #[.int .i64 (i : Int), .int .i64 (fr : Int), .int .i64 (n : Int), .int .u32 (sum : Int)] 87) := ⟨_, rfl⟩
  have hF : Fr none_ w V := hV ▸ (Fr.refl _ _).alloc _
  have hb : V.heap[w.heap.size]? = some (.cells #[.int .i64 (i : Int), .int .i64 (fr : Int), .int .i64 (n : Int), .int .u32 (sum : Int)] 87 (0, 0)) := hV ▸ heap_alloc_new _ _
  have hbox := hbox_any (hh.fr0 hF) i hi hs
  obtain ⟨b0, b1, b2⟩ := box_cells (hh.fr0 hF).bxs i hi
  obtain ⟨x, hx⟩ : ∃ x, x = H.boxes[i] := ⟨_, rfl⟩
  rw [← hx] at b0 b1 b2 hfit hu
  clear hx hs
  have HB := Lib.hid hbox
  have HV := Lib.hid hV
  clear hbox hV
  have c0 : V.cell? ⟨w.heap.size, 0, none⟩ = some (.int .i64 (i : Int)) := by rw [cell_of_blk hb]; rfl
  go_enter Tryd.func53, Tryd.ntmps53
  go_wp2_with fail
  rw [← HV.out]
  (with_reducible refine HB.out.mono ?_)
  rintro e w1 ⟨rfl, rfl⟩
  rw [errV_0]
  go_wp2_with fail
  have d1 : V.drew.cell? ⟨w.heap.size, 1, none⟩ = some (.int .i64 (fr : Int)) := by show V.cell? _ = _; rw [cell_of_blk hb]; rfl
  have d2 : V.drew.cell? ⟨w.heap.size, 2, none⟩ = some (.int .i64 (n : Int)) := by show V.cell? _ = _; rw [cell_of_blk hb]; rfl
  have e1 : V.drew.cell? ⟨bx, i * 3 + 1, none⟩ = some (.int .i64 (x.used : Int)) := b1
  obtain ⟨d, hd⟩ : ∃ d : Nat, x.used = fr + d := ⟨x.used - fr, by omega⟩
  have q1 : ¬ (n : Int) < 1 := by omega
  have q2 : ¬ (fr : Int) < 0 := by omega
  have q3 : ¬ (x.used : Int) < (fr : Int) := by omega
  have q4 : IntKind.i64.wrap ((x.used : Int) - (fr : Int)) = (d : Int) := by rw [IntWalk.i64_in _ (by omega)]; omega
  have q5 : ¬ (d : Int) < (n : Int) := by omega
  have q6 : ¬ x.used < fr := by omega
  have q7 : ¬ d < n := by omega
  clear hd hfit hu
  have hs0 := And.intro d1 (And.intro d2 e1)
  go_region_held3 (fun W => W.cell? ⟨w.heap.size, 1, none⟩ = some (.int .i64 (fr : Int)) ∧ W.cell? ⟨w.heap.size, 2, none⟩ = some (.int .i64 (n : Int)) ∧ W.cell? ⟨bx, i * 3 + 1, none⟩ = some (.int .i64 (x.used : Int))) (exact hs0) (fail)
  go_wp2_with fail
  go_ret2
  exact ⟨rfl, hF.drew⟩
structure GetOk (w : World) (l : List UInt8) (e : Ending) (w' : World) : Prop where
  ret : ∃ g o c, e = .returned (.tuple #[.slice (some ⟨g, o, none⟩) l.length c, errV 0]) ∧ CellsAt w' (some ⟨g, o, none⟩) (l.map byteV) ∧ w.heap.size ≤ g ∧ l.length ≤ c
  fr : Fr none_ w w'
def GetBad (w : World) (e : Ending) (w' : World) : Prop := e = .returned (.tuple #[.slice none 0 0, errV 11]) ∧ Fr none_ w w'
set_option maxHeartbeats 4000000 in
theorem hget_ok {w : World} {h bx p m1 m2 : Nat} {H : HotS} {D : DevS} (hh : Hd w h bx p m1 m2 H D) (i fr n sum : Nat) (hi : i < H.boxes.length) (hs : H.boxes[i].state ≠ 0) (hn : 1 ≤ n) (hfit : fr + n ≤ H.boxes[i].used) (hu : H.boxes[i].used ≤ H.sectors * 64) (hsum : sumF (bytesAt D H i fr n) = sum) :
    Calls Tryd.prog 26 #[ptr h, locV i fr n sum] w fun e w' => GetOk w (bytesAt D H i fr n) e w' := by
  have hm := hh.hot.most
  obtain ⟨V, hV⟩ : ∃ V, V = w.alloc (.cells #[.int .i64 (i : Int), .int .i64 (fr : Int), .int .i64 (n : Int), .int .u32 (sum : Int)] 87) := ⟨_, rfl⟩
  have hF : Fr none_ w V := hV ▸ (Fr.refl _ _).alloc _
  have hb : V.heap[w.heap.size]? = some (.cells #[.int .i64 (i : Int), .int .i64 (fr : Int), .int .i64 (n : Int), .int .u32 (sum : Int)] 87 (0, 0)) := hV ▸ heap_alloc_new _ _
  have hlen := bytesAt_len hh.dev.get_len H i fr n
  have hat := hat_any (hh.fr0 hF).hot i fr n sum hi hs hn hfit (by omega)
  have hrd : ∀ W, Fr none_ w W → Calls Tryd.prog 54 #[ptr h, .int .i64 (i : Int), .int .i64 (fr : Int), .int .i64 (n : Int)] W fun e w' => HRead W (bytesAt D H i fr n) e w' := fun W hW => hread_any (hh.fr0 hW) i fr n hi (by omega) (by omega)
  have hcs : ∀ W, Fr none_ V W → W.cell? ⟨w.heap.size, 0, none⟩ = some (.int .i64 (i : Int)) ∧ W.cell? ⟨w.heap.size, 1, none⟩ = some (.int .i64 (fr : Int)) ∧ W.cell? ⟨w.heap.size, 2, none⟩ = some (.int .i64 (n : Int)) ∧ W.cell? ⟨w.heap.size, 3, none⟩ = some (.int .u32 (sum : Int)) := fun W hW => by
    have := hW.heap0 hb
    refine ⟨?_, ?_, ?_, ?_⟩ <;> (rw [cell_of_blk this]; rfl)
  obtain ⟨T, hT⟩ : ∃ T, T = bytesAt D H i fr n := ⟨_, rfl⟩
  rw [← hT] at hsum hrd hlen
  try rw [← hT]
  have hsz : n ≤ 65536 := by omega
  have HAT := Lib.hid hat
  have HRD := Lib.hid hrd
  have HCS := Lib.hid hcs
  have HV := Lib.hid hV
  have HSUM := Lib.hid hsum
  have HLEN := Lib.hid hlen
  clear hat hrd hcs hV hT hs hm hsum hlen hfit hu
  go_enter Tryd.func26, Tryd.ntmps26
  go_wp2_with fail
  rw [← HV.out]
  (with_reducible refine HAT.out.mono ?_)
  rintro e w1 ⟨rfl, hF1⟩
  rw [errV_0]
  obtain ⟨c0, c1, c2, c3⟩ := HCS.out _ hF1
  go_wp2_with fail
  (with_reducible refine (HRD.out _ (hF.trans hF1)).mono ?_)
  rintro e w2 ⟨⟨g, o, c, rfl, hA, hg, hc⟩, hF2⟩
  rw [errV_0]
  have hF3 := (hF.trans hF1).trans hF2
  obtain ⟨d0, d1, d2, d3⟩ := HCS.out _ ((hF1.trans hF2).drew)
  clear c0 c1 c2 c3 d0 d1 d2
  have hsm : Calls Tryd.prog 38 #[.slice (some ⟨g, o, none⟩) T.length c] w2.drew fun e w' => e = .returned (.int .u32 (sumF T : Nat)) ∧ w2.drew = w' := sum_any T.length (some ⟨g, o, none⟩) c T _ rfl (by have := HLEN.out; omega) hA.drew
  have HSM := Lib.hid hsm
  have HSL := Lib.hid (moreF_lt 1 T)
  clear hsm
  go_wp2_with fail
  have hne : (sumF T : Int) = (sum : Int) := by rw [HSUM.out]
  go_region_held3 (fun W => W.cell? ⟨w.heap.size, 3, none⟩ = some (.int .u32 (sum : Int))) (exact d3) (first
    | (go_at_call 38; (with_reducible refine HSM.out.mono ?_); rintro e x1 ⟨rfl, hx1⟩; subst hx1))
  go_wp2_with fail
  go_ret2
  exact ⟨⟨g, o, c, rfl, hA.drew, by have := hF.size; have := hF1.size; omega, hc⟩, hF3.drew⟩
set_option maxHeartbeats 4000000 in
theorem hget_bad {w : World} {h bx p m1 m2 : Nat} {H : HotS} {D : DevS} (hh : Hd w h bx p m1 m2 H D) (i fr n sum : Nat) (hi : i < H.boxes.length) (hs : H.boxes[i].state ≠ 0) (hn : 1 ≤ n) (hfit : fr + n ≤ H.boxes[i].used) (hu : H.boxes[i].used ≤ H.sectors * 64) (hsum : sumF (bytesAt D H i fr n) ≠ sum) :
    Calls Tryd.prog 26 #[ptr h, locV i fr n sum] w fun e w' => GetBad w e w' := by
  have hm := hh.hot.most
  obtain ⟨V, hV⟩ : ∃ V, V = w.alloc (.cells #[.int .i64 (i : Int), .int .i64 (fr : Int), .int .i64 (n : Int), .int .u32 (sum : Int)] 87) := ⟨_, rfl⟩
  have hF : Fr none_ w V := hV ▸ (Fr.refl _ _).alloc _
  have hb : V.heap[w.heap.size]? = some (.cells #[.int .i64 (i : Int), .int .i64 (fr : Int), .int .i64 (n : Int), .int .u32 (sum : Int)] 87 (0, 0)) := hV ▸ heap_alloc_new _ _
  have hlen := bytesAt_len hh.dev.get_len H i fr n
  have hat := hat_any (hh.fr0 hF).hot i fr n sum hi hs hn hfit (by omega)
  have hrd : ∀ W, Fr none_ w W → Calls Tryd.prog 54 #[ptr h, .int .i64 (i : Int), .int .i64 (fr : Int), .int .i64 (n : Int)] W fun e w' => HRead W (bytesAt D H i fr n) e w' := fun W hW => hread_any (hh.fr0 hW) i fr n hi (by omega) (by omega)
  have hcs : ∀ W, Fr none_ V W → W.cell? ⟨w.heap.size, 0, none⟩ = some (.int .i64 (i : Int)) ∧ W.cell? ⟨w.heap.size, 1, none⟩ = some (.int .i64 (fr : Int)) ∧ W.cell? ⟨w.heap.size, 2, none⟩ = some (.int .i64 (n : Int)) ∧ W.cell? ⟨w.heap.size, 3, none⟩ = some (.int .u32 (sum : Int)) := fun W hW => by
    have := hW.heap0 hb
    refine ⟨?_, ?_, ?_, ?_⟩ <;> (rw [cell_of_blk this]; rfl)
  obtain ⟨T, hT⟩ : ∃ T, T = bytesAt D H i fr n := ⟨_, rfl⟩
  rw [← hT] at hsum hrd hlen
  try rw [← hT]
  have hsz : n ≤ 65536 := by omega
  have HAT := Lib.hid hat
  have HRD := Lib.hid hrd
  have HCS := Lib.hid hcs
  have HV := Lib.hid hV
  have HSUM := Lib.hid hsum
  have HLEN := Lib.hid hlen
  clear hat hrd hcs hV hT hs hm hsum hlen hfit hu
  go_enter Tryd.func26, Tryd.ntmps26
  go_wp2_with fail
  rw [← HV.out]
  (with_reducible refine HAT.out.mono ?_)
  rintro e w1 ⟨rfl, hF1⟩
  rw [errV_0]
  obtain ⟨c0, c1, c2, c3⟩ := HCS.out _ hF1
  go_wp2_with fail
  (with_reducible refine (HRD.out _ (hF.trans hF1)).mono ?_)
  rintro e w2 ⟨⟨g, o, c, rfl, hA, hg, hc⟩, hF2⟩
  rw [errV_0]
  have hF3 := (hF.trans hF1).trans hF2
  obtain ⟨d0, d1, d2, d3⟩ := HCS.out _ ((hF1.trans hF2).drew)
  clear c0 c1 c2 c3 d0 d1 d2
  have hsm : Calls Tryd.prog 38 #[.slice (some ⟨g, o, none⟩) T.length c] w2.drew fun e w' => e = .returned (.int .u32 (sumF T : Nat)) ∧ w2.drew = w' := sum_any T.length (some ⟨g, o, none⟩) c T _ rfl (by have := HLEN.out; omega) hA.drew
  have HSM := Lib.hid hsm
  have HSL := Lib.hid (moreF_lt 1 T)
  clear hsm
  go_wp2_with fail
  have hne : ¬ (sumF T : Int) = (sum : Int) := by have := HSUM.out; omega
  go_region_held3 (fun W => W.cell? ⟨w.heap.size, 3, none⟩ = some (.int .u32 (sum : Int))) (exact d3) (first
    | (go_at_call 38; (with_reducible refine HSM.out.mono ?_); rintro e x1 ⟨rfl, hx1⟩; subst hx1))
  go_wp2_with fail
  go_ret2
  exact ⟨by rw [errV_n (by decide)]; rfl, hF3.drew⟩
end Go.Proofs.YtjfeibbghhjjeaaDoor

import Derived.Test.YtdkjmnhblepkaaaColdM1
import Derived.Test.YtdkjmnhblepkaaaWrN
namespace Go.Proofs.Ytdkjmnhblepkaaa
open Go.RowKit
set_option linter.unusedVariables false
set_option linter.unusedSimpArgs false
set_option maxRecDepth 100000

/-! cold: at, write. -/
set_option maxHeartbeats 4000000 in
theorem cat_any {w : World} {x lb pb c g : Nat} {ds : List Nat} {C : ColdS} {l : List (PlaceS × Value)} (h : ColdAt w x lb pb c g ds C l) (k : Nat) (hk : C.first + k * sectC C.d C.size ≤ 1000000) :
    Calls Try.prog 34 #[ptr x, .int .i64 (k : Int)] w fun e w' => e = .returned (.int .i64 ((C.first + k * sectC C.d C.size : Nat) : Int)) ∧ Fr none_ w w' := by
  obtain ⟨_, c1, c2, c3, c4, c5, _⟩ := h.cells
  have hse := sect_any C.d C.m C.first C.places.length C.size (by have := h.code.most; omega) h.most.2
  obtain ⟨S, hS⟩ : ∃ S, S = sectC C.d C.size := ⟨_, rfl⟩
  rw [← hS] at hse hk ⊢
  have hst : ∀ wx, Fr none_ w wx → (wx.cell? ⟨x, 1, none⟩ = some (.int .i64 (C.d : Int)) ∧ wx.cell? ⟨x, 2, none⟩ = some (.int .i64 (C.m : Int)) ∧ wx.cell? ⟨x, 3, none⟩ = some (.int .i64 (C.first : Int)) ∧ wx.cell? ⟨x, 4, none⟩ = some (.int .i64 (C.places.length : Int)) ∧ wx.cell? ⟨x, 5, none⟩ = some (.int .i64 (C.size : Int))) := fun wx hx => ⟨hx.cell0 c1, hx.cell0 c2, hx.cell0 c3, hx.cell0 c4, hx.cell0 c5⟩
  obtain ⟨T, hT⟩ : ∃ T, T = k * S := ⟨_, rfl⟩
  have hm : (k : Int) * (S : Int) = (T : Int) := by rw [hT]; exact (Int.natCast_mul _ _).symm
  rw [← hT] at hk ⊢
  have w1 := (wrap_two hm (by omega)).2
  have w2 : IntKind.i64.wrap ((C.first : Int) + (T : Int)) = ((C.first + T : Nat) : Int) := by rw [IntWalk.i64_in _ (by omega)]; omega
  have HS := Lib.hid hst
  have HSE := Lib.hid hse
  clear hst hse hS hT hm h
  go_enter Try.func34, Try.ntmps34
  go_wp2_with fail
  refine wp_region_held_drew (S := fun W => (W.cell? ⟨x, 1, none⟩ = some (.int .i64 (C.d : Int)) ∧ W.cell? ⟨x, 2, none⟩ = some (.int .i64 (C.m : Int)) ∧ W.cell? ⟨x, 3, none⟩ = some (.int .i64 (C.first : Int)) ∧ W.cell? ⟨x, 4, none⟩ = some (.int .i64 (C.places.length : Int)) ∧ W.cell? ⟨x, 5, none⟩ = some (.int .i64 (C.size : Int)))) (by kernel_rfl) (HS.out _ (Fr.refl none_ w).drew) (fun hHeld0 => ?_)
  refine wpAnyH_take (i := 0) (oi := _) (v := ?v1) rfl (by kernel_rfl) (by kernel_rfl) (by kernel_rfl) (fun _ _ _ h => h) (Or.inl ⟨by rfl, ?hy1⟩) (by assumption) ?rest1
  case hy1 => (intro w hSw; (try dsimp only at hSw); go_simp; try with_reducible rfl)
  try simp only [List.getElem_toArray, List.getElem_cons_zero, List.getElem_cons_succ, Act.put, List.setIfInBounds_toArray, List.set_cons_zero, List.set_cons_succ]
  refine wpAnyH_take (i := 1) (oi := _) (v := ?v2) rfl (by kernel_rfl) (by kernel_rfl) (by kernel_rfl) (fun _ _ _ h => h) (Or.inl ⟨by rfl, ?hy2⟩) (by assumption) ?rest2
  case hy2 => (intro w hSw; (try dsimp only at hSw); go_simp; try with_reducible rfl)
  try simp only [List.getElem_toArray, List.getElem_cons_zero, List.getElem_cons_succ, Act.put, List.setIfInBounds_toArray, List.set_cons_zero, List.set_cons_succ]
  refine wpAnyH_take (i := 2) (oi := _) (v := ?v3) rfl (by kernel_rfl) (by kernel_rfl) (by kernel_rfl) (fun _ _ _ h => h) (Or.inl ⟨by rfl, ?hy3⟩) (by assumption) ?rest3
  case hy3 => (intro w hSw; (try dsimp only at hSw); go_simp; try with_reducible rfl)
  try simp only [List.getElem_toArray, List.getElem_cons_zero, List.getElem_cons_succ, Act.put, List.setIfInBounds_toArray, List.set_cons_zero, List.set_cons_succ]
  refine wpAnyH_take (i := 3) (oi := _) (v := ?v4) rfl (by kernel_rfl) (by kernel_rfl) (by kernel_rfl) (fun _ _ _ h => h) (Or.inl ⟨by rfl, ?hy4⟩) (by assumption) ?rest4
  case hy4 => (intro w hSw; (try dsimp only at hSw); go_simp; try with_reducible rfl)
  try simp only [List.getElem_toArray, List.getElem_cons_zero, List.getElem_cons_succ, Act.put, List.setIfInBounds_toArray, List.set_cons_zero, List.set_cons_succ]
  refine wpAnyH_take (i := 4) (oi := _) (v := ?v5) rfl (by kernel_rfl) (by kernel_rfl) (by kernel_rfl) (fun _ _ _ h => h) (Or.inl ⟨by rfl, ?hy5⟩) (by assumption) ?rest5
  case hy5 => (intro w hSw; (try dsimp only at hSw); go_simp; try with_reducible rfl)
  try simp only [List.getElem_toArray, List.getElem_cons_zero, List.getElem_cons_succ, Act.put, List.setIfInBounds_toArray, List.set_cons_zero, List.set_cons_succ]
  refine wpAnyH_take (i := 5) (oi := _) (v := ?v6) rfl (by kernel_rfl) (by kernel_rfl) (by kernel_rfl) (fun _ _ _ h => h) (Or.inl ⟨by rfl, ?hy6⟩) (by assumption) ?rest6
  case hy6 => (intro w hSw; (try dsimp only at hSw); go_simp; try with_reducible rfl)
  try simp only [List.getElem_toArray, List.getElem_cons_zero, List.getElem_cons_succ, Act.put, List.setIfInBounds_toArray, List.set_cons_zero, List.set_cons_succ]
  refine wpAnyH_take (i := 6) (oi := _) (v := ?v7) rfl (by kernel_rfl) (by kernel_rfl) (by kernel_rfl) (fun _ _ _ h => h) (Or.inl ⟨by rfl, ?hy7⟩) (by assumption) ?rest7
  case hy7 => (intro w hSw; (try dsimp only at hSw); go_simp; try with_reducible rfl)
  try simp only [List.getElem_toArray, List.getElem_cons_zero, List.getElem_cons_succ, Act.put, List.setIfInBounds_toArray, List.set_cons_zero, List.set_cons_succ]
  refine wpAnyH_take (i := 7) (oi := _) (v := ?v8) rfl (by kernel_rfl) (by kernel_rfl) (by kernel_rfl) (fun _ _ _ h => h) (Or.inl ⟨by rfl, ?hy8⟩) (by assumption) ?rest8
  case hy8 => (intro w hSw; (try dsimp only at hSw); go_simp; try with_reducible rfl)
  try simp only [List.getElem_toArray, List.getElem_cons_zero, List.getElem_cons_succ, Act.put, List.setIfInBounds_toArray, List.set_cons_zero, List.set_cons_succ]
  refine wpAnyH_take (i := 8) (oi := _) (v := ?v9) rfl (by kernel_rfl) (by kernel_rfl) (by kernel_rfl) (fun _ _ _ h => h) (Or.inl ⟨by rfl, ?hy9⟩) (by assumption) ?rest9
  case hy9 => (intro w hSw; (try dsimp only at hSw); go_simp; try with_reducible rfl)
  try simp only [List.getElem_toArray, List.getElem_cons_zero, List.getElem_cons_succ, Act.put, List.setIfInBounds_toArray, List.set_cons_zero, List.set_cons_succ]
  refine wpAnyH_take (i := 9) (oi := _) (v := ?v10) rfl (by kernel_rfl) (by kernel_rfl) (by kernel_rfl) (fun _ _ _ h => h) (Or.inl ⟨by rfl, ?hy10⟩) (by assumption) ?rest10
  case hy10 => (intro w hSw; (try dsimp only at hSw); go_simp; try with_reducible rfl)
  try simp only [List.getElem_toArray, List.getElem_cons_zero, List.getElem_cons_succ, Act.put, List.setIfInBounds_toArray, List.set_cons_zero, List.set_cons_succ]
  refine wpAnyH_ready (rs := [10]) (by kernel_rfl) (by simp) ?_
  refine AllReadyH.cons (o := _) rfl (fun KK hKK => ?_) (AllReadyH.nil)
  go_simp
  (go_at_call 16; (with_reducible refine (HSE.out _).mono ?_); rintro e x1 ⟨rfl, hY1⟩; have hX1 : Fr none_ w x1 := (Fr.refl none_ w).drew.trans hY1)
  go_wp2_with fail
  refine hKK.out _ _ ?hS11 (fun hHeld11 => ?rest11)
  case hS11 => first | exact HS.out _ hX1
  clear hKK KK
  try simp only [List.getElem_toArray, List.getElem_cons_zero, List.getElem_cons_succ, Act.put, List.setIfInBounds_toArray, List.set_cons_zero, List.set_cons_succ]
  refine wpAnyH_take (i := 11) (oi := _) (v := ?v12) rfl (by kernel_rfl) (by kernel_rfl) (by kernel_rfl) (fun _ _ _ h => h) (Or.inl ⟨by rfl, ?hy12⟩) (by assumption) ?rest12
  case hy12 => (intro w hSw; (try dsimp only at hSw); go_simp; try with_reducible rfl)
  try simp only [List.getElem_toArray, List.getElem_cons_zero, List.getElem_cons_succ, Act.put, List.setIfInBounds_toArray, List.set_cons_zero, List.set_cons_succ]
  refine wpAnyH_take (i := 12) (oi := _) (v := ?v13) rfl (by kernel_rfl) (by kernel_rfl) (by kernel_rfl) (fun _ _ _ h => h) (Or.inl ⟨by rfl, ?hy13⟩) (by assumption) ?rest13
  case hy13 => (intro w hSw; (try dsimp only at hSw); go_simp; try with_reducible rfl)
  try simp only [List.getElem_toArray, List.getElem_cons_zero, List.getElem_cons_succ, Act.put, List.setIfInBounds_toArray, List.set_cons_zero, List.set_cons_succ]
  refine wpAnyH_ready (rs := [13]) (by kernel_rfl) (by simp) ?_
  refine AllReadyH.cons (o := _) rfl (fun KK hKK => ?_) (AllReadyH.nil)
  go_simp
  refine hKK.out _ _ ?hS14 (fun hHeld14 => ?rest14)
  case hS14 => first | exact HS.out _ hX1
  clear hKK KK
  try simp only [List.getElem_toArray, List.getElem_cons_zero, List.getElem_cons_succ, Act.put, List.setIfInBounds_toArray, List.set_cons_zero, List.set_cons_succ]
  refine wpAnyH_done (by kernel_rfl) ?_ _
  go_wp2_with fail
  go_ret
  exact ⟨rfl, hX1⟩
/-- a part's write: how it ends, the device behind it -/
def CWriteP (w : World) (p m1 m2 : Nat) (D : DevS) (e : Ending) (w' : World) : Prop := e = .returned (.bool (!D.down)) ∧ Fr (devBlks p m1 m2) w w' ∧ DevAt w' p m1 m2 D
theorem dev_cellsC {w : World} {p m1 m2 : Nat} {D : DevS} (hD : DevAt w p m1 m2 D) {g : Nat} {c : Array Value} {T : TypeId} (hb : w.heap[g]? = some (.cells c T (0, 0))) (hT : T ≠ 76) : ¬ devBlks p m1 m2 g := by
  rintro (rfl | rfl | rfl)
  · rw [hD.blk] at hb; cases hb; exact hT rfl
  · obtain ⟨es, c2, h2, _⟩ := hD.now.has
    rw [h2] at hb; cases hb
  · obtain ⟨es, c2, h2, _⟩ := hD.loose.has
    rw [h2] at hb; cases hb
theorem CellsAt.tail {w : World} {b o : Nat} {vs : List Value} (h : CellsAt w (some ⟨b, o, none⟩) vs) (k n : Nat) (hk : k + n ≤ vs.length) : CellsAt w (some ⟨b, o + k, none⟩) ((vs.drop k).take n) := h.sub k n hk
set_option maxHeartbeats 8000000 in
theorem cwrite_any {w : World} {x lb pb c g : Nat} {ds : List (Nat × Nat × Nat)} {Ds : List DevS} {C : ColdS} {l : List (PlaceS × Value)} (h : ColdAt w x lb pb c g (ds.map (·.1)) C l) (hD : DevsAt w ds Ds) (i : Nat) (hi : i < ds.length) (hi2 : i < Ds.length) (k : Nat) (hk : k < C.places.length) (hfit : ((C.first + C.places.length * sectC C.d C.size : Nat) : Int) ≤ Ds[i].sectors)
    (A : Option Addr) (ca : Nat) (L : List UInt8) (hA : CellsAt w A (L.map byteV)) (hnil : A = none → L.length = 0 ∧ ca = 0) (hL : L.length ≤ 65537) :
    Calls Try.prog 24 #[ptr x, .int .i64 (i : Int), .int .i64 (k : Int), .slice A L.length ca] w fun e w' => CWriteP w ds[i].1 ds[i].2.1 ds[i].2.2 (wrN Ds[i] ((C.first + k * sectC C.d C.size : Nat) : Int) (1 :: L) (sectC C.d C.size)) e w' := by
  have hmost := (hD.at_ i hi hi2).most
  have hle : sectC C.d C.size ≤ 1025 := by
    unfold sectC
    have := partC_le (d := C.d) h.most.2.2
    omega
  have hS1 : 1 ≤ sectC C.d C.size := by
    have h2 : 2 ≤ partC C.d C.size := Nat.le_add_left 2 _
    unfold sectC; omega
  have hkS : k * sectC C.d C.size + sectC C.d C.size ≤ C.places.length * sectC C.d C.size := by rw [← Nat.succ_mul]; exact Nat.mul_le_mul_right _ hk
  have hdl := h.dl
  rw [List.length_map] at hdl
  have hdv0 := hD.at_ i hi hi2
  have hat := fun wx (hx : Fr (devBlks ds[i].1 ds[i].2.1 ds[i].2.2) w wx) => cat_any (h.fr hx (fun b c T hb hT => dev_cellsC hdv0 hb (by rcases hT with e | e | e | e | e | e <;> rw [e] <;> decide))) k (by omega)
  clear hdv0
  have hse := sect_any C.d C.m C.first C.places.length C.size (by have := h.code.most; omega) h.most.2
  obtain ⟨S, hS⟩ : ∃ S, S = sectC C.d C.size := ⟨_, rfl⟩
  obtain ⟨T, hT⟩ : ∃ T, T = C.first + k * S := ⟨_, rfl⟩
  rw [← hS] at hkS hle hS1 hse hfit hat ⊢
  rw [← hT] at hat ⊢
  have hTS : ((T + S : Nat) : Int) ≤ Ds[i].sectors := by omega
  obtain ⟨⟨cl, c0⟩, c1, c2, c3, c4, c5, _⟩ := h.cells
  rw [List.length_map] at c0
  obtain ⟨rest, hlb⟩ := h.devs
  obtain ⟨D, hDe⟩ : ∃ D, D = Ds[i] := ⟨_, rfl⟩
  have hdev := hD.at_ i hi hi2
  obtain ⟨q, hq⟩ : ∃ q, q = ds[i] := ⟨_, rfl⟩
  rw [← hq] at hat
  have hcd : w.cell? ⟨lb, i, none⟩ = some (ptr q.1) := by
    rw [cell_of_blk hlb, List.getElem?_toArray, List.getElem?_append_left (by simp; omega), List.getElem?_map, List.getElem?_map, List.getElem?_eq_getElem hi, ← hq]
    rfl
  rw [← hDe] at hTS hdev hmost ⊢
  rw [← hq] at hdev ⊢
  obtain ⟨p, m1, m2⟩ := q
  replace hcd : w.cell? ⟨lb, i, none⟩ = some (ptr p) := hcd
  replace hdev : DevAt w p m1 m2 D := hdev
  replace hat : ∀ wx, Fr (devBlks p m1 m2) w wx → Calls Try.prog 34 #[ptr x, .int .i64 (k : Int)] wx fun e w' => e = .returned (.int .i64 (T : Int)) ∧ Fr none_ wx w' := hat
  show Calls Try.prog _ _ w fun e w' => CWriteP w p m1 m2 (wrN D (T : Int) (1 :: L) S) e w'
  obtain ⟨B, hB⟩ : ∃ B, B = (1 : UInt8) :: L := ⟨_, rfl⟩
  rw [← hB]
  have HBE := Lib.hid hB
  clear hB
  have H := Lib.hid (And.intro hA (And.intro hnil hdev))
  have HAT := Lib.hid hat
  have HSE := Lib.hid hse
  obtain ⟨cl0, hxb⟩ := h.blk
  have HB := Lib.hid (And.intro hxb hlb)
  clear hA hnil hdev hat hse h hD hS hT hq hDe hfit hkS hxb hlb
  have hlit := ownsRow_lit (w := w) (base := w.heap.size) 5 1 1 [.int .u8 1] (Nat.le_refl _) (by unfold maxLen; omega) rfl
  have hF0 : Fr none_ w (w.alloc (.cells [Value.int .u8 1].toArray 5)) := (Fr.refl _ _).alloc _
  have HA0 := Lib.hid (H.out.1.fr0 hF0)
  have HLIT := Lib.hid hlit
  clear hlit
  go_enter Try.func24, Try.ntmps24
  go_wp2_with ((with_reducible refine at_append (.tmp 12) (.tmp 13) 33 w.heap.size 5 (.int .u8 0) 1 1 (n := 1) (A := A) (m := L.length) (c := ca) (news := L.map byteV) Try.underlying33 info_u8J ?_ ?_ ?_ ?_ HLIT.out HA0.out ?_ ?_ ?_ ?_ ?_ ?_ ?_); (focus rfl); (focus decide); (focus rfl); (focus rfl); (focus exact H.out.2.1); (focus (rw [List.length_map, Nat.mul_one])); (focus exact bytes_one _); (focus (unfold maxLen; omega)); (focus omega); (focus (rw [World.size_alloc]; omega)); intro v' w4 hown4 hg4; have hF4 := Fr.grown hF0 hg4 HLIT.out (Nat.le_refl _); obtain ⟨A9, c9, hve, g1, g2, g3, g4⟩ := ownsRow_read hown4; subst hve; have H4 := Lib.hid (And.intro g1 (And.intro g3 (And.intro g4 hF4))); have e1 := hF4.cell0 c1; have e2 := hF4.cell0 c2; have e3 := hF4.cell0 c3; have e4 := hF4.cell0 c4; have e5 := hF4.cell0 c5; clear hown4 hg4 g1 g3 g4 hF4)
  (with_reducible refine (HSE.out _).mono ?_)
  rintro e w5 ⟨rfl, hF5⟩
  obtain ⟨b9, o9, hA9⟩ := H4.out.1.addr (by simp)
  subst hA9
  have hb9 : w.heap.size ≤ b9 := (H4.out.2.2.1 b9 ⟨_, rfl⟩).1
  obtain ⟨M, hM⟩ : ∃ M, M = 1 + L.length := ⟨_, rfl⟩
  rw [← hM] at g2 ⊢
  have hB := HBE.out
  have hBl : B.length = M := by rw [hB, List.length_cons]; omega
  have hBc : CellsAt w5 (some ⟨b9, o9, none⟩) (B.map byteV) := by
    have := H4.out.1.fr0 hF5
    rw [hB, List.map_cons]
    exact this
  have hF05 : Fr none_ w w5 := H4.out.2.2.2.trans hF5
  have hdv5 := H.out.2.2.fr0 hF05
  have hltd := H.out.2.2.lt
  have HX := Lib.hid (And.intro hBl (And.intro hBc (And.intro hF05 hdv5)))
  have hM1 : M ≤ 65538 := by omega
  clear hdl hF5 H4 HA0 HLIT hB hM hBl hBc hdv5 HSE e1 e2 e3 e4 e5
  go_wp2_with fail
  go_loopw [20] (fun v wr => ∃ t : Nat, t ≤ S ∧ v = .int .i64 t ∧ Fr (devBlks p m1 m2) w5 wr ∧ DevAt wr p m1 m2 (wrN D (T : Int) B t) ∧ (t = 0 ∨ (wrN D (T : Int) B t).down = false)) (fun v _ => S - (intOf v).toNat)
  case atStart => exact ⟨0, by omega, rfl, Fr.refl _ _, HX.out.2.2.2, .inl rfl⟩
  case round =>
    obtain ⟨t, ht, rfl, hF, hdv, hup⟩ := hrel
    by_cases htS : t < S
    · have q1 : (t : Int) < (S : Int) := by omega
      obtain ⟨lo, hlo⟩ : ∃ lo, lo = min M (t * 64) := ⟨_, rfl⟩
      obtain ⟨ch, hch⟩ : ∃ ch, ch = min (M - lo) 64 := ⟨_, rfl⟩
      have hchk : (chunk B t).length = ch := by rw [chunk_len, HX.out.1, hch, hlo]; omega
      have hdrop : B.drop (64 * t) = B.drop lo := by
        rw [hlo]
        by_cases e : t * 64 ≤ M
        · rw [Nat.min_eq_right e, Nat.mul_comm]
        · rw [Nat.min_eq_left (by omega), List.drop_eq_nil_of_le (by rw [HX.out.1]; omega), List.drop_eq_nil_of_le (by rw [HX.out.1]; exact Nat.le_refl _)]
      have hcells : ∀ wx, Fr (devBlks p m1 m2) w5 wx → CellsAt wx (some ⟨b9, o9 + lo, none⟩) ((chunk B t).map byteV) := fun wx hx => by
        have h1 := HX.out.2.1.fr hx (fun y hy e => by have := blkOf_some hy; have := hltd y e; omega)
        have h2 := h1.sub lo ch (by rw [List.length_map, HX.out.1]; omega)
        rw [← List.map_drop, ← List.map_take, ← hdrop] at h2
        have e : (B.drop (64 * t)).take ch = chunk B t := by
          unfold chunk
          rw [hdrop, hch]
          rw [List.take_eq_take_iff, List.length_drop, HX.out.1]
          omega
        rw [e] at h2
        exact h2
      have hwe := writeE_eq (wrN D (T : Int) B t) ((T : Int) + (t : Int)) (by omega) (by rw [wrN_sectors]; omega) (chunk B t) (by rw [hchk]; omega)
      have m1' : (min (M : Int) ((t : Int) * 64)) = (lo : Int) := by omega
      have m2' : (min ((M - lo : Nat) : Int) 64) = (ch : Int) := by omega
      have m1i : (if (t : Int) * 64 < (M : Int) then (t : Int) * 64 else (M : Int)) = (lo : Int) := by split <;> omega
      have m2i : (if (64 : Int) < ((M - lo : Nat) : Int) then (64 : Int) else ((M - lo : Nat) : Int)) = (ch : Int) := by split <;> omega
      have i1 : (lo : Int) ≤ (M : Int) := by omega
      have i2 : lo ≤ M := by omega
      have i3 : (0 : Int) ≤ (lo : Int) := by omega
      have i4 : (0 : Int) ≤ (ch : Int) := by omega
      have i5 : lo ≤ c9 := by omega
      have i6 : (i : Int) < (ds.length : Int) := by omega
      have i7 : (0 : Int) ≤ (i : Int) ∧ (i : Int) < (ds.length : Int) := by omega
      have i8 : ch ≤ c9 - lo := by omega
      have i9 : ((ch : Nat) : Int) ≤ ((c9 - lo : Nat) : Int) := by omega
      have hne1 : ¬ devBlks p m1 m2 x := dev_cellsC H.out.2.2 HB.out.1 (by decide)
      have hne2 : ¬ devBlks p m1 m2 lb := dev_cellsC H.out.2.2 HB.out.2 (by decide)
      have hs2 : ∀ wx, Fr (devBlks p m1 m2) wr wx → (wx.cell? ⟨x, 0, none⟩ = some (.slice (some ⟨lb, 0, none⟩) ds.length cl) ∧ wx.cell? ⟨lb, i, none⟩ = some (ptr p)) := fun wx hx => ⟨(hF.trans hx).cell (HX.out.2.2.1.cell0 c0) hne1, (hF.trans hx).cell (HX.out.2.2.1.cell0 hcd) hne2⟩
      have hat2 : ∀ wx, Fr none_ wr wx → Calls Try.prog 34 #[ptr x, .int .i64 (k : Int)] wx fun e w' => e = .returned (.int .i64 (T : Int)) ∧ Fr none_ wx w' := fun wx hx => HAT.out wx ((Fr.of0 HX.out.2.2.1).trans (hF.trans0 hx))
      have hwr : ∀ wx, Fr none_ wr wx → ∀ A', (A' = some ⟨b9, o9 + lo, none⟩ ∨ ch = 0) → Calls Try.prog 33 #[ptr p, .int .i64 (IntKind.i64.wrap ((T : Int) + (t : Int))), .slice A' ch (c9 - lo)] wx fun e w' => e = .returned (errV (if (wrN D (T : Int) B (t + 1)).down then 13 else 0)) ∧ Fr (devBlks p m1 m2) wx w' ∧ DevAt w' p m1 m2 (wrN D (T : Int) B (t + 1)) := fun wx hx A' hA' => by
        have hc : CellsAt wx A' ((chunk B t).map byteV) := by
          rcases hA' with rfl | h0
          · exact hcells wx (hF.trans0 hx)
          · rw [List.length_eq_zero_iff.1 (hchk.trans h0)]; exact CellsAt.nil _ _
        have hnd : ∀ y, blkOf A' y → 0 < (chunk B t).length → ¬ devBlks p m1 m2 y := fun y hy hl e => by
          rcases hA' with rfl | h0
          · have := blkOf_some hy
            have := hltd y e
            omega
          · omega
        have := write_any (hdv.fr0 hx) ((T : Int) + (t : Int)) A' ch (c9 - lo) (chunk B t) hchk.symm hc hnd
        rw [hwe] at this
        rw [IntWalk.i64_in _ (by omega)]
        exact this
      have HS2 := Lib.hid hs2
      have HAT2 := Lib.hid hat2
      have HWR := Lib.hid hwr
      have HUP := Lib.hid hup
      have HF := Lib.hid hF
      have hlt64 : lo = c9 → ch = 0 := fun e => by omega
      clear hs2 hat2 hwr hwe hcells hdrop hchk hch hlo hdv hup hF hne1 hne2
      by_cases hdn : (wrN D (T : Int) B (t + 1)).down = true
      · have hfin : wrN D (T : Int) B S = wrN D (T : Int) B (t + 1) := by
          have := wrN_down D (T : Int) B (t + 1) hdn (S - (t + 1))
          rw [show t + 1 + (S - (t + 1)) = S by omega] at this
          exact this
        have HFN := Lib.hid (And.intro hfin hdn)
        rw [if_pos hdn, errV_n (by decide)] at HWR
        clear hfin hdn
        by_cases hcl : c9 = lo
        · subst hcl
          have hc0 := hlt64 rfl
          have h0 := fun wx hx => HWR.out wx hx (some ⟨b9, o9, none⟩) (.inr hc0)
          rw [hc0, show c9 - c9 = 0 by omega] at h0
          have HWR0 := Lib.hid h0
          clear h0 HWR hlt64
          go_wp2_with fail
          refine wp_region_held_drew (S := fun W => (W.cell? ⟨x, 0, none⟩ = some (.slice (some ⟨lb, 0, none⟩) ds.length cl) ∧ W.cell? ⟨lb, i, none⟩ = some (ptr p))) (by kernel_rfl) (HS2.out _ (Fr.refl _ wr).drew) (fun hHeld0 => ?_)
          refine wpAnyH_take (i := 0) (oi := _) (v := ?vx1) rfl (by kernel_rfl) (by kernel_rfl) (by kernel_rfl) (fun _ _ _ h => h) (Or.inl ⟨by rfl, ?hyx1⟩) (by assumption) ?restx1
          case hyx1 => (intro w hSw; (try dsimp only at hSw); go_simp; try with_reducible rfl)
          try simp only [List.getElem_toArray, List.getElem_cons_zero, List.getElem_cons_succ, Act.put, List.setIfInBounds_toArray, List.set_cons_zero, List.set_cons_succ]
          refine wpAnyH_take (i := 1) (oi := _) (v := ?vx2) rfl (by kernel_rfl) (by kernel_rfl) (by kernel_rfl) (fun _ _ _ h => h) (Or.inl ⟨by rfl, ?hyx2⟩) (by assumption) ?restx2
          case hyx2 => (intro w hSw; (try dsimp only at hSw); go_simp; try with_reducible rfl)
          try simp only [List.getElem_toArray, List.getElem_cons_zero, List.getElem_cons_succ, Act.put, List.setIfInBounds_toArray, List.set_cons_zero, List.set_cons_succ]
          refine wpAnyH_take (i := 2) (oi := _) (v := ?vx3) rfl (by kernel_rfl) (by kernel_rfl) (by kernel_rfl) (fun _ _ _ h => h) (Or.inl ⟨by rfl, ?hyx3⟩) (by assumption) ?restx3
          case hyx3 => (intro w hSw; (try dsimp only at hSw); go_simp; try with_reducible rfl)
          try simp only [List.getElem_toArray, List.getElem_cons_zero, List.getElem_cons_succ, Act.put, List.setIfInBounds_toArray, List.set_cons_zero, List.set_cons_succ]
          refine wpAnyH_take (i := 3) (oi := _) (v := ?vx4) rfl (by kernel_rfl) (by kernel_rfl) (by kernel_rfl) (fun _ _ _ h => h) (Or.inl ⟨by rfl, ?hyx4⟩) (by assumption) ?restx4
          case hyx4 => (intro w hSw; (try dsimp only at hSw); go_simp; try with_reducible rfl)
          try simp only [List.getElem_toArray, List.getElem_cons_zero, List.getElem_cons_succ, Act.put, List.setIfInBounds_toArray, List.set_cons_zero, List.set_cons_succ]
          refine wpAnyH_take (i := 4) (oi := _) (v := ?vx5) rfl (by kernel_rfl) (by kernel_rfl) (by kernel_rfl) (fun _ _ _ h => h) (Or.inl ⟨by rfl, ?hyx5⟩) (by assumption) ?restx5
          case hyx5 => (intro w hSw; (try dsimp only at hSw); go_simp; try with_reducible rfl)
          try simp only [List.getElem_toArray, List.getElem_cons_zero, List.getElem_cons_succ, Act.put, List.setIfInBounds_toArray, List.set_cons_zero, List.set_cons_succ]
          refine wpAnyH_take (i := 5) (oi := _) (v := ?vx6) rfl (by kernel_rfl) (by kernel_rfl) (by kernel_rfl) (fun _ _ _ h => h) (Or.inl ⟨by rfl, ?hyx6⟩) (by assumption) ?restx6
          case hyx6 => (intro w hSw; (try dsimp only at hSw); go_simp; try with_reducible rfl)
          try simp only [List.getElem_toArray, List.getElem_cons_zero, List.getElem_cons_succ, Act.put, List.setIfInBounds_toArray, List.set_cons_zero, List.set_cons_succ]
          refine wpAnyH_take (i := 6) (oi := _) (v := ?vx7) rfl (by kernel_rfl) (by kernel_rfl) (by kernel_rfl) (fun _ _ _ h => h) (Or.inl ⟨by rfl, ?hyx7⟩) (by assumption) ?restx7
          case hyx7 => (intro w hSw; (try dsimp only at hSw); go_simp; try with_reducible rfl)
          try simp only [List.getElem_toArray, List.getElem_cons_zero, List.getElem_cons_succ, Act.put, List.setIfInBounds_toArray, List.set_cons_zero, List.set_cons_succ]
          refine wpAnyH_take (i := 7) (oi := _) (v := ?vx8) rfl (by kernel_rfl) (by kernel_rfl) (by kernel_rfl) (fun _ _ _ h => h) (Or.inl ⟨by rfl, ?hyx8⟩) (by assumption) ?restx8
          case hyx8 => (intro w hSw; (try dsimp only at hSw); go_simp; try with_reducible rfl)
          try simp only [List.getElem_toArray, List.getElem_cons_zero, List.getElem_cons_succ, Act.put, List.setIfInBounds_toArray, List.set_cons_zero, List.set_cons_succ]
          refine wpAnyH_take (i := 8) (oi := _) (v := ?vx9) rfl (by kernel_rfl) (by kernel_rfl) (by kernel_rfl) (fun _ _ _ h => h) (Or.inl ⟨by rfl, ?hyx9⟩) (by assumption) ?restx9
          case hyx9 => (intro w hSw; (try dsimp only at hSw); go_simp; try with_reducible rfl)
          try simp only [List.getElem_toArray, List.getElem_cons_zero, List.getElem_cons_succ, Act.put, List.setIfInBounds_toArray, List.set_cons_zero, List.set_cons_succ]
          refine wpAnyH_take (i := 10) (oi := _) (v := ?vx10) rfl (by kernel_rfl) (by kernel_rfl) (by kernel_rfl) (fun _ _ _ h => h) (Or.inl ⟨by rfl, ?hyx10⟩) (by assumption) ?restx10
          case hyx10 => (intro w hSw; (try dsimp only at hSw); go_simp; try with_reducible rfl)
          try simp only [List.getElem_toArray, List.getElem_cons_zero, List.getElem_cons_succ, Act.put, List.setIfInBounds_toArray, List.set_cons_zero, List.set_cons_succ]
          refine wpAnyH_take (i := 12) (oi := _) (v := ?vx11) rfl (by kernel_rfl) (by kernel_rfl) (by kernel_rfl) (fun _ _ _ h => h) (Or.inl ⟨by rfl, ?hyx11⟩) (by assumption) ?restx11
          case hyx11 => (intro w hSw; (try dsimp only at hSw); go_simp; try with_reducible rfl)
          try simp only [List.getElem_toArray, List.getElem_cons_zero, List.getElem_cons_succ, Act.put, List.setIfInBounds_toArray, List.set_cons_zero, List.set_cons_succ]
          refine wpAnyH_take (i := 13) (oi := _) (v := ?vx12) rfl (by kernel_rfl) (by kernel_rfl) (by kernel_rfl) (fun _ _ _ h => h) (Or.inl ⟨by rfl, ?hyx12⟩) (by assumption) ?restx12
          case hyx12 => (intro w hSw; (try dsimp only at hSw); go_simp; try with_reducible rfl)
          try simp only [List.getElem_toArray, List.getElem_cons_zero, List.getElem_cons_succ, Act.put, List.setIfInBounds_toArray, List.set_cons_zero, List.set_cons_succ]
          refine wpAnyH_take (i := 14) (oi := _) (v := ?vx13) rfl (by kernel_rfl) (by kernel_rfl) (by kernel_rfl) (fun _ _ _ h => h) (Or.inl ⟨by rfl, ?hyx13⟩) (by assumption) ?restx13
          case hyx13 => (intro w hSw; (try dsimp only at hSw); go_simp; try with_reducible rfl)
          try simp only [List.getElem_toArray, List.getElem_cons_zero, List.getElem_cons_succ, Act.put, List.setIfInBounds_toArray, List.set_cons_zero, List.set_cons_succ]
          refine wpAnyH_take (i := 15) (oi := _) (v := ?vx14) rfl (by kernel_rfl) (by kernel_rfl) (by kernel_rfl) (fun _ _ _ h => h) (Or.inl ⟨by rfl, ?hyx14⟩) (by assumption) ?restx14
          case hyx14 => (intro w hSw; (try dsimp only at hSw); go_simp; try with_reducible rfl)
          try simp only [List.getElem_toArray, List.getElem_cons_zero, List.getElem_cons_succ, Act.put, List.setIfInBounds_toArray, List.set_cons_zero, List.set_cons_succ]
          refine wpAnyH_take (i := 16) (oi := _) (v := ?vx15) rfl (by kernel_rfl) (by kernel_rfl) (by kernel_rfl) (fun _ _ _ h => h) (Or.inl ⟨by rfl, ?hyx15⟩) (by assumption) ?restx15
          case hyx15 => (intro w hSw; (try dsimp only at hSw); go_simp; try with_reducible rfl)
          try simp only [List.getElem_toArray, List.getElem_cons_zero, List.getElem_cons_succ, Act.put, List.setIfInBounds_toArray, List.set_cons_zero, List.set_cons_succ]
          refine wpAnyH_ready (rs := [9]) (by kernel_rfl) (by simp) ?_
          refine AllReadyH.cons (o := _) rfl (fun KK hKK => ?_) (AllReadyH.nil)
          go_simp
          (go_at_call 34; (with_reducible refine (HAT2.out _ (Fr.refl none_ wr).drew).mono ?_); rintro e x1 ⟨rfl, hY1⟩; have hX1 : Fr none_ wr x1 := (Fr.refl none_ wr).drew.trans hY1)
          go_wp2_with fail
          refine hKK.out _ _ ?hSx16 (fun hHeldx16 => ?restx16)
          case hSx16 => first | exact HS2.out _ hX2 | exact HS2.out _ (Fr.of0 hX1)
          clear hKK KK
          try simp only [List.getElem_toArray, List.getElem_cons_zero, List.getElem_cons_succ, Act.put, List.setIfInBounds_toArray, List.set_cons_zero, List.set_cons_succ]
          refine wpAnyH_take (i := 11) (oi := _) (v := ?vx17) rfl (by kernel_rfl) (by kernel_rfl) (by kernel_rfl) (fun _ _ _ h => h) (Or.inl ⟨by rfl, ?hyx17⟩) (by assumption) ?restx17
          case hyx17 => (intro w hSw; (try dsimp only at hSw); go_simp; try with_reducible rfl)
          try simp only [List.getElem_toArray, List.getElem_cons_zero, List.getElem_cons_succ, Act.put, List.setIfInBounds_toArray, List.set_cons_zero, List.set_cons_succ]
          refine wpAnyH_ready (rs := [17]) (by kernel_rfl) (by simp) ?_
          refine AllReadyH.cons (o := _) rfl (fun KK hKK => ?_) (AllReadyH.nil)
          go_simp
          (go_at_call 33; (with_reducible refine (HWR0.out _ hX1).mono ?_); rintro e x2 ⟨rfl, hY2, hD2⟩; have hX2 : Fr (devBlks p m1 m2) wr x2 := (Fr.of0 hX1).trans hY2)
          go_wp2_with fail
          refine hKK.out _ _ ?hSx18 (fun hHeldx18 => ?restx18)
          case hSx18 => first | exact HS2.out _ hX2 | exact HS2.out _ (Fr.of0 hX1)
          clear hKK KK
          try simp only [List.getElem_toArray, List.getElem_cons_zero, List.getElem_cons_succ, Act.put, List.setIfInBounds_toArray, List.set_cons_zero, List.set_cons_succ]
          refine wpAnyH_take (i := 18) (oi := _) (v := ?vx19) rfl (by kernel_rfl) (by kernel_rfl) (by kernel_rfl) (fun _ _ _ h => h) (Or.inl ⟨by rfl, ?hyx19⟩) (by assumption) ?restx19
          case hyx19 => (intro w hSw; (try dsimp only at hSw); go_simp; try with_reducible rfl)
          try simp only [List.getElem_toArray, List.getElem_cons_zero, List.getElem_cons_succ, Act.put, List.setIfInBounds_toArray, List.set_cons_zero, List.set_cons_succ]
          refine wpAnyH_done (by kernel_rfl) ?_ _
          have HD2 := Lib.hid (And.intro hX2 hD2)
          clear hX2 hD2
          go_wp2_with fail
          go_ret
          rw [HFN.out.1]
          exact ⟨by rw [HFN.out.2]; rfl, ((Fr.of0 HX.out.2.2.1).trans HF.out).trans HD2.out.1, HD2.out.2⟩
        · clear hlt64
          go_wp2_with fail
          refine wp_region_held_drew (S := fun W => (W.cell? ⟨x, 0, none⟩ = some (.slice (some ⟨lb, 0, none⟩) ds.length cl) ∧ W.cell? ⟨lb, i, none⟩ = some (ptr p))) (by kernel_rfl) (HS2.out _ (Fr.refl _ wr).drew) (fun hHeld0 => ?_)
          refine wpAnyH_take (i := 0) (oi := _) (v := ?vy1) rfl (by kernel_rfl) (by kernel_rfl) (by kernel_rfl) (fun _ _ _ h => h) (Or.inl ⟨by rfl, ?hyy1⟩) (by assumption) ?resty1
          case hyy1 => (intro w hSw; (try dsimp only at hSw); go_simp; try with_reducible rfl)
          try simp only [List.getElem_toArray, List.getElem_cons_zero, List.getElem_cons_succ, Act.put, List.setIfInBounds_toArray, List.set_cons_zero, List.set_cons_succ]
          refine wpAnyH_take (i := 1) (oi := _) (v := ?vy2) rfl (by kernel_rfl) (by kernel_rfl) (by kernel_rfl) (fun _ _ _ h => h) (Or.inl ⟨by rfl, ?hyy2⟩) (by assumption) ?resty2
          case hyy2 => (intro w hSw; (try dsimp only at hSw); go_simp; try with_reducible rfl)
          try simp only [List.getElem_toArray, List.getElem_cons_zero, List.getElem_cons_succ, Act.put, List.setIfInBounds_toArray, List.set_cons_zero, List.set_cons_succ]
          refine wpAnyH_take (i := 2) (oi := _) (v := ?vy3) rfl (by kernel_rfl) (by kernel_rfl) (by kernel_rfl) (fun _ _ _ h => h) (Or.inl ⟨by rfl, ?hyy3⟩) (by assumption) ?resty3
          case hyy3 => (intro w hSw; (try dsimp only at hSw); go_simp; try with_reducible rfl)
          try simp only [List.getElem_toArray, List.getElem_cons_zero, List.getElem_cons_succ, Act.put, List.setIfInBounds_toArray, List.set_cons_zero, List.set_cons_succ]
          refine wpAnyH_take (i := 3) (oi := _) (v := ?vy4) rfl (by kernel_rfl) (by kernel_rfl) (by kernel_rfl) (fun _ _ _ h => h) (Or.inl ⟨by rfl, ?hyy4⟩) (by assumption) ?resty4
          case hyy4 => (intro w hSw; (try dsimp only at hSw); go_simp; try with_reducible rfl)
          try simp only [List.getElem_toArray, List.getElem_cons_zero, List.getElem_cons_succ, Act.put, List.setIfInBounds_toArray, List.set_cons_zero, List.set_cons_succ]
          refine wpAnyH_take (i := 4) (oi := _) (v := ?vy5) rfl (by kernel_rfl) (by kernel_rfl) (by kernel_rfl) (fun _ _ _ h => h) (Or.inl ⟨by rfl, ?hyy5⟩) (by assumption) ?resty5
          case hyy5 => (intro w hSw; (try dsimp only at hSw); go_simp; try with_reducible rfl)
          try simp only [List.getElem_toArray, List.getElem_cons_zero, List.getElem_cons_succ, Act.put, List.setIfInBounds_toArray, List.set_cons_zero, List.set_cons_succ]
          refine wpAnyH_take (i := 5) (oi := _) (v := ?vy6) rfl (by kernel_rfl) (by kernel_rfl) (by kernel_rfl) (fun _ _ _ h => h) (Or.inl ⟨by rfl, ?hyy6⟩) (by assumption) ?resty6
          case hyy6 => (intro w hSw; (try dsimp only at hSw); go_simp; try with_reducible rfl)
          try simp only [List.getElem_toArray, List.getElem_cons_zero, List.getElem_cons_succ, Act.put, List.setIfInBounds_toArray, List.set_cons_zero, List.set_cons_succ]
          refine wpAnyH_take (i := 6) (oi := _) (v := ?vy7) rfl (by kernel_rfl) (by kernel_rfl) (by kernel_rfl) (fun _ _ _ h => h) (Or.inl ⟨by rfl, ?hyy7⟩) (by assumption) ?resty7
          case hyy7 => (intro w hSw; (try dsimp only at hSw); go_simp; try with_reducible rfl)
          try simp only [List.getElem_toArray, List.getElem_cons_zero, List.getElem_cons_succ, Act.put, List.setIfInBounds_toArray, List.set_cons_zero, List.set_cons_succ]
          refine wpAnyH_take (i := 7) (oi := _) (v := ?vy8) rfl (by kernel_rfl) (by kernel_rfl) (by kernel_rfl) (fun _ _ _ h => h) (Or.inl ⟨by rfl, ?hyy8⟩) (by assumption) ?resty8
          case hyy8 => (intro w hSw; (try dsimp only at hSw); go_simp; try with_reducible rfl)
          try simp only [List.getElem_toArray, List.getElem_cons_zero, List.getElem_cons_succ, Act.put, List.setIfInBounds_toArray, List.set_cons_zero, List.set_cons_succ]
          refine wpAnyH_take (i := 8) (oi := _) (v := ?vy9) rfl (by kernel_rfl) (by kernel_rfl) (by kernel_rfl) (fun _ _ _ h => h) (Or.inl ⟨by rfl, ?hyy9⟩) (by assumption) ?resty9
          case hyy9 => (intro w hSw; (try dsimp only at hSw); go_simp; try with_reducible rfl)
          try simp only [List.getElem_toArray, List.getElem_cons_zero, List.getElem_cons_succ, Act.put, List.setIfInBounds_toArray, List.set_cons_zero, List.set_cons_succ]
          refine wpAnyH_take (i := 10) (oi := _) (v := ?vy10) rfl (by kernel_rfl) (by kernel_rfl) (by kernel_rfl) (fun _ _ _ h => h) (Or.inl ⟨by rfl, ?hyy10⟩) (by assumption) ?resty10
          case hyy10 => (intro w hSw; (try dsimp only at hSw); go_simp; try with_reducible rfl)
          try simp only [List.getElem_toArray, List.getElem_cons_zero, List.getElem_cons_succ, Act.put, List.setIfInBounds_toArray, List.set_cons_zero, List.set_cons_succ]
          refine wpAnyH_take (i := 12) (oi := _) (v := ?vy11) rfl (by kernel_rfl) (by kernel_rfl) (by kernel_rfl) (fun _ _ _ h => h) (Or.inl ⟨by rfl, ?hyy11⟩) (by assumption) ?resty11
          case hyy11 => (intro w hSw; (try dsimp only at hSw); go_simp; try with_reducible rfl)
          try simp only [List.getElem_toArray, List.getElem_cons_zero, List.getElem_cons_succ, Act.put, List.setIfInBounds_toArray, List.set_cons_zero, List.set_cons_succ]
          refine wpAnyH_take (i := 13) (oi := _) (v := ?vy12) rfl (by kernel_rfl) (by kernel_rfl) (by kernel_rfl) (fun _ _ _ h => h) (Or.inl ⟨by rfl, ?hyy12⟩) (by assumption) ?resty12
          case hyy12 => (intro w hSw; (try dsimp only at hSw); go_simp; try with_reducible rfl)
          try simp only [List.getElem_toArray, List.getElem_cons_zero, List.getElem_cons_succ, Act.put, List.setIfInBounds_toArray, List.set_cons_zero, List.set_cons_succ]
          refine wpAnyH_take (i := 14) (oi := _) (v := ?vy13) rfl (by kernel_rfl) (by kernel_rfl) (by kernel_rfl) (fun _ _ _ h => h) (Or.inl ⟨by rfl, ?hyy13⟩) (by assumption) ?resty13
          case hyy13 => (intro w hSw; (try dsimp only at hSw); go_simp; try with_reducible rfl)
          try simp only [List.getElem_toArray, List.getElem_cons_zero, List.getElem_cons_succ, Act.put, List.setIfInBounds_toArray, List.set_cons_zero, List.set_cons_succ]
          refine wpAnyH_take (i := 15) (oi := _) (v := ?vy14) rfl (by kernel_rfl) (by kernel_rfl) (by kernel_rfl) (fun _ _ _ h => h) (Or.inl ⟨by rfl, ?hyy14⟩) (by assumption) ?resty14
          case hyy14 => (intro w hSw; (try dsimp only at hSw); go_simp; try with_reducible rfl)
          try simp only [List.getElem_toArray, List.getElem_cons_zero, List.getElem_cons_succ, Act.put, List.setIfInBounds_toArray, List.set_cons_zero, List.set_cons_succ]
          refine wpAnyH_take (i := 16) (oi := _) (v := ?vy15) rfl (by kernel_rfl) (by kernel_rfl) (by kernel_rfl) (fun _ _ _ h => h) (Or.inl ⟨by rfl, ?hyy15⟩) (by assumption) ?resty15
          case hyy15 => (intro w hSw; (try dsimp only at hSw); go_simp; try with_reducible rfl)
          try simp only [List.getElem_toArray, List.getElem_cons_zero, List.getElem_cons_succ, Act.put, List.setIfInBounds_toArray, List.set_cons_zero, List.set_cons_succ]
          refine wpAnyH_ready (rs := [9]) (by kernel_rfl) (by simp) ?_
          refine AllReadyH.cons (o := _) rfl (fun KK hKK => ?_) (AllReadyH.nil)
          go_simp
          (go_at_call 34; (with_reducible refine (HAT2.out _ (Fr.refl none_ wr).drew).mono ?_); rintro e x1 ⟨rfl, hY1⟩; have hX1 : Fr none_ wr x1 := (Fr.refl none_ wr).drew.trans hY1)
          go_wp2_with fail
          refine hKK.out _ _ ?hSy16 (fun hHeldy16 => ?resty16)
          case hSy16 => first | exact HS2.out _ hX2 | exact HS2.out _ (Fr.of0 hX1)
          clear hKK KK
          try simp only [List.getElem_toArray, List.getElem_cons_zero, List.getElem_cons_succ, Act.put, List.setIfInBounds_toArray, List.set_cons_zero, List.set_cons_succ]
          refine wpAnyH_take (i := 11) (oi := _) (v := ?vy17) rfl (by kernel_rfl) (by kernel_rfl) (by kernel_rfl) (fun _ _ _ h => h) (Or.inl ⟨by rfl, ?hyy17⟩) (by assumption) ?resty17
          case hyy17 => (intro w hSw; (try dsimp only at hSw); go_simp; try with_reducible rfl)
          try simp only [List.getElem_toArray, List.getElem_cons_zero, List.getElem_cons_succ, Act.put, List.setIfInBounds_toArray, List.set_cons_zero, List.set_cons_succ]
          refine wpAnyH_ready (rs := [17]) (by kernel_rfl) (by simp) ?_
          refine AllReadyH.cons (o := _) rfl (fun KK hKK => ?_) (AllReadyH.nil)
          go_simp
          (go_at_call 33; (with_reducible refine (HWR.out _ hX1 _ (by first | exact .inl rfl | exact .inr HCL.out.2)).mono ?_); rintro e x2 ⟨rfl, hY2, hD2⟩; have hX2 : Fr (devBlks p m1 m2) wr x2 := (Fr.of0 hX1).trans hY2)
          go_wp2_with fail
          refine hKK.out _ _ ?hSy18 (fun hHeldy18 => ?resty18)
          case hSy18 => first | exact HS2.out _ hX2 | exact HS2.out _ (Fr.of0 hX1)
          clear hKK KK
          try simp only [List.getElem_toArray, List.getElem_cons_zero, List.getElem_cons_succ, Act.put, List.setIfInBounds_toArray, List.set_cons_zero, List.set_cons_succ]
          refine wpAnyH_take (i := 18) (oi := _) (v := ?vy19) rfl (by kernel_rfl) (by kernel_rfl) (by kernel_rfl) (fun _ _ _ h => h) (Or.inl ⟨by rfl, ?hyy19⟩) (by assumption) ?resty19
          case hyy19 => (intro w hSw; (try dsimp only at hSw); go_simp; try with_reducible rfl)
          try simp only [List.getElem_toArray, List.getElem_cons_zero, List.getElem_cons_succ, Act.put, List.setIfInBounds_toArray, List.set_cons_zero, List.set_cons_succ]
          refine wpAnyH_done (by kernel_rfl) ?_ _
          have HD2 := Lib.hid (And.intro hX2 hD2)
          clear hX2 hD2
          go_wp2_with fail
          go_ret
          rw [HFN.out.1]
          exact ⟨by rw [HFN.out.2]; rfl, ((Fr.of0 HX.out.2.2.1).trans HF.out).trans HD2.out.1, HD2.out.2⟩
      · rw [if_neg hdn, errV_0] at HWR
        have HDN := Lib.hid hdn
        clear hdn
        by_cases hcl : c9 = lo
        · subst hcl
          have hc0 := hlt64 rfl
          have h0 := fun wx hx => HWR.out wx hx (some ⟨b9, o9, none⟩) (.inr hc0)
          rw [hc0, show c9 - c9 = 0 by omega] at h0
          have HWR0 := Lib.hid h0
          clear h0 HWR hlt64
          go_wp2_with fail
          refine wp_region_held_drew (S := fun W => (W.cell? ⟨x, 0, none⟩ = some (.slice (some ⟨lb, 0, none⟩) ds.length cl) ∧ W.cell? ⟨lb, i, none⟩ = some (ptr p))) (by kernel_rfl) (HS2.out _ (Fr.refl _ wr).drew) (fun hHeld0 => ?_)
          refine wpAnyH_take (i := 0) (oi := _) (v := ?vv1) rfl (by kernel_rfl) (by kernel_rfl) (by kernel_rfl) (fun _ _ _ h => h) (Or.inl ⟨by rfl, ?hyv1⟩) (by assumption) ?restv1
          case hyv1 => (intro w hSw; (try dsimp only at hSw); go_simp; try with_reducible rfl)
          try simp only [List.getElem_toArray, List.getElem_cons_zero, List.getElem_cons_succ, Act.put, List.setIfInBounds_toArray, List.set_cons_zero, List.set_cons_succ]
          refine wpAnyH_take (i := 1) (oi := _) (v := ?vv2) rfl (by kernel_rfl) (by kernel_rfl) (by kernel_rfl) (fun _ _ _ h => h) (Or.inl ⟨by rfl, ?hyv2⟩) (by assumption) ?restv2
          case hyv2 => (intro w hSw; (try dsimp only at hSw); go_simp; try with_reducible rfl)
          try simp only [List.getElem_toArray, List.getElem_cons_zero, List.getElem_cons_succ, Act.put, List.setIfInBounds_toArray, List.set_cons_zero, List.set_cons_succ]
          refine wpAnyH_take (i := 2) (oi := _) (v := ?vv3) rfl (by kernel_rfl) (by kernel_rfl) (by kernel_rfl) (fun _ _ _ h => h) (Or.inl ⟨by rfl, ?hyv3⟩) (by assumption) ?restv3
          case hyv3 => (intro w hSw; (try dsimp only at hSw); go_simp; try with_reducible rfl)
          try simp only [List.getElem_toArray, List.getElem_cons_zero, List.getElem_cons_succ, Act.put, List.setIfInBounds_toArray, List.set_cons_zero, List.set_cons_succ]
          refine wpAnyH_take (i := 3) (oi := _) (v := ?vv4) rfl (by kernel_rfl) (by kernel_rfl) (by kernel_rfl) (fun _ _ _ h => h) (Or.inl ⟨by rfl, ?hyv4⟩) (by assumption) ?restv4
          case hyv4 => (intro w hSw; (try dsimp only at hSw); go_simp; try with_reducible rfl)
          try simp only [List.getElem_toArray, List.getElem_cons_zero, List.getElem_cons_succ, Act.put, List.setIfInBounds_toArray, List.set_cons_zero, List.set_cons_succ]
          refine wpAnyH_take (i := 4) (oi := _) (v := ?vv5) rfl (by kernel_rfl) (by kernel_rfl) (by kernel_rfl) (fun _ _ _ h => h) (Or.inl ⟨by rfl, ?hyv5⟩) (by assumption) ?restv5
          case hyv5 => (intro w hSw; (try dsimp only at hSw); go_simp; try with_reducible rfl)
          try simp only [List.getElem_toArray, List.getElem_cons_zero, List.getElem_cons_succ, Act.put, List.setIfInBounds_toArray, List.set_cons_zero, List.set_cons_succ]
          refine wpAnyH_take (i := 5) (oi := _) (v := ?vv6) rfl (by kernel_rfl) (by kernel_rfl) (by kernel_rfl) (fun _ _ _ h => h) (Or.inl ⟨by rfl, ?hyv6⟩) (by assumption) ?restv6
          case hyv6 => (intro w hSw; (try dsimp only at hSw); go_simp; try with_reducible rfl)
          try simp only [List.getElem_toArray, List.getElem_cons_zero, List.getElem_cons_succ, Act.put, List.setIfInBounds_toArray, List.set_cons_zero, List.set_cons_succ]
          refine wpAnyH_take (i := 6) (oi := _) (v := ?vv7) rfl (by kernel_rfl) (by kernel_rfl) (by kernel_rfl) (fun _ _ _ h => h) (Or.inl ⟨by rfl, ?hyv7⟩) (by assumption) ?restv7
          case hyv7 => (intro w hSw; (try dsimp only at hSw); go_simp; try with_reducible rfl)
          try simp only [List.getElem_toArray, List.getElem_cons_zero, List.getElem_cons_succ, Act.put, List.setIfInBounds_toArray, List.set_cons_zero, List.set_cons_succ]
          refine wpAnyH_take (i := 7) (oi := _) (v := ?vv8) rfl (by kernel_rfl) (by kernel_rfl) (by kernel_rfl) (fun _ _ _ h => h) (Or.inl ⟨by rfl, ?hyv8⟩) (by assumption) ?restv8
          case hyv8 => (intro w hSw; (try dsimp only at hSw); go_simp; try with_reducible rfl)
          try simp only [List.getElem_toArray, List.getElem_cons_zero, List.getElem_cons_succ, Act.put, List.setIfInBounds_toArray, List.set_cons_zero, List.set_cons_succ]
          refine wpAnyH_take (i := 8) (oi := _) (v := ?vv9) rfl (by kernel_rfl) (by kernel_rfl) (by kernel_rfl) (fun _ _ _ h => h) (Or.inl ⟨by rfl, ?hyv9⟩) (by assumption) ?restv9
          case hyv9 => (intro w hSw; (try dsimp only at hSw); go_simp; try with_reducible rfl)
          try simp only [List.getElem_toArray, List.getElem_cons_zero, List.getElem_cons_succ, Act.put, List.setIfInBounds_toArray, List.set_cons_zero, List.set_cons_succ]
          refine wpAnyH_take (i := 10) (oi := _) (v := ?vv10) rfl (by kernel_rfl) (by kernel_rfl) (by kernel_rfl) (fun _ _ _ h => h) (Or.inl ⟨by rfl, ?hyv10⟩) (by assumption) ?restv10
          case hyv10 => (intro w hSw; (try dsimp only at hSw); go_simp; try with_reducible rfl)
          try simp only [List.getElem_toArray, List.getElem_cons_zero, List.getElem_cons_succ, Act.put, List.setIfInBounds_toArray, List.set_cons_zero, List.set_cons_succ]
          refine wpAnyH_take (i := 12) (oi := _) (v := ?vv11) rfl (by kernel_rfl) (by kernel_rfl) (by kernel_rfl) (fun _ _ _ h => h) (Or.inl ⟨by rfl, ?hyv11⟩) (by assumption) ?restv11
          case hyv11 => (intro w hSw; (try dsimp only at hSw); go_simp; try with_reducible rfl)
          try simp only [List.getElem_toArray, List.getElem_cons_zero, List.getElem_cons_succ, Act.put, List.setIfInBounds_toArray, List.set_cons_zero, List.set_cons_succ]
          refine wpAnyH_take (i := 13) (oi := _) (v := ?vv12) rfl (by kernel_rfl) (by kernel_rfl) (by kernel_rfl) (fun _ _ _ h => h) (Or.inl ⟨by rfl, ?hyv12⟩) (by assumption) ?restv12
          case hyv12 => (intro w hSw; (try dsimp only at hSw); go_simp; try with_reducible rfl)
          try simp only [List.getElem_toArray, List.getElem_cons_zero, List.getElem_cons_succ, Act.put, List.setIfInBounds_toArray, List.set_cons_zero, List.set_cons_succ]
          refine wpAnyH_take (i := 14) (oi := _) (v := ?vv13) rfl (by kernel_rfl) (by kernel_rfl) (by kernel_rfl) (fun _ _ _ h => h) (Or.inl ⟨by rfl, ?hyv13⟩) (by assumption) ?restv13
          case hyv13 => (intro w hSw; (try dsimp only at hSw); go_simp; try with_reducible rfl)
          try simp only [List.getElem_toArray, List.getElem_cons_zero, List.getElem_cons_succ, Act.put, List.setIfInBounds_toArray, List.set_cons_zero, List.set_cons_succ]
          refine wpAnyH_take (i := 15) (oi := _) (v := ?vv14) rfl (by kernel_rfl) (by kernel_rfl) (by kernel_rfl) (fun _ _ _ h => h) (Or.inl ⟨by rfl, ?hyv14⟩) (by assumption) ?restv14
          case hyv14 => (intro w hSw; (try dsimp only at hSw); go_simp; try with_reducible rfl)
          try simp only [List.getElem_toArray, List.getElem_cons_zero, List.getElem_cons_succ, Act.put, List.setIfInBounds_toArray, List.set_cons_zero, List.set_cons_succ]
          refine wpAnyH_take (i := 16) (oi := _) (v := ?vv15) rfl (by kernel_rfl) (by kernel_rfl) (by kernel_rfl) (fun _ _ _ h => h) (Or.inl ⟨by rfl, ?hyv15⟩) (by assumption) ?restv15
          case hyv15 => (intro w hSw; (try dsimp only at hSw); go_simp; try with_reducible rfl)
          try simp only [List.getElem_toArray, List.getElem_cons_zero, List.getElem_cons_succ, Act.put, List.setIfInBounds_toArray, List.set_cons_zero, List.set_cons_succ]
          refine wpAnyH_ready (rs := [9]) (by kernel_rfl) (by simp) ?_
          refine AllReadyH.cons (o := _) rfl (fun KK hKK => ?_) (AllReadyH.nil)
          go_simp
          (go_at_call 34; (with_reducible refine (HAT2.out _ (Fr.refl none_ wr).drew).mono ?_); rintro e x1 ⟨rfl, hY1⟩; have hX1 : Fr none_ wr x1 := (Fr.refl none_ wr).drew.trans hY1)
          go_wp2_with fail
          refine hKK.out _ _ ?hSv16 (fun hHeldv16 => ?restv16)
          case hSv16 => first | exact HS2.out _ hX2 | exact HS2.out _ (Fr.of0 hX1)
          clear hKK KK
          try simp only [List.getElem_toArray, List.getElem_cons_zero, List.getElem_cons_succ, Act.put, List.setIfInBounds_toArray, List.set_cons_zero, List.set_cons_succ]
          refine wpAnyH_take (i := 11) (oi := _) (v := ?vv17) rfl (by kernel_rfl) (by kernel_rfl) (by kernel_rfl) (fun _ _ _ h => h) (Or.inl ⟨by rfl, ?hyv17⟩) (by assumption) ?restv17
          case hyv17 => (intro w hSw; (try dsimp only at hSw); go_simp; try with_reducible rfl)
          try simp only [List.getElem_toArray, List.getElem_cons_zero, List.getElem_cons_succ, Act.put, List.setIfInBounds_toArray, List.set_cons_zero, List.set_cons_succ]
          refine wpAnyH_ready (rs := [17]) (by kernel_rfl) (by simp) ?_
          refine AllReadyH.cons (o := _) rfl (fun KK hKK => ?_) (AllReadyH.nil)
          go_simp
          (go_at_call 33; (with_reducible refine (HWR0.out _ hX1).mono ?_); rintro e x2 ⟨rfl, hY2, hD2⟩; have hX2 : Fr (devBlks p m1 m2) wr x2 := (Fr.of0 hX1).trans hY2)
          go_wp2_with fail
          refine hKK.out _ _ ?hSv18 (fun hHeldv18 => ?restv18)
          case hSv18 => first | exact HS2.out _ hX2 | exact HS2.out _ (Fr.of0 hX1)
          clear hKK KK
          try simp only [List.getElem_toArray, List.getElem_cons_zero, List.getElem_cons_succ, Act.put, List.setIfInBounds_toArray, List.set_cons_zero, List.set_cons_succ]
          refine wpAnyH_take (i := 18) (oi := _) (v := ?vv19) rfl (by kernel_rfl) (by kernel_rfl) (by kernel_rfl) (fun _ _ _ h => h) (Or.inl ⟨by rfl, ?hyv19⟩) (by assumption) ?restv19
          case hyv19 => (intro w hSw; (try dsimp only at hSw); go_simp; try with_reducible rfl)
          try simp only [List.getElem_toArray, List.getElem_cons_zero, List.getElem_cons_succ, Act.put, List.setIfInBounds_toArray, List.set_cons_zero, List.set_cons_succ]
          refine wpAnyH_done (by kernel_rfl) ?_ _
          have HD2 := Lib.hid (And.intro hX2 hD2)
          clear hX2 hD2
          go_wp2_with fail
          go_roundw
          case rel => exact ⟨t + 1, by omega, by go_num, HF.out.trans HD2.out.1, HD2.out.2, .inr (by simpa using HDN.out)⟩
          case measure => simp [intOf]; omega
        · clear hlt64
          go_wp2_with fail
          refine wp_region_held_drew (S := fun W => (W.cell? ⟨x, 0, none⟩ = some (.slice (some ⟨lb, 0, none⟩) ds.length cl) ∧ W.cell? ⟨lb, i, none⟩ = some (ptr p))) (by kernel_rfl) (HS2.out _ (Fr.refl _ wr).drew) (fun hHeld0 => ?_)
          refine wpAnyH_take (i := 0) (oi := _) (v := ?vz1) rfl (by kernel_rfl) (by kernel_rfl) (by kernel_rfl) (fun _ _ _ h => h) (Or.inl ⟨by rfl, ?hyz1⟩) (by assumption) ?restz1
          case hyz1 => (intro w hSw; (try dsimp only at hSw); go_simp; try with_reducible rfl)
          try simp only [List.getElem_toArray, List.getElem_cons_zero, List.getElem_cons_succ, Act.put, List.setIfInBounds_toArray, List.set_cons_zero, List.set_cons_succ]
          refine wpAnyH_take (i := 1) (oi := _) (v := ?vz2) rfl (by kernel_rfl) (by kernel_rfl) (by kernel_rfl) (fun _ _ _ h => h) (Or.inl ⟨by rfl, ?hyz2⟩) (by assumption) ?restz2
          case hyz2 => (intro w hSw; (try dsimp only at hSw); go_simp; try with_reducible rfl)
          try simp only [List.getElem_toArray, List.getElem_cons_zero, List.getElem_cons_succ, Act.put, List.setIfInBounds_toArray, List.set_cons_zero, List.set_cons_succ]
          refine wpAnyH_take (i := 2) (oi := _) (v := ?vz3) rfl (by kernel_rfl) (by kernel_rfl) (by kernel_rfl) (fun _ _ _ h => h) (Or.inl ⟨by rfl, ?hyz3⟩) (by assumption) ?restz3
          case hyz3 => (intro w hSw; (try dsimp only at hSw); go_simp; try with_reducible rfl)
          try simp only [List.getElem_toArray, List.getElem_cons_zero, List.getElem_cons_succ, Act.put, List.setIfInBounds_toArray, List.set_cons_zero, List.set_cons_succ]
          refine wpAnyH_take (i := 3) (oi := _) (v := ?vz4) rfl (by kernel_rfl) (by kernel_rfl) (by kernel_rfl) (fun _ _ _ h => h) (Or.inl ⟨by rfl, ?hyz4⟩) (by assumption) ?restz4
          case hyz4 => (intro w hSw; (try dsimp only at hSw); go_simp; try with_reducible rfl)
          try simp only [List.getElem_toArray, List.getElem_cons_zero, List.getElem_cons_succ, Act.put, List.setIfInBounds_toArray, List.set_cons_zero, List.set_cons_succ]
          refine wpAnyH_take (i := 4) (oi := _) (v := ?vz5) rfl (by kernel_rfl) (by kernel_rfl) (by kernel_rfl) (fun _ _ _ h => h) (Or.inl ⟨by rfl, ?hyz5⟩) (by assumption) ?restz5
          case hyz5 => (intro w hSw; (try dsimp only at hSw); go_simp; try with_reducible rfl)
          try simp only [List.getElem_toArray, List.getElem_cons_zero, List.getElem_cons_succ, Act.put, List.setIfInBounds_toArray, List.set_cons_zero, List.set_cons_succ]
          refine wpAnyH_take (i := 5) (oi := _) (v := ?vz6) rfl (by kernel_rfl) (by kernel_rfl) (by kernel_rfl) (fun _ _ _ h => h) (Or.inl ⟨by rfl, ?hyz6⟩) (by assumption) ?restz6
          case hyz6 => (intro w hSw; (try dsimp only at hSw); go_simp; try with_reducible rfl)
          try simp only [List.getElem_toArray, List.getElem_cons_zero, List.getElem_cons_succ, Act.put, List.setIfInBounds_toArray, List.set_cons_zero, List.set_cons_succ]
          refine wpAnyH_take (i := 6) (oi := _) (v := ?vz7) rfl (by kernel_rfl) (by kernel_rfl) (by kernel_rfl) (fun _ _ _ h => h) (Or.inl ⟨by rfl, ?hyz7⟩) (by assumption) ?restz7
          case hyz7 => (intro w hSw; (try dsimp only at hSw); go_simp; try with_reducible rfl)
          try simp only [List.getElem_toArray, List.getElem_cons_zero, List.getElem_cons_succ, Act.put, List.setIfInBounds_toArray, List.set_cons_zero, List.set_cons_succ]
          refine wpAnyH_take (i := 7) (oi := _) (v := ?vz8) rfl (by kernel_rfl) (by kernel_rfl) (by kernel_rfl) (fun _ _ _ h => h) (Or.inl ⟨by rfl, ?hyz8⟩) (by assumption) ?restz8
          case hyz8 => (intro w hSw; (try dsimp only at hSw); go_simp; try with_reducible rfl)
          try simp only [List.getElem_toArray, List.getElem_cons_zero, List.getElem_cons_succ, Act.put, List.setIfInBounds_toArray, List.set_cons_zero, List.set_cons_succ]
          refine wpAnyH_take (i := 8) (oi := _) (v := ?vz9) rfl (by kernel_rfl) (by kernel_rfl) (by kernel_rfl) (fun _ _ _ h => h) (Or.inl ⟨by rfl, ?hyz9⟩) (by assumption) ?restz9
          case hyz9 => (intro w hSw; (try dsimp only at hSw); go_simp; try with_reducible rfl)
          try simp only [List.getElem_toArray, List.getElem_cons_zero, List.getElem_cons_succ, Act.put, List.setIfInBounds_toArray, List.set_cons_zero, List.set_cons_succ]
          refine wpAnyH_take (i := 10) (oi := _) (v := ?vz10) rfl (by kernel_rfl) (by kernel_rfl) (by kernel_rfl) (fun _ _ _ h => h) (Or.inl ⟨by rfl, ?hyz10⟩) (by assumption) ?restz10
          case hyz10 => (intro w hSw; (try dsimp only at hSw); go_simp; try with_reducible rfl)
          try simp only [List.getElem_toArray, List.getElem_cons_zero, List.getElem_cons_succ, Act.put, List.setIfInBounds_toArray, List.set_cons_zero, List.set_cons_succ]
          refine wpAnyH_take (i := 12) (oi := _) (v := ?vz11) rfl (by kernel_rfl) (by kernel_rfl) (by kernel_rfl) (fun _ _ _ h => h) (Or.inl ⟨by rfl, ?hyz11⟩) (by assumption) ?restz11
          case hyz11 => (intro w hSw; (try dsimp only at hSw); go_simp; try with_reducible rfl)
          try simp only [List.getElem_toArray, List.getElem_cons_zero, List.getElem_cons_succ, Act.put, List.setIfInBounds_toArray, List.set_cons_zero, List.set_cons_succ]
          refine wpAnyH_take (i := 13) (oi := _) (v := ?vz12) rfl (by kernel_rfl) (by kernel_rfl) (by kernel_rfl) (fun _ _ _ h => h) (Or.inl ⟨by rfl, ?hyz12⟩) (by assumption) ?restz12
          case hyz12 => (intro w hSw; (try dsimp only at hSw); go_simp; try with_reducible rfl)
          try simp only [List.getElem_toArray, List.getElem_cons_zero, List.getElem_cons_succ, Act.put, List.setIfInBounds_toArray, List.set_cons_zero, List.set_cons_succ]
          refine wpAnyH_take (i := 14) (oi := _) (v := ?vz13) rfl (by kernel_rfl) (by kernel_rfl) (by kernel_rfl) (fun _ _ _ h => h) (Or.inl ⟨by rfl, ?hyz13⟩) (by assumption) ?restz13
          case hyz13 => (intro w hSw; (try dsimp only at hSw); go_simp; try with_reducible rfl)
          try simp only [List.getElem_toArray, List.getElem_cons_zero, List.getElem_cons_succ, Act.put, List.setIfInBounds_toArray, List.set_cons_zero, List.set_cons_succ]
          refine wpAnyH_take (i := 15) (oi := _) (v := ?vz14) rfl (by kernel_rfl) (by kernel_rfl) (by kernel_rfl) (fun _ _ _ h => h) (Or.inl ⟨by rfl, ?hyz14⟩) (by assumption) ?restz14
          case hyz14 => (intro w hSw; (try dsimp only at hSw); go_simp; try with_reducible rfl)
          try simp only [List.getElem_toArray, List.getElem_cons_zero, List.getElem_cons_succ, Act.put, List.setIfInBounds_toArray, List.set_cons_zero, List.set_cons_succ]
          refine wpAnyH_take (i := 16) (oi := _) (v := ?vz15) rfl (by kernel_rfl) (by kernel_rfl) (by kernel_rfl) (fun _ _ _ h => h) (Or.inl ⟨by rfl, ?hyz15⟩) (by assumption) ?restz15
          case hyz15 => (intro w hSw; (try dsimp only at hSw); go_simp; try with_reducible rfl)
          try simp only [List.getElem_toArray, List.getElem_cons_zero, List.getElem_cons_succ, Act.put, List.setIfInBounds_toArray, List.set_cons_zero, List.set_cons_succ]
          refine wpAnyH_ready (rs := [9]) (by kernel_rfl) (by simp) ?_
          refine AllReadyH.cons (o := _) rfl (fun KK hKK => ?_) (AllReadyH.nil)
          go_simp
          (go_at_call 34; (with_reducible refine (HAT2.out _ (Fr.refl none_ wr).drew).mono ?_); rintro e x1 ⟨rfl, hY1⟩; have hX1 : Fr none_ wr x1 := (Fr.refl none_ wr).drew.trans hY1)
          go_wp2_with fail
          refine hKK.out _ _ ?hSz16 (fun hHeldz16 => ?restz16)
          case hSz16 => first | exact HS2.out _ hX2 | exact HS2.out _ (Fr.of0 hX1)
          clear hKK KK
          try simp only [List.getElem_toArray, List.getElem_cons_zero, List.getElem_cons_succ, Act.put, List.setIfInBounds_toArray, List.set_cons_zero, List.set_cons_succ]
          refine wpAnyH_take (i := 11) (oi := _) (v := ?vz17) rfl (by kernel_rfl) (by kernel_rfl) (by kernel_rfl) (fun _ _ _ h => h) (Or.inl ⟨by rfl, ?hyz17⟩) (by assumption) ?restz17
          case hyz17 => (intro w hSw; (try dsimp only at hSw); go_simp; try with_reducible rfl)
          try simp only [List.getElem_toArray, List.getElem_cons_zero, List.getElem_cons_succ, Act.put, List.setIfInBounds_toArray, List.set_cons_zero, List.set_cons_succ]
          refine wpAnyH_ready (rs := [17]) (by kernel_rfl) (by simp) ?_
          refine AllReadyH.cons (o := _) rfl (fun KK hKK => ?_) (AllReadyH.nil)
          go_simp
          (go_at_call 33; (with_reducible refine (HWR.out _ hX1 _ (by first | exact .inl rfl | exact .inr HCL.out.2)).mono ?_); rintro e x2 ⟨rfl, hY2, hD2⟩; have hX2 : Fr (devBlks p m1 m2) wr x2 := (Fr.of0 hX1).trans hY2)
          go_wp2_with fail
          refine hKK.out _ _ ?hSz18 (fun hHeldz18 => ?restz18)
          case hSz18 => first | exact HS2.out _ hX2 | exact HS2.out _ (Fr.of0 hX1)
          clear hKK KK
          try simp only [List.getElem_toArray, List.getElem_cons_zero, List.getElem_cons_succ, Act.put, List.setIfInBounds_toArray, List.set_cons_zero, List.set_cons_succ]
          refine wpAnyH_take (i := 18) (oi := _) (v := ?vz19) rfl (by kernel_rfl) (by kernel_rfl) (by kernel_rfl) (fun _ _ _ h => h) (Or.inl ⟨by rfl, ?hyz19⟩) (by assumption) ?restz19
          case hyz19 => (intro w hSw; (try dsimp only at hSw); go_simp; try with_reducible rfl)
          try simp only [List.getElem_toArray, List.getElem_cons_zero, List.getElem_cons_succ, Act.put, List.setIfInBounds_toArray, List.set_cons_zero, List.set_cons_succ]
          refine wpAnyH_done (by kernel_rfl) ?_ _
          have HD2 := Lib.hid (And.intro hX2 hD2)
          clear hX2 hD2
          go_wp2_with fail
          go_roundw
          case rel => exact ⟨t + 1, by omega, by go_num, HF.out.trans HD2.out.1, HD2.out.2, .inr (by simpa using HDN.out)⟩
          case measure => simp [intOf]; omega
    · have ht2 : t = S := by omega
      subst ht2
      have hupS : (wrN D (T : Int) B t).down = false := by
        rcases hup with e | e
        · omega
        · exact e
      have HF := Lib.hid (And.intro hF (And.intro hdv hupS))
      clear hF hdv hup hupS
      go_wp2_with fail
      go_ret
      exact ⟨by rw [HF.out.2.2]; rfl, (Fr.of0 HX.out.2.2.1).trans HF.out.1, HF.out.2.1⟩
end Go.Proofs.Ytdkjmnhblepkaaa

import Derived.Test.YtjfeibbghhjjeaaDoorHotS
import Derived.Test.YtjfeibbghhjjeaaDoorSeal
import Derived.Test.YtjfeibbghhjjeaaDoorCodec
namespace Go.Proofs.YtjfeibbghhjjeaaDoor
open Go.RowKit
set_option linter.unusedVariables false
set_option linter.unusedSimpArgs false
set_option maxRecDepth 100000

/-! hot.Encode -/
def encBox (b : BoxS) : List UInt8 := encF b.state.toNat ++ (encF b.used ++ encF b.live)
def encBoxes (l : List BoxS) : List UInt8 := l.flatMap encBox
def encHot (H : HotS) : List UInt8 := encF H.boxes.length ++ encBoxes H.boxes
theorem encBox_len (b : BoxS) : (encBox b).length ≤ 27 := by
  unfold encBox
  simp only [List.length_append, encF_len]
  have h1 := behindF_le b.state.toNat
  have h2 := behindF_le b.used
  have h3 := behindF_le b.live
  omega
theorem encBoxes_len (l : List BoxS) : (encBoxes l).length ≤ 27 * l.length := by
  induction l with
  | nil => simp [encBoxes]
  | cons b l ih =>
    unfold encBoxes at *
    rw [List.flatMap_cons, List.length_append, List.length_cons]
    have := encBox_len b
    omega
theorem encBoxes_succ (l : List BoxS) (k : Nat) (hk : k < l.length) : encBoxes (l.take (k + 1)) = encBoxes (l.take k) ++ encBox l[k] := by
  unfold encBoxes
  rw [List.take_succ_eq_append_getElem hk, List.flatMap_append]
  simp
/-- states are such -/
def States (H : HotS) : Prop := ∀ b, b ∈ H.boxes → 0 ≤ b.state ∧ b.state ≤ 3
set_option maxHeartbeats 8000000 in
theorem hencode_any {w : World} {h bx p : Nat} {H : HotS} (hh : HotAt w h bx p H) (hok : H.Ok) (hst : States H) :
    Calls Tryd.prog 11 #[ptr h] w fun e w' => Cloned w (sealB (encHot H)) e w' := by
  obtain ⟨c0, c1, c2, c3, c4⟩ := hh.cellsAll
  have hm := hh.most
  have hz1 : H.sectors * 64 ≤ 65536 := by omega
  have hlt1 := blk_lt hh.blk
  have hlt2 := blk_lt hh.bxs
  have d4 : w.drew.cell? ⟨h, 4, none⟩ = some (.slice (some ⟨bx, 0, none⟩) H.boxes.length H.boxes.length) := c4
  have hcell : ∀ W, Fr (fun k => w.heap.size ≤ k) w W → W.cell? ⟨h, 4, none⟩ = some (.slice (some ⟨bx, 0, none⟩) H.boxes.length H.boxes.length) := fun W hF => hF.cell c4 (by omega)
  have hnw : Calls Tryd.prog 31 #[] w.drew fun e w' => e = .returned (ptr w.heap.size) ∧ Fr none_ w.drew w' ∧ WriterAt w' w.heap.size w.heap.size [] := wnew_any w.drew
  have hu0 : ∀ W, WriterAt W w.heap.size w.heap.size [] → w.heap.size ≤ W.heap.size → Calls Tryd.prog 32 #[ptr w.heap.size, .int .u64 (IntKind.u64.wrap (H.boxes.length : Int))] W fun e w' => e = .returned (ptr w.heap.size) ∧ Fr (fun k => w.heap.size ≤ k) W w' ∧ WriterAt w' w.heap.size w.heap.size (encF H.boxes.length) := fun W hW hb => by
    rw [IntWalk.u64_in _ (by omega)]
    exact wuint_any hW H.boxes.length (by omega) (by simp) hb
  have HCELL := Lib.hid hcell
  have HNW := Lib.hid hnw
  have HU0 := Lib.hid hu0
  have HOK := Lib.hid hok
  have HST := Lib.hid hst
  clear hcell hnw hu0 hok hst
  go_enter Tryd.func11, Tryd.ntmps11
  go_wp2_with fail
  go_region_held3 (fun W => W.cell? ⟨h, 4, none⟩ = some (.slice (some ⟨bx, 0, none⟩) H.boxes.length H.boxes.length)) (first | exact d4 | exact HCELL.out _ hX1 | exact HCELL.out _ hX2) (first
    | (go_at_call 31; (with_reducible refine HNW.out.mono ?_); rintro e x1 ⟨rfl, hY1, hW1⟩; have hX1 : Fr (fun k => w.heap.size ≤ k) w x1 := Fr.of0 hY1.undrew)
    | (go_at_call 32; (with_reducible refine (HU0.out x1 hW1 hX1.size).mono ?_); rintro e x2 ⟨rfl, hY2, hW2⟩; have hX2 := hX1.trans hY2))
  have e4 := HCELL.out _ hX2
  clear d4 c0 c1 c2 c3 c4 hX1 hY1 hY2
  go_wp2_with fail
  obtain ⟨B, hB⟩ : ∃ B, B = w.heap.size := ⟨_, rfl⟩
  rw [← hB] at hX2 hW2 hlt1 hlt2 ⊢
  have HB := Lib.hid hB
  clear hB
  go_loopw [21] (fun i wr => ∃ k : Nat, k ≤ H.boxes.length ∧ i = .int .i64 (k : Int) ∧ Fr (fun k => B ≤ k) w wr ∧ B ≤ wr.heap.size ∧ WriterAt wr B B (encF H.boxes.length ++ encBoxes (H.boxes.take k))) (fun i _ => H.boxes.length - (intOf i).toNat)
  case atStart => exact ⟨0, by omega, rfl, hX2, by have := hX2.size; have := HB.out; omega, by simpa [encBoxes] using hW2⟩
  case round =>
    obtain ⟨k, hk, rfl, hF, hsz, hW⟩ := hrel
    clear hX2 hW2 e4
    by_cases hlt : k < H.boxes.length
    · have hbxs := hF.heap hh.bxs (by omega)
      obtain ⟨b0, b1, b2⟩ := box_cells hbxs k hlt
      have hu1 := HOK.out.used k hlt
      have hv1 := HOK.out.live k hlt
      have hsr := HST.out H.boxes[k] (List.getElem_mem _)
      have hsucc := encBoxes_succ H.boxes k hlt
      obtain ⟨x, hx⟩ : ∃ x, x = H.boxes[k] := ⟨_, rfl⟩
      rw [← hx] at b0 b1 b2 hu1 hv1 hsr hsucc
      obtain ⟨st, hstt⟩ : ∃ st : Nat, x.state = (st : Int) := ⟨x.state.toNat, by omega⟩
      obtain ⟨u, huu⟩ : ∃ u, x.used = u := ⟨_, rfl⟩
      obtain ⟨v, hvv⟩ : ∃ v, x.live = v := ⟨_, rfl⟩
      have hpre := encBoxes_len (H.boxes.take k)
      rw [List.length_take] at hpre
      have hpl : (encF H.boxes.length).length ≤ 9 := by rw [encF_len]; have := behindF_le H.boxes.length; omega
      have henc : encBox x = encF st ++ (encF u ++ encF v) := by unfold encBox; rw [hstt, huu, hvv]; rfl
      rw [henc] at hsucc
      rw [hstt] at b0 hsr
      rw [huu] at b1 hu1 hv1
      rw [hvv] at b2 hv1
      obtain ⟨pre, hpr⟩ : ∃ pre, pre = encF H.boxes.length ++ encBoxes (H.boxes.take k) := ⟨_, rfl⟩
      have hprl : pre.length ≤ 28000 := by rw [hpr, List.length_append]; omega
      rw [← hpr] at hW
      have hnext : encF H.boxes.length ++ encBoxes (H.boxes.take (k + 1)) = pre ++ encF st ++ encF u ++ encF v := by rw [hsucc, hpr]; simp only [List.append_assoc]
      have HNX := Lib.hid hnext
      have l1 : (encF st).length ≤ 9 := by rw [encF_len]; have := behindF_le st; omega
      have l2 : (encF u).length ≤ 9 := by rw [encF_len]; have := behindF_le u; omega
      have hk1 : ∀ W, WriterAt W B B pre → B ≤ W.heap.size → Calls Tryd.prog 32 #[ptr B, .int .u64 (IntKind.u64.wrap (st : Int))] W fun e w' => e = .returned (ptr B) ∧ Fr (fun k => B ≤ k) W w' ∧ WriterAt w' B B (pre ++ encF st) ∧ Kept B W w' := fun W hW hb => by
        rw [IntWalk.u64_in _ (by omega)]
        exact wuint_kept hW st (by omega) (by omega) hb
      have hk2 : ∀ W, WriterAt W B B (pre ++ encF st) → B ≤ W.heap.size → Calls Tryd.prog 32 #[ptr B, .int .u64 (IntKind.u64.wrap (u : Int))] W fun e w' => e = .returned (ptr B) ∧ Fr (fun k => B ≤ k) W w' ∧ WriterAt w' B B (pre ++ encF st ++ encF u) ∧ Kept B W w' := fun W hW hb => by
        rw [IntWalk.u64_in _ (by omega)]
        exact wuint_kept hW u (by omega) (by rw [List.length_append]; omega) hb
      have hk3 : ∀ W, WriterAt W B B (pre ++ encF st ++ encF u) → B ≤ W.heap.size → Calls Tryd.prog 32 #[ptr B, .int .u64 (IntKind.u64.wrap (v : Int))] W fun e w' => e = .returned (ptr B) ∧ Fr (fun k => B ≤ k) W w' ∧ WriterAt w' B B (pre ++ encF st ++ encF u ++ encF v) ∧ Kept B W w' := fun W hW hb => by
        rw [IntWalk.u64_in _ (by omega)]
        exact wuint_kept hW v (by omega) (by rw [List.length_append, List.length_append]; omega) hb
      obtain ⟨V, hV⟩ : ∃ V, V = wr.alloc (.cells #[.int .i64 (st : Int), .int .i64 (u : Int), .int .i64 (v : Int)] 70) := ⟨_, rfl⟩
      have hFV : Fr none_ wr V := hV ▸ (Fr.refl _ _).alloc _
      have hbV : V.drew.heap[wr.heap.size]? = some (.cells #[.int .i64 (st : Int), .int .i64 (u : Int), .int .i64 (v : Int)] 70 (0, 0)) := hV ▸ heap_alloc_new _ _
      have hWV := (hW.fr0 hFV).fr0 (Fr.refl none_ V).drew
      have hzV : B ≤ V.drew.heap.size := by have := hFV.size; show B ≤ V.heap.size; omega
      have hFV2 : Fr (fun k => B ≤ k) w V.drew := (hF.trans0 hFV).drew
      have hne : wr.heap.size ≠ B := by
        obtain ⟨⟨vv, hp, _⟩, _⟩ := hW
        have := blk_lt hp; omega
      have hkeep : ∀ W W', W.heap[wr.heap.size]? = some (.cells #[.int .i64 (st : Int), .int .i64 (u : Int), .int .i64 (v : Int)] 70 (0, 0)) → Kept B W W' → W'.heap[wr.heap.size]? = some (.cells #[.int .i64 (st : Int), .int .i64 (u : Int), .int .i64 (v : Int)] 70 (0, 0)) := fun W W' h1 h2 => h2 _ _ _ _ hne (by decide) h1
      have hcs : ∀ W : World, W.heap[wr.heap.size]? = some (.cells #[.int .i64 (st : Int), .int .i64 (u : Int), .int .i64 (v : Int)] 70 (0, 0)) → W.cell? ⟨wr.heap.size, 0, none⟩ = some (.int .i64 (st : Int)) ∧ W.cell? ⟨wr.heap.size, 1, none⟩ = some (.int .i64 (u : Int)) ∧ W.cell? ⟨wr.heap.size, 2, none⟩ = some (.int .i64 (v : Int)) := fun W h1 => by
        refine ⟨?_, ?_, ?_⟩ <;> (rw [cell_of_blk h1]; rfl)
      have hs0 := hcs _ hbV
      have HK1 := Lib.hid hk1
      have HK2 := Lib.hid hk2
      have HK3 := Lib.hid hk3
      have HCS := Lib.hid hcs
      have HKP := Lib.hid hkeep
      have HV := Lib.hid hV
      clear hk1 hk2 hk3 hcs hkeep hV hnext hpr hsucc henc hstt huu hvv hx hpre hpl l1 l2 hsr hu1 hv1 hprl
      go_upto_region 7 with fail
      rw [← HV.out]
      go_region_held3 (fun W => W.cell? ⟨wr.heap.size, 0, none⟩ = some (.int .i64 (st : Int)) ∧ W.cell? ⟨wr.heap.size, 1, none⟩ = some (.int .i64 (u : Int)) ∧ W.cell? ⟨wr.heap.size, 2, none⟩ = some (.int .i64 (v : Int))) (first | exact hs0 | exact HCS.out _ hB1 | exact HCS.out _ hB2 | exact HCS.out _ hB3) (first
        | (go_at_call 32; (with_reducible refine (HK1.out V.drew hWV hzV).mono ?_); rintro e x1 ⟨rfl, hY1, hW1, hP1⟩; have hB1 := HKP.out _ _ hbV hP1; have hX1 := hFV2.trans hY1; have hz1 : B ≤ x1.heap.size := Nat.le_trans hzV hY1.size)
        | (go_at_call 32; (with_reducible refine (HK2.out x1 hW1 hz1).mono ?_); rintro e x2 ⟨rfl, hY2, hW2, hP2⟩; have hB2 := HKP.out _ _ hB1 hP2; have hX2 := hX1.trans hY2; have hz2 : B ≤ x2.heap.size := Nat.le_trans hz1 hY2.size)
        | (go_at_call 32; (with_reducible refine (HK3.out x2 hW2 hz2).mono ?_); rintro e x3 ⟨rfl, hY3, hW3, hP3⟩; have hB3 := HKP.out _ _ hB2 hP3; have hX3 := hX2.trans hY3; have hz3 : B ≤ x3.heap.size := Nat.le_trans hz2 hY3.size))
      go_wp2_with fail
      go_roundw
      case rel => exact ⟨k + 1, by omega, by go_num, hX3, hz3, by rw [HNX.out]; exact hW3⟩
      case measure => simp [intOf]; omega
    · have hkk : k = H.boxes.length := by omega
      rw [hkk, List.take_length] at hW
      have hel : (encHot H).length ≤ 28000 := by
        have h1 := encBoxes_len H.boxes
        have h2 := behindF_le H.boxes.length
        unfold encHot
        rw [List.length_append, encF_len]
        omega
      have hW : WriterAt wr B B (encHot H) := hW
      have hq : ¬ (k : Int) < (H.boxes.length : Int) := by omega
      have HWW := Lib.hid hW
      clear hW hkk
      go_wp2_with fail
      (with_reducible refine (wdone_any HWW.out (by omega)).mono ?_)
      rintro e x1 ⟨⟨vv, rfl, hown⟩, hY1⟩
      obtain ⟨A, c, rfl, hA, hc, hnil, hbl⟩ := ownsRow_read hown
      go_wp2_with fail
      (with_reducible refine (seal_bytes A (encHot H).length c (encHot H) rfl hA (fun h => hnil h) (by omega)).mono ?_)
      rintro e x2 ⟨⟨v2, rfl, hown2⟩, hY2⟩
      go_wp2_with fail
      go_ret
      have hBw := HB.out
      have hF2 : Fr none_ w wr := hF.mono (fun j hj e => by omega)
      have hbase : w.heap.size ≤ x1.heap.size := by have := hY1.size; omega
      exact ⟨⟨v2, rfl, ownsRow_mono hown2 hbase⟩, (hF2.trans hY1).trans hY2⟩
end Go.Proofs.YtjfeibbghhjjeaaDoor

import Derived.Test.YtjfeibbghhjjeaaDoorHDec
import Derived.Test.YtjfeibbghhjjeaaDoorHotS
namespace Go.Proofs.YtjfeibbghhjjeaaDoor
open Go.RowKit
set_option linter.unusedVariables false
set_option linter.unusedSimpArgs false
set_option maxRecDepth 100000

/-! hot.Stat, hot.Bytes of any box. -/
theorem stat_bad {w : World} {h bx p : Nat} {H : HotS} (hh : HotAt w h bx p H) (i : Int) (hi : i < 0 ∨ (H.boxes.length : Int) ≤ i) : Calls Tryd.prog 27 #[ptr h, .int .i64 i] w fun e w' => e = .returned (.tuple #[.int .i64 0, .int .i64 0, .int .i64 0, errV 4]) ∧ Fr none_ w w' := by
  obtain ⟨c0, c1, c2, c3, c4⟩ := hh.cellsAll
  have he : errV 4 = .iface 53 (.int .i64 4) := errV_n (by decide)
  rw [he]
  by_cases h0 : i < 0
  · clear hi
    go_enter Tryd.func27, Tryd.ntmps27
    go_wp2_with fail
    exact bodyPost_ret (v := .tuple #[.int .i64 0, .int .i64 0, .int .i64 0, .iface 53 (.int .i64 4)]) (by simp [results, Tryd.results27, go_sem]) rfl ⟨rfl, Fr.refl _ _⟩
  · have h1 : (H.boxes.length : Int) ≤ i := by omega
    clear hi
    go_enter Tryd.func27, Tryd.ntmps27
    go_wp2_with fail
    exact bodyPost_ret (v := .tuple #[.int .i64 0, .int .i64 0, .int .i64 0, .iface 53 (.int .i64 4)]) (by simp [results, Tryd.results27, go_sem]) rfl ⟨rfl, Fr.refl _ _⟩
/-- there is no such box, or it is free -/
def NoBox (H : HotS) (i : Int) : Prop := i < 0 ∨ (H.boxes.length : Int) ≤ i ∨ (H.bx i.toNat).state = 0
theorem hbox_bad {w : World} {h bx p : Nat} {H : HotS} (hh : HotAt w h bx p H) (i : Int) (hi : NoBox H i) : Calls Tryd.prog 55 #[ptr h, .int .i64 i] w fun e w' => e = .returned (.tuple #[.pointer none, errV 4]) ∧ w = w' := by
  obtain ⟨c0, c1, c2, c3, c4⟩ := hh.cellsAll
  have he : errV 4 = .iface 53 (.int .i64 4) := errV_n (by decide)
  rw [he]
  by_cases h0 : i < 0
  · clear hi
    go_enter Tryd.func55, Tryd.ntmps55
    go_wp2_with fail
    go_ret2
    exact ⟨rfl, rfl⟩
  · by_cases h1 : (H.boxes.length : Int) ≤ i
    · clear hi
      go_enter Tryd.func55, Tryd.ntmps55
      go_wp2_with fail
      go_ret2
      exact ⟨rfl, rfl⟩
    · obtain ⟨k, rfl⟩ : ∃ k : Nat, i = (k : Int) := ⟨i.toNat, by omega⟩
      have hk : k < H.boxes.length := by omega
      have hs : H.boxes[k].state = 0 := by
        rcases hi with h | h | h
        · omega
        · omega
        · rw [Int.toNat_natCast, bx_eq hk] at h; exact h
      obtain ⟨b0, b1, b2⟩ := box_cells hh.bxs k hk
      rw [hs] at b0
      have hn2 : ¬ (H.boxes.length : Int) ≤ (k : Int) := by omega
      have hn3 : ¬ H.boxes.length ≤ k := by omega
      have hn1 : (k : Int) < (H.boxes.length : Int) := by omega
      have hn4 : (0 : Int) ≤ (k : Int) := by omega
      clear hi hs h0 h1 b1 b2
      go_enter Tryd.func55, Tryd.ntmps55
      go_wp2_with fail
      go_ret2
      exact ⟨rfl, rfl⟩
/-- bytes of a box, or an error -/
structure HBy (w : World) (l : List UInt8) (er : Int) (e : Ending) (w' : World) : Prop where
  ret : ∃ A n c, e = .returned (.tuple #[.slice A n c, errV er]) ∧ n = l.length ∧ CellsAt w' A (l.map byteV) ∧ (A = none → n = 0 ∧ c = 0)
  fr : Fr none_ w w'
set_option maxHeartbeats 4000000 in
theorem hread_zero {w : World} {h : Nat} (i : Int) : Calls Tryd.prog 54 #[ptr h, .int .i64 i, .int .i64 0, .int .i64 0] w fun e w' => e = .returned (.tuple #[.slice none 0 0, errV 0]) ∧ Fr none_ w w' := by
  rw [errV_0]
  go_enter Tryd.func54, Tryd.ntmps54
  go_wp2_with fail
  go_loopw [10, 12] (fun r v wr => r = .slice none 0 0 ∧ v = .int .i64 0 ∧ wr = w) (fun _ _ _ => 0)
  case atStart => exact ⟨rfl, rfl, rfl⟩
  case round =>
    obtain ⟨rfl, rfl, rfl⟩ := hrel
    go_wp2_with fail
    go_ret2
    exact ⟨rfl, Fr.refl _ _⟩
theorem hbytes_bad {w : World} {h bx p : Nat} {H : HotS} (hh : HotAt w h bx p H) (i : Int) (hi : NoBox H i) : Calls Tryd.prog 29 #[ptr h, .int .i64 i] w fun e w' => HBy w [] 4 e w' := by
  have hb := hbox_bad hh i hi
  have he : errV 4 = .iface 53 (.int .i64 4) := errV_n (by decide)
  rw [he] at hb
  have HB := Lib.hid hb
  have HE := Lib.hid he
  clear hb hi he
  go_enter Tryd.func29, Tryd.ntmps29
  go_wp2_with fail
  (with_reducible refine HB.out.mono ?_)
  rintro e w1 ⟨rfl, rfl⟩
  go_wp2_with fail
  go_ret2
  exact ⟨⟨none, 0, 0, by rw [HE.out]; rfl, rfl, CellsAt.nil _ _, fun _ => ⟨rfl, rfl⟩⟩, Fr.refl _ _⟩
theorem hbytes_ok {w : World} {h bx p m1 m2 : Nat} {H : HotS} {D : DevS} (hh : Hd w h bx p m1 m2 H D) (i : Nat) (hi : i < H.boxes.length) (hs : H.boxes[i].state ≠ 0) (hu : H.boxes[i].used ≤ H.sectors * 64) : Calls Tryd.prog 29 #[ptr h, .int .i64 (i : Int)] w fun e w' => HBy w (if H.boxes[i].used = 0 then [] else bytesAt D H i 0 H.boxes[i].used) 0 e w' := by
  have hb := hbox_any hh.hot i hi hs
  obtain ⟨b0, b1, b2⟩ := box_cells hh.hot.bxs i hi
  rw [errV_0] at hb
  have HB := Lib.hid hb
  obtain ⟨u, hue⟩ : ∃ u, u = H.boxes[i].used := ⟨_, rfl⟩
  rw [← hue] at b1 hu ⊢
  by_cases hu0 : u = 0
  · subst hu0
    have hrz := hread_zero (w := w) (h := h) (i : Int)
    rw [errV_0] at hrz
    have HRZ := Lib.hid hrz
    clear hb hs hrz b0 b2 hue
    go_enter Tryd.func29, Tryd.ntmps29
    go_wp2_with fail
    (with_reducible refine HB.out.mono ?_)
    rintro e w1 ⟨rfl, rfl⟩
    go_wp2_with fail
    (with_reducible refine HRZ.out.mono ?_)
    rintro e w1 ⟨rfl, hF1⟩
    go_wp2_with fail
    go_ret2
    exact ⟨⟨none, 0, 0, by rw [errV_0]; rfl, rfl, CellsAt.nil _ _, fun _ => ⟨rfl, rfl⟩⟩, hF1⟩
  · have hr := hread_any hh i 0 u hi (by omega) (by omega)
    rw [if_neg hu0]
    obtain ⟨T, hT⟩ : ∃ T, T = bytesAt D H i 0 u := ⟨_, rfl⟩
    rw [← hT] at hr ⊢
    rw [show ((0 : Nat) : Int) = 0 from rfl] at hr
    have HR := Lib.hid hr
    clear hb hs hr b0 b2 hue hT
    go_enter Tryd.func29, Tryd.ntmps29
    go_wp2_with fail
    (with_reducible refine HB.out.mono ?_)
    rintro e w1 ⟨rfl, rfl⟩
    go_wp2_with fail
    (with_reducible refine HR.out.mono ?_)
    rintro e w1 ⟨⟨g, o, c, rfl, hA, _, _⟩, hF1⟩
    rw [errV_0]
    go_wp2_with fail
    go_ret2
    exact ⟨⟨some ⟨g, o, none⟩, _, c, by rw [errV_0]; rfl, rfl, hA, fun h => by cases h⟩, hF1⟩
/-- a new device's bytes -/
theorem bytesAt_zero (sec : Int) (H : HotS) (i u : Nat) : bytesAt (newD sec) H i 0 u = List.replicate u 0 := by
  have hl : ∀ j, ((newD sec).get j).length = 64 := fun j => by rw [newD_get]; rfl
  refine List.ext_getElem? (fun k => ?_)
  by_cases hk : k < u
  · rw [bytesAt_get hl H i 0 u k hk, newD_get, List.getElem?_replicate, if_pos hk]
    unfold zeroB
    rw [List.getElem?_replicate, if_pos (by omega)]
  · rw [List.getElem?_eq_none (by rw [bytesAt_len hl]; omega), List.getElem?_eq_none (by simp; omega)]
end Go.Proofs.YtjfeibbghhjjeaaDoor

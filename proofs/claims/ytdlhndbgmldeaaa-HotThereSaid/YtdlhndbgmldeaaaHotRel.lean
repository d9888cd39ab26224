import Derived.Test.YtdlhndbgmldeaaaHRoomsP
import Derived.StillTailTactics
namespace Go.Proofs.Ytdlhndbgmldeaaa
open Go.RowKit
set_option linter.unusedVariables false
set_option linter.unusedSimpArgs false
set_option maxRecDepth 100000

/-! hot.Drop, Release, Settle. -/
structure ChB (w : World) (h bx p : Nat) (H2 : HotS) (w' : World) : Prop where
  fr : Fr (fun k => k = bx) w w'
  hot : HotAt w' h bx p H2
theorem setLive {w : World} {h bx p : Nat} {H : HotS} (hh : HotAt w h bx p H) (i : Nat) (hi : i < H.boxes.length) (v : Nat) :
    HotAt (w.setCell ⟨bx, i * 3 + 2, none⟩ (.int .i64 (v : Int))) h bx p (H.putB i { (H.bx i) with live := v }) := by
  rw [bx_eq hi]
  exact hh.setBox i hi 2 (by omega) (.int .i64 (v : Int)) { H.boxes[i] with live := v } rfl
def HotS.dropB (H : HotS) (i n : Nat) : HotS := if (H.bx i).live < n then H else H.putB i { (H.bx i) with live := (H.bx i).live - n }
def DropPost (w : World) (h bx p : Nat) (H2 : HotS) (e : Ending) (w' : World) : Prop := (∃ v, e = .returned v) ∧ ChB w h bx p H2 w'
set_option maxHeartbeats 4000000 in
theorem hdrop_any {w : World} {h bx p : Nat} {H : HotS} (hh : HotAt w h bx p H) (i fr n sum : Nat) (hi : i < H.boxes.length) (hs : (H.bx i).state ≠ 0) (hn : 1 ≤ n) (hfit : fr + n ≤ (H.bx i).used) (hu : (H.bx i).used ≤ 65536) (hl : (H.bx i).live ≤ (H.bx i).used) :
    Calls Try.prog 6 #[ptr h, locV i fr n sum] w fun e w' => DropPost w h bx p (H.dropB i n) e w' := by
  rw [bx_eq hi] at hs hfit hu hl
  obtain ⟨V, hV⟩ : ∃ V, V = w.alloc (.cells #[.int .i64 (i : Int), .int .i64 (fr : Int), .int .i64 (n : Int), .int .u32 (sum : Int)] 43) := ⟨_, rfl⟩
  have hFV : Fr none_ w V := hV ▸ (Fr.refl _ _).alloc _
  have hbV : V.heap[w.heap.size]? = some (.cells #[.int .i64 (i : Int), .int .i64 (fr : Int), .int .i64 (n : Int), .int .u32 (sum : Int)] 43 (0, 0)) := hV ▸ heap_alloc_new _ _
  have hat := hat_any (hh.fr0 hFV) i fr n sum hi hs hn hfit hu
  have hdr : H.dropB i n = if H.boxes[i].live < n then H else H.putB i { (H.bx i) with live := H.boxes[i].live - n } := by unfold HotS.dropB; rw [bx_eq hi]
  obtain ⟨v, hv⟩ : ∃ v, v = H.boxes[i].live := ⟨_, rfl⟩
  rw [← hv] at hdr hl
  have HAT := Lib.hid hat
  have HDR := Lib.hid hdr
  have HV := Lib.hid hV
  have HVV := Lib.hid hv
  have hvb : v ≤ 65536 := by omega
  have hnb : n ≤ 65536 := by omega
  clear hat hdr hV hv hs
  by_cases hlow : v < n
  all_goals
    go_enter Try.func6, Try.ntmps6
    go_wp2_with fail
    rw [← HV.out]
    (with_reducible refine HAT.out.mono ?_)
    rintro e w1 ⟨rfl, hF1⟩
    rw [errV_0]
    have hh1 := hh.fr0 (hFV.trans hF1)
    have hb1 := hF1.heap0 hbV
    obtain ⟨b0, b1, b2⟩ := box_cells hh1.bxs i hi
    rw [← HVV.out] at b2
    obtain ⟨l0, l1, l2, l3⟩ := res_cell4 hb1
    have e2 : w1.drew.cell? ⟨bx, i * 3 + 2, none⟩ = some (.int .i64 (v : Int)) := b2
    have e3 : w1.drew.cell? ⟨w.heap.size, 2, none⟩ = some (.int .i64 (n : Int)) := l2
    have bf := fun o => frozen_of_blk hh1.bxs o
    have bf1 : ∀ o, w1.drew.frozen? ⟨bx, o, none⟩ = false := bf
    go_wp2_with fail
    go_still (by kernel_rfl)
    go_wp2_with fail
  · go_ret
    refine ⟨⟨_, rfl⟩, ?_⟩
    rw [HDR.out, if_pos hlow]
    exact ⟨Fr.of0 (hFV.trans hF1).drew, hh1.fr0 (Fr.refl none_ _).drew⟩
  · change Code.wp _ _ _ _ w1.drew
    obtain ⟨W, hW⟩ : ∃ W, W = w1.drew := ⟨_, rfl⟩
    have hhW : HotAt W h bx p H := hW ▸ hh1.fr0 (Fr.refl none_ _).drew
    have hFW : Fr none_ w W := hW ▸ (hFV.trans hF1).drew
    rw [← hW] at e2 e3 bf1 ⊢
    have e4 : W.drew.cell? ⟨bx, i * 3 + 2, none⟩ = some (.int .i64 (v : Int)) := e2
    have e5 : W.drew.cell? ⟨w.heap.size, 2, none⟩ = some (.int .i64 (n : Int)) := e3
    have e6 : ∀ o, W.drew.frozen? ⟨bx, o, none⟩ = false := bf1
    have hwr : IntKind.i64.wrap ((v : Int) - (n : Int)) = ((v - n : Nat) : Int) := by rw [IntWalk.i64_in _ (by omega)]; omega
    have hset := setLive hhW i hi (v - n)
    have HSET := Lib.hid hset
    have hnv : n ≤ v := by omega
    clear hset hhW hW e2 e3 bf1 hh1 b0 b1 b2 l0 l1 l2 l3 bf hb1
    go_still_tail 9, (by kernel_rfl)
    go_wp2_with fail
    go_ret
    refine ⟨⟨_, rfl⟩, ?_⟩
    rw [HDR.out, if_neg hlow]
    exact ⟨(Fr.of0 hFW).trans (Fr.set W bx _ _).drew, HSET.out.fr0 (Fr.refl none_ _).drew⟩
/-- a box that is free is none -/
theorem hbox_free {w : World} {h bx p : Nat} {H : HotS} (hh : HotAt w h bx p H) (i : Nat) (hi : i < H.boxes.length) (hs : (H.bx i).state = 0) : Calls Try.prog 22 #[ptr h, .int .i64 (i : Int)] w fun e w' => e = .returned (.tuple #[.pointer none, errV 4]) ∧ w = w' := by
  rw [bx_eq hi] at hs
  obtain ⟨c0, c1, c2, c3, c4⟩ := hh.cellsAll
  obtain ⟨b0, b1, b2⟩ := box_cells hh.bxs i hi
  rw [hs] at b0
  clear hs
  have hn0 : ¬ (i : Int) < 0 := by omega
  have hn2 : ¬ (H.boxes.length : Int) ≤ (i : Int) := by omega
  have hn3 : ¬ H.boxes.length ≤ i := by omega
  have hn1 : (i : Int) < (H.boxes.length : Int) := by omega
  have hn4 : (0 : Int) ≤ (i : Int) := by omega
  go_enter Try.func22, Try.ntmps22
  go_wp2_with fail
  go_ret2
  exact ⟨by rw [errV_n (by decide)]; rfl, rfl⟩
def HotS.relB (H : HotS) (i : Nat) : HotS := if (H.bx i).state = 2 then H.putB i ⟨3, (H.bx i).used, 0⟩ else H
theorem setRel {w : World} {h bx p : Nat} {H : HotS} (hh : HotAt w h bx p H) (i : Nat) (hi : i < H.boxes.length) :
    HotAt ((w.setCell ⟨bx, i * 3, none⟩ (.int .i64 3)).setCell ⟨bx, i * 3 + 2, none⟩ (.int .i64 0)) h bx p (H.putB i ⟨3, (H.bx i).used, 0⟩) := by
  have h1 := hh.setBox i hi 0 (by omega) (.int .i64 3) { H.boxes[i] with state := 3 } rfl
  have h3 := h1.setBox i (by simpa [HotS.putB] using hi) 2 (by omega) (.int .i64 0) ⟨3, H.boxes[i].used, 0⟩ (by simp [HotS.putB, boxC])
  have e : (H.putB i { H.boxes[i] with state := 3 }).putB i ⟨3, H.boxes[i].used, 0⟩ = H.putB i ⟨3, H.boxes[i].used, 0⟩ := by simp [HotS.putB]
  rw [e] at h3
  rw [bx_eq hi]
  exact h3
set_option maxHeartbeats 4000000 in
theorem hrelease_any {w : World} {h bx p : Nat} {H : HotS} (hh : HotAt w h bx p H) (i : Nat) (hi : i < H.boxes.length) :
    Calls Try.prog 8 #[ptr h, .int .i64 (i : Int)] w fun e w' => DropPost w h bx p (H.relB i) e w' := by
  by_cases h0 : (H.bx i).state = 0
  · have hb := hbox_free hh i hi h0
    have HB := Lib.hid hb
    have hr : H.relB i = H := by unfold HotS.relB; rw [if_neg (by rw [h0]; decide)]
    have HR := Lib.hid hr
    clear hb hr h0
    go_enter Try.func8, Try.ntmps8
    go_wp2_with fail
    (with_reducible refine HB.out.mono ?_)
    rintro e w1 ⟨rfl, rfl⟩
    rw [errV_n (by decide)]
    go_wp2_with fail
    go_ret
    exact ⟨⟨_, rfl⟩, by rw [HR.out]; exact ⟨Fr.refl _ _, hh⟩⟩
  · have hb := hbox_any hh i hi (by rw [← bx_eq hi]; exact h0)
    have HB := Lib.hid hb
    obtain ⟨b0, b1, b2⟩ := box_cells hh.bxs i hi
    have bf := fun o => frozen_of_blk hh.bxs o
    have hset := setRel hh i hi
    have HSET := Lib.hid hset
    rw [← bx_eq hi] at b0
    by_cases h2 : (H.bx i).state = 2
    · have hr : H.relB i = H.putB i ⟨3, (H.bx i).used, 0⟩ := by unfold HotS.relB; rw [if_pos h2]
      have HR := Lib.hid hr
      rw [h2] at b0
      clear hb hr h0 h2 hset
      go_enter Try.func8, Try.ntmps8
      go_wp2_with fail
      (with_reducible refine HB.out.mono ?_)
      rintro e w1 ⟨rfl, rfl⟩
      rw [errV_0]
      go_wp2_with fail
      go_ret
      exact ⟨⟨_, rfl⟩, by rw [HR.out]; exact ⟨(Fr.set w bx _ _).trans (Fr.set _ bx _ _), HSET.out⟩⟩
    · have hr : H.relB i = H := by unfold HotS.relB; rw [if_neg h2]
      have HR := Lib.hid hr
      obtain ⟨st, hst⟩ : ∃ st, st = (H.bx i).state := ⟨_, rfl⟩
      rw [← hst] at b0 h2
      have o1 : (st == 2) = false := by simpa using h2
      clear hb hr h0 hset hst
      go_enter Try.func8, Try.ntmps8
      go_wp2_with fail
      (with_reducible refine HB.out.mono ?_)
      rintro e w1 ⟨rfl, rfl⟩
      rw [errV_0]
      go_wp2_with fail
      go_ret
      exact ⟨⟨_, rfl⟩, by rw [HR.out]; exact ⟨Fr.refl _ _, hh⟩⟩
/-- the boxes that were let go are free -/
def setl (b : BoxS) : BoxS := if b.state = 3 then freeB else b
def HotS.settle (H : HotS) : HotS := { H with boxes := H.boxes.map setl }
def midS (H : HotS) (k : Nat) : HotS := { H with boxes := (H.boxes.take k).map setl ++ H.boxes.drop k }
theorem midS_len (H : HotS) (k : Nat) (hk : k ≤ H.boxes.length) : (midS H k).boxes.length = H.boxes.length := by simp [midS]; omega
theorem midS_get (H : HotS) (k : Nat) (hk : k < H.boxes.length) (h : k < (midS H k).boxes.length) : (midS H k).boxes[k] = H.boxes[k] := by
  have key : (midS H k).boxes[k]? = some H.boxes[k] := by
    show ((H.boxes.take k).map setl ++ H.boxes.drop k)[k]? = _
    rw [List.getElem?_append_right (by rw [List.length_map, List.length_take]; omega), List.length_map, List.length_take, Nat.min_eq_left (by omega), Nat.sub_self, List.getElem?_drop, Nat.add_zero, List.getElem?_eq_getElem hk]
  rw [List.getElem?_eq_getElem h] at key
  exact Option.some.inj key
theorem midS_succ (H : HotS) (k : Nat) (hk : k < H.boxes.length) : (midS H k).putB k (setl H.boxes[k]) = midS H (k + 1) := by
  unfold HotS.putB midS
  simp only
  congr 1
  rw [List.set_append_right _ _ (by simp; omega), List.length_map, List.length_take, Nat.min_eq_left (by omega), Nat.sub_self, ← List.getElem_cons_drop (h := hk), List.set_cons_zero, List.take_succ_eq_append_getElem hk, List.map_append, List.append_assoc]
  rfl
theorem putB_self (H : HotS) (k : Nat) (hk : k < H.boxes.length) : H.putB k H.boxes[k] = H := by
  unfold HotS.putB
  rw [List.set_getElem_self]
theorem midS_all (H : HotS) : midS H H.boxes.length = H.settle := by simp [midS, HotS.settle]
set_option maxHeartbeats 4000000 in
theorem hsettle_any {w : World} {h bx p : Nat} {H : HotS} (hh : HotAt w h bx p H) :
    Calls Try.prog 9 #[ptr h] w fun e w' => e = .returned (.tuple #[]) ∧ ChB w h bx p H.settle w' := by
  obtain ⟨c0, c1, c2, c3, c4⟩ := hh.cellsAll
  have hm := hh.most
  have hR0 : ChB w h bx p (midS H 0) w := ⟨Fr.refl _ _, by simpa [midS] using hh⟩
  go_enter Try.func9, Try.ntmps9
  go_wp2_with fail
  go_loopw [10] (fun i wr => ∃ k : Nat, k ≤ H.boxes.length ∧ i = .int .i64 (k : Int) ∧ ChB w h bx p (midS H k) wr) (fun i _ => H.boxes.length - (intOf i).toNat)
  case atStart => exact ⟨0, by omega, rfl, hR0⟩
  case round =>
    obtain ⟨k, hk, rfl, hR⟩ := hrel
    clear hR0 c0 c1 c2 c3 c4
    obtain ⟨d0, d1, d2, d3, d4⟩ := hR.hot.cellsAll
    have hml := midS_len H k hk
    rw [hml] at d4
    by_cases hlt : k < H.boxes.length
    · have hkm : k < (midS H k).boxes.length := by rw [hml]; exact hlt
      obtain ⟨b0, b1, b2⟩ := box_cells hR.hot.bxs k hkm
      have bf := fun o => frozen_of_blk hR.hot.bxs o
      have hmg := midS_get H k hlt hkm
      rw [hmg] at b0 b1 b2
      have hms := midS_succ H k hlt
      have j1 : (0 : Int) ≤ (k : Int) := by omega
      have j2 : (k : Int) < (H.boxes.length : Int) := by omega
      by_cases h3 : H.boxes[k].state = 3
      · have hset := hR.hot.setBox3 k hkm freeB
        rw [show setl H.boxes[k] = freeB by unfold setl; rw [if_pos h3]] at hms
        rw [hms] at hset
        rw [h3] at b0
        have HSET := Lib.hid hset
        clear hset hms hmg h3 hml
        go_wp2_with fail
        go_roundw
        case rel => exact ⟨k + 1, by omega, by go_num, hR.fr.trans (((Fr.set wr bx _ _).trans (Fr.set _ bx _ _)).trans (Fr.set _ bx _ _)), HSET.out⟩
        case measure => simp [intOf]; omega
      · have hs1 : midS H (k + 1) = midS H k := by
          rw [← hms, show setl H.boxes[k] = (midS H k).boxes[k] by unfold setl; rw [if_neg h3, hmg]]
          exact putB_self _ k hkm
        obtain ⟨st, hst⟩ : ∃ st, st = H.boxes[k].state := ⟨_, rfl⟩
        rw [← hst] at b0 h3
        have o1 : (st == 3) = false := by simpa using h3
        have HS1 := Lib.hid hs1
        clear hms hmg hst hs1 hml
        go_wp2_with fail
        go_roundw
        case rel => exact ⟨k + 1, by omega, by go_num, by rw [HS1.out]; exact hR⟩
        case measure => simp [intOf]; omega
    · have hkk : k = H.boxes.length := by omega
      have hq : ¬ (k : Int) < (H.boxes.length : Int) := by omega
      have hR2 : ChB w h bx p H.settle wr := by rw [← midS_all, ← hkk]; exact hR
      clear hR hkk hml
      go_wp2_with fail
      go_end0
      exact ⟨rfl, hR2⟩
end Go.Proofs.Ytdlhndbgmldeaaa

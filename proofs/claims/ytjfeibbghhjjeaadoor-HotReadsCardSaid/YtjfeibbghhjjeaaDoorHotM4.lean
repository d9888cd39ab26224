import Derived.Test.YtjfeibbghhjjeaaDoorHotM3
import Derived.Deep.DeepCutAuto
namespace Go.Proofs.YtjfeibbghhjjeaaDoor
open Go.RowKit
set_option linter.unusedVariables false
set_option linter.unusedSimpArgs false
set_option maxRecDepth 100000

/-! hot.Put -/
theorem res_cell4 {W : World} {b : Nat} {a0 a1 a2 a3 : Value} {T : TypeId} {F : Nat × Nat} (h : W.heap[b]? = some (.cells #[a0, a1, a2, a3] T F)) :
    W.cell? ⟨b, 0, none⟩ = some a0 ∧ W.cell? ⟨b, 1, none⟩ = some a1 ∧ W.cell? ⟨b, 2, none⟩ = some a2 ∧ W.cell? ⟨b, 3, none⟩ = some a3 := by
  refine ⟨?_, ?_, ?_, ?_⟩ <;> (rw [cell_of_blk h]; rfl)
theorem res_put {W : World} {b : Nat} {c : Array Value} {v0 v1 v2 v3 er : Value} {T : TypeId} {F : Nat × Nat} {tmps : Array Value} (h : W.heap[b]? = some (.cells c T F)) (h0 : c[0]? = some v0) (h1 : c[1]? = some v1) (h2 : c[2]? = some v2) (h3 : c[3]? = some v3) (t4 : tmps[4]?.getD undef = ptr b) (t5 : tmps[5]?.getD undef = er) :
    (results Tryd.f25 tmps).run Tryd.prog W = .ok (.tuple #[.agg #[v0, v1, v2, v3], er]) W := by
  have c0 : W.cell? ⟨b, 0, none⟩ = some v0 := by rw [cell_of_blk h, h0]
  have c1 : W.cell? ⟨b, 1, none⟩ = some v1 := by rw [cell_of_blk h, h1]
  have c2 : W.cell? ⟨b, 2, none⟩ = some v2 := by rw [cell_of_blk h, h2]
  have c3 : W.cell? ⟨b, 3, none⟩ = some v3 := by rw [cell_of_blk h, h3]
  simp [results, Tryd.results25, go_sem, t4, t5, c0, c1, c2, c3]
/-- the result's cell, stored anew -/
def st4 (w : World) (b : Nat) (v0 v1 v2 v3 : Value) : World := (((w.setCell ⟨b, 0, none⟩ v0).setCell ⟨b, 1, none⟩ v1).setCell ⟨b, 2, none⟩ v2).setCell ⟨b, 3, none⟩ v3
theorem st4_blk {w : World} {b : Nat} {c : Array Value} {T : TypeId} (h : w.heap[b]? = some (.cells c T (0, 0))) (v0 v1 v2 v3 : Value) : (st4 w b v0 v1 v2 v3).heap[b]? = some (.cells ((((c.setIfInBounds 0 v0).setIfInBounds 1 v1).setIfInBounds 2 v2).setIfInBounds 3 v3) T (0, 0)) :=
  heap_setCell_same (heap_setCell_same (heap_setCell_same (heap_setCell_same h v0) v1) v2) v3
theorem st4_fr (w : World) (b : Nat) (v0 v1 v2 v3 : Value) : Fr (fun i => i = b) w (st4 w b v0 v1 v2 v3) :=
  (((Fr.set w b 0 v0).trans (Fr.set _ b 1 v1)).trans (Fr.set _ b 2 v2)).trans (Fr.set _ b 3 v3)
abbrev loc0 : List Value := [.int .i64 0, .int .i64 0, .int .i64 0, .int .u32 0]
def PutNo (w : World) (n : Int) (e : Ending) (w' : World) : Prop := e = .returned (.tuple #[locV 0 0 0 0, errV n]) ∧ Fr none_ w w'
def HotS.prep (H : HotS) (n : Nat) : Option (HotS × Nat) := match H.roomO n with
  | some i => some (H, i)
  | none => match H.inO 0 with
    | some i => some (H.seal.putB i ⟨1, 0, 0⟩, i)
    | none => none
def HotS.bx (H : HotS) (i : Nat) : BoxS := H.boxes.getD i freeB
def HotS.after (H : HotS) (i n : Nat) : HotS := H.putB i ⟨(H.bx i).state, (H.bx i).used + n, (H.bx i).live + n⟩
set_option maxHeartbeats 4000000 in
theorem hput_long {w : World} {h bx p : Nat} {H : HotS} (hh : HotAt w h bx p H) (A : Option Addr) (n c : Nat) (hl : n = 0 ∨ H.sectors * 64 < n) :
    Calls Tryd.prog 25 #[ptr h, .slice A n c] w fun e w' => PutNo w 2 e w' := by
  have hF0 : Fr none_ w (w.alloc (.cells #[.int .i64 0, .int .i64 0, .int .i64 0, .int .u32 0] 87)) := (Fr.refl _ _).alloc _
  have hsz := size_any H hh.most.2 (w.alloc (.cells #[.int .i64 0, .int .i64 0, .int .i64 0, .int .u32 0] 87))
  have hb0 := heap_alloc_new w (.cells #[.int .i64 0, .int .i64 0, .int .i64 0, .int .u32 0] 87)
  obtain ⟨c0, c1, c2, c3, c4⟩ := (hh.fr0 hF0).cellsAll
  have HSZ := Lib.hid hsz
  have hm := hh.most.2
  clear hsz
  obtain ⟨z, hz⟩ : ∃ z, z = H.sectors * 64 := ⟨_, rfl⟩
  rw [← hz] at hl
  have HZ := Lib.hid hz
  clear hz
  by_cases h0 : n = 0
  · subst h0
    go_enter Tryd.func25, Tryd.ntmps25
    go_wp2_with fail
    exact bodyPost_ret (v := .tuple #[locV 0 0 0 0, errV 2]) (by simp [results, Tryd.results25, go_sem]; rfl) rfl ⟨rfl, hF0⟩
  · have hzn : z < n := by omega
    have n1 : ¬ (n : Int) = 0 := by omega
    have n2 : (z : Int) < (n : Int) := by omega
    go_enter Tryd.func25, Tryd.ntmps25
    go_wp2_with fail
    (with_reducible refine HSZ.out.mono ?_)
    rintro e w1 ⟨rfl, hF1⟩
    rw [← HZ.out]
    have hb1 := hF1.heap0 hb0
    obtain ⟨r0, r1, r2, r3⟩ := res_cell4 hb1
    have rf := fun o => frozen_of_blk hb1 o
    go_wp2_with fail
    refine bodyPost_ret (res_put (b := w.heap.size) (st4_blk hb1 _ _ _ _) rfl rfl rfl rfl rfl rfl) rfl ⟨by rw [errV_n (by decide)]; rfl, ?_⟩
    exact (hF0.trans hF1).own (st4_fr w1 w.heap.size _ _ _ _) (Nat.le_refl _)
set_option maxHeartbeats 4000000 in
theorem hput_full {w : World} {h bx p : Nat} {H : HotS} (hh : HotAt w h bx p H) (hok : H.Ok) (A : Option Addr) (n c : Nat) (hn : 0 < n) (hl : n ≤ H.sectors * 64) (hr : H.roomO n = none) (hi : H.inO 0 = none) :
    Calls Tryd.prog 25 #[ptr h, .slice A n c] w fun e w' => PutNo w 10 e w' := by
  have hF0 : Fr none_ w (w.alloc (.cells #[.int .i64 0, .int .i64 0, .int .i64 0, .int .u32 0] 87)) := (Fr.refl _ _).alloc _
  have hsz := size_any H hh.most.2 (w.alloc (.cells #[.int .i64 0, .int .i64 0, .int .i64 0, .int .u32 0] 87))
  have hb0 := heap_alloc_new w (.cells #[.int .i64 0, .int .i64 0, .int .i64 0, .int .u32 0] 87)
  have hh0 := hh.fr0 hF0
  obtain ⟨c0, c1, c2, c3, c4⟩ := hh0.cellsAll
  have hrm : ∀ W, Fr none_ w W → Calls Tryd.prog 49 #[ptr h, .int .i64 (n : Int)] W fun e w' => e = .returned (.int .i64 (-1)) ∧ Fr none_ W w' := fun W hW => by
    have := room_any (hh.fr0 hW) hok n
    rw [hr] at this
    exact this
  have hin : ∀ W, Fr none_ w W → Calls Tryd.prog 50 #[ptr h, .int .i64 0] W fun e w' => e = .returned (.int .i64 (-1)) ∧ Fr none_ W w' := fun W hW => by
    have := in_any (hh.fr0 hW) 0
    rw [hi] at this
    exact this
  have HSZ := Lib.hid hsz
  have HRM := Lib.hid hrm
  have HIN := Lib.hid hin
  have hm := hh.most.2
  clear hsz hrm hin hr hi hok
  obtain ⟨z, hz⟩ : ∃ z, z = H.sectors * 64 := ⟨_, rfl⟩
  rw [← hz] at hl
  have HZ := Lib.hid hz
  clear hz
  have n1 : ¬ (n : Int) = 0 := by omega
  have n2 : ¬ (z : Int) < (n : Int) := by omega
  have n3 : ¬ z < n := by omega
  have n4 : ¬ n = 0 := by omega
  go_enter Tryd.func25, Tryd.ntmps25
  go_wp2_with fail
  (with_reducible refine HSZ.out.mono ?_)
  rintro e w1 ⟨rfl, hF1⟩
  rw [← HZ.out]
  go_wp2_with fail
  (with_reducible refine (HRM.out _ (hF0.trans hF1)).mono ?_)
  rintro e w2 ⟨rfl, hF2⟩
  go_wp2_with fail
  (with_reducible refine (HIN.out _ ((hF0.trans hF1).trans hF2)).mono ?_)
  rintro e w3 ⟨rfl, hF3⟩
  have hb1 := ((hF1.trans hF2).trans hF3).heap0 hb0
  obtain ⟨r0, r1, r2, r3⟩ := res_cell4 hb1
  have rf := fun o => frozen_of_blk hb1 o
  go_wp2_with fail
  refine bodyPost_ret (res_put (b := w.heap.size) (st4_blk hb1 _ _ _ _) rfl rfl rfl rfl rfl rfl) rfl ⟨by rw [errV_n (by decide)]; rfl, ?_⟩
  exact (((hF0.trans hF1).trans hF2).trans hF3).own (st4_fr w3 w.heap.size _ _ _ _) (Nat.le_refl _)
end Go.Proofs.YtjfeibbghhjjeaaDoor
namespace Go.Proofs.YtjfeibbghhjjeaaDoor
open Go.RowKit
set_option linter.unusedVariables false
set_option linter.unusedSimpArgs false
set_option maxRecDepth 100000

/-! hot.Put where there is room -/
theorem bx_eq {H : HotS} {i : Nat} (hi : i < H.boxes.length) : H.bx i = H.boxes[i] := by simp [HotS.bx, List.getD_eq_getElem?_getD, hi]
theorem putB_bx {H : HotS} {i : Nat} (hi : i < H.boxes.length) (b : BoxS) : (H.putB i b).bx i = b := by
  simp [HotS.bx, HotS.putB, List.getD_eq_getElem?_getD, hi]
theorem putB_bx_ne {H : HotS} {i j : Nat} (hj : j ≠ i) (b : BoxS) : (H.putB i b).bx j = H.bx j := by
  simp [HotS.bx, HotS.putB, List.getD_eq_getElem?_getD, List.getElem?_set_ne (Ne.symm hj)]
theorem putB_len (H : HotS) (i : Nat) (b : BoxS) : (H.putB i b).boxes.length = H.boxes.length := by simp [HotS.putB]
theorem seal_len (H : HotS) : H.seal.boxes.length = H.boxes.length := by unfold HotS.seal; split <;> simp [HotS.putB]
theorem seal_first (H : HotS) : H.seal.first = H.first ∧ H.seal.sectors = H.sectors := by unfold HotS.seal; split <;> simp [HotS.putB]
theorem HotAt.setBox3 {w : World} {h bx p : Nat} {H : HotS} (hh : HotAt w h bx p H) (i : Nat) (hi : i < H.boxes.length) (b : BoxS) :
    HotAt (((w.setCell ⟨bx, i * 3, none⟩ (.int .i64 b.state)).setCell ⟨bx, i * 3 + 1, none⟩ (.int .i64 (b.used : Int))).setCell ⟨bx, i * 3 + 2, none⟩ (.int .i64 (b.live : Int))) h bx p (H.putB i b) := by
  have h1 := hh.setBox i hi 0 (by omega) (.int .i64 b.state) { H.boxes[i] with state := b.state } rfl
  have h2 := h1.setBox i (by simpa [HotS.putB] using hi) 1 (by omega) (.int .i64 (b.used : Int)) { H.boxes[i] with state := b.state, used := b.used } (by simp [HotS.putB, boxC])
  have h3 := h2.setBox i (by simpa [HotS.putB] using hi) 2 (by omega) (.int .i64 (b.live : Int)) b (by simp [HotS.putB, boxC])
  have e : ((H.putB i { H.boxes[i] with state := b.state }).putB i { H.boxes[i] with state := b.state, used := b.used }).putB i b = H.putB i b := by simp [HotS.putB]
  rw [e] at h3
  exact h3
theorem HotAt.setBox2 {w : World} {h bx p : Nat} {H : HotS} (hh : HotAt w h bx p H) (i : Nat) (hi : i < H.boxes.length) (u l : Nat) :
    HotAt ((w.setCell ⟨bx, i * 3 + 1, none⟩ (.int .i64 (u : Int))).setCell ⟨bx, i * 3 + 2, none⟩ (.int .i64 (l : Int))) h bx p (H.putB i ⟨(H.bx i).state, u, l⟩) := by
  have h2 := hh.setBox i hi 1 (by omega) (.int .i64 (u : Int)) { H.boxes[i] with used := u } rfl
  have h3 := h2.setBox i (by simpa [HotS.putB] using hi) 2 (by omega) (.int .i64 (l : Int)) ⟨H.boxes[i].state, u, l⟩ (by simp [HotS.putB, boxC])
  have e : (H.putB i { H.boxes[i] with used := u }).putB i ⟨H.boxes[i].state, u, l⟩ = H.putB i ⟨H.boxes[i].state, u, l⟩ := by simp [HotS.putB]
  rw [e] at h3
  rw [bx_eq hi]
  exact h3
structure Prep (H : HotS) (n : Nat) (H1 : HotS) (i : Nat) : Prop where
  lt : i < H1.boxes.length
  len : H1.boxes.length = H.boxes.length
  first : H1.first = H.first
  sectors : H1.sectors = H.sectors
  fit : (H1.bx i).used + n ≤ H1.sectors * 64
  live : (H1.bx i).live ≤ (H1.bx i).used
theorem prep_some {H : HotS} (hok : H.Ok) {n : Nat} (hl : n ≤ H.sectors * 64) {H1 : HotS} {i : Nat} (h : H.prep n = some (H1, i)) : Prep H n H1 i := by
  unfold HotS.prep at h
  cases hr : H.roomO n with
  | some j =>
    rw [hr] at h
    simp at h
    obtain ⟨rfl, rfl⟩ := h
    unfold HotS.roomO at hr
    cases hi : H.inO 1 with
    | none => rw [hi] at hr; cases hr
    | some k =>
      rw [hi] at hr
      simp only at hr
      split at hr
      · rename_i hle
        cases hr
        obtain ⟨hlt, _⟩ := inO_lt hi
        exact ⟨hlt, rfl, rfl, rfl, hle, by rw [bx_eq hlt]; exact hok.live j hlt⟩
      · cases hr
  | none =>
    rw [hr] at h
    cases hi : H.inO 0 with
    | none => rw [hi] at h; simp at h
    | some k =>
      rw [hi] at h
      simp at h
      obtain ⟨rfl, rfl⟩ := h
      obtain ⟨hlt, _⟩ := inO_lt hi
      have hlt2 : k < H.seal.boxes.length := by rw [seal_len]; exact hlt
      refine ⟨by rw [putB_len]; exact hlt2, by rw [putB_len, seal_len], (seal_first H).1, (seal_first H).2, ?_, ?_⟩
      · rw [putB_bx hlt2]
        show 0 + n ≤ H.seal.sectors * 64
        rw [(seal_first H).2]; omega
      · rw [putB_bx hlt2]
        exact Nat.le_refl _
structure PutM (w wx : World) (h bx p m1 m2 : Nat) (H1 : HotS) (D : DevS) : Prop where
  fr : Fr (fun k => k = bx) w wx
  hd : Hd wx h bx p m1 m2 H1 D
  res : wx.heap[w.heap.size]? = some (.cells #[.int .i64 0, .int .i64 0, .int .i64 0, .int .u32 0] 87 (0, 0))
structure PutOk (w : World) (h bx p m1 m2 : Nat) (H2 : HotS) (D2 : DevS) (i fr n sum : Nat) (e : Ending) (w' : World) : Prop where
  ret : e = .returned (.tuple #[locV i fr n sum, errV 0])
  fr : Fr (fun k => k = bx ∨ devBlks p m1 m2 k) w w'
  hd : Hd w' h bx p m1 m2 H2 D2
theorem Hd.setHot {w w' : World} {h bx p m1 m2 : Nat} {H H' : HotS} {D : DevS} (hh : Hd w h bx p m1 m2 H D) (hF : Fr (fun k => k = bx) w w') (hk : HotAt w' h bx p H') (hf : H'.first = H.first) (hs : H'.sectors = H.sectors) (hl : H'.boxes.length = H.boxes.length) : Hd w' h bx p m1 m2 H' D :=
  ⟨hk, hh.dev.fr hF (fun i hi e => hh.bd (e ▸ hi)), hh.hd, hh.bd, hh.up, by rw [hf, hs, hl]; exact hh.fit⟩
theorem Hd.setDev {w w' : World} {h bx p m1 m2 : Nat} {H : HotS} {D D' : DevS} (hh : Hd w h bx p m1 m2 H D) (hF : Fr (devBlks p m1 m2) w w') (hk : DevAt w' p m1 m2 D') (hu : D'.down = false) (hs : D'.sectors = D.sectors) : Hd w' h bx p m1 m2 H D' :=
  ⟨hh.hot.fr hF hh.hd hh.bd, hk, hh.hd, hh.bd, hu, by rw [hs]; exact hh.fit⟩
theorem Hd.box {w : World} {h bx p m1 m2 : Nat} {H : HotS} {D : DevS} (hh : Hd w h bx p m1 m2 H D) (i : Nat) (hi : i < H.boxes.length) : 0 ≤ sectorF H i 0 ∧ sectorF H i 0 + (H.sectors : Nat) ≤ D.sectors := by
  have h1 := hh.fit
  have h2 := hh.hot.firstIn
  have h3 : (i + 1) * H.sectors ≤ H.boxes.length * H.sectors := Nat.mul_le_mul_right _ (by omega)
  rw [Nat.add_mul, Nat.one_mul] at h3
  unfold sectorF
  omega
set_option maxHeartbeats 8000000 in
theorem hput_ok {w : World} {h bx p m1 m2 : Nat} {H : HotS} {D : DevS} (hh : Hd w h bx p m1 m2 H D) (hok : H.Ok) (hc : Calm D) (A : Option Addr) (n c : Nat) (l : List UInt8) (hnl : n = l.length) (hn : 0 < n) (hl : n ≤ H.sectors * 64)
    (hA : CellsAt w A (l.map byteV)) (hap : ∀ b, blkOf A b → b ≠ bx ∧ ¬ devBlks p m1 m2 b) (H1 : HotS) (i_ : Nat) (hp : H.prep n = some (H1, i_)) :
    Calls Tryd.prog 25 #[ptr h, .slice A n c] w fun e w' => PutOk w h bx p m1 m2 (H1.after i_ n) (hwrite D H1 i_ (H1.bx i_).used l) i_ (H1.bx i_).used n (sumF l) e w' := by
  have hP := prep_some hok hl hp
  have hF0 : Fr none_ w (w.alloc (.cells #[.int .i64 0, .int .i64 0, .int .i64 0, .int .u32 0] 87)) := (Fr.refl _ _).alloc _
  have hsz := size_any H hh.hot.most.2 (w.alloc (.cells #[.int .i64 0, .int .i64 0, .int .i64 0, .int .u32 0] 87))
  have hb0 := heap_alloc_new w (.cells #[.int .i64 0, .int .i64 0, .int .i64 0, .int .u32 0] 87)
  obtain ⟨c0, c1, c2, c3, c4⟩ := (hh.fr0 hF0).hot.cellsAll
  have hm := hh.hot.most
  have hsx := H.sectors
  obtain ⟨z, hz⟩ : ∃ z, z = H.sectors * 64 := ⟨_, rfl⟩
  rw [← hz] at hl
  have hz2 : z ≤ 65536 := by omega
  have hnb : h ≠ w.heap.size := by have := blk_lt hh.hot.blk; omega
  have hnx : bx ≠ w.heap.size := by have := blk_lt hh.hot.bxs; omega
  have n1 : ¬ (n : Int) = 0 := by omega
  have n2 : ¬ (z : Int) < (n : Int) := by omega
  have n3 : ¬ z < n := by omega
  have n4 : ¬ n = 0 := by omega
  have HSZ := Lib.hid hsz
  have HZ := Lib.hid hz
  have HP := Lib.hid hP
  have HHP := Lib.hid hp
  have HNL := Lib.hid hnl
  clear hsz hz hP hp hnl
  have hroom : (∃ hr : H.roomO n = some i_, H1 = H) ∨ (H.roomO n = none ∧ H.inO 0 = some i_ ∧ H1 = H.seal.putB i_ ⟨1, 0, 0⟩) := by
    have hp := HHP.out
    unfold HotS.prep at hp
    cases hr : H.roomO n with
    | some j => rw [hr] at hp; simp at hp; exact .inl ⟨by rw [hp.2], hp.1.symm⟩
    | none =>
      rw [hr] at hp
      cases hi : H.inO 0 with
      | none => rw [hi] at hp; simp at hp
      | some j => rw [hi] at hp; simp at hp; exact .inr ⟨rfl, by rw [hp.2], by rw [← hp.1, hp.2]⟩
  have i0 : (0 : Int) ≤ (i_ : Int) := by omega
  have i1 : ¬ (i_ : Int) < 0 := by omega
  rcases hroom with ⟨hr, hH⟩ | ⟨hr, hi, hH⟩
  case' inl =>
    have hrm : ∀ W, Fr none_ w W → Calls Tryd.prog 49 #[ptr h, .int .i64 (n : Int)] W fun e w' => e = .returned (.int .i64 (i_ : Int)) ∧ Fr none_ W w' := fun W hW => by
      have := room_any (hh.fr0 hW).hot hok n
      rw [hr] at this
      exact this
    have HRM := Lib.hid hrm
    have HH := Lib.hid hH
    clear hrm hr hH
    go_enter Tryd.func25, Tryd.ntmps25
    go_wp2_with fail
    (with_reducible refine HSZ.out.mono ?_)
    rintro e w1 ⟨rfl, hF1⟩
    rw [← HZ.out]
    go_wp2_with fail
    (with_reducible refine (HRM.out _ (hF0.trans hF1)).mono ?_)
    rintro e wm ⟨rfl, hF2⟩
    have hF3 := (hF0.trans hF1).trans hF2
    have hM : PutM w wm h bx p m1 m2 H1 D := ⟨Fr.of0 hF3, by rw [HH.out]; exact hh.fr0 hF3, (hF1.trans hF2).heap0 hb0⟩
    clear hF1 hF2 hF3
  case' inr =>
    have hrm : ∀ W, Fr none_ w W → Calls Tryd.prog 49 #[ptr h, .int .i64 (n : Int)] W fun e w' => e = .returned (.int .i64 (-1)) ∧ Fr none_ W w' := fun W hW => by
      have := room_any (hh.fr0 hW).hot hok n
      rw [hr] at this
      exact this
    have hin : ∀ W, Fr none_ w W → Calls Tryd.prog 50 #[ptr h, .int .i64 0] W fun e w' => e = .returned (.int .i64 (i_ : Int)) ∧ Fr none_ W w' := fun W hW => by
      have := in_any (hh.fr0 hW).hot 0
      rw [hi] at this
      exact this
    have hsl : ∀ W, Fr none_ w W → Calls Tryd.prog 51 #[ptr h] W fun e w' => e = .returned (.tuple #[]) ∧ Fr (fun k => k = bx) W w' ∧ HotAt w' h bx p H.seal := fun W hW => seal_any (hh.fr0 hW).hot
    have HRM := Lib.hid hrm
    have HIN := Lib.hid hin
    have HSL := Lib.hid hsl
    have HH := Lib.hid hH
    have HI := Lib.hid hi
    clear hrm hr hH hin hsl hi
    go_enter Tryd.func25, Tryd.ntmps25
    go_wp2_with fail
    (with_reducible refine HSZ.out.mono ?_)
    rintro e w1 ⟨rfl, hF1⟩
    rw [← HZ.out]
    go_wp2_with fail
    (with_reducible refine (HRM.out _ (hF0.trans hF1)).mono ?_)
    rintro e w2 ⟨rfl, hF2⟩
    go_wp2_with fail
    (with_reducible refine (HIN.out _ ((hF0.trans hF1).trans hF2)).mono ?_)
    rintro e w3 ⟨rfl, hF3⟩
    have hF4 := ((hF0.trans hF1).trans hF2).trans hF3
    go_wp2_with fail
    (with_reducible refine (HSL.out _ hF4).mono ?_)
    rintro e w4 ⟨rfl, hF5, hs5⟩
    have hlt5 : i_ < H.seal.boxes.length := by rw [seal_len]; exact (inO_lt HI.out).1
    obtain ⟨d0, d1, d2, d3, d4⟩ := hs5.cellsAll
    obtain ⟨b0, b1, b2⟩ := box_cells hs5.bxs i_ hlt5
    have bf := fun o => frozen_of_blk hs5.bxs o
    have j1 : (i_ : Int) < (H.seal.boxes.length : Int) := by omega
    go_upto_region 12 with fail
    have hs6 := hs5.setBox3 i_ hlt5 ⟨1, 0, 0⟩
    have hF6 : Fr (fun k => k = bx) w4 (((w4.setCell ⟨bx, i_ * 3, none⟩ (.int .i64 1)).setCell ⟨bx, i_ * 3 + 1, none⟩ (.int .i64 0)).setCell ⟨bx, i_ * 3 + 2, none⟩ (.int .i64 0)) := ((Fr.set w4 bx _ _).trans (Fr.set _ bx _ _)).trans (Fr.set _ bx _ _)
    obtain ⟨wm, hwm⟩ : ∃ wm, wm = ((w4.setCell ⟨bx, i_ * 3, none⟩ (.int .i64 1)).setCell ⟨bx, i_ * 3 + 1, none⟩ (.int .i64 0)).setCell ⟨bx, i_ * 3 + 2, none⟩ (.int .i64 0) := ⟨_, rfl⟩
    have hs6 : HotAt wm h bx p H1 := by rw [HH.out, hwm]; exact hs6
    rw [← hwm] at hF6 ⊢
    have hF7 : Fr (fun k => k = bx) w wm := ((Fr.of0 hF4).trans hF5).trans hF6
    have hM : PutM w wm h bx p m1 m2 H1 D := ⟨hF7, hh.setHot hF7 hs6 HP.out.first HP.out.sectors HP.out.len, (hF5.trans hF6).heap (((hF1.trans hF2).trans hF3).heap0 hb0) (Ne.symm hnx)⟩
    clear hF1 hF2 hF3 hF4 hF5 hF6 hF7 hs5 hs6 hwm d0 d1 d2 d3 d4 b0 b1 b2 bf j1 hlt5
  all_goals
    clear c0 c1 c2 c3 c4
    obtain ⟨u, hu⟩ : ∃ u, u = (H1.bx i_).used := ⟨_, rfl⟩
    obtain ⟨v, hv⟩ : ∃ v, v = (H1.bx i_).live := ⟨_, rfl⟩
    have b1 := (box_cells hM.hd.hot.bxs i_ HP.out.lt).2.1
    rw [← bx_eq, ← hu] at b1
    have HU := Lib.hid hu
    have HV := Lib.hid hv
    clear hu hv
    obtain ⟨d0, d1, d2, d3, d4⟩ := hM.hd.hot.cellsAll
    have q1 : (i_ : Int) < (H1.boxes.length : Int) := by have := HP.out.lt; omega
    have q2 : i_ < H1.boxes.length := HP.out.lt
    go_wp2_with fail
    have hfit : u + l.length ≤ H1.sectors * 64 := by have := HP.out.fit; have := HU.out; have := HNL.out; omega
    have hbox := hM.hd.box i_ q2
    have hA1 := hA.fr hM.fr (fun b hb e => (hap b hb).1 e)
    have hwr := hwrite_any hM.hd hc i_ u q2 A n c l HNL.out (by have := HNL.out; omega) hfit hA1
    have hcm := hw_calm (i := i_) (fr := u) (l := l) hM.hd.dev.get_len hc hbox.1 hbox.2 hfit (by have := HNL.out; omega)
    obtain ⟨X, hX⟩ : ∃ X, X = hwrite D H1 i_ u l := ⟨_, rfl⟩
    have hXs : X.sectors = D.sectors := by rw [hX]; exact hw_sectors
    rw [← hX] at hwr hcm
    have HX := Lib.hid hX
    clear hX
    (with_reducible refine hwr.mono ?_)
    rintro e w5 ⟨rfl, hF5, hD5⟩
    rw [errV_0]
    have hd5 := hM.hd.setDev hF5 hD5 hcm.up hXs
    have hA5 := hA1.fr hF5 (fun b hb => (hap b hb).2)
    have hbd := hM.hd.bd
    have hnd : ¬ devBlks p m1 m2 w.heap.size := fun hd => by have := hh.dev.lt _ hd; omega
    have hr5 := hF5.heap hM.res hnd
    have hF6 : Fr (fun k => k = bx ∨ devBlks p m1 m2 k) w w5 := (hM.fr.mono (fun _ _ e => .inl e)).trans (hF5.mono (fun _ _ e => .inr e))
    have hv1 := (box_cells hd5.hot.bxs i_ q2).2.1
    have hv2 := (box_cells hd5.hot.bxs i_ q2).2.2
    rw [← bx_eq] at hv1 hv2
    rw [← HU.out] at hv1
    rw [← HV.out] at hv2
    have hsum : ∀ W, Fr none_ w5 W → Calls Tryd.prog 38 #[.slice A n c] W fun e w' => e = .returned (.int .u32 (sumF l : Nat)) ∧ W = w' := fun W hW => sum_any n A c l W HNL.out (by have := HNL.out; omega) (hA5.fr0 hW)
    have hst : ∀ W, Fr none_ w5 W → W.cell? ⟨bx, i_ * 3 + 1, none⟩ = some (.int .i64 (u : Int)) := fun W hW => hW.cell0 hv1
    have hs0 := hst _ ((Fr.refl none_ w5).drew)
    have hs1 := fun o => hst _ (((Fr.refl none_ w5).drew).alloc o)
    have HSUM := Lib.hid hsum
    have HST := Lib.hid hst
    have HD5 := Lib.hid hd5
    have HR5 := Lib.hid hr5
    clear hsum hst hd5 hr5 hv2 hwr hXs hcm hA5 hA1 hD5 hM d0 d1 d2 d3 d4 b1 hv1
    go_wp2_with fail
    go_region_held3 (fun W => W.cell? ⟨bx, i_ * 3 + 1, none⟩ = some (.int .i64 (u : Int))) (first | exact hs0 | exact hs1 _) (first
      | (go_at_call 38; (with_reducible refine (HSUM.out _ (by first | exact (Fr.refl none_ w5).drew | exact ((Fr.refl none_ w5).alloc _).drew)).mono ?_); rintro e y1 ⟨rfl, hy1⟩; subst hy1))
  all_goals
    obtain ⟨V, hV⟩ : ∃ V, V = (w5.alloc (.cells #[.int .i64 (i_ : Int), .int .i64 (u : Int), .int .i64 (n : Int), .int .u32 ((sumF l : Nat) : Int)] 87)).drew := ⟨_, rfl⟩
    rw [← hV]
    have hFV : Fr none_ w5 V := hV ▸ ((Fr.refl none_ w5).alloc _).drew
    have hlV : V.heap[w5.heap.size]? = some (.cells #[.int .i64 (i_ : Int), .int .i64 (u : Int), .int .i64 (n : Int), .int .u32 ((sumF l : Nat) : Int)] 87 (0, 0)) := by rw [hV]; exact heap_alloc_new _ _
    clear hV
    have hdV := HD5.out.fr0 hFV
    have hrV := hFV.heap0 HR5.out
    have hlt1 := blk_lt hlV
    have hnl : bx ≠ w5.heap.size := by have := blk_lt HD5.out.hot.bxs; omega
    have hnr : w.heap.size ≠ w5.heap.size := by have := blk_lt HR5.out; omega
    have hnr2 : w.heap.size ≠ bx := Ne.symm hnx
    obtain ⟨e0, e1, e2⟩ := box_cells hdV.hot.bxs i_ q2
    rw [← bx_eq q2] at e1 e2
    rw [← HU.out] at e1
    rw [← HV.out] at e2
    have ef := fun o => frozen_of_blk hdV.hot.bxs o
    obtain ⟨l0, l1, l2, l3⟩ := res_cell4 hlV
    obtain ⟨r0, r1, r2, r3⟩ := res_cell4 hrV
    have rf := fun o => frozen_of_blk hrV o
    have hub : u + n ≤ 65536 := by have := HP.out.fit; have := HU.out; have := HP.out.sectors; omega
    have hvb : v ≤ u := by have := HP.out.live; have := HU.out; have := HV.out; omega
    have hset := hdV.hot.setBox2 i_ q2 (u + n) (v + n)
    rw [Int.natCast_add, Int.natCast_add] at hset
    have HSET := Lib.hid hset
    have HDV := Lib.hid hdV
    have HRV := Lib.hid hrV
    clear hset hdV hrV hlV
    go_wp2_with fail
    have hF9 : Fr (fun k => k = bx) V ((V.setCell ⟨bx, i_ * 3 + 1, none⟩ (.int .i64 ((u : Int) + (n : Int)))).setCell ⟨bx, i_ * 3 + 2, none⟩ (.int .i64 ((v : Int) + (n : Int)))) := (Fr.set V bx _ _).trans (Fr.set _ bx _ _)
    have hr9 := hF9.heap HRV.out hnr2
    have hd9 := HDV.out.setHot hF9 HSET.out rfl rfl (putB_len _ _ _)
    have hS := st4_fr ((V.setCell ⟨bx, i_ * 3 + 1, none⟩ (.int .i64 ((u : Int) + (n : Int)))).setCell ⟨bx, i_ * 3 + 2, none⟩ (.int .i64 ((v : Int) + (n : Int)))) w.heap.size (.int .i64 (i_ : Int)) (.int .i64 (u : Int)) (.int .i64 (n : Int)) (.int .u32 ((sumF l : Nat) : Int))
    refine bodyPost_ret (res_put (b := w.heap.size) (st4_blk hr9 _ _ _ _) rfl rfl rfl rfl rfl rfl) rfl ⟨?_, ?_, ?_⟩
    · rw [← HU.out, errV_0]; rfl
    · exact (((hF6.trans (Fr.of0 hFV)).trans (hF9.mono (fun _ _ e => .inl e)))).own hS (Nat.le_refl _)
    · unfold HotS.after
      rw [← HU.out, ← HV.out, ← HX.out]
      exact ⟨hd9.hot.fr hS hnb hnx, hd9.dev.fr hS (fun i hi e => hnd (e ▸ hi)), hd9.hd, hd9.bd, hd9.up, hd9.fit⟩
end Go.Proofs.YtjfeibbghhjjeaaDoor
namespace Go.Proofs.YtjfeibbghhjjeaaDoor
open Go.RowKit
set_option linter.unusedVariables false
set_option linter.unusedSimpArgs false
set_option maxRecDepth 100000

/-! hot.Room -/
def roomStep (z s : Nat) (b : BoxS) : Nat := s + if b.state = 1 ∨ b.state = 0 then z - b.used else 0
def HotS.roomN (H : HotS) : Nat := H.boxes.foldl (roomStep (H.sectors * 64)) 0
theorem roomFold_le (z : Nat) : ∀ (l : List BoxS) (s : Nat), l.foldl (roomStep z) s ≤ s + l.length * z := by
  intro l
  induction l with
  | nil => intro s; simp
  | cons b l ih =>
    intro s
    rw [List.foldl_cons, List.length_cons]
    refine Nat.le_trans (ih _) ?_
    rw [Nat.add_mul, Nat.one_mul]
    unfold roomStep
    split <;> omega
set_option maxHeartbeats 4000000 in
theorem hroom_any {w : World} {h bx p : Nat} {H : HotS} (hh : HotAt w h bx p H) (hok : H.Ok) :
    Calls Tryd.prog 28 #[ptr h] w fun e w' => e = .returned (.int .i64 (H.roomN : Int)) ∧ Fr none_ w w' := by
  obtain ⟨c0, c1, c2, c3, c4⟩ := hh.cellsAll
  have hm := hh.most
  obtain ⟨z, hz⟩ : ∃ z, z = H.sectors * 64 := ⟨_, rfl⟩
  have hz2 : z ≤ 65536 := by omega
  have hsz : ∀ W, Calls Tryd.prog 17 #[confV H] W fun e w' => e = .returned (.int .i64 (z : Int)) ∧ Fr none_ W w' := fun W => by rw [hz]; exact size_any H hm.2 W
  have hR : H.roomN = H.boxes.foldl (roomStep z) 0 := by rw [hz]; rfl
  have hu : ∀ i (hi : i < H.boxes.length), H.boxes[i].used ≤ z := by rw [hz]; exact hok.used
  have HSZ := Lib.hid hsz
  have HR := Lib.hid hR
  have HU := Lib.hid hu
  clear hsz hR hz hok hu
  go_enter Tryd.func28, Tryd.ntmps28
  go_wp2_with fail
  go_loopw [3, 14] (fun n i wr => ∃ k s : Nat, k ≤ H.boxes.length ∧ i = .int .i64 (k : Int) ∧ n = .int .i64 (s : Int) ∧ s = (H.boxes.take k).foldl (roomStep z) 0 ∧ Fr none_ w wr) (fun _ i _ => H.boxes.length - (intOf i).toNat)
  case atStart => exact ⟨0, 0, by omega, rfl, rfl, rfl, Fr.refl _ _⟩
  case round =>
    obtain ⟨k, s, hk, rfl, rfl, hs, hF⟩ := hrel
    have hsb : s ≤ 1024 * 65536 := by
      rw [hs]
      refine Nat.le_trans (roomFold_le z _ 0) ?_
      rw [Nat.zero_add, List.length_take]
      exact Nat.mul_le_mul (by omega) hz2
    by_cases hlt : k < H.boxes.length
    · have hstep := foldl_take_succ (roomStep z) 0 H.boxes k hlt
      rw [← hs] at hstep
      obtain ⟨b0, b1, b2⟩ := box_cells (hF.heap0 hh.bxs) k hlt
      have hux := HU.out k hlt
      obtain ⟨x, hx⟩ : ∃ x, x = H.boxes[k] := ⟨_, rfl⟩
      rw [← hx] at b0 b1 b2 hstep hux
      obtain ⟨c0, c1, c2, c3, c4⟩ := (hh.fr0 hF).cellsAll
      have q1 : (k : Int) < (H.boxes.length : Int) := by omega
      have q2 : (0 : Int) ≤ (k : Int) := by omega
      obtain ⟨d, hd⟩ : ∃ d : Nat, z = x.used + d := ⟨z - x.used, by omega⟩
      obtain ⟨V, hV⟩ : ∃ V, V = wr.alloc (.cells #[.int .i64 x.state, .int .i64 (x.used : Int), .int .i64 (x.live : Int)] 70) := ⟨_, rfl⟩
      have hFV : Fr none_ wr V := hV ▸ (Fr.refl _ _).alloc _
      have hbV : V.heap[wr.heap.size]? = some (.cells #[.int .i64 x.state, .int .i64 (x.used : Int), .int .i64 (x.live : Int)] 70 (0, 0)) := hV ▸ heap_alloc_new _ _
      have hst : ∀ W, Fr none_ V W → (W.cell? ⟨h, 1, none⟩ = some (.int .i64 H.first) ∧ W.cell? ⟨h, 2, none⟩ = some (.int .i64 (H.boxes.length : Int)) ∧ W.cell? ⟨h, 3, none⟩ = some (.int .i64 (H.sectors : Int))) ∧ W.cell? ⟨wr.heap.size, 1, none⟩ = some (.int .i64 (x.used : Int)) := fun W hW => by
        obtain ⟨e0, e1, e2, e3, e4⟩ := (hh.fr0 ((hF.trans hFV).trans hW)).cellsAll
        exact ⟨⟨e1, e2, e3⟩, by rw [cell_of_blk (hW.heap0 hbV)]; rfl⟩
      have HST := Lib.hid hst
      have HS := Lib.hid hs
      have HSP := Lib.hid hstep
      have HD := Lib.hid hd
      have HV := Lib.hid hV
      have HX := Lib.hid hx
      by_cases hcase : x.state = 1 ∨ x.state = 0
      · have hstep2 : (H.boxes.take (k + 1)).foldl (roomStep z) 0 = s + d := by rw [hstep]; unfold roomStep; rw [if_pos hcase]; omega
        have HSP2 := Lib.hid hstep2
        have hwr : IntKind.i64.wrap ((z : Int) - (x.used : Int)) = (d : Int) := by rw [IntWalk.i64_in _ (by omega)]; omega
        have hwr2 : IntKind.i64.wrap ((s : Int) + (d : Int)) = ((s + d : Nat) : Int) := by rw [IntWalk.i64_in _ (by omega)]; omega
        have HWR := Lib.hid hwr
        have HWR2 := Lib.hid hwr2
        clear hstep hstep2 hs hst hd hV hx hwr hwr2
        rcases hcase with h1 | h1
        all_goals
          rw [h1] at b0
          go_upto_region 8 with fail
          have hVV := HV.out
          rw [h1] at hVV
          rw [← hVV]
          clear hVV
          have hs0 := HST.out _ ((Fr.refl none_ V).drew)
          have hwr := HWR.out
          have hwr2 := HWR2.out
          go_region_held3 (fun W => (W.cell? ⟨h, 1, none⟩ = some (.int .i64 H.first) ∧ W.cell? ⟨h, 2, none⟩ = some (.int .i64 (H.boxes.length : Int)) ∧ W.cell? ⟨h, 3, none⟩ = some (.int .i64 (H.sectors : Int))) ∧ W.cell? ⟨wr.heap.size, 1, none⟩ = some (.int .i64 (x.used : Int))) (first | exact hs0 | exact HST.out _ hY) (first
            | (go_at_call 17; (with_reducible refine (HSZ.out _).mono ?_); rintro e y1 ⟨rfl, hY1⟩; have hY := ((Fr.refl none_ V).drew).trans hY1))
          clear hwr hwr2
          go_wp2_with fail
          go_roundw
          case rel => exact ⟨k + 1, s + d, by omega, by go_num, rfl, HSP2.out.symm, (hF.trans hFV).trans hY⟩
          case measure => simp [intOf]; omega
      · have hstep2 : (H.boxes.take (k + 1)).foldl (roomStep z) 0 = s := by rw [hstep]; unfold roomStep; rw [if_neg hcase]; omega
        have HSP2 := Lib.hid hstep2
        have n1 : ¬ x.state = 1 := fun h => hcase (.inl h)
        have n2 : ¬ x.state = 0 := fun h => hcase (.inr h)
        have n3 : (x.state == 1) = false := by simpa using n1
        have n4 : (x.state == 0) = false := by simpa using n2
        clear hstep hstep2 hs hst hd hV hx hcase
        go_wp2_with fail
        go_roundw
        case rel => exact ⟨k + 1, s, by omega, by go_num, rfl, HSP2.out.symm, HV.out ▸ hF.trans hFV⟩
        case measure => simp [intOf]; omega
    · have hkk : k = H.boxes.length := by omega
      have hq : ¬ (k : Int) < (H.boxes.length : Int) := by omega
      have HS := Lib.hid hs
      clear hs
      go_wp2_with fail
      go_ret
      exact ⟨by rw [HR.out, HS.out, hkk, List.take_length]; rfl, hF⟩
end Go.Proofs.YtjfeibbghhjjeaaDoor

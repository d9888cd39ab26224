import Derived.Test.YtjfeibbghhjjeaaDoorWrN
import Derived.Test.YtjfeibbghhjjeaaDoorHorner
import Derived.Deep.RegionHeld3
import Derived.Laws.MakeOwn
namespace Go.Proofs.YtjfeibbghhjjeaaDoor
open Go.RowKit
set_option linter.unusedVariables false
set_option linter.unusedSimpArgs false
set_option maxRecDepth 100000

/-! hot: boxes in memory; in, sector, size. -/
structure BoxS where
  state : Int
  used : Nat
  live : Nat
abbrev boxV (b : BoxS) : Value := .agg #[.int .i64 b.state, .int .i64 (b.used : Int), .int .i64 (b.live : Int)]
def boxC (b : BoxS) : List Value := [.int .i64 b.state, .int .i64 (b.used : Int), .int .i64 (b.live : Int)]
structure HotS where
  first : Int
  sectors : Nat
  boxes : List BoxS
def HotS.cells (H : HotS) (p bx : Nat) : Array Value := #[ptr p, .int .i64 H.first, .int .i64 (H.boxes.length : Int), .int .i64 (H.sectors : Int), .slice (some ⟨bx, 0, none⟩) H.boxes.length H.boxes.length]
abbrev confV (H : HotS) : Value := .agg #[.int .i64 H.first, .int .i64 (H.boxes.length : Int), .int .i64 (H.sectors : Int)]
structure HotAt (w : World) (h bx p : Nat) (H : HotS) : Prop where
  blk : w.heap[h]? = some (.cells (H.cells p bx) 67 (0, 0))
  bxs : w.heap[bx]? = some (.cells (H.boxes.flatMap boxC).toArray 70 (0, 0))
  ne : h ≠ bx
  most : H.boxes.length ≤ 1024 ∧ H.sectors ≤ 1024
  firstIn : 0 ≤ H.first ∧ H.first ≤ 16384
theorem HotAt.fr {S : Nat → Prop} {w w' : World} {h bx p : Nat} {H : HotS} (hh : HotAt w h bx p H) (hf : Fr S w w') (h1 : ¬ S h) (h2 : ¬ S bx) : HotAt w' h bx p H :=
  ⟨hf.heap hh.blk h1, hf.heap hh.bxs h2, hh.ne, hh.most, hh.firstIn⟩
theorem HotAt.fr0 {w w' : World} {h bx p : Nat} {H : HotS} (hh : HotAt w h bx p H) (hf : Fr none_ w w') : HotAt w' h bx p H := hh.fr hf (fun h => h) (fun h => h)
theorem HotAt.cellsAll {w : World} {h bx p : Nat} {H : HotS} (hh : HotAt w h bx p H) :
    w.cell? ⟨h, 0, none⟩ = some (ptr p) ∧ w.cell? ⟨h, 1, none⟩ = some (.int .i64 H.first) ∧ w.cell? ⟨h, 2, none⟩ = some (.int .i64 (H.boxes.length : Int)) ∧ w.cell? ⟨h, 3, none⟩ = some (.int .i64 (H.sectors : Int)) ∧
    w.cell? ⟨h, 4, none⟩ = some (.slice (some ⟨bx, 0, none⟩) H.boxes.length H.boxes.length) := by
  refine ⟨?_, ?_, ?_, ?_, ?_⟩ <;> (rw [cell_of_blk hh.blk]; rfl)
theorem box_cells {w : World} {bx : Nat} {l : List BoxS} {T : TypeId} (hb : w.heap[bx]? = some (.cells (l.flatMap boxC).toArray T (0, 0))) (k : Nat) (hk : k < l.length) :
    w.cell? ⟨bx, k * 3, none⟩ = some (.int .i64 l[k].state) ∧ w.cell? ⟨bx, k * 3 + 1, none⟩ = some (.int .i64 (l[k].used : Int)) ∧ w.cell? ⟨bx, k * 3 + 2, none⟩ = some (.int .i64 (l[k].live : Int)) := by
  have hg := fun i hi => flatMap_get boxC 3 (fun _ => rfl) l k i hk hi
  refine ⟨?_, ?_, ?_⟩
  · rw [cell_of_blk hb]
    have := hg 0 (by omega)
    simpa [boxC] using this
  · rw [cell_of_blk hb]
    have := hg 1 (by omega)
    simpa [boxC] using this
  · rw [cell_of_blk hb]
    have := hg 2 (by omega)
    simpa [boxC] using this
theorem size_any (H : HotS) (hm : H.sectors ≤ 1024) (w : World) : Calls Tryd.prog 17 #[confV H] w fun e w' => e = .returned (.int .i64 ((H.sectors * 64 : Nat) : Int)) ∧ Fr none_ w w' := by
  go_enter Tryd.func17, Tryd.ntmps17
  go_wp2_with fail
  go_ret
  exact ⟨by rw [show ((H.sectors * 64 : Nat) : Int) = (H.sectors : Int) * 64 by omega]; rfl, (Fr.refl _ _).alloc _⟩
def sectorF (H : HotS) (i k : Nat) : Int := H.first + (i * H.sectors : Nat) + (k : Nat)
theorem sector_any {w : World} {h bx p : Nat} {H : HotS} (hh : HotAt w h bx p H) (i k : Nat) (hi : i < 1024) (hk : k ≤ 1024) : Calls Tryd.prog 72 #[ptr h, .int .i64 (i : Int), .int .i64 (k : Int)] w fun e w' => e = .returned (.int .i64 (sectorF H i k)) ∧ Fr none_ w w' := by
  obtain ⟨c0, c1, c2, c3, c4⟩ := hh.cellsAll
  have hf := hh.firstIn
  have hm : i * H.sectors ≤ 1024 * 1024 := Nat.mul_le_mul (by omega) hh.most.2
  have hw : IntKind.i64.wrap (IntKind.i64.wrap (H.first + IntKind.i64.wrap ((i : Int) * (H.sectors : Int))) + (k : Int)) = sectorF H i k := by
    have e : (i : Int) * (H.sectors : Int) = ((i * H.sectors : Nat) : Int) := by simp
    rw [e, IntWalk.i64_in ((i * H.sectors : Nat) : Int) (by omega), IntWalk.i64_in (H.first + _) (by omega), IntWalk.i64_in _ (by omega)]
    rfl
  have HW := Lib.hid hw
  have d1 : w.drew.cell? ⟨h, 1, none⟩ = some (.int .i64 H.first) := c1
  have d3 : w.drew.cell? ⟨h, 3, none⟩ = some (.int .i64 (H.sectors : Int)) := c3
  clear hw hm hf
  go_enter Tryd.func72, Tryd.ntmps72
  go_wp2_with fail
  go_still (by kernel_rfl)
  go_wp2_with fail
  go_ret
  exact ⟨by rw [← HW.out]; rfl, (Fr.refl _ _).drew⟩
/-- the closure of in -/
theorem in1_any (st u l s : Int) (B : Nat) (w : World) (hB : w.cell? ⟨B, 0, none⟩ = some (.int .i64 s)) : Calls Tryd.prog 70 #[.agg #[.int .i64 st, .int .i64 u, .int .i64 l], ptr B] w fun e w' => e = .returned (.bool (decide (st = s))) ∧ Fr none_ w w' := by
  have hB1 := ((Fr.refl none_ w).alloc (.cells #[.int .i64 st, .int .i64 u, .int .i64 l] 70)).cell0 hB
  go_enter Tryd.func70, Tryd.ntmps70
  go_wp2_with fail
  go_ret
  exact ⟨by simp; rfl, (Fr.refl _ _).alloc _⟩
def optI : Option Nat → Int
  | some i => (i : Int)
  | none => -1
def HotS.inO (H : HotS) (s : Int) : Option Nat := H.boxes.findIdx? (fun b => b.state == s)
set_option maxHeartbeats 1000000 in
theorem idx_any {w : World} {h bx p : Nat} {H : HotS} (hh : HotAt w h bx p H) (s : Int) (B : Nat) (hB : w.cell? ⟨B, 0, none⟩ = some (.int .i64 s)) :
    Calls Tryd.prog 69 #[.slice (some ⟨bx, 0, none⟩) H.boxes.length H.boxes.length, .func (.func 70) #[] #[ptr B]] w fun e w' => e = .returned (.int .i64 (optI (H.inO s))) ∧ Fr none_ w w' := by
  have hbl := hh.most.1
  go_enter Tryd.func69, Tryd.ntmps69
  go_wp2_with fail
  go_loopw [8] (fun i wr => ∃ k : Nat, k ≤ H.boxes.length ∧ i = .int .i64 k ∧ Fr none_ w wr ∧ ∀ j (hj : j < H.boxes.length), j < k → H.boxes[j].state ≠ s) (fun i _ => H.boxes.length - (intOf i).toNat)
  case atStart => exact ⟨0, by omega, rfl, Fr.refl _ _, fun j _ hj => absurd hj (by omega)⟩
  case round =>
    obtain ⟨k, hk, rfl, hF, hno⟩ := hrel
    by_cases hlt : k < H.boxes.length
    · obtain ⟨b0, b1, b2⟩ := box_cells (hF.heap0 hh.bxs) k hlt
      have hB2 := hF.cell0 hB
      obtain ⟨x, hx⟩ : ∃ x, x = H.boxes[k] := ⟨_, rfl⟩
      rw [← hx] at b0 b1 b2
      have hkb : (k : Int) < (H.boxes.length : Int) := by omega
      have HNO := Lib.hid hno
      have HX := Lib.hid hx
      clear hno hx
      go_wp2_with fail
      (with_reducible refine (in1_any x.state _ _ s B _ hB2).mono ?_)
      rintro e w1 ⟨rfl, hF1⟩
      by_cases he : x.state = s
      · have hres : H.inO s = some k := by
          unfold HotS.inO
          rw [List.findIdx?_eq_some_iff_getElem]
          refine ⟨hlt, by rw [← HX.out, he]; simp, fun j hj => ?_⟩
          have := HNO.out j (by omega) hj
          simpa using this
        rw [decide_eq_true he]
        have HR := Lib.hid hres
        clear he hres
        go_wp2_with fail
        go_ret
        exact ⟨by rw [HR.out]; rfl, hF.trans hF1⟩
      · rw [decide_eq_false he]
        go_wp2_with fail
        go_roundw
        case rel =>
          refine ⟨k + 1, by omega, by go_num, hF.trans hF1, fun j hj hjk => ?_⟩
          by_cases hjk2 : j < k
          · exact HNO.out j hj hjk2
          · have : j = k := by omega
            subst this
            rw [← HX.out]
            exact he
        case measure => simp [intOf]; omega
    · have hkk : k = H.boxes.length := by omega
      have hres : H.inO s = none := by
        unfold HotS.inO
        rw [List.findIdx?_eq_none_iff]
        intro b hb
        obtain ⟨j, hj, rfl⟩ := List.getElem_of_mem hb
        have := hno j hj (by omega)
        simpa using this
      have hkb : ¬ (k : Int) < (H.boxes.length : Int) := by omega
      have HR := Lib.hid hres
      clear hres hno
      go_wp2_with fail
      go_ret
      exact ⟨by rw [HR.out]; rfl, hF⟩
/-- the first box in a state -/
theorem in_any {w : World} {h bx p : Nat} {H : HotS} (hh : HotAt w h bx p H) (s : Int) : Calls Tryd.prog 50 #[ptr h, .int .i64 s] w fun e w' => e = .returned (.int .i64 (optI (H.inO s))) ∧ Fr none_ w w' := by
  have hF := (Fr.refl none_ w).alloc (.cells #[.int .i64 s] 3)
  have hh2 := hh.fr0 hF
  have hB : (w.alloc (.cells #[.int .i64 s] 3)).cell? ⟨w.heap.size, 0, none⟩ = some (.int .i64 s) := by rw [cell_of_blk (heap_alloc_new _ _)]; rfl
  have hidx := idx_any hh2 s w.heap.size hB
  obtain ⟨c0, c1, c2, c3, c4⟩ := hh2.cellsAll
  have HI := Lib.hid hidx
  clear hidx hh2
  go_enter Tryd.func50, Tryd.ntmps50
  go_wp2_with fail
  (with_reducible refine HI.out.mono ?_)
  rintro e w1 ⟨rfl, hF1⟩
  go_wp2_with fail
  go_ret
  exact ⟨rfl, hF.trans hF1⟩
end Go.Proofs.YtjfeibbghhjjeaaDoor
namespace Go.Proofs.YtjfeibbghhjjeaaDoor
open Go.RowKit
set_option linter.unusedVariables false
set_option linter.unusedSimpArgs false
set_option maxRecDepth 100000

/-! hot.New, Seal, Stat. -/
theorem newin_any (n : Nat) (hn : 1 ≤ n ∧ n ≤ 1024) (w : World) : Calls Tryd.prog 35 #[.int .i64 (n : Int)] w fun e w' => e = .returned (.bool true) ∧ w = w' := by
  have n1 : (1 : Int) ≤ (n : Int) := by omega
  have n2 : (n : Int) ≤ 1024 := by omega
  have n3 : 1 ≤ n := hn.1
  have n4 : n ≤ 1024 := hn.2
  go_enter Tryd.func35, Tryd.ntmps35
  go_wp2_with fail
  go_ret
  exact ⟨rfl, rfl⟩
theorem info_box : (Tryd.prog.info? 70).map (fun i => (i.zero, i.size)) = some (some (.agg #[.int .i64 0, .int .i64 0, .int .i64 0]), 3) := by kernel_rfl
theorem info_box3 : (Tryd.prog.info? 70).map (fun i => (i.zero, i.size, i.bytes)) = some (some (.agg #[.int .i64 0, .int .i64 0, .int .i64 0]), 3, 24) := by kernel_rfl
def freeB : BoxS := ⟨0, 0, 0⟩
def Made (n : Nat) : Prop := madeCells #[Value.int .i64 0, .int .i64 0, .int .i64 0] (n * 3) = ((List.replicate n freeB).flatMap boxC).toArray
theorem made2 : Made 2 := by unfold Made; kernel_rfl
theorem made5 : Made 5 := by unfold Made; kernel_rfl
theorem mk_boxes (n : Nat) (hn : n ≤ 1024) (hm : Made n) (w : World) : (Instr.makeSlice 65 (.int .i64 (n : Int)) (.int .i64 (n : Int))).run Tryd.prog w = .ok (.slice (some ⟨w.heap.size, 0, none⟩) n n) (w.alloc (.cells ((List.replicate n freeB).flatMap boxC).toArray 70)) := by
  obtain ⟨i, hi, hzz⟩ := Option.map_eq_some_iff.1 info_box3
  simp only [Prod.mk.injEq] at hzz
  obtain ⟨hz, hs, hb⟩ := hzz
  have h := run_make (P := Tryd.prog) w 65 70 i _ Tryd.underlying65 hi hz .i64 .i64 (n : Int) (n : Int) (by omega) (by omega) (by rw [hb]; omega) (by omega)
  rw [Int.toNat_natCast, hs] at h
  rw [← hm]
  exact h
structure HotNew (w : World) (p : Nat) (H : HotS) (e : Ending) (w' : World) : Prop where
  ret : ∃ h bx, e = .returned (.tuple #[ptr h, errV 0]) ∧ HotAt w' h bx p H ∧ w.heap.size ≤ h ∧ w.heap.size ≤ bx
  fr : Fr none_ w w'
def newH (f : Int) (n s : Nat) : HotS := ⟨f, s, List.replicate n freeB⟩
set_option maxHeartbeats 2000000 in
theorem hnew_any {w : World} {p m1 m2 : Nat} {D : DevS} (hd : DevAt w p m1 m2 D) (f : Int) (n s : Nat) (hf : 0 ≤ f) (hn : 1 ≤ n ∧ n ≤ 1024) (hs : 1 ≤ s ∧ s ≤ 1024) (hfit : f + (n * s : Nat) ≤ D.sectors) (hm : Made n) :
    Calls Tryd.prog 13 #[ptr p, .agg #[.int .i64 f, .int .i64 (n : Int), .int .i64 (s : Int)]] w fun e w' => HotNew w p (newH f n s) e w' := by
  have hD := hd.most
  have n1 : ¬ f < 0 := by omega
  have hns : (n : Int) * (s : Int) = ((n * s : Nat) : Int) := by simp
  have n2 : ¬ wrap64 (D.sectors - wrap64 ((n : Int) * (s : Int))) < f := by rw [hns, IntWalk.wrap64_in ((n * s : Nat) : Int) (by omega), IntWalk.wrap64_in _ (by omega)]; omega
  have hF0 : Fr none_ w (w.alloc (.cells #[.int .i64 f, .int .i64 (n : Int), .int .i64 (s : Int)] 39)) := (Fr.refl _ _).alloc _
  have hb0 := heap_alloc_new w (.cells #[.int .i64 f, .int .i64 (n : Int), .int .i64 (s : Int)] 39)
  have hd1 := hd.fr0 hF0
  obtain ⟨W, hW⟩ : ∃ W, W = w.alloc (.cells #[.int .i64 f, .int .i64 (n : Int), .int .i64 (s : Int)] 39) := ⟨_, rfl⟩
  have kmk := mk_boxes n hn.2 hm
  have HMK := Lib.hid kmk
  have HN2 := Lib.hid n2
  have hlen : (newH f n s).boxes.length = n := by simp [newH]
  have HL := Lib.hid hlen
  clear hns n2 kmk hD hlen
  go_enter Tryd.func13, Tryd.ntmps13
  go_wp2_with fail
  rw [← hW] at hF0 hb0 hd1 ⊢
  clear hW
  have c0 : W.drew.cell? ⟨w.heap.size, 0, none⟩ = some (.int .i64 f) := by show W.cell? _ = _; rw [cell_of_blk hb0]; rfl
  have c1 : W.drew.cell? ⟨w.heap.size, 1, none⟩ = some (.int .i64 (n : Int)) := by show W.cell? _ = _; rw [cell_of_blk hb0]; rfl
  have c2 : W.drew.cell? ⟨w.heap.size, 2, none⟩ = some (.int .i64 (s : Int)) := by show W.cell? _ = _; rw [cell_of_blk hb0]; rfl
  have hd2 : DevAt W.drew p m1 m2 D := hd1.fr0 (Fr.refl none_ W).drew
  have hs0 := And.intro c0 (And.intro c1 c2)
  have n1 : ¬ f < 0 := by omega
  have n2 : ¬ wrap64 (D.sectors - wrap64 ((n : Int) * (s : Int))) < f := by have := HN2.out; omega
  have hns : (n : Int) * (s : Int) = ((n * s : Nat) : Int) := by simp
  have hD := hd.most
  have n3 : ¬ IntKind.i64.wrap (D.sectors - IntKind.i64.wrap ((n : Int) * (s : Int))) < f := by rw [hns, IntWalk.i64_in ((n * s : Nat) : Int) (by omega), IntWalk.i64_in _ (by omega)]; omega
  clear hns hD
  go_region_held3 (fun w' => (w'.cell? ⟨w.heap.size, 0, none⟩ = some (.int .i64 f) ∧ w'.cell? ⟨w.heap.size, 1, none⟩ = some (.int .i64 (n : Int)) ∧ w'.cell? ⟨w.heap.size, 2, none⟩ = some (.int .i64 (s : Int)))) (exact hs0) (first
    | (go_at_call 35; (with_reducible refine (newin_any n hn _).mono ?_); rintro e x1 ⟨rfl, hx1⟩; subst hx1)
    | (go_at_call 35; (with_reducible refine (newin_any s hs _).mono ?_); rintro e x1 ⟨rfl, hx1⟩; subst hx1)
    | (go_at_call 36; (with_reducible refine (sectors_any hd2).mono ?_); rintro e x2 ⟨rfl, hx2⟩; subst hx2))
  go_wp2_with fail
  have hst : ∀ wx, Fr none_ W wx → (wx.cell? ⟨w.heap.size, 0, none⟩ = some (.int .i64 f) ∧ wx.cell? ⟨w.heap.size, 1, none⟩ = some (.int .i64 (n : Int)) ∧ wx.cell? ⟨w.heap.size, 2, none⟩ = some (.int .i64 (s : Int))) := fun wx hX => by
    have := hX.heap0 hb0
    exact ⟨by rw [cell_of_blk this]; rfl, by rw [cell_of_blk this]; rfl, by rw [cell_of_blk this]; rfl⟩
  have kmk := HMK.out
  obtain ⟨V, hV, hFV⟩ : ∃ V, V = W.drew ∧ Fr none_ W V := ⟨_, rfl, (Fr.refl none_ W).drew⟩
  rw [← hV]
  clear hV c0 c1 c2 hs0 n3 n2 n1 hd2
  have hs1 := hst _ hFV.drew
  have hFB := hFV.drew.alloc (.cells ((List.replicate n freeB).flatMap boxC).toArray 70)
  have hb1 := heap_alloc_new V.drew (.cells ((List.replicate n freeB).flatMap boxC).toArray 70)
  have hs2 := hst _ hFB
  have hF9 := hFB.alloc (.cells ((newH f n s).cells p V.heap.size) 67)
  have hs3 := hst _ hF9
  go_region_held3 (fun w' => (w'.cell? ⟨w.heap.size, 0, none⟩ = some (.int .i64 f) ∧ w'.cell? ⟨w.heap.size, 1, none⟩ = some (.int .i64 (n : Int)) ∧ w'.cell? ⟨w.heap.size, 2, none⟩ = some (.int .i64 (s : Int)))) (first | exact hs1 | exact hs2 | exact hst _ (hFB.alloc _)) (fail)
  go_wp2_with fail
  go_ret2
  have hcl : (newH f n s).cells p V.heap.size = #[ptr p, .int .i64 f, .int .i64 (n : Int), .int .i64 (s : Int), .slice (some ⟨V.heap.size, 0, none⟩) n n] := by unfold HotS.cells; rw [HL.out]; rfl
  have hfw := hd.most
  have hlt : n * s ≤ 16384 := by omega
  refine ⟨⟨V.heap.size + 1, V.heap.size, rfl, ⟨?_, ?_, by omega, ⟨by rw [HL.out]; exact hn.2, hs.2⟩, hf, ?_⟩, ?_, ?_⟩, ?_⟩
  · rw [hcl]
    exact heap_alloc_at (w := V.alloc (.cells ((List.replicate n freeB).flatMap boxC).toArray 70)) (by simp) _
  · exact heap_alloc_old (heap_alloc_new V (.cells ((List.replicate n freeB).flatMap boxC).toArray 70)) _
  · show f ≤ 16384
    omega
  · have := hF0.size; have := hFV.size; omega
  · have := hF0.size; have := hFV.size; omega
  · exact (((hF0.trans hFV).alloc _).alloc _).drew
end Go.Proofs.YtjfeibbghhjjeaaDoor
namespace Go.Proofs.YtjfeibbghhjjeaaDoor
open Go.RowKit
set_option linter.unusedVariables false
set_option linter.unusedSimpArgs false
set_option maxRecDepth 100000

/-! hot.Seal, Stat, room. -/
theorem flat_set : ∀ (l : List BoxS) (i : Nat) (hi : i < l.length) (j : Nat) (hj : j < 3) (v : Value) (b' : BoxS), (boxC l[i]).set j v = boxC b' → (l.flatMap boxC).set (i * 3 + j) v = (l.set i b').flatMap boxC
  | b :: r, 0, hi, j, hj, v, b', h => by
    rw [List.flatMap_cons, List.set_cons_zero, List.flatMap_cons, List.set_append_left _ _ (by simp [boxC]; omega), ← h]
    simp
  | b :: r, i + 1, hi, j, hj, v, b', h => by
    rw [List.flatMap_cons, List.set_cons_succ, List.flatMap_cons, List.set_append_right _ _ (by simp [boxC]; omega)]
    congr 1
    have := flat_set r i (by simpa using hi) j hj v b' (by simpa using h)
    rw [← this]
    congr 1
    simp [boxC]
    omega
def HotS.putB (H : HotS) (i : Nat) (b : BoxS) : HotS := { H with boxes := H.boxes.set i b }
theorem HotAt.setBox {w : World} {h bx p : Nat} {H : HotS} (hh : HotAt w h bx p H) (i : Nat) (hi : i < H.boxes.length) (j : Nat) (hj : j < 3) (v : Value) (b' : BoxS) (hb : (boxC H.boxes[i]).set j v = boxC b') : HotAt (w.setCell ⟨bx, i * 3 + j, none⟩ v) h bx p (H.putB i b') := by
  refine ⟨?_, ?_, hh.ne, by simpa [HotS.putB] using hh.most, hh.firstIn⟩
  · rw [show (H.putB i b').cells p bx = H.cells p bx by simp [HotS.cells, HotS.putB]]
    exact (Fr.set w bx (i * 3 + j) v).heap hh.blk hh.ne
  · rw [heap_setCell_same hh.bxs, List.setIfInBounds_toArray, flat_set _ i hi j hj v b' hb]
    rfl
def HotS.seal (H : HotS) : HotS := match H.inO 1 with
  | some i => H.putB i { (H.boxes.getD i freeB) with state := 2 }
  | none => H
theorem inO_lt {H : HotS} {s : Int} {i : Nat} (h : H.inO s = some i) : ∃ hi : i < H.boxes.length, H.boxes[i].state = s := by
  unfold HotS.inO at h
  rw [List.findIdx?_eq_some_iff_getElem] at h
  obtain ⟨hi, h1, _⟩ := h
  exact ⟨hi, by simpa using h1⟩
theorem seal_any {w : World} {h bx p : Nat} {H : HotS} (hh : HotAt w h bx p H) : Calls Tryd.prog 51 #[ptr h] w fun e w' => e = .returned (.tuple #[]) ∧ Fr (fun k => k = bx) w w' ∧ HotAt w' h bx p H.seal := by
  have hin := in_any hh 1
  have HI := Lib.hid hin
  clear hin
  cases hi : H.inO 1 with
  | none =>
    have hs : H.seal = H := by unfold HotS.seal; rw [hi]
    have HS := Lib.hid hs
    have HII := Lib.hid hi
    clear hs hi
    go_enter Tryd.func51, Tryd.ntmps51
    go_wp2_with fail
    (with_reducible refine HI.out.mono ?_)
    rintro e w1 ⟨rfl, hF1⟩
    rw [HII.out, show optI none = -1 from rfl]
    go_wp2_with fail
    go_end0
    rw [HS.out]
    exact ⟨rfl, Fr.of0 hF1, hh.fr0 hF1⟩
  | some i =>
    obtain ⟨hil, hst⟩ := inO_lt hi
    have hs : H.seal = H.putB i { H.boxes[i] with state := 2 } := by unfold HotS.seal; rw [hi]; simp [List.getD_eq_getElem?_getD, hil]
    have HS := Lib.hid hs
    have HII := Lib.hid hi
    have hn0 : (0 : Int) ≤ (i : Int) := by omega
    have hn1 : (i : Int) < (H.boxes.length : Int) := by omega
    clear hs hi hst
    go_enter Tryd.func51, Tryd.ntmps51
    go_wp2_with fail
    (with_reducible refine HI.out.mono ?_)
    rintro e w1 ⟨rfl, hF1⟩
    rw [HII.out, show optI (some i) = (i : Int) from rfl]
    have hh1 := hh.fr0 hF1
    obtain ⟨c0, c1, c2, c3, c4⟩ := hh1.cellsAll
    obtain ⟨b0, b1, b2⟩ := box_cells hh1.bxs i hil
    have hfz := fun o => frozen_of_blk hh1.bxs o
    have hset := hh1.setBox i hil 0 (by omega) (.int .i64 2) { H.boxes[i] with state := 2 } rfl
    have HSET := Lib.hid hset
    clear hset
    go_wp2_with fail
    go_end0
    rw [HS.out]
    exact ⟨rfl, (Fr.of0 hF1).trans (Fr.set w1 bx (i * 3) _), HSET.out⟩
theorem stat_any {w : World} {h bx p : Nat} {H : HotS} (hh : HotAt w h bx p H) (i : Nat) (hi : i < H.boxes.length) : Calls Tryd.prog 27 #[ptr h, .int .i64 (i : Int)] w fun e w' => e = .returned (.tuple #[.int .i64 H.boxes[i].state, .int .i64 (H.boxes[i].used : Int), .int .i64 (H.boxes[i].live : Int), errV 0]) ∧ Fr none_ w w' := by
  obtain ⟨c0, c1, c2, c3, c4⟩ := hh.cellsAll
  obtain ⟨b0, b1, b2⟩ := box_cells hh.bxs i hi
  obtain ⟨x, hx⟩ : ∃ x, x = H.boxes[i] := ⟨_, rfl⟩
  rw [← hx] at b0 b1 b2 ⊢
  clear hx
  have hn0 : ¬ (i : Int) < 0 := by omega
  have hn2 : ¬ (H.boxes.length : Int) ≤ (i : Int) := by omega
  have hn3 : ¬ H.boxes.length ≤ i := by omega
  have hn1 : (i : Int) < (H.boxes.length : Int) := by omega
  have hn4 : (0 : Int) ≤ (i : Int) := by omega
  have ha := heap_alloc_new w (.cells #[.int .i64 x.state, .int .i64 (x.used : Int), .int .i64 (x.live : Int)] 70)
  obtain ⟨V, hV, hF, hb⟩ : ∃ V, V = w.alloc (.cells #[.int .i64 x.state, .int .i64 (x.used : Int), .int .i64 (x.live : Int)] 70) ∧ Fr none_ w V ∧ V.heap[w.heap.size]? = some (.cells #[.int .i64 x.state, .int .i64 (x.used : Int), .int .i64 (x.live : Int)] 70 (0, 0)) := ⟨_, rfl, (Fr.refl _ _).alloc _, ha⟩
  clear ha
  go_enter Tryd.func27, Tryd.ntmps27
  go_wp2_with fail
  rw [← hV]
  clear hV
  have d0 : V.drew.cell? ⟨w.heap.size, 0, none⟩ = some (.int .i64 x.state) := by show V.cell? _ = _; rw [cell_of_blk hb]; rfl
  have d1 : V.drew.cell? ⟨w.heap.size, 1, none⟩ = some (.int .i64 (x.used : Int)) := by show V.cell? _ = _; rw [cell_of_blk hb]; rfl
  have d2 : V.drew.cell? ⟨w.heap.size, 2, none⟩ = some (.int .i64 (x.live : Int)) := by show V.cell? _ = _; rw [cell_of_blk hb]; rfl
  go_still (by kernel_rfl)
  go_wp2_with fail
  exact bodyPost_ret (v := .tuple #[.int .i64 x.state, .int .i64 (x.used : Int), .int .i64 (x.live : Int), errV 0]) (by simp [results, Tryd.results27, go_sem]; rfl) rfl ⟨rfl, hF.drew⟩
/-- a box that there is, and that is not free -/
theorem hbox_any {w : World} {h bx p : Nat} {H : HotS} (hh : HotAt w h bx p H) (i : Nat) (hi : i < H.boxes.length) (hs : H.boxes[i].state ≠ 0) : Calls Tryd.prog 55 #[ptr h, .int .i64 (i : Int)] w fun e w' => e = .returned (.tuple #[.pointer (some ⟨bx, i * 3, none⟩), errV 0]) ∧ w = w' := by
  obtain ⟨c0, c1, c2, c3, c4⟩ := hh.cellsAll
  obtain ⟨b0, b1, b2⟩ := box_cells hh.bxs i hi
  obtain ⟨x, hx⟩ : ∃ x, x = H.boxes[i] := ⟨_, rfl⟩
  rw [← hx] at b0 b1 b2 hs
  clear hx
  have hn0 : ¬ (i : Int) < 0 := by omega
  have hn2 : ¬ (H.boxes.length : Int) ≤ (i : Int) := by omega
  have hn3 : ¬ H.boxes.length ≤ i := by omega
  have hn1 : (i : Int) < (H.boxes.length : Int) := by omega
  have hn4 : (0 : Int) ≤ (i : Int) := by omega
  go_enter Tryd.func55, Tryd.ntmps55
  go_wp2_with fail
  go_ret2
  exact ⟨rfl, rfl⟩
end Go.Proofs.YtjfeibbghhjjeaaDoor

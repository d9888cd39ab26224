import Derived.Test.YtdlhndbgmldeaaaWrN
import Derived.Test.YtdlhndbgmldeaaaHorner
import Derived.Deep.RegionHeld3
namespace Go.Proofs.Ytdlhndbgmldeaaa
open Go.RowKit
set_option linter.unusedVariables false
set_option linter.unusedSimpArgs false
set_option maxRecDepth 100000

/-! hot: boxes in memory; in, sector, size. -/
structure BoxS where
  state : Int
  used : Nat
  live : Nat
abbrev boxV (b : BoxS) : Value := .agg #[.int .i64 b.state, .int .i64 (b.used : Int), .int .i64 (b.live : Int)]
def boxC (b : BoxS) : List Value := [.int .i64 b.state, .int .i64 (b.used : Int), .int .i64 (b.live : Int)]
structure HotS where
  first : Int
  sectors : Nat
  boxes : List BoxS
def HotS.cells (H : HotS) (p bx : Nat) : Array Value := #[ptr p, .int .i64 H.first, .int .i64 (H.boxes.length : Int), .int .i64 (H.sectors : Int), .slice (some ⟨bx, 0, none⟩) H.boxes.length H.boxes.length]
abbrev confV (H : HotS) : Value := .agg #[.int .i64 H.first, .int .i64 (H.boxes.length : Int), .int .i64 (H.sectors : Int)]
structure HotAt (w : World) (h bx p : Nat) (H : HotS) : Prop where
  blk : w.heap[h]? = some (.cells (H.cells p bx) 65 (0, 0))
  bxs : w.heap[bx]? = some (.cells (H.boxes.flatMap boxC).toArray 70 (0, 0))
  ne : h ≠ bx
  most : H.boxes.length ≤ 1024 ∧ H.sectors ≤ 1024
  firstIn : 0 ≤ H.first ∧ H.first ≤ 16384
theorem HotAt.fr {S : Nat → Prop} {w w' : World} {h bx p : Nat} {H : HotS} (hh : HotAt w h bx p H) (hf : Fr S w w') (h1 : ¬ S h) (h2 : ¬ S bx) : HotAt w' h bx p H :=
  ⟨hf.heap hh.blk h1, hf.heap hh.bxs h2, hh.ne, hh.most, hh.firstIn⟩
theorem HotAt.fr0 {w w' : World} {h bx p : Nat} {H : HotS} (hh : HotAt w h bx p H) (hf : Fr none_ w w') : HotAt w' h bx p H := hh.fr hf (fun h => h) (fun h => h)
theorem HotAt.cellsAll {w : World} {h bx p : Nat} {H : HotS} (hh : HotAt w h bx p H) :
    w.cell? ⟨h, 0, none⟩ = some (ptr p) ∧ w.cell? ⟨h, 1, none⟩ = some (.int .i64 H.first) ∧ w.cell? ⟨h, 2, none⟩ = some (.int .i64 (H.boxes.length : Int)) ∧ w.cell? ⟨h, 3, none⟩ = some (.int .i64 (H.sectors : Int)) ∧
    w.cell? ⟨h, 4, none⟩ = some (.slice (some ⟨bx, 0, none⟩) H.boxes.length H.boxes.length) := by
  refine ⟨?_, ?_, ?_, ?_, ?_⟩ <;> (rw [cell_of_blk hh.blk]; rfl)
theorem box_cells {w : World} {bx : Nat} {l : List BoxS} {T : TypeId} (hb : w.heap[bx]? = some (.cells (l.flatMap boxC).toArray T (0, 0))) (k : Nat) (hk : k < l.length) :
    w.cell? ⟨bx, k * 3, none⟩ = some (.int .i64 l[k].state) ∧ w.cell? ⟨bx, k * 3 + 1, none⟩ = some (.int .i64 (l[k].used : Int)) ∧ w.cell? ⟨bx, k * 3 + 2, none⟩ = some (.int .i64 (l[k].live : Int)) := by
  have hg := fun i hi => flatMap_get boxC 3 (fun _ => rfl) l k i hk hi
  refine ⟨?_, ?_, ?_⟩
  · rw [cell_of_blk hb]
    have := hg 0 (by omega)
    simpa [boxC] using this
  · rw [cell_of_blk hb]
    have := hg 1 (by omega)
    simpa [boxC] using this
  · rw [cell_of_blk hb]
    have := hg 2 (by omega)
    simpa [boxC] using this
theorem size_any (H : HotS) (hm : H.sectors ≤ 1024) (w : World) : Calls Try.prog 26 #[confV H] w fun e w' => e = .returned (.int .i64 ((H.sectors * 64 : Nat) : Int)) ∧ Fr none_ w w' := by
  go_enter Try.func26, Try.ntmps26
  go_wp2_with fail
  go_ret
  exact ⟨by rw [show ((H.sectors * 64 : Nat) : Int) = (H.sectors : Int) * 64 by omega]; rfl, (Fr.refl _ _).alloc _⟩
def sectorF (H : HotS) (i k : Nat) : Int := H.first + (i * H.sectors : Nat) + (k : Nat)
theorem sector_any {w : World} {h bx p : Nat} {H : HotS} (hh : HotAt w h bx p H) (i k : Nat) (hi : i < 1024) (hk : k ≤ 1024) : Calls Try.prog 48 #[ptr h, .int .i64 (i : Int), .int .i64 (k : Int)] w fun e w' => e = .returned (.int .i64 (sectorF H i k)) ∧ Fr none_ w w' := by
  obtain ⟨c0, c1, c2, c3, c4⟩ := hh.cellsAll
  have hf := hh.firstIn
  have hm : i * H.sectors ≤ 1024 * 1024 := Nat.mul_le_mul (by omega) hh.most.2
  have hw : IntKind.i64.wrap (IntKind.i64.wrap (H.first + IntKind.i64.wrap ((i : Int) * (H.sectors : Int))) + (k : Int)) = sectorF H i k := by
    have e : (i : Int) * (H.sectors : Int) = ((i * H.sectors : Nat) : Int) := by simp
    rw [e, IntWalk.i64_in ((i * H.sectors : Nat) : Int) (by omega), IntWalk.i64_in (H.first + _) (by omega), IntWalk.i64_in _ (by omega)]
    rfl
  have HW := Lib.hid hw
  have d1 : w.drew.cell? ⟨h, 1, none⟩ = some (.int .i64 H.first) := c1
  have d3 : w.drew.cell? ⟨h, 3, none⟩ = some (.int .i64 (H.sectors : Int)) := c3
  clear hw hm hf
  go_enter Try.func48, Try.ntmps48
  go_wp2_with fail
  go_still (by kernel_rfl)
  go_wp2_with fail
  go_ret
  exact ⟨by rw [← HW.out]; rfl, (Fr.refl _ _).drew⟩
/-- the closure of in -/
theorem in1_any (st u l s : Int) (B : Nat) (w : World) (hB : w.cell? ⟨B, 0, none⟩ = some (.int .i64 s)) : Calls Try.prog 40 #[.agg #[.int .i64 st, .int .i64 u, .int .i64 l], ptr B] w fun e w' => e = .returned (.bool (decide (st = s))) ∧ Fr none_ w w' := by
  have hB1 := ((Fr.refl none_ w).alloc (.cells #[.int .i64 st, .int .i64 u, .int .i64 l] 70)).cell0 hB
  go_enter Try.func40, Try.ntmps40
  go_wp2_with fail
  go_ret
  exact ⟨by simp; rfl, (Fr.refl _ _).alloc _⟩
def optI : Option Nat → Int
  | some i => (i : Int)
  | none => -1
def HotS.inO (H : HotS) (s : Int) : Option Nat := H.boxes.findIdx? (fun b => b.state == s)
set_option maxHeartbeats 1000000 in
theorem idx_any {w : World} {h bx p : Nat} {H : HotS} (hh : HotAt w h bx p H) (s : Int) (B : Nat) (hB : w.cell? ⟨B, 0, none⟩ = some (.int .i64 s)) :
    Calls Try.prog 39 #[.slice (some ⟨bx, 0, none⟩) H.boxes.length H.boxes.length, .func (.func 40) #[] #[ptr B]] w fun e w' => e = .returned (.int .i64 (optI (H.inO s))) ∧ Fr none_ w w' := by
  have hbl := hh.most.1
  go_enter Try.func39, Try.ntmps39
  go_wp2_with fail
  go_loopw [8] (fun i wr => ∃ k : Nat, k ≤ H.boxes.length ∧ i = .int .i64 k ∧ Fr none_ w wr ∧ ∀ j (hj : j < H.boxes.length), j < k → H.boxes[j].state ≠ s) (fun i _ => H.boxes.length - (intOf i).toNat)
  case atStart => exact ⟨0, by omega, rfl, Fr.refl _ _, fun j _ hj => absurd hj (by omega)⟩
  case round =>
    obtain ⟨k, hk, rfl, hF, hno⟩ := hrel
    by_cases hlt : k < H.boxes.length
    · obtain ⟨b0, b1, b2⟩ := box_cells (hF.heap0 hh.bxs) k hlt
      have hB2 := hF.cell0 hB
      obtain ⟨x, hx⟩ : ∃ x, x = H.boxes[k] := ⟨_, rfl⟩
      rw [← hx] at b0 b1 b2
      have hkb : (k : Int) < (H.boxes.length : Int) := by omega
      have HNO := Lib.hid hno
      have HX := Lib.hid hx
      clear hno hx
      go_wp2_with fail
      (with_reducible refine (in1_any x.state _ _ s B _ hB2).mono ?_)
      rintro e w1 ⟨rfl, hF1⟩
      by_cases he : x.state = s
      · have hres : H.inO s = some k := by
          unfold HotS.inO
          rw [List.findIdx?_eq_some_iff_getElem]
          refine ⟨hlt, by rw [← HX.out, he]; simp, fun j hj => ?_⟩
          have := HNO.out j (by omega) hj
          simpa using this
        rw [decide_eq_true he]
        have HR := Lib.hid hres
        clear he hres
        go_wp2_with fail
        go_ret
        exact ⟨by rw [HR.out]; rfl, hF.trans hF1⟩
      · rw [decide_eq_false he]
        go_wp2_with fail
        go_roundw
        case rel =>
          refine ⟨k + 1, by omega, by go_num, hF.trans hF1, fun j hj hjk => ?_⟩
          by_cases hjk2 : j < k
          · exact HNO.out j hj hjk2
          · have : j = k := by omega
            subst this
            rw [← HX.out]
            exact he
        case measure => simp [intOf]; omega
    · have hkk : k = H.boxes.length := by omega
      have hres : H.inO s = none := by
        unfold HotS.inO
        rw [List.findIdx?_eq_none_iff]
        intro b hb
        obtain ⟨j, hj, rfl⟩ := List.getElem_of_mem hb
        have := hno j hj (by omega)
        simpa using this
      have hkb : ¬ (k : Int) < (H.boxes.length : Int) := by omega
      have HR := Lib.hid hres
      clear hres hno
      go_wp2_with fail
      go_ret
      exact ⟨by rw [HR.out]; rfl, hF⟩
/-- the first box in a state -/
theorem in_any {w : World} {h bx p : Nat} {H : HotS} (hh : HotAt w h bx p H) (s : Int) : Calls Try.prog 21 #[ptr h, .int .i64 s] w fun e w' => e = .returned (.int .i64 (optI (H.inO s))) ∧ Fr none_ w w' := by
  have hF := (Fr.refl none_ w).alloc (.cells #[.int .i64 s] 3)
  have hh2 := hh.fr0 hF
  have hB : (w.alloc (.cells #[.int .i64 s] 3)).cell? ⟨w.heap.size, 0, none⟩ = some (.int .i64 s) := by rw [cell_of_blk (heap_alloc_new _ _)]; rfl
  have hidx := idx_any hh2 s w.heap.size hB
  obtain ⟨c0, c1, c2, c3, c4⟩ := hh2.cellsAll
  have HI := Lib.hid hidx
  clear hidx hh2
  go_enter Try.func21, Try.ntmps21
  go_wp2_with fail
  (with_reducible refine HI.out.mono ?_)
  rintro e w1 ⟨rfl, hF1⟩
  go_wp2_with fail
  go_ret
  exact ⟨rfl, hF.trans hF1⟩
end Go.Proofs.Ytdlhndbgmldeaaa

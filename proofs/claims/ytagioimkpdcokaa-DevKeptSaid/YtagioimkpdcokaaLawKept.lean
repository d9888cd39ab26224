import Derived.Test.YtagioimkpdcokaaKeptP
import Derived.Test.YtagioimkpdcokaaLawDev
namespace Go.Proofs.Ytagioimkpdcokaa
open Go.RowKit
set_option linter.unusedVariables false
set_option linter.unusedSimpArgs false
def four (f : Nat → UInt8) : Array Value := #[byteV (f 0), byteV (f 1), byteV (f 2), byteV (f 3)]
theorem four_at (f : Nat → UInt8) (k : Nat) (hk : k < 4) : (four f)[k]? = some (byteV (f k)) := by
  obtain rfl | rfl | rfl | rfl : k = 0 ∨ k = 1 ∨ k = 2 ∨ k = 3 := by omega
  all_goals rfl
theorem four_cells {w : World} {b : Nat} {f : Nat → UInt8} {T : TypeId} (h : w.heap[b]? = some (.cells (four f) T (0, 0))) (k : Nat) (hk : k < 4) : w.cell? ⟨b, k, none⟩ = some (byteV (f k)) := by
  rw [cell_of_blk h]; exact four_at f k hk
theorem four_set (f : Nat → UInt8) (k : Nat) (hk : k < 4) (x : UInt8) : (four f).setIfInBounds k (byteV x) = four (fun j => if j = k then x else f j) := by
  obtain rfl | rfl | rfl | rfl : k = 0 ∨ k = 1 ∨ k = 2 ∨ k = 3 := by omega
  all_goals rfl
theorem four_one {w : World} {b : Nat} {f : Nat → UInt8} {T : TypeId} (h : w.heap[b]? = some (.cells (four f) T (0, 0))) (k : Nat) (hk : k < 4) : CellsAt w (some ⟨b, k, none⟩) ([f k].map byteV) := fun j hj => by
  have : j = 0 := by simpa using hj
  subst this
  exact ⟨b, k, rfl, four_cells h k hk⟩
theorem run_slice4 (w : World) (b k : Nat) (hk : k < 4) : (Instr.sliceAt 75 (.pointer (some ⟨b, 0, none⟩)) (some (.int .i64 k)) (some (.int .i64 (k + 1))) none).run Try.prog w = .ok (.slice (some ⟨b, k, none⟩) 1 (4 - k)) w := by
  have hal : Try.prog.arrayLen 75 = 4 := by kernel_rfl
  have hel : Try.prog.elem 75 = 5 := by kernel_rfl
  have hu : Try.prog.underlying 75 = some (.array (Try.prog.arrayLen 75) (Try.prog.elem 75)) := by rw [hal, hel]; exact Try.underlying75
  have hs : (sizeOf 5).run Try.prog w = .ok 1 w := by kernel_rfl
  rw [run_sliceAt_array_lh w _ _ hu .i64 .i64 k (k + 1) (by omega) (by omega) (by rw [hal]; omega), hel, hs, hal]
  unfold slicedAt Result.andThen Addr.add
  simp only [Int.toNat_natCast]
  have e1 : ((k : Int) + 1).toNat = k + 1 := by omega
  rw [e1, if_neg (by omega)]
  by_cases h0 : k = 0
  · subst h0; rfl
  · rw [if_neg (by omega)]; simp
/-- What both loops keep. -/
structure Kp (w wr : World) (f g : Nat → UInt8) (b p m1 m2 : Nat) (D : DevS) : Prop where
  fr : Fr none_ w wr
  hb : b = w.heap.size
  h1 : wr.heap[b]? = some (.cells (four f) 75 (0, 0))
  h2 : wr.heap[b + 1]? = some (.cells (four g) 75 (0, 0))
  dev : DevAt wr p m1 m2 D
  new : ∀ i, devBlks p m1 m2 i → b + 2 ≤ i
theorem Kp.step {w wr w' : World} {f g : Nat → UInt8} {b p m1 m2 : Nat} {D D' : DevS} (h : Kp w wr f g b p m1 m2 D) (hF : Fr (devBlks p m1 m2) wr w') (hD : DevAt w' p m1 m2 D') : Kp w w' f g b p m1 m2 D' :=
  ⟨h.fr.trans' hF (fun k hk hs => by have := h.new k hs; have := h.hb; omega), h.hb, hF.heap h.h1 (fun e => by have := h.new _ e; omega), hF.heap h.h2 (fun e => by have := h.new _ e; omega), hD, h.new⟩
theorem Kp.other {w wr w' : World} {f g : Nat → UInt8} {b p m1 m2 q : Nat} {D : DevS} (h : Kp w wr f g b p m1 m2 D) (hF : Fr (fun i => i = q) wr w') (hq : ¬ devBlks p m1 m2 q) (hq2 : b + 2 ≤ q) : Kp w w' f g b p m1 m2 D :=
  ⟨h.fr.trans' hF (fun k hk hs => by have := h.hb; omega), h.hb, hF.heap h.h1 (fun e => by omega), hF.heap h.h2 (fun e => by omega), h.dev.fr hF (fun i hi e => hq (e ▸ hi)), h.new⟩
theorem Kp.step0 {w wr w' : World} {f g : Nat → UInt8} {b p m1 m2 : Nat} {D : DevS} (h : Kp w wr f g b p m1 m2 D) (hF : Fr none_ wr w') : Kp w w' f g b p m1 m2 D := h.step (Fr.of0 hF) (h.dev.fr0 hF)
/-- What the second loop keeps besides. -/
structure Kq (w wr : World) (f g : Nat → UInt8) (b p m1 m2 q : Nat) (z kb : Nat → Bool) (k : Nat) : Prop where
  kp : Kp w wr f g b p m1 m2 (kD z f g k)
  hq : wr.heap[q]? = some (.cells (four (kW z kb f g k)) 75 (0, 0))
  qn : b + 2 ≤ q
  qd : ¬ devBlks p m1 m2 q
theorem kW_same (z kb : Nat → Bool) (f g : Nat → UInt8) (k : Nat) (h : z k = true ∨ kb (kN z k) = false) : (fun j => if j = k then f k else kW z kb f g k j) = kW z kb f g (k + 1) := by
  funext j
  simp only [kW]
  rcases h with h | h <;> simp [h]
theorem kW_other (z kb : Nat → Bool) (f g : Nat → UInt8) (k : Nat) (h : z k = false) (h2 : kb (kN z k) = true) : (fun j => if j = k then g k else (if j = k then f k else kW z kb f g k j)) = kW z kb f g (k + 1) := by
  funext j
  simp only [kW, h, h2]
  by_cases hj : j = k <;> simp [hj]
theorem set_four {w : World} {q : Nat} {h : Nat → UInt8} {T : TypeId} (hq : w.heap[q]? = some (.cells (four h) T (0, 0))) (k : Nat) (hk : k < 4) (x : UInt8) : (w.setCell ⟨q, k, none⟩ (byteV x)).heap[q]? = some (.cells (four (fun j => if j = k then x else h j)) T (0, 0)) := by
  rw [heap_setCell_same hq, four_set h k hk x]
theorem Kq.skip {w wr : World} {f g : Nat → UInt8} {b p m1 m2 q : Nat} {z kb : Nat → Bool} {k : Nat} (h : Kq w wr f g b p m1 m2 q z kb k) (hk : k < 4) (hz : z k = true) : Kq w (wr.setCell ⟨q, k, none⟩ (byteV (f k))) f g b p m1 m2 q z kb (k + 1) := by
  refine ⟨?_, ?_, h.qn, h.qd⟩
  · have : kD z f g (k + 1) = kD z f g k := by simp only [kD, hz, if_true]
    rw [this]
    exact h.kp.other (Fr.set _ _ _ _) h.qd h.qn
  · rw [← kW_same z kb f g k (.inl hz)]; exact set_four h.hq k hk _
theorem Kq.wrote {w wr w' : World} {f g : Nat → UInt8} {b p m1 m2 q : Nat} {z kb : Nat → Bool} {k : Nat} (h : Kq w wr f g b p m1 m2 q z kb k) (hk : k < 4) (hz : z k = false)
    (hF : Fr (devBlks p m1 m2) (wr.setCell ⟨q, k, none⟩ (byteV (f k))) w') (hD : DevAt w' p m1 m2 ((kD z f g k).write k [g k])) : Kp w w' f g b p m1 m2 (kD z f g (k + 1)) ∧ w'.heap[q]? = some (.cells (four (fun j => if j = k then f k else kW z kb f g k j)) 75 (0, 0)) := by
  have : kD z f g (k + 1) = (kD z f g k).write k [g k] := by simp only [kD, hz]; rfl
  rw [this]
  exact ⟨(h.kp.other (Fr.set _ _ _ _) h.qd h.qn).step hF hD, hF.heap (set_four h.hq k hk _) h.qd⟩
set_option maxHeartbeats 2000000 in
set_option maxRecDepth 100000 in
theorem kept_walk (f g : Nat → UInt8) (A : Option Addr) (n c : Nat) (kept : List Bool) (w : World) (hn : n = kept.length) (hm : kept.length ≤ 140737488351232) (hA : CellsAt w A (kept.map Value.bool)) :
    Calls Try.prog 7 #[.agg (four f), .agg (four g), .slice A n c] w fun e w' => e = .returned (.bool true) ∧ Fr none_ w w' := by
  subst hn
  go_enter Try.func7, Try.ntmps7
  go_wp2_with fail
  (with_reducible refine (new_ok 4 _ (by decide) (by decide)).mono ?_)
  rintro e w1 ⟨p, m1, m2, rfl, hF1, hD1, hfr⟩
  rw [errV_0]
  have hK : Kp w w1 f g w.heap.size p m1 m2 (kA f 0) := ⟨(((Fr.refl _ _).alloc _).alloc _).trans hF1, rfl, hF1.heap0 (heap_alloc_old (heap_alloc_new w _) _), hF1.heap0 (heap_alloc_at (by simp) _), hD1, fun i hi => by have := hfr i hi; simpa using this⟩
  obtain ⟨b, hb⟩ : ∃ b, b = w.heap.size := ⟨_, rfl⟩
  rw [← hb] at hK
  simp only [← hb]
  have hA1 := hA.fr0 hK.fr
  clear hF1 hD1 hfr hb
  go_wp2_with fail
  go_loopw [9] (fun i wr => ∃ k : Nat, k ≤ 4 ∧ i = .int .i64 k ∧ Kp w wr f g b p m1 m2 (kA f k)) (fun i _ => 4 - (intOf i).toNat)
  case atStart => exact ⟨0, by omega, rfl, hK⟩
  case round =>
    obtain ⟨k, hk, rfl, hR⟩ := hrel
    by_cases hlt : k < 4
    · have ks := fun w => run_slice4 w b k hlt
      go_wp2_with fail
      (with_reducible refine (write_any hR.dev k _ 1 _ [f k] rfl (four_one hR.h1 k hlt) (fun x hx _ hd => by have := blkOf_some hx; have := hR.new x hd; omega)).mono ?_)
      rintro e w2 ⟨rfl, hF2, hD2⟩
      rw [show errV ((kA f k).writeE k [f k].length) = .nilIface from congrArg errV ((kA_fit f k).writeE k hlt)]
      go_wp2_with fail
      go_roundw
      case rel => exact ⟨k + 1, by omega, by go_num, hR.step hF2 hD2⟩
      case measure => simp [intOf]; omega
    · have hk4 : k = 4 := by omega
      subst hk4
      go_wp2_with fail
      (with_reducible refine (flush_any hR.dev).mono ?_)
      rintro e w3 ⟨rfl, hF3, hD3⟩
      rw [show errV (kA f 4).flushE = .nilIface from congrArg errV (kA_fit f 4).flushE]
      have hK3 := hR.step hF3 hD3
      clear hK
      go_wp2_with fail
      obtain ⟨kb, hkb⟩ : ∃ kb : Nat → Bool, kb = fun i => decide (kept[i]? = some true) := ⟨_, rfl⟩
      obtain ⟨z, hz⟩ : ∃ z : Nat → Bool, z = fun i => decide (g i = 0) := ⟨_, rfl⟩
      obtain ⟨q, hq⟩ : ∃ q, q = w3.heap.size := ⟨_, rfl⟩
      rw [← hq]
      have hKq : Kq w (w3.alloc (.cells #[.int .u8 0, .int .u8 0, .int .u8 0, .int .u8 0] 75)) f g b p m1 m2 q z kb 0 :=
        ⟨hK3.step0 ((Fr.refl _ _).alloc _), heap_alloc_at hq.symm _, by have := blk_lt hK3.h2; have := hK3.hb; omega, fun hd => by have := hK3.dev.lt q hd; omega⟩
      have HZ := Lib.hid hz
      have HKB := Lib.hid hkb
      clear hK3 hR hF3 hD3 hz hkb hq hA1
      go_loopw [10, 12] (fun v i wr => ∃ k : Nat, k ≤ 4 ∧ i = .int .i64 k ∧ v = .int .i64 (kN z k : Nat) ∧ Kq w wr f g b p m1 m2 q z kb k) (fun _ i _ => 4 - (intOf i).toNat)
      case atStart => exact ⟨0, by omega, rfl, rfl, hKq⟩
      case round =>
        clear hKq
        obtain ⟨k, hk, rfl, rfl, hR⟩ := hrel
        by_cases hlt : k < 4
        · have ks := fun w => run_slice4 w (b + 1) k hlt
          have c1 : wr.cell? ⟨b, k, none⟩ = some (.int .u8 ((f k).toNat : Int)) := four_cells hR.kp.h1 k hlt
          have c2 : wr.cell? ⟨b + 1, k, none⟩ = some (.int .u8 ((g k).toNat : Int)) := four_cells hR.kp.h2 k hlt
          have c3 : wr.cell? ⟨q, k, none⟩ = some (.int .u8 ((kW z kb f g k k).toNat : Int)) := four_cells hR.hq k hlt
          have c4 : wr.frozen? ⟨q, k, none⟩ = false := frozen_of_blk hR.hq k
          have qn := hR.qn
          have d1 : q ≠ b := by omega
          have d2 : q ≠ b + 1 := by omega
          by_cases hgz : g k = 0
          · rw [hgz] at c2
            have hzk : z k = true := by rw [HZ.out]; simp [hgz]
            have c2 : wr.cell? ⟨b + 1, k, none⟩ = some (.int .u8 0) := c2
            go_wp2_with fail
            go_roundw
            case rel => exact ⟨k + 1, by omega, by go_num, by simp only [kN, hzk, if_true], hR.skip hlt hzk⟩
            case measure => simp [intOf]; omega
          · have hgi : ¬ ((g k).toNat : Int) = 0 := fun h => hgz (UInt8.toNat_inj.1 (by simpa using h))
            have hzk : z k = false := by rw [HZ.out]; simp [hgz]
            go_wp2_with fail
            have hKW : Kp w (wr.setCell ⟨q, k, none⟩ (.int .u8 ((f k).toNat : Int))) f g b p m1 m2 (kD z f g k) := hR.kp.other (Fr.set wr q k (byteV (f k))) hR.qd hR.qn
            (with_reducible refine (write_any hKW.dev k _ 1 _ [g k] rfl (four_one hKW.h2 k hlt) (fun x hx _ hd => by have := blkOf_some hx; have := hKW.new x hd; omega)).mono ?_)
            rintro e w4 ⟨rfl, hF4, hD4⟩
            rw [show errV ((kD z f g k).writeE k [g k].length) = .nilIface from congrArg errV ((kD_fit z f g k).writeE k hlt)]
            obtain ⟨hK4, hq4⟩ := hR.wrote hlt hzk hF4 hD4
            have c5 : w4.cell? ⟨b + 1, k, none⟩ = some (.int .u8 ((g k).toNat : Int)) := four_cells hK4.h2 k hlt
            have c6 : w4.cell? ⟨q, k, none⟩ = some (byteV (f k)) := by rw [four_cells hq4 k hlt]; simp
            have c7 : w4.frozen? ⟨q, k, none⟩ = false := frozen_of_blk hq4 k
            have hA4 := hA.fr0 hK4.fr
            have hnN := kN_le z k
            have hn1 : kN z (k + 1) = kN z k + 1 := by simp only [kN, hzk]; rfl
            have hqd := hR.qd
            clear c1 c2 c3 c4 hR hKW hF4 hD4
            by_cases hkn : kN z k < kept.length
            · obtain ⟨bA, oA, rfl, hcA⟩ := hA4 (kN z k) (by simpa using hkn)
              have hcA : w4.cell? ⟨bA, oA + kN z k, none⟩ = some (.bool kept[kN z k]) := by rw [hcA]; simp
              have hkN : kb (kN z k) = kept[kN z k] := by
                rw [HKB.out]; simp [hkn]
              cases hv : kept[kN z k]
              · rw [hv] at hcA hkN
                go_wp2_with fail
                go_roundw
                case rel => exact ⟨k + 1, by omega, by go_num, by rw [hn1]; go_num, ⟨hK4, by rw [← kW_same z kb f g k (.inr hkN)]; exact hq4, qn, hqd⟩⟩
                case measure => simp [intOf]; omega
              · rw [hv] at hcA hkN
                go_wp2_with fail
                go_roundw
                case rel => exact ⟨k + 1, by omega, by go_num, by rw [hn1]; go_num, ⟨hK4.other (Fr.set _ _ _ _) hqd qn, by rw [← kW_other z kb f g k hzk hkN]; exact set_four hq4 k hlt _, qn, hqd⟩⟩
                case measure => simp [intOf]; omega
            · have hkN : kb (kN z k) = false := by
                rw [HKB.out]; simp [hkn]
              go_wp2_with fail
              go_roundw
              case rel => exact ⟨k + 1, by omega, by go_num, by rw [hn1]; go_num, ⟨hK4, by rw [← kW_same z kb f g k (.inr hkN)]; exact hq4, qn, hqd⟩⟩
              case measure => simp [intOf]; omega
        · have hk4 : k = 4 := by omega
          subst hk4
          go_wp2_with fail
          (with_reducible refine (loose_any hR.kp.dev).mono ?_)
          rintro e w5 ⟨⟨v, rfl, hown⟩, hF5⟩
          obtain ⟨A1, cc, rfl, hA1, _, _, hbl⟩ := ownsRow_read hown
          rw [kept_len]
          have hK5 := hR.kp.step0 hF5
          have hq5 := hF5.heap0 hR.hq
          have hqn := hR.qn
          have HQD := Lib.hid hR.qd
          clear hR hown hA1 hbl hF5
          go_wp2_with fail
          have hA5 := hA.fr0 hK5.fr
          (with_reducible refine (start_any hK5.dev A _ c kept rfl hA5 (fun x hx hv hd => by have := hA.lt hx (by simpa using hv); have := hK5.new x hd; have := hK5.hb; omega) hm).mono ?_)
          rintro e w6 ⟨rfl, hF6, hD6⟩
          go_wp2_with fail
          have hK6 := hK5.step hF6 hD6
          have hq6 := hF6.heap hq5 HQD.out
          have hfit := (kD_fit z f g 4).start kept
          have hp := fun j hj => kept_plain z f g kept j hj
          rw [← HKB.out] at hp
          have HP := Lib.hid hp
          clear hK5 hq5 hF6 hD6 hA5 hp
          go_loopw [13] (fun i wr => ∃ k : Nat, k ≤ 4 ∧ i = .int .i64 k ∧ Kp w wr f g b p m1 m2 ((kD z f g 4).start kept) ∧ wr.heap[q]? = some (.cells (four (kW z kb f g 4)) 75 (0, 0))) (fun i _ => 4 - (intOf i).toNat)
          case atStart => exact ⟨0, by omega, rfl, hK6, hq6⟩
          case round =>
            clear hK6 hq6
            obtain ⟨k, hk, rfl, hR, hqr⟩ := hrel
            by_cases hlt : k < 4
            · go_wp2_with fail
              (with_reducible refine (read_ok hR.dev k (hfit.at k hlt)).mono ?_)
              rintro e w7 ⟨gg, rfl, hg, hF7, hb7⟩
              rw [errV_0]
              have hR7 := hR.step0 hF7
              have c1 : w7.cell? ⟨q, k, none⟩ = some (.int .u8 ((kW z kb f g 4 k).toNat : Int)) := four_cells (hF7.heap0 hqr) k hlt
              have c2 : w7.cell? ⟨gg, 0, none⟩ = some (.int .u8 ((kW z kb f g 4 k).toNat : Int)) := by
                rw [cell_of_blk hb7]
                have := HP.out k hlt
                simp [this, byteV]
              have hq7 := hF7.heap0 hqr
              clear hR hF7 hb7 hqr
              go_wp2_with fail
              have c3 : w7.drew.cell? ⟨q, k, none⟩ = some (.int .u8 ((kW z kb f g 4 k).toNat : Int)) := c1
              have c4 : w7.drew.cell? ⟨gg, 0, none⟩ = some (.int .u8 ((kW z kb f g 4 k).toNat : Int)) := c2
              go_still (by kernel_rfl)
              go_wp2_with fail
              go_roundw
              case rel => exact ⟨k + 1, by omega, by go_num, hR7.step0 ((Fr.refl _ _).drew), hq7⟩
              case measure => simp [intOf]; omega
            · go_wp2_with fail
              (with_reducible refine (dsure_any _).mono ?_)
              rintro e w8 ⟨rfl, hF8⟩
              go_wp2_with fail
              go_ret
              exact ⟨rfl, hR.fr.trans hF8⟩
end Go.Proofs.Ytagioimkpdcokaa

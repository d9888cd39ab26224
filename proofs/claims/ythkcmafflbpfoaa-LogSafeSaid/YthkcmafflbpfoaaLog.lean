import Derived.Test.YthkcmafflbpfoaaSeal
import Derived.Test.YthkcmafflbpfoaaCodec
import Derived.Test.YthkcmafflbpfoaaPackB
import Derived.Laws.MakeOwn
import Derived.Laws.OwnMore
namespace Go.Proofs.Ythkcmafflbpfoaa
open Go.RowKit
set_option linter.unusedVariables false
set_option linter.unusedSimpArgs false
set_option maxRecDepth 100000

/-! log: sectors, sealed, Need, tagged. -/
theorem info_u8l : (Try.prog.info? 5).map (fun i => (i.zero, i.size, i.bytes)) = some (some (.int .u8 0), 1, 1) := by kernel_rfl
def secN (n : Nat) : Nat := (n + 55) / 56
theorem sectors_of (n : Nat) (hn : n ≤ 140737488355328) (w : World) : Calls Try.prog 37 #[.int .i64 (n : Int)] w fun e w' => e = .returned (.int .i64 (secN n : Nat)) ∧ w = w' := by
  go_enter Try.func37, Try.ntmps37
  go_wp2_with fail
  go_ret
  exact ⟨by rw [show ((n : Int) + 56 - 1) / 56 = ((secN n : Nat) : Int) by unfold secN; omega]; rfl, rfl⟩
/-- a record's bytes -/
def recB (data : List UInt8) (seq : Nat) : List UInt8 := encF seq ++ (encF data.length ++ data)
def seaB (data : List UInt8) (seq : Nat) : List UInt8 := sealB (recB data seq)
theorem recB_len (data : List UInt8) (seq : Nat) : (recB data seq).length ≤ data.length + 18 := by
  unfold recB
  simp only [List.length_append, encF_len]
  have h1 := behindF_le seq
  have h2 := behindF_le data.length
  omega
theorem seaB_len (data : List UInt8) (seq : Nat) : (seaB data seq).length = (recB data seq).length + 4 := by
  unfold seaB sealB; rw [List.length_append]; rfl
set_option maxHeartbeats 2000000 in
theorem sealed_any {w : World} (A : Option Addr) (n c : Nat) (data : List UInt8) (seq : Nat) (hn : n = data.length) (hA : CellsAt w A (data.map byteV)) (hnil : A = none → n = 0 ∧ c = 0) (hm : data.length ≤ 1000000) (hs : seq < 4611686018427387904) :
    Calls Try.prog 25 #[.slice A n c, .int .i64 (seq : Int)] w fun e w' => Cloned w (seaB data seq) e w' := by
  have hrl := recB_len data seq
  have hap : ∀ b, blkOf A b → 0 < data.length → b < w.heap.size := fun b hb hl => hA.lt hb (by simpa using hl)
  have hu : ∀ W, WriterAt W w.heap.size w.heap.size [] → w.heap.size ≤ W.heap.size → Calls Try.prog 44 #[ptr w.heap.size, .int .u64 (seq : Int)] W fun e w' => e = .returned (ptr w.heap.size) ∧ Fr (fun k => w.heap.size ≤ k) W w' ∧ WriterAt w' w.heap.size w.heap.size (encF seq) := fun W hW hb => by
    exact wuint_any hW seq (by omega) (by simp) hb
  have HU := Lib.hid hu
  have HN := Lib.hid hn
  have HNIL := Lib.hid hnil
  have hel : (encF seq).length ≤ 9 := by rw [encF_len]; have := behindF_le seq; omega
  clear hu hn hnil
  go_enter Try.func25, Try.ntmps25
  go_wp2_with fail
  (with_reducible refine (wnew_any w).mono ?_)
  rintro e w1 ⟨rfl, hF1, hW1⟩
  go_wp2_with fail
  (with_reducible refine (HU.out w1 hW1 hF1.size).mono ?_)
  rintro e w2 ⟨rfl, hF2, hW2⟩
  have hz2 : w.heap.size ≤ w2.heap.size := Nat.le_trans hF1.size hF2.size
  have hA2 : CellsAt w2 A (data.map byteV) := (hA.fr0 hF1).frp hF2 (fun b hb hl e => by have := hap b hb (by simpa using hl); omega)
  go_wp2_with fail
  (with_reducible refine (wbytes_any hW2 A n c data hA2 HN.out HNIL.out hap (by omega) hz2).mono ?_)
  rintro e w3 ⟨rfl, hF3, hW3⟩
  have hW3 : WriterAt w3 w.heap.size w.heap.size (recB data seq) := hW3
  have hF03 : Fr none_ w w3 := (hF1.trans' hF2 (fun k hk e => by omega)).trans' hF3 (fun k hk e => by omega)
  go_wp2_with fail
  (with_reducible refine (wdone_any hW3 (by omega)).mono ?_)
  rintro e w4 ⟨⟨v, rfl, hown⟩, hF4⟩
  obtain ⟨A4, c4, rfl, hA4, hc4, hnil4, hbl4⟩ := ownsRow_read hown
  go_wp2_with fail
  (with_reducible refine (seal_bytes A4 (recB data seq).length c4 (recB data seq) rfl hA4 (fun h => hnil4 h) (by omega)).mono ?_)
  rintro e w5 ⟨⟨v5, rfl, hown5⟩, hF5⟩
  go_wp2_with fail
  go_ret
  exact ⟨⟨v5, rfl, ownsRow_mono hown5 (hF03.trans hF4).size⟩, (hF03.trans hF4).trans hF5⟩
/-- Need -/
def needF (n seq : Int) : Nat := if n < 0 ∨ 65536 < n ∨ seq < 1 ∨ 1099511627776 < seq then 0 else secN (seaB (List.replicate n.toNat 0) seq.toNat).length
theorem mkN (n : Nat) (hn : n ≤ 65536) (w : World) : (Instr.makeSlice 36 (.int .i64 (n : Int)) (.int .i64 (n : Int))).run Try.prog w = .ok (.slice (some ⟨w.heap.size, 0, none⟩) n n) (w.alloc (.cells (Array.replicate n (byteV 0)) 5)) := by
  obtain ⟨i, hi, hzz⟩ := Option.map_eq_some_iff.1 info_u8l
  simp only [Prod.mk.injEq] at hzz
  obtain ⟨hz, hs, hb⟩ := hzz
  have h := run_make (P := Try.prog) w 36 5 i _ Try.underlying36 hi hz .i64 .i64 n n (by omega) (by omega) (by rw [hb]; omega) (by omega)
  rw [hs, Int.toNat_natCast] at h
  have e : madeCells (Value.int .u8 0).cells (n * 1) = Array.replicate n (byteV 0) := by
    apply Array.toList_inj.1
    rw [show (Value.int .u8 0).cells = #[Value.int .u8 0] from rfl, toList_madeCells_one, Nat.mul_one, Array.toList_replicate]
    rfl
  rw [e] at h
  exact h
set_option maxHeartbeats 2000000 in
theorem need_any (n seq : Int) (w : World) : Calls Try.prog 23 #[.int .i64 n, .int .i64 seq] w fun e w' => e = .returned (.int .i64 (needF n seq : Nat)) ∧ Fr none_ w w' := by
  by_cases hbad : n < 0 ∨ 65536 < n ∨ seq < 1 ∨ 1099511627776 < seq
  · have hN : needF n seq = 0 := by unfold needF; rw [if_pos hbad]
    have HN := Lib.hid hN
    have hc : n < 0 ∨ (¬ n < 0 ∧ 65536 < n) ∨ (¬ n < 0 ∧ ¬ 65536 < n ∧ seq < 1) ∨ (¬ n < 0 ∧ ¬ 65536 < n ∧ ¬ seq < 1 ∧ 1099511627776 < seq) := by omega
    clear hN hbad
    rcases hc with q1 | ⟨q1, q2⟩ | ⟨q1, q2, q3⟩ | ⟨q1, q2, q3, q4⟩
    all_goals
      go_enter Try.func23, Try.ntmps23
      go_wp2_with fail
      go_ret
      exact ⟨by rw [HN.out]; rfl, Fr.refl _ _⟩
  · have hN : needF n seq = secN (seaB (List.replicate n.toNat 0) seq.toNat).length := by unfold needF; rw [if_neg hbad]
    obtain ⟨m, rfl⟩ : ∃ m : Nat, n = (m : Int) := ⟨n.toNat, by omega⟩
    obtain ⟨s, rfl⟩ : ∃ s : Nat, seq = (s : Int) := ⟨seq.toNat, by omega⟩
    rw [Int.toNat_natCast, Int.toNat_natCast] at hN
    have HN := Lib.hid hN
    have n1 : ¬ (m : Int) < 0 := by omega
    have n2 : ¬ (65536 : Int) < (m : Int) := by omega
    have n3 : ¬ (s : Int) < 1 := by omega
    have n4 : ¬ (1099511627776 : Int) < (s : Int) := by omega
    have hm : m ≤ 65536 := by omega
    have hs : s ≤ 1099511627776 := by omega
    have kmk := mkN m hm
    have hl1 := seaB_len (List.replicate m 0) s
    have hl2 := recB_len (List.replicate m 0) s
    rw [List.length_replicate] at hl2
    have hse := sealed_any (w := w.alloc (.cells (Array.replicate m (byteV 0)) 5)) (some ⟨w.heap.size, 0, none⟩) m m (List.replicate m 0) s (by rw [List.length_replicate]) (CellsAt.whole (by rw [List.map_replicate, List.toArray_replicate]; exact heap_alloc_new _ _)) (fun h => by cases h) (by rw [List.length_replicate]; omega) (by omega)
    have HSE := Lib.hid hse
    clear hN hse hbad
    go_enter Try.func23, Try.ntmps23
    go_wp2_with fail
    (with_reducible refine HSE.out.mono ?_)
    rintro e w1 ⟨⟨v, rfl, hown⟩, hF1⟩
    obtain ⟨A1, c1, rfl, hA1, hc1, hnil1, hbl1⟩ := ownsRow_read hown
    obtain ⟨k, hk⟩ : ∃ k, k = (seaB (List.replicate m 0) s).length := ⟨_, rfl⟩
    rw [← hk] at hl1 ⊢
    have HK := Lib.hid hk
    have hkb : k ≤ 70000 := by omega
    clear hk hl1 hl2 hown hA1 hc1 hnil1 hbl1
    go_wp2_with fail
    (with_reducible refine (sectors_of k (by omega) _).mono ?_)
    rintro e w2 ⟨rfl, rfl⟩
    go_wp2_with fail
    go_ret
    exact ⟨by rw [HN.out, ← HK.out]; rfl, ((Fr.refl _ _).alloc _).trans hF1⟩
/-- a number as the tag of a sector -/
def tagB (n : Nat) : List UInt8 := [7, 6, 5, 4, 3, 2, 1, 0].map (fun i => lastI n i)
end Go.Proofs.Ythkcmafflbpfoaa

import Derived.Test.YtdgnndomnmlmaaaRefLen
namespace Go.Proofs.Ytdgnndomnmlmaaa
open Go.RowKit
set_option linter.unusedVariables false
set_option linter.unusedSimpArgs false
set_option maxRecDepth 100000

/-! The reference's Need. -/
set_option maxHeartbeats 2000000 in
theorem rbytes_len {w : World} (A : Option Addr) (n c : Nat) (l : List UInt8) (A2 : Option Addr) (n2 c2 : Nat) (l2 : List UInt8) (hn : n = l.length) (hA : CellsAt w A (l.map byteV)) (hnil : A = none → n = 0 ∧ c = 0) (hn2 : n2 = l2.length) (hA2 : CellsAt w A2 (l2.map byteV)) (hnil2 : A2 = none → n2 = 0 ∧ c2 = 0) (hm : l.length ≤ 1000) (hm2 : l2.length ≤ 100000) :
    Calls Try.prog 39 #[.slice A n c, .slice A2 n2 c2] w fun e w' => RLen w (l.length + behindF n2 + 1 + n2) e w' := by
  have hk8 := behindF_le n2
  have hu := ruint_len A n c l n2 (by omega) hn hA hnil (by omega)
  have HU := Lib.hid hu
  have HN2 := Lib.hid hn2
  have HNIL2 := Lib.hid hnil2
  have hb2 : n2 ≤ 100000 := by omega
  clear hu hn2 hnil2 hn hnil
  obtain ⟨K, hK⟩ : ∃ K, K = l.length + behindF n2 + 1 := ⟨_, rfl⟩
  have hKb : K ≤ 2000 := by omega
  have HU : Hid (Calls Try.prog 40 #[.slice A n c, .int .u64 (n2 : Int)] w fun e w' => RLen w K e w') := by rw [hK]; exact HU
  rw [← hK]
  clear hK hk8
  go_enter Try.func39, Try.ntmps39
  go_wp2_with fail
  (with_reducible refine HU.out.mono ?_)
  rintro e w1 ⟨⟨v1, xs, hxl, rfl, hown1⟩, hF1⟩
  have hA21 := hA2.fr0 hF1
  have HXL := Lib.hid hxl
  have hsz := hF1.size
  clear hxl
  go_wp2_with ((with_reducible refine at_append (.tmp 9) (.tmp 10) 39 w.heap.size 5 (.int .u8 0) 1 1 (n := K) (A := A2) (m := n2) (c := c2) (news := l2.map byteV) Try.underlying39 info_u8 ?_ ?_ ?_ ?_ hown1 hA21 HNIL2.out ?_ ?_ ?_ ?_ ?_ ?_); (focus rfl); (focus decide); (focus rfl); (focus rfl); (focus rw [List.length_map, HN2.out, Nat.mul_one]); (focus exact bytes_oneCell _); (focus unfold maxLen; omega); (focus omega); (focus omega); intro v2 w2 hown2 hg2)
  go_ret
  refine ⟨⟨v2, xs ++ l2, by rw [List.length_append, HXL.out, ← HN2.out], rfl, ?_⟩, Fr.grown hF1 hg2 hown1 (Nat.le_refl _)⟩
  rw [List.map_append]
  exact hown2
set_option maxHeartbeats 4000000 in
theorem rseal_len {w : World} (A : Option Addr) (n c : Nat) (l : List UInt8) (hn : n = l.length) (hA : CellsAt w A (l.map byteV)) (hnil : A = none → n = 0 ∧ c = 0) (hm : l.length ≤ 200000) :
    Calls Try.prog 38 #[.slice A n c] w fun e w' => RLen w (n + 4) e w' := by
  have hsum := rsum_any n A c l w hn (by omega) hA
  obtain ⟨s, hs⟩ : ∃ s, s = sumF l := ⟨_, rfl⟩
  rw [← hs] at hsum
  have hslt : s < 2147483647 := by rw [hs]; exact moreF_lt 1 l
  have h0 : w.ownsRow w.heap.size 5 1 (.slice none 0 0) 0 [] := World.ownsRow_nil _ _ _ _
  have HS := Lib.hid hsum
  have HN := Lib.hid hn
  have hnb : n ≤ 200000 := by omega
  clear hsum hs hn
  go_enter Try.func38, Try.ntmps38
  go_wp2_with fail
  (with_reducible refine HS.out.mono ?_)
  rintro e w1 ⟨rfl, rfl⟩
  have hbv : ∀ y : Nat, Value.int .u8 ((y : Int) % 256) = byteV (UInt8.ofNat y) := byteV_mod
  have hlit : ∀ W : World, CellsAt (W.alloc (.cells #[.int .u8 ((s : Int) % 256), .int .u8 ((s : Int) / 256 % 256), .int .u8 ((s : Int) / 65536 % 256), .int .u8 ((s : Int) / 16777216)] 5)) (some ⟨W.heap.size, 0, none⟩) ([UInt8.ofNat s, UInt8.ofNat (s / 256), UInt8.ofNat (s / 65536), UInt8.ofNat (s / 16777216)].map byteV) := fun W => by
    have e1 := hbv s
    have e2 := hbv (s / 256)
    have e3 := hbv (s / 65536)
    have e4 := hbv (s / 16777216)
    rw [show ((s / 256 : Nat) : Int) = (s : Int) / 256 by omega] at e2
    rw [show ((s / 65536 : Nat) : Int) = (s : Int) / 65536 by omega] at e3
    rw [show ((s / 16777216 : Nat) : Int) % 256 = (s : Int) / 16777216 by omega] at e4
    have := CellsAt.whole (w := W.alloc (.cells [byteV (UInt8.ofNat s), byteV (UInt8.ofNat (s / 256)), byteV (UInt8.ofNat (s / 65536)), byteV (UInt8.ofNat (s / 16777216))].toArray 5)) (l := [byteV (UInt8.ofNat s), byteV (UInt8.ofNat (s / 256)), byteV (UInt8.ofNat (s / 65536)), byteV (UInt8.ofNat (s / 16777216))]) (heap_alloc_new W _)
    rw [← e1, ← e2, ← e3, ← e4] at this
    rw [List.map_cons, List.map_cons, List.map_cons, List.map_cons, List.map_nil, ← e1, ← e2, ← e3, ← e4]
    exact this
  have HLIT := Lib.hid hlit
  clear hbv hlit
  go_wp2_with (first
    | ((with_reducible refine at_append (.tmp 7) (.tmp 8) 39 w.heap.size 5 (.int .u8 0) 1 1 (v := .slice none 0 0) (n := 0) (xs := []) (A := A) (m := n) (c := c) (news := l.map byteV) Try.underlying39 info_u8 ?_ ?_ ?_ ?_ h0 hA hnil ?_ ?_ ?_ ?_ ?_ ?_); (focus rfl); (focus decide); (focus rfl); (focus rfl); (focus rw [List.length_map, HN.out, Nat.mul_one]); (focus exact bytes_oneCell _); (focus unfold maxLen; omega); (focus omega); (focus exact Nat.le_refl _); intro v2 w2 hown2 hg2; have hF2 := Fr.grown (Fr.refl none_ w) hg2 h0 (Nat.le_refl _); have hal := (Fr.refl none_ w2).alloc (.cells #[.int .u8 ((s : Int) % 256), .int .u8 ((s : Int) / 256 % 256), .int .u8 ((s : Int) / 65536 % 256), .int .u8 ((s : Int) / 16777216)] 5); have hown2a := ownsRow_fr0 hown2 hal; have hFa := hF2.trans hal; have hsz2 := hF2.size; rw [Nat.zero_add, List.nil_append] at hown2a; have HA2 := Lib.hid (HLIT.out w2); clear hown2)
    | ((with_reducible refine at_append (.tmp 9) (.tmp 24) 39 w.heap.size 5 (.int .u8 0) 1 1 (n := n) (A := some ⟨w2.heap.size, 0, none⟩) (m := 4) (c := 4) (news := [UInt8.ofNat s, UInt8.ofNat (s / 256), UInt8.ofNat (s / 65536), UInt8.ofNat (s / 16777216)].map byteV) Try.underlying39 info_u8 ?_ ?_ ?_ ?_ hown2a HA2.out ?_ ?_ ?_ ?_ ?_ ?_ ?_); (focus rfl); (focus decide); (focus rfl); (focus rfl); (focus (intro h; cases h)); (focus rfl); (focus exact bytes_oneCell _); (focus unfold maxLen; omega); (focus omega); (focus rw [World.size_alloc]; omega); intro v3 w3 hown3 hg3; have hF3 := Fr.grown hFa hg3 hown2a (Nat.le_refl _)))
  go_ret
  refine ⟨⟨v3, l ++ [UInt8.ofNat s, UInt8.ofNat (s / 256), UInt8.ofNat (s / 65536), UInt8.ofNat (s / 16777216)], by rw [List.length_append, ← HN.out]; rfl, rfl, ?_⟩, hF3⟩
  rw [List.map_append]
  exact hown3
theorem seaB_exact (data : List UInt8) (seq : Nat) : (seaB data seq).length = behindF seq + 1 + (behindF data.length + 1 + data.length) + 4 := by
  rw [seaB_len]
  unfold recB
  simp only [List.length_append, encF_len]
set_option maxHeartbeats 2000000 in
theorem rsealed_len {w : World} (A : Option Addr) (n c : Nat) (l : List UInt8) (seq : Nat) (hs : seq < 4611686018427387904) (hn : n = l.length) (hA : CellsAt w A (l.map byteV)) (hnil : A = none → n = 0 ∧ c = 0) (hm : l.length ≤ 100000) :
    Calls Try.prog 19 #[.slice A n c, .int .i64 (seq : Int)] w fun e w' => RLen w (seaB l seq).length e w' := by
  have hk1 := behindF_le seq
  have hk2 := behindF_le n
  have hu := ruint_len (w := w) none 0 0 [] seq (by omega) rfl (CellsAt.nil _ _) (fun _ => ⟨rfl, rfl⟩) (by simp)
  rw [List.length_nil, Nat.zero_add] at hu
  have hex := seaB_exact l seq
  rw [← hn] at hex
  obtain ⟨K1, hK1⟩ : ∃ K1, K1 = behindF seq + 1 := ⟨_, rfl⟩
  rw [← hK1] at hu hex
  obtain ⟨K2, hK2⟩ : ∃ K2, K2 = behindF n + 1 := ⟨_, rfl⟩
  rw [← hK2] at hex
  have hK1b : K1 ≤ 9 := by omega
  have hK2b : K2 ≤ 9 := by omega
  have hnb : n ≤ 100000 := by omega
  have HU := Lib.hid hu
  have HEX := Lib.hid hex
  have HN := Lib.hid hn
  have HNIL := Lib.hid hnil
  have HK2 := Lib.hid hK2
  clear hu hex hn hnil hK1 hK2 hk1 hk2
  go_enter Try.func19, Try.ntmps19
  go_wp2_with fail
  (with_reducible refine HU.out.mono ?_)
  rintro e w1 ⟨⟨v1, x1, hx1, rfl, hown1⟩, hF1⟩
  obtain ⟨A1, c1, rfl, hA1, hc1, hnil1, hbl1⟩ := ownsRow_read hown1
  have hb := rbytes_len (w := w1) A1 K1 c1 x1 A n c l hx1.symm hA1 hnil1 HN.out (hA.fr0 hF1) HNIL.out (by omega) (by have := HN.out; omega)
  rw [show x1.length + behindF n + 1 + n = K1 + K2 + n by rw [hx1, HK2.out]; omega] at hb
  have HB := Lib.hid hb
  clear hb hA1 hc1 hnil1 hbl1 hown1 hx1
  go_wp2_with fail
  (with_reducible refine HB.out.mono ?_)
  rintro e w2 ⟨⟨v2, x2, hx2, rfl, hown2⟩, hF2⟩
  obtain ⟨A2, c2, rfl, hA2, hc2, hnil2, hbl2⟩ := ownsRow_read hown2
  have hse := rseal_len (w := w2) A2 (K1 + K2 + n) c2 x2 hx2.symm hA2 hnil2 (by omega)
  have HSE := Lib.hid hse
  clear hse hA2 hc2 hnil2 hbl2 hown2 hx2
  go_wp2_with fail
  (with_reducible refine HSE.out.mono ?_)
  rintro e w3 ⟨⟨v3, x3, hx3, rfl, hown3⟩, hF3⟩
  go_wp2_with fail
  go_ret
  have hz := (hF1.trans hF2).size
  rw [HEX.out, show K1 + (K2 + n) + 4 = K1 + K2 + n + 4 by omega]
  exact ⟨⟨v3, x3, hx3, rfl, ownsRow_mono hown3 hz⟩, (hF1.trans hF2).trans hF3⟩
set_option maxHeartbeats 2000000 in
theorem rneed_any (n seq : Int) (w : World) : Calls Try.prog 6 #[.int .i64 n, .int .i64 seq] w fun e w' => e = .returned (.int .i64 (needF n seq : Nat)) ∧ Fr none_ w w' := by
  by_cases hbad : n < 0 ∨ 65536 < n ∨ seq < 1 ∨ 1099511627776 < seq
  · have hN : needF n seq = 0 := by unfold needF; rw [if_pos hbad]
    have HN := Lib.hid hN
    have hc : n < 0 ∨ (¬ n < 0 ∧ 65536 < n) ∨ (¬ n < 0 ∧ ¬ 65536 < n ∧ seq < 1) ∨ (¬ n < 0 ∧ ¬ 65536 < n ∧ ¬ seq < 1 ∧ 1099511627776 < seq) := by omega
    clear hN hbad
    rcases hc with q1 | ⟨q1, q2⟩ | ⟨q1, q2, q3⟩ | ⟨q1, q2, q3, q4⟩
    all_goals
      go_enter Try.func6, Try.ntmps6
      go_wp2_with fail
      go_ret
      exact ⟨by rw [HN.out]; rfl, Fr.refl _ _⟩
  · have hN : needF n seq = secN (seaB (List.replicate n.toNat 0) seq.toNat).length := by unfold needF; rw [if_neg hbad]
    obtain ⟨m, rfl⟩ : ∃ m : Nat, n = (m : Int) := ⟨n.toNat, by omega⟩
    obtain ⟨s, rfl⟩ : ∃ s : Nat, seq = (s : Int) := ⟨seq.toNat, by omega⟩
    rw [Int.toNat_natCast, Int.toNat_natCast] at hN
    have HN := Lib.hid hN
    have n1 : ¬ (m : Int) < 0 := by omega
    have n2 : ¬ (65536 : Int) < (m : Int) := by omega
    have n3 : ¬ (s : Int) < 1 := by omega
    have n4 : ¬ (1099511627776 : Int) < (s : Int) := by omega
    have hm : m ≤ 65536 := by omega
    have kmk := mkN m hm
    have hl1 := seaB_len (List.replicate m 0) s
    have hl2 := recB_len (List.replicate m 0) s
    rw [List.length_replicate] at hl2
    have hse := rsealed_len (w := w.alloc (.cells (Array.replicate m (byteV 0)) 5)) (some ⟨w.heap.size, 0, none⟩) m m (List.replicate m 0) s (by omega) (by rw [List.length_replicate]) (CellsAt.whole (by rw [List.map_replicate, List.toArray_replicate]; exact heap_alloc_new _ _)) (fun h => by cases h) (by rw [List.length_replicate]; omega)
    obtain ⟨k, hk⟩ : ∃ k, k = (seaB (List.replicate m 0) s).length := ⟨_, rfl⟩
    rw [← hk] at hl1 hse
    have HSE := Lib.hid hse
    have HK := Lib.hid hk
    have hkb : k ≤ 70000 := by omega
    clear hN hse hbad hl1 hl2 hk
    go_enter Try.func6, Try.ntmps6
    go_wp2_with fail
    (with_reducible refine HSE.out.mono ?_)
    rintro e w1 ⟨⟨v, x, hx, rfl, hown⟩, hF1⟩
    obtain ⟨A1, c1, rfl, hA1, hc1, hnil1, hbl1⟩ := ownsRow_read hown
    clear hown hA1 hc1 hnil1 hbl1 hx
    go_wp2_with fail
    go_ret
    exact ⟨by rw [HN.out, ← HK.out, show ((k : Int) + 55) / 56 = ((secN k : Nat) : Int) by unfold secN; omega]; rfl, ((Fr.refl _ _).alloc _).trans hF1⟩
end Go.Proofs.Ytdgnndomnmlmaaa

import Derived.Test.YthkcmafflbpfoaaLog6
namespace Go.Proofs.Ythkcmafflbpfoaa
open Go.RowKit
set_option linter.unusedVariables false
set_option linter.unusedSimpArgs false
set_option maxRecDepth 100000

/-! pack: Reader.Bytes(65536), whatever is left. -/
def bytE (l : List UInt8) (e : Int) : Int := if e = 0 then boundE l 65536 2 12 else e
def bytL (l : List UInt8) (e : Int) : List UInt8 := if bytE l e = 0 then (boundL l 65536 2 12).drop (boundN l 65536 2 12) else l
def bytD (l : List UInt8) (e : Int) : List UInt8 := if bytE l e = 0 then (boundL l 65536 2 12).take (boundN l 65536 2 12) else []
theorem bound_le {l : List UInt8} (h : boundE l 65536 2 12 = 0) : boundN l 65536 2 12 ≤ (boundL l 65536 2 12).length ∧ boundN l 65536 2 12 ≤ 65536 := by
  unfold boundN boundL
  rw [if_pos h, if_pos h, List.length_drop]
  unfold boundE at h
  split at h
  · omega
  · split at h
    · omega
    · split at h <;> omega
theorem bytE_ne {l : List UInt8} {e : Int} (he : e = 0 → boundE l 65536 2 12 ≠ 0) : bytE l e ≠ 0 := by
  unfold bytE
  split
  · rename_i h; exact he h
  · assumption
theorem ReaderAt.nilset {w : World} {p : Nat} {e : Int} (h : ReaderAt w p [] e) (A' : Option Addr) (c' : Nat) (hA' : A' = none → c' = 0) :
    Fr (fun i => i = p) w (w.setCell ⟨p, 0, none⟩ (.slice A' 0 c')) ∧ ReaderAt (w.setCell ⟨p, 0, none⟩ (.slice A' 0 c')) p [] e := by
  obtain ⟨⟨A, c, h1, h2, h3, h4, h5⟩, h6⟩ := h
  exact ⟨Fr.set w p 0 _, ⟨A', c', by rw [heap_setCell_same h1]; rfl, CellsAt.nil _ _, Nat.zero_le _, fun hn => ⟨rfl, hA' hn⟩, fun b _ hl => absurd hl (by simp)⟩, h6⟩
theorem off_zero {w : World} {p : Nat} (h : ReaderAt w p [] 0) :
    Calls Try.prog 52 #[ptr p, .int .i64 0] w fun en w' => (∃ A c, en = .returned (.slice A 0 c) ∧ (A = none → c = 0)) ∧ Fr (fun i => i = p) w w' ∧ ReaderAt w' p [] 0 := by
  have hset := fun A' c' hA' => h.nilset A' c' hA'
  obtain ⟨⟨A, c, hb, hA, hc, hnil, hap⟩, hmo⟩ := id h
  have c0 : w.cell? ⟨p, 0, none⟩ = some (.slice A 0 c) := by rw [cell_of_blk hb]; rfl
  have f0 := frozen_of_blk hb 0
  have HS := Lib.hid hset
  have hnil2 : A = none → c = 0 := fun h => (hnil h).2
  clear hset hb hA hnil hap
  cases A with
  | none =>
    obtain rfl := hnil2 rfl
    go_enter Try.func52, Try.ntmps52
    go_wp2_with fail
    (with_reducible refine (stuck_any h).mono ?_)
    rintro en w1 ⟨rfl, rfl⟩
    go_wp2_with fail
    go_ret
    exact ⟨⟨_, _, rfl, fun _ => rfl⟩, HS.out _ _ (fun _ => rfl)⟩
  | some a =>
    have q1 : (0 : Int) ≤ (c : Int) := by omega
    by_cases hc0 : c = 0
    · subst hc0
      go_enter Try.func52, Try.ntmps52
      go_wp2_with fail
      (with_reducible refine (stuck_any h).mono ?_)
      rintro en w1 ⟨rfl, rfl⟩
      go_wp2_with fail
      go_ret
      exact ⟨⟨_, _, rfl, fun _ => rfl⟩, HS.out _ _ (fun _ => rfl)⟩
    · go_enter Try.func52, Try.ntmps52
      go_wp2_with fail
      (with_reducible refine (stuck_any h).mono ?_)
      rintro en w1 ⟨rfl, rfl⟩
      go_wp2_with fail
      go_ret
      exact ⟨⟨_, _, rfl, fun h => by cases h⟩, HS.out _ _ (fun h => by cases h)⟩
structure RBytes (w : World) (p : Nat) (l : List UInt8) (e : Int) (en : Ending) (w' : World) : Prop where
  ret : ∃ v, en = .returned v ∧ w'.ownsRow w.heap.size 5 1 v (bytD l e).length ((bytD l e).map byteV)
  fr : Fr (fun i => i = p) w w'
  rd : ReaderAt w' p (bytL l e) (bytE l e)
set_option maxHeartbeats 1000000 in
theorem rbytes_any {w : World} {p : Nat} {l : List UInt8} {e : Int} (h : ReaderAt w p l e) :
    Calls Try.prog 34 #[ptr p, .int .i64 65536] w fun en w' => RBytes w p l e en w' := by
  by_cases he : e = 0
  · subst he
    have hB := bounded_any h 65536 2 12 (by omega) (by omega)
    have e2 : errV 2 = .iface 51 (.int .i64 2) := errV_n (by omega)
    have e12 : errV 12 = .iface 51 (.int .i64 12) := errV_n (by omega)
    rw [e2, e12, show ((65536 : Nat) : Int) = max 65536 0 from rfl] at hB
    have hpw : p < w.heap.size := by obtain ⟨⟨_, _, h0, _⟩, _⟩ := id h; exact blk_lt h0
    have HB := Lib.hid hB
    clear hB e2 e12
    by_cases hE : boundE l 65536 2 12 = 0
    · obtain ⟨b1, b2⟩ := bound_le hE
      have hbE : bytE l 0 = 0 := by unfold bytE; rw [if_pos rfl, hE]
      have hbD : bytD l 0 = (boundL l 65536 2 12).take (boundN l 65536 2 12) := by unfold bytD; rw [if_pos hbE]
      have hbL : bytL l 0 = (boundL l 65536 2 12).drop (boundN l 65536 2 12) := by unfold bytL; rw [if_pos hbE]
      obtain ⟨N, hN⟩ : ∃ N, N = boundN l 65536 2 12 := ⟨_, rfl⟩
      obtain ⟨R, hR⟩ : ∃ R, R = boundL l 65536 2 12 := ⟨_, rfl⟩
      rw [← hN, ← hR] at b1 hbD hbL
      rw [← hN] at b2
      have HB2 : Hid (Calls Try.prog 49 #[ptr p, .agg #[.int .u64 (max 65536 0), .iface 51 (.int .i64 2), .iface 51 (.int .i64 12)]] w fun en w' => en = .returned (.int .u64 (N : Nat)) ∧ Fr (fun i => i = p) w w' ∧ ReaderAt w' p R 0) := Lib.hid (by rw [hN, hR]; have := HB.out; rw [hE] at this; exact this)
      clear HB hN hR hE
      have HK := Lib.hid (And.intro hbE (And.intro hbD hbL))
      clear hbE hbD hbL
      have n0 : (N : Int) ≤ 65536 := by omega
      go_enter Try.func34, Try.ntmps34
      go_wp2_with fail
      (with_reducible refine (stuck_any h).mono ?_)
      rintro en w1 ⟨rfl, rfl⟩
      go_wp2_with fail
      (with_reducible refine HB2.out.mono ?_)
      rintro en w1 ⟨rfl, hF1, hR1⟩
      by_cases hR0 : R = []
      · subst hR0
        have hN0 : N = 0 := by simpa using b1
        subst hN0
        go_wp2_with fail
        (with_reducible refine (off_zero hR1).mono ?_)
        rintro en w2 ⟨⟨A, c, rfl, hnil⟩, hF2, hR2⟩
        go_wp2_with fail
        (with_reducible refine (clone_any w2 A 0 c [] rfl (CellsAt.nil _ _) (fun h => ⟨rfl, hnil h⟩) (by simp)).mono ?_)
        rintro en w3 ⟨⟨v, rfl, hown⟩, hF3⟩
        go_wp2_with fail
        go_ret
        obtain ⟨k1, k2, k3⟩ := HK.out
        refine ⟨⟨v, rfl, ?_⟩, (hF1.trans hF2).trans0 hF3, ?_⟩
        · rw [k2]; exact ownsRow_mono hown (hF1.trans hF2).size
        · rw [k1, k3]; exact hR2.fr0 hF3
      · have hRl : 0 < R.length := List.length_pos_iff.2 hR0
        clear hR0
        go_wp2_with fail
        (with_reducible refine (off_ok hR1 N b1 hRl).mono ?_)
        rintro en w2 ⟨⟨A, c, rfl, hA, hc, hnil, hap⟩, hF2, hR2⟩
        have htl : (R.take N).length = N := by rw [List.length_take]; omega
        go_wp2_with fail
        (with_reducible refine (clone_any w2 A N c (R.take N) htl.symm hA hnil (by omega)).mono ?_)
        rintro en w3 ⟨⟨v, rfl, hown⟩, hF3⟩
        go_wp2_with fail
        go_ret
        obtain ⟨k1, k2, k3⟩ := HK.out
        refine ⟨⟨v, rfl, ?_⟩, (hF1.trans hF2).trans0 hF3, ?_⟩
        · rw [k2]; exact ownsRow_mono hown (hF1.trans hF2).size
        · rw [k1, k3]; exact hR2.fr0 hF3
    · have hbE : bytE l 0 ≠ 0 := bytE_ne fun _ => hE
      have hbE2 : bytE l 0 = boundE l 65536 2 12 := by unfold bytE; rw [if_pos rfl]
      have hbD : bytD l 0 = [] := by unfold bytD; rw [if_neg hbE]
      have hbL : bytL l 0 = l := by unfold bytL; rw [if_neg hbE]
      have hN : boundN l 65536 2 12 = 0 := by unfold boundN; rw [if_neg hE]
      have hR : boundL l 65536 2 12 = l := by unfold boundL; rw [if_neg hE]
      have HB2 : Hid (Calls Try.prog 49 #[ptr p, .agg #[.int .u64 (max 65536 0), .iface 51 (.int .i64 2), .iface 51 (.int .i64 12)]] w fun en w' => en = .returned (.int .u64 0) ∧ Fr (fun i => i = p) w w' ∧ ReaderAt w' p l (bytE l 0)) := Lib.hid (by have := HB.out; rw [hN, hR, ← hbE2] at this; exact this)
      clear HB hN hR hE hbE2
      have HK := Lib.hid (And.intro hbD hbL)
      clear hbD hbL
      go_enter Try.func34, Try.ntmps34
      go_wp2_with fail
      (with_reducible refine (stuck_any h).mono ?_)
      rintro en w1 ⟨rfl, rfl⟩
      go_wp2_with fail
      (with_reducible refine HB2.out.mono ?_)
      rintro en w1 ⟨rfl, hF1, hR1⟩
      go_wp2_with fail
      (with_reducible refine (off_bad hR1 hbE 0).mono ?_)
      rintro en w2 ⟨rfl, rfl⟩
      go_wp2_with fail
      (with_reducible refine (clone_any w1 none 0 0 [] rfl (CellsAt.nil _ _) (fun _ => ⟨rfl, rfl⟩) (by simp)).mono ?_)
      rintro en w3 ⟨⟨v, rfl, hown⟩, hF3⟩
      go_wp2_with fail
      go_ret
      obtain ⟨k2, k3⟩ := HK.out
      refine ⟨⟨v, rfl, ?_⟩, hF1.trans0 hF3, ?_⟩
      · rw [k2]; exact ownsRow_mono hown hF1.size
      · rw [k3]; exact hR1.fr0 hF3
  · have hbE : bytE l e = e := by unfold bytE; rw [if_neg he]
    have hbD : bytD l e = [] := by unfold bytD; rw [hbE, if_neg he]
    have hbL : bytL l e = l := by unfold bytL; rw [hbE, if_neg he]
    refine (rbytes_bad h he).mono ?_
    rintro en w' ⟨⟨v, rfl, hown⟩, hF⟩
    exact ⟨⟨v, rfl, by rw [hbD]; exact hown⟩, Fr.of0 hF, by rw [hbL, hbE]; exact h.fr0 hF⟩
end Go.Proofs.Ythkcmafflbpfoaa

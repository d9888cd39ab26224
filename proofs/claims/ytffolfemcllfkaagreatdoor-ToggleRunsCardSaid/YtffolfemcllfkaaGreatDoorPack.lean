import Derived.Test.YtffolfemcllfkaaGreatDoorDevW
import Derived.Test.YtffolfemcllfkaaGreatDoorShelf
import Derived.Lib.ItoaNum
import Derived.Laws.Bits64b
namespace Go.Proofs.YtffolfemcllfkaaGreatDoor
open Go.RowKit
set_option linter.unusedVariables false
set_option linter.unusedSimpArgs false

/-! pack.Writer -/
theorem info_u8 : (Tryz.prog.info? 5).map (fun i => (i.zero, i.size, i.bytes)) = some (some (.int .u8 0), 1, 1) := by kernel_rfl
theorem bytes_oneCell (l : List UInt8) : ∀ u ∈ l.map byteV, u.oneCell' = true := by
  intro u hu; obtain ⟨x, _, rfl⟩ := List.mem_map.1 hu; rfl
structure WriterAt (w : World) (base p : Nat) (l : List UInt8) : Prop where
  blk : ∃ v, w.heap[p]? = some (.cells #[v] 192 (0, 0)) ∧ w.ownsRow base 5 1 v l.length (l.map byteV)
  le : base ≤ p
theorem own_ne {w : World} {base : Nat} {e T : TypeId} {size n : Nat} {v : Value} {xs : List Value} {p : Nat} {c : Array Value} (h : w.ownsRow base e size v n xs) (hp : w.heap[p]? = some (.cells c T (0, 0))) (hne : T ≠ e) : v.ownBlock ≠ some p := by
  intro he
  obtain ⟨_, h2⟩ := h
  rcases h2 with ⟨rfl, _⟩ | ⟨g, cap, cur, rfl, _, hg, _⟩
  · cases he
  · simp [Value.ownBlock] at he
    subst he
    rw [hg] at hp
    cases hp
    exact hne rfl
theorem WriterAt.fr {S : Nat → Prop} {w w' : World} {base p : Nat} {l : List UInt8} (h : WriterAt w base p l) (hf : Fr S w w') (hn : ∀ k, base ≤ k → ¬ S k) : WriterAt w' base p l := by
  obtain ⟨⟨v, hb, ho⟩, hle⟩ := h
  exact ⟨⟨v, hf.heap hb (hn p hle), ownsRow_fr ho hf (fun k hk => hn k (ownsRow_lt ho hk).1)⟩, hle⟩
theorem WriterAt.fr0 {w w' : World} {base p : Nat} {l : List UInt8} (h : WriterAt w base p l) (hf : Fr none_ w w') : WriterAt w' base p l := h.fr hf (fun _ _ h => h)
theorem wnew_any (w : World) : Calls Tryz.prog 58 #[] w fun e w' => e = .returned (ptr w.heap.size) ∧ Fr none_ w w' ∧ WriterAt w' w.heap.size w.heap.size [] := by
  go_enter Tryz.func58, Tryz.ntmps58
  go_wp2
  go_ret
  exact ⟨rfl, (Fr.refl _ _).alloc _, ⟨⟨_, heap_alloc_new _ _, World.ownsRow_nil _ _ _ _⟩, Nat.le_refl _⟩⟩
/-- Blocks that hold no bytes, but for the writer itself, stay. -/
def Kept (p : Nat) (w w' : World) : Prop := ∀ (b : Nat) (c : Array Value) (T : TypeId) (f : Nat × Nat), b ≠ p → T ≠ 5 → w.heap[b]? = some (.cells c T f) → w'.heap[b]? = some (.cells c T f)
theorem Kept.refl (p : Nat) (w : World) : Kept p w w := fun _ _ _ _ _ _ h => h
theorem Kept.trans {p : Nat} {a b c : World} (h : Kept p a b) (k : Kept p b c) : Kept p a c := fun x cs T f h1 h2 h3 => k x cs T f h1 h2 (h x cs T f h1 h2 h3)
theorem Kept.of0 {p : Nat} {a b : World} (h : Fr none_ a b) : Kept p a b := fun x cs T f _ _ h3 => h.heap h3 (fun h => h)
theorem Kept.grown {p : Nat} {w w' : World} {base : Nat} {size n : Nat} {v : Value} {xs : List Value} (ho : w.ownsRow base 5 size v n xs) (hg : w.grownBy w' v.ownBlock) : Kept p w w' := fun b c T f h1 h2 h3 =>
  (Fr.of_grown hg).heap h3 (fun e => by
    obtain ⟨_, h4⟩ := ho
    rcases h4 with ⟨rfl, _⟩ | ⟨g, cap, cur, rfl, _, hg2, _⟩
    · cases e
    · simp [Value.ownBlock] at e
      subst e
      rw [hg2] at h3
      cases h3
      exact h2 rfl)
theorem Kept.set {w : World} (p : Nat) (o : Nat) (v : Value) : Kept p w (w.setCell ⟨p, o, none⟩ v) := fun b c T f h1 h2 h3 => (Fr.set w p o v).heap h3 h1
set_option maxHeartbeats 400000 in
theorem raw_kept {w : World} {base p : Nat} {l : List UInt8} (h : WriterAt w base p l) (A : Option Addr) (n c : Nat) (bs : List UInt8) (hA : CellsAt w A (bs.map byteV)) (hn : n = bs.length) (hnil : A = none → n = 0 ∧ c = 0) (hm : l.length + bs.length ≤ 140737488355328) (hb : base ≤ w.heap.size) :
    Calls Tryz.prog 111 #[ptr p, .slice A n c] w fun e w' => e = .returned (ptr p) ∧ Fr (fun k => base ≤ k) w w' ∧ WriterAt w' base p (l ++ bs) ∧ Kept p w w' := by
  subst hn
  obtain ⟨⟨v, hp, ho⟩, hle⟩ := h
  have c0 : w.cell? ⟨p, 0, none⟩ = some v := by rw [cell_of_blk hp]; rfl
  have hne := own_ne ho hp (by decide)
  go_enter Tryz.func111, Tryz.ntmps111
  go_wp2_with ((with_reducible refine at_append (.tmp 11) (.tmp 12) 37 base 5 (.int .u8 0) 1 1 (v := v) (n := l.length) (xs := l.map byteV) (A := A) (m := bs.length) (c := c) (news := bs.map byteV) Tryz.underlying37 info_u8 ?_ ?_ ?_ ?_ ho hA hnil ?_ ?_ ?_ ?_ hb ?_); (focus rfl); (focus decide); (focus rfl); (focus rfl); (focus simp); (focus exact bytes_oneCell bs); (focus unfold maxLen; omega); (focus omega); intro v' w1 hown1 hg; obtain ⟨A1, cc1, rfl, hr1⟩ := ownsRow_read hown1; have hp1 := (Fr.of_grown hg).heap hp hne; have c1 : w1.cell? ⟨p, 0, none⟩ = some v := by {rw [cell_of_blk hp1]; rfl}; have f1 := frozen_of_blk hp1 0)
  go_ret
  have hs := Fr.set w1 p 0 (.slice A1 (l.length + bs.length) cc1)
  have hg1 : Fr (fun k => base ≤ k) w w1 := (Fr.of_grown hg).mono (fun k _ e => (ownsRow_lt ho e).1)
  refine ⟨rfl, hg1.trans' hs (fun k _ e => by subst e; exact hle), ⟨⟨_, by rw [heap_setCell_same hp1]; rfl, ?_⟩, hle⟩, (Kept.grown ho hg).trans (Kept.set p 0 _)⟩
  rw [List.length_append, List.map_append]
  exact ownsRow_fr hown1 hs (fun k hk e => own_ne hown1 hp1 (by decide) (e ▸ hk))
theorem raw_any {w : World} {base p : Nat} {l : List UInt8} (h : WriterAt w base p l) (A : Option Addr) (n c : Nat) (bs : List UInt8) (hA : CellsAt w A (bs.map byteV)) (hn : n = bs.length) (hnil : A = none → n = 0 ∧ c = 0) (hm : l.length + bs.length ≤ 140737488355328) (hb : base ≤ w.heap.size) :
    Calls Tryz.prog 111 #[ptr p, .slice A n c] w fun e w' => e = .returned (ptr p) ∧ Fr (fun k => base ≤ k) w w' ∧ WriterAt w' base p (l ++ bs) :=
  (raw_kept h A n c bs hA hn hnil hm hb).mono fun _ _ ⟨h1, h2, h3, _⟩ => ⟨h1, h2, h3⟩
def behindF (n : Nat) : Nat := if n < 128 then 0 else if n < 16384 then 1 else if n < 2097152 then 2 else if n < 268435456 then 3 else if n < 34359738368 then 4 else if n < 4398046511104 then 5 else if n < 562949953421312 then 6 else if n < 72057594037927936 then 7 else 8
theorem behindF_le (n : Nat) : behindF n ≤ 8 := by unfold behindF; (repeat' split) <;> omega
theorem bitLen_iff (n m : Nat) (hn : n < 2 ^ 64) (hm : m ≤ 64) : Lib.bitLen n ≤ m ↔ n < 2 ^ m := by
  constructor
  · intro h
    by_cases h0 : n = 0
    · subst h0; exact Nat.two_pow_pos m
    · have hb := (Go.Lib.bitLenAux_bounds 64 n hn h0).2.2
      exact Nat.lt_of_lt_of_le hb (Nat.pow_le_pow_right (by decide) h)
  · exact fun h => Lib.bitLen_le n m hm h
theorem behind_eq (n : Nat) (hn : n < 18446744073709551616) : min 8 ((max 1 (Lib.bitLen n) - 1) / 7) = behindF n := by
  have b1 := bitLen_iff n 7 hn (by decide)
  have b2 := bitLen_iff n 14 hn (by decide)
  have b3 := bitLen_iff n 21 hn (by decide)
  have b4 := bitLen_iff n 28 hn (by decide)
  have b5 := bitLen_iff n 35 hn (by decide)
  have b6 := bitLen_iff n 42 hn (by decide)
  have b7 := bitLen_iff n 49 hn (by decide)
  have b8 := bitLen_iff n 56 hn (by decide)
  generalize Lib.bitLen n = b at *
  unfold behindF
  (repeat' split) <;> omega
theorem behind_any (n : Nat) (w : World) (hn : n < 18446744073709551616) : Calls Tryz.prog 109 #[.int .u64 (n : Int)] w fun e w' => e = .returned (.int .i64 (behindF n : Nat)) ∧ w = w' := by
  go_enter Tryz.func109, Tryz.ntmps109
  go_wp2_with fail
  (with_reducible refine (Tryz.bits_Len64 _ _ (by omega) (by omega)).mono ?_)
  rintro e w' ⟨rfl, hw⟩
  have hw2 := hw.symm
  subst hw2
  have hbl : Lib.bitLen n ≤ 64 := (bitLen_iff n 64 hn (by decide)).2 hn
  have hbe := Lib.hid (behind_eq n hn)
  go_wp2_with fail
  go_ret
  refine ⟨?_, rfl⟩
  rw [← hbe.out]
  show Ending.returned (.int .i64 (min 8 ((max 1 (Lib.bitLen n : Int) - 1) / 7))) = _
  congr 2
  omega
theorem head_any (k : Nat) (w : World) (hk : k ≤ 8) : Calls Tryz.prog 110 #[.int .i64 (k : Int)] w fun e w' => e = .returned (.int .u8 ((256 - 2 ^ (8 - k) : Nat) : Int)) ∧ w = w' := by
  rcases (by omega : k = 0 ∨ k = 1 ∨ k = 2 ∨ k = 3 ∨ k = 4 ∨ k = 5 ∨ k = 6 ∨ k = 7 ∨ k = 8) with rfl | rfl | rfl | rfl | rfl | rfl | rfl | rfl | rfl
  all_goals
    go_enter Tryz.func110, Tryz.ntmps110
    go_wp2
    go_ret
    exact ⟨rfl, rfl⟩
theorem bits_or_u8_nat (a b : Nat) (ha : a < 256) (hb : b < 256) : bits .or .u8 (a : Int) (b : Int) = ((a ||| b : Nat) : Int) := by
  have hx : a ||| b < 2 ^ 8 := Nat.or_lt_two_pow (by omega) (by omega)
  have h1 : (BitVec.ofInt 8 (a : Int)).toNat = a := by
    rw [BitVec.ofInt_natCast, BitVec.toNat_ofNat]; exact Nat.mod_eq_of_lt (by omega)
  have h2 : (BitVec.ofInt 8 (b : Int)).toNat = b := by
    rw [BitVec.ofInt_natCast, BitVec.toNat_ofNat]; exact Nat.mod_eq_of_lt (by omega)
  show IntKind.u8.wrap ((BitVec.ofInt 8 (a : Int) ||| BitVec.ofInt 8 (b : Int)).toNat : Int) = _
  rw [BitVec.toNat_or, h1, h2, IntKind.wrap_u8]
  omega
theorem byteV_nat (x : Nat) (h : x < 256) : Value.int .u8 (x : Int) = byteV (UInt8.ofNat x) := by
  unfold byteV; congr 1; simp [Nat.mod_eq_of_lt h]
theorem byteV_mod (x : Nat) : Value.int .u8 ((x : Int) % 256) = byteV (UInt8.ofNat x) := by
  unfold byteV; simp
def headN (k : Nat) : Nat := 256 - 2 ^ (8 - k)
/-- the first byte, and those behind it -/
def firstN (n : Nat) : Nat := if behindF n < 8 then headN (behindF n) ||| (n / 2 ^ (8 * behindF n) % 256) else 255
def restB (n k i : Nat) : UInt8 := UInt8.ofNat (n / 2 ^ (8 * (k - 1 - i)))
def encF (n : Nat) : List UInt8 := UInt8.ofNat (firstN n) :: (List.range (behindF n)).map (restB n (behindF n))
theorem encF_len (n : Nat) : (encF n).length = behindF n + 1 := by simp [encF]
set_option maxHeartbeats 1000000 in
theorem wuint_kept {w : World} {base p : Nat} {l : List UInt8} (h : WriterAt w base p l) (n : Nat) (hn : n < 18446744073709551616) (hm : l.length ≤ 140737488351232) (hb : base ≤ w.heap.size) :
    Calls Tryz.prog 59 #[ptr p, .int .u64 (n : Int)] w fun e w' => e = .returned (ptr p) ∧ Fr (fun k => base ≤ k) w w' ∧ WriterAt w' base p (l ++ encF n) ∧ Kept p w w' := by
  have hk := behindF_le n
  go_enter Tryz.func59, Tryz.ntmps59
  go_wp2_with fail
  (with_reducible refine (behind_any _ _ hn).mono ?_)
  rintro e w' ⟨rfl, rfl⟩
  obtain ⟨k, hkk⟩ : ∃ k, k = behindF n := ⟨_, rfl⟩
  rw [← hkk] at hk ⊢
  have HK := Lib.hid hkk
  clear hkk
  go_wp2_with fail
  (with_reducible refine (head_any k _ hk).mono ?_)
  rintro e w' ⟨rfl, rfl⟩
  have hhd : (256 - 2 ^ (8 - k) : Nat) ≤ 255 := by have := Nat.two_pow_pos (8 - k); omega
  have hfirst : (if k < 8 then Value.int .u8 (bits BinOp.or .u8 ((256 - 2 ^ (8 - k) : Nat) : Int) ((n : Int) / 2 ^ (8 * k) % 256)) else Value.int .u8 ((256 - 2 ^ (8 - k) : Nat) : Int)) = byteV (UInt8.ofNat (firstN n)) := by
    unfold firstN headN
    rw [← HK.out]
    by_cases h8 : k < 8
    · rw [if_pos h8, if_pos h8]
      have e : ((n : Int) / 2 ^ (8 * k) % 256) = ((n / 2 ^ (8 * k) % 256 : Nat) : Int) := by rw [Int.natCast_emod, Int.natCast_ediv, Int.natCast_pow]; rfl
      rw [e, bits_or_u8_nat _ _ (by omega) (by omega)]
      exact byteV_nat _ (Nat.or_lt_two_pow (n := 8) (by omega) (by omega))
    · rw [if_neg h8, if_neg h8]
      have : k = 8 := by omega
      subst this
      rfl
  have HFI := Lib.hid hfirst
  clear hfirst
  have hloop : ∀ (wa : World) (g : Value), WriterAt wa base p (l ++ [UInt8.ofNat (firstN n)]) → True := fun _ _ _ => trivial
  clear hloop
  by_cases h8 : k < 8
  all_goals
    have hfi := HFI.out
    first | rw [if_pos h8] at hfi | rw [if_neg h8] at hfi
    have hone := CellsAt.one w (byteV (UInt8.ofNat (firstN n))) 5
    have hone : CellsAt (w.alloc (.cells #[byteV (UInt8.ofNat (firstN n))] 5)) (some ⟨w.heap.size, 0, none⟩) ([UInt8.ofNat (firstN n)].map byteV) := hone
    rw [← hfi] at hone
    have HFI2 := Lib.hid hfi
    clear hfi
    go_wp2_with fail
    (with_reducible refine (raw_kept (h.fr0 ((Fr.refl _ _).alloc _)) _ 1 1 [UInt8.ofNat (firstN n)] hone rfl (fun h => by cases h) (by simp only [List.length_cons, List.length_nil]; omega) (by simp only [World.size_alloc]; omega)).mono ?_)
    rintro e w1 ⟨rfl, hF1, hW1, hK1⟩
    have hK01 : Kept p w w1 := (Kept.of0 ((Fr.refl _ _).alloc _)).trans hK1
    have hF01 : Fr (fun k => base ≤ k) w w1 := ((Fr.refl _ _).alloc _).trans hF1
    go_wp2_with fail
    go_loopw [26] (fun i wr => ∃ j : Nat, j ≤ k ∧ i = .int .i64 j ∧ Fr (fun k => base ≤ k) w wr ∧ Kept p w wr ∧ WriterAt wr base p (l ++ UInt8.ofNat (firstN n) :: (List.range j).map (restB n k))) (fun i _ => k - (intOf i).toNat)
    case atStart => exact ⟨0, by omega, rfl, hF01, hK01, by simpa using hW1⟩
    case round =>
      obtain ⟨j, hj, rfl, hF, hKp, hW⟩ := hrel
      by_cases hjk : j < k
      · have hrv : Value.int .u8 ((n : Int) / 2 ^ (8 * (k - 1 - j)) % 256) = byteV (restB n k j) := by
          unfold restB
          rw [← byteV_mod, Int.natCast_ediv, Int.natCast_pow]
          rfl
        have hro := CellsAt.one wr (byteV (restB n k j)) 5
        have hro : CellsAt (wr.alloc (.cells #[byteV (restB n k j)] 5)) (some ⟨wr.heap.size, 0, none⟩) ([restB n k j].map byteV) := hro
        rw [← hrv] at hro
        have HRV := Lib.hid hrv
        clear hrv
        have hsz := hF.size
        go_wp2_with fail
        (with_reducible refine (raw_kept (hW.fr0 ((Fr.refl _ _).alloc _)) _ 1 1 [restB n k j] hro rfl (fun h => by cases h) (by simp only [List.length_cons, List.length_nil, List.length_append, List.length_map, List.length_range]; omega) (by simp only [World.size_alloc]; omega)).mono ?_)
        rintro e w2 ⟨rfl, hF2, hW2, hK2⟩
        go_wp2_with fail
        go_roundw
        case rel =>
          refine ⟨j + 1, by omega, by go_num, hF.trans' (((Fr.refl _ _).alloc _).trans hF2) (fun _ _ h => h), (hKp.trans (Kept.of0 ((Fr.refl _ _).alloc _))).trans hK2, ?_⟩
          rw [List.range_succ, List.map_append]
          simpa using hW2
        case measure => simp [intOf]; omega
      · have hjk2 : j = k := by omega
        subst hjk2
        go_wp2_with fail
        go_ret
        refine ⟨rfl, hF, ?_, hKp⟩
        unfold encF
        rw [← HK.out]
        exact hW
theorem wuint_any {w : World} {base p : Nat} {l : List UInt8} (h : WriterAt w base p l) (n : Nat) (hn : n < 18446744073709551616) (hm : l.length ≤ 140737488351232) (hb : base ≤ w.heap.size) :
    Calls Tryz.prog 59 #[ptr p, .int .u64 (n : Int)] w fun e w' => e = .returned (ptr p) ∧ Fr (fun k => base ≤ k) w w' ∧ WriterAt w' base p (l ++ encF n) :=
  (wuint_kept h n hn hm hb).mono fun _ _ ⟨h1, h2, h3, _⟩ => ⟨h1, h2, h3⟩
end Go.Proofs.YtffolfemcllfkaaGreatDoor

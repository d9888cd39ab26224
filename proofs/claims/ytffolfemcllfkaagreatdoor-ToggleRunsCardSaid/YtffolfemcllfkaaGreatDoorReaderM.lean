import Derived.Test.YtffolfemcllfkaaGreatDoorPack
import Derived.Lib.SliceRun
import Derived.Deep.RegionHeld3
namespace Go.Proofs.YtffolfemcllfkaaGreatDoor
open Go.RowKit
set_option linter.unusedVariables false
set_option linter.unusedSimpArgs false

/-! slices.Clone of bytes, pack.Writer.Done, pack.Reader. -/
theorem run_eql_nilS (w : World) (a : Option Addr) (n c : Nat) : (binOp .eql 37 (.slice a n c) (.slice none 0 0)).run Tryz.prog w = .ok (.bool a.isNone) w := Lib.run_eql_slice_nil w 37 5 a n c 0 0 Tryz.underlying37
structure Cloned (w : World) (l : List UInt8) (e : Ending) (w' : World) : Prop where
  ret : ∃ v, e = .returned v ∧ w'.ownsRow w.heap.size 5 1 v l.length (l.map byteV)
  fr : Fr none_ w w'
theorem clone_any (w : World) (A : Option Addr) (n c : Nat) (l : List UInt8) (hn : n = l.length) (hA : CellsAt w A (l.map byteV)) (hnil : A = none → n = 0 ∧ c = 0) (hm : l.length ≤ 140737488355328) :
    Calls Tryz.prog 112 #[.slice A n c] w fun e w' => Cloned w l e w' := by
  subst hn
  cases A with
  | none =>
    obtain ⟨h0, rfl⟩ := hnil rfl
    have : l = [] := List.length_eq_zero_iff.1 h0
    subst this
    have keq := run_eql_nilS w none 0 0
    go_enter Tryz.func112, Tryz.ntmps112
    go_wp2_with fail
    go_ret
    refine Cloned.mk (l := []) ⟨.slice none 0 0, rfl, ?_⟩ (Fr.refl _ _)
    exact World.ownsRow_nil _ _ _ _
  | some a =>
    have hl0 : (w.alloc (.cells #[] 5)).ownsRow w.heap.size 5 1 (.slice (some ⟨w.heap.size, 0, none⟩) 0 0) 0 [] := ownsRow_lit (w := w) (base := w.heap.size) 5 1 0 [] (Nat.le_refl _) (by decide) rfl
    have hA1 := hA.alloc (.cells #[] 5)
    have keq := run_eql_nilS w (some a) l.length c
    go_enter Tryz.func112, Tryz.ntmps112
    go_wp2_with ((with_reducible refine at_append (.tmp 5) (.tmp 6) 37 w.heap.size 5 (.int .u8 0) 1 1 (v := .slice (some ⟨w.heap.size, 0, none⟩) 0 0) (n := 0) (xs := []) (A := some a) (m := l.length) (c := c) (news := l.map byteV) Tryz.underlying37 info_u8 ?_ ?_ ?_ ?_ hl0 hA1 hnil ?_ ?_ ?_ ?_ ?_ ?_); (focus rfl); (focus decide); (focus rfl); (focus rfl); (focus simp); (focus exact bytes_oneCell l); (focus unfold maxLen; omega); (focus omega); (focus simp); intro v' w1 hown1 hg)
    go_ret
    refine Cloned.mk ⟨v', rfl, ?_⟩ (Fr.grown ((Fr.refl _ _).alloc _) hg hl0 (Nat.le_refl _))
    rw [Nat.zero_add, List.nil_append] at hown1
    exact hown1
theorem wdone_any {w : World} {base p : Nat} {l : List UInt8} (h : WriterAt w base p l) (hm : l.length ≤ 140737488351232) :
    Calls Tryz.prog 61 #[ptr p] w fun e w' => Cloned w l e w' := by
  obtain ⟨⟨v, hp, ho⟩, hle⟩ := h
  obtain ⟨A, c, rfl, hA, hc, hnil, hb⟩ := ownsRow_read ho
  have c0 : w.cell? ⟨p, 0, none⟩ = some (.slice A l.length c) := by rw [cell_of_blk hp]; rfl
  go_enter Tryz.func61, Tryz.ntmps61
  go_wp2_with fail
  (with_reducible refine (clone_any w A _ c l rfl hA hnil (by omega)).mono ?_)
  rintro e w1 ⟨⟨v, rfl, hown⟩, hF⟩
  go_wp2_with fail
  go_ret
  exact ⟨⟨v, rfl, hown⟩, hF⟩
/-- A reader: what is left, and its error. -/
structure ReaderAt (w : World) (p : Nat) (l : List UInt8) (e : Int) : Prop where
  blk : ∃ A c, w.heap[p]? = some (.cells #[.slice A l.length c, errV e] 218 (0, 0)) ∧ CellsAt w A (l.map byteV) ∧ l.length ≤ c ∧ (A = none → l.length = 0 ∧ c = 0) ∧ (∀ b, blkOf A b → 0 < l.length → b ≠ p)
  most : l.length ≤ 140737488351232
theorem ReaderAt.fr {S : Nat → Prop} {w w' : World} {p : Nat} {l : List UInt8} {e : Int} (h : ReaderAt w p l e) (hf : Fr S w w') (hn : ¬ S p) (hn2 : ∀ A c b, w.heap[p]? = some (.cells #[.slice A l.length c, errV e] 218 (0, 0)) → blkOf A b → 0 < l.length → ¬ S b) : ReaderAt w' p l e := by
  obtain ⟨⟨A, c, h1, h2, h3, h4, h5⟩, h6⟩ := h
  exact ⟨⟨A, c, hf.heap h1 hn, h2.frp hf (fun b hb hl => hn2 A c b h1 hb (by simpa using hl)), h3, h4, h5⟩, h6⟩
theorem ReaderAt.fr0 {w w' : World} {p : Nat} {l : List UInt8} {e : Int} (h : ReaderAt w p l e) (hf : Fr none_ w w') : ReaderAt w' p l e := h.fr hf (fun h => h) (fun _ _ _ _ _ _ h => h)
theorem rread_any (w : World) (A : Option Addr) (n c : Nat) (l : List UInt8) (hn : n = l.length) (hA : CellsAt w A (l.map byteV)) (hnil : A = none → l.length = 0 ∧ c = 0) (hc : n ≤ c) (hm : l.length ≤ 140737488351232) :
    Calls Tryz.prog 70 #[.slice A n c] w fun e w' => e = .returned (ptr w.heap.size) ∧ Fr none_ w w' ∧ ReaderAt w' w.heap.size l 0 := by
  subst hn
  go_enter Tryz.func70, Tryz.ntmps70
  go_wp2_with fail
  go_ret
  refine ⟨rfl, (Fr.refl _ _).alloc _, ⟨⟨A, c, heap_alloc_new _ _, hA.alloc _, hc, hnil, fun b hb hl => ?_⟩, hm⟩⟩
  have := hA.lt hb (by simpa using hl)
  omega
theorem stuck_any {w : World} {p : Nat} {l : List UInt8} {e : Int} (h : ReaderAt w p l e) : Calls Tryz.prog 156 #[ptr p] w fun en w' => en = .returned (.bool (decide (e ≠ 0))) ∧ w = w' := by
  obtain ⟨⟨A, c, hb, _⟩, _⟩ := h
  by_cases he : e = 0
  · have c1 : w.cell? ⟨p, 1, none⟩ = some .nilIface := by rw [cell_of_blk hb, he]; rfl
    go_enter Tryz.func156, Tryz.ntmps156
    go_wp2_with fail
    go_ret
    exact ⟨by simp [he], rfl⟩
  · have c1 : w.cell? ⟨p, 1, none⟩ = some (.iface 106 (.int .i64 e)) := by rw [cell_of_blk hb, errV_n he]; rfl
    go_enter Tryz.func156, Tryz.ntmps156
    go_wp2_with fail
    go_ret
    exact ⟨by simp [he], rfl⟩
theorem rerr_any {w : World} {p : Nat} {l : List UInt8} {e : Int} (h : ReaderAt w p l e) : Calls Tryz.prog 105 #[ptr p] w fun en w' => en = .returned (errV e) ∧ w = w' := by
  obtain ⟨⟨A, c, hb, _⟩, _⟩ := h
  have c1 : w.cell? ⟨p, 1, none⟩ = some (errV e) := by rw [cell_of_blk hb]; rfl
  go_enter Tryz.func105, Tryz.ntmps105
  go_wp2_with fail
  go_ret
  exact ⟨rfl, rfl⟩
end Go.Proofs.YtffolfemcllfkaaGreatDoor
namespace Go.Proofs.YtffolfemcllfkaaGreatDoor
open Go.RowKit
set_option linter.unusedVariables false
set_option linter.unusedSimpArgs false
/-- how many bits 1 a byte begins with -/
def leadF (x : UInt8) : Nat := 8 - Lib.bitLen (255 - x.toNat)
def foldN (n0 : Nat) (l : List UInt8) : Nat := l.foldl (fun n c => n * 256 % 18446744073709551616 ||| c.toNat) n0
def firstB (x : UInt8) : Nat := x.toNat % 2 ^ (8 - leadF x)
def numberF (l : List UInt8) : Nat × Nat × Int :=
  match l with
  | [] => (0, 0, 12)
  | x :: r => if r.length < leadF x then (0, 0, 12) else if behindF (foldN (firstB x) (r.take (leadF x))) = leadF x then (foldN (firstB x) (r.take (leadF x)), leadF x + 1, 0) else (0, 0, 3)
theorem not_u8 (x : Nat) (hx : x < 256) : bits BinOp.xor IntKind.u8 IntKind.u8.max (x : Int) = ((255 - x : Nat) : Int) := by
  have h : ∀ y : Fin 256, bits BinOp.xor IntKind.u8 IntKind.u8.max ((y.val : Nat) : Int) = ((255 - y.val : Nat) : Int) := by decide +kernel
  exact h ⟨x, hx⟩
theorem andnot_u8 (x k : Nat) (hx : x < 256) (hk : k ≤ 8) : IntKind.u64.wrap (bits BinOp.andNot IntKind.u8 (x : Int) ((256 - 2 ^ (8 - k) : Nat) : Int)) = ((x % 2 ^ (8 - k) : Nat) : Int) := by
  have h : ∀ y : Fin 256, ∀ j : Fin 9, IntKind.u64.wrap (bits BinOp.andNot IntKind.u8 ((y.val : Nat) : Int) ((256 - 2 ^ (8 - j.val) : Nat) : Int)) = ((y.val % 2 ^ (8 - j.val) : Nat) : Int) := by decide +kernel
  exact h ⟨x, hx⟩ ⟨k, by omega⟩
theorem foldN_lt (n0 : Nat) (h : n0 < 18446744073709551616) (l : List UInt8) : foldN n0 l < 18446744073709551616 := by
  unfold foldN
  induction l generalizing n0 with
  | nil => exact h
  | cons y l ih =>
    simp only [List.foldl_cons]
    apply ih
    have : y.toNat < 256 := UInt8.toNat_lt y
    exact Nat.or_lt_two_pow (n := 64) (by omega) (by omega)
theorem firstB_lt (x : UInt8) : firstB x < 18446744073709551616 := by
  have hx : x.toNat < 256 := UInt8.toNat_lt x
  unfold firstB
  exact Nat.lt_of_le_of_lt (Nat.mod_le _ _) (by omega)
theorem foldN_step (n0 : Nat) (l : List UInt8) (j : Nat) (h : j < l.length) : foldN n0 (l.take (j + 1)) = foldN n0 (l.take j) * 256 % 18446744073709551616 ||| l[j].toNat := by
  unfold foldN
  rw [List.take_succ_eq_append_getElem h, List.foldl_append]
  rfl
theorem bits_or_u64_nat (a b : Nat) (ha : a < 18446744073709551616) (hb : b < 18446744073709551616) : bits .or .u64 (a : Int) (b : Int) = ((a ||| b : Nat) : Int) := by
  have hx : a ||| b < 2 ^ 64 := Nat.or_lt_two_pow (by omega) (by omega)
  have h1 : (BitVec.ofInt 64 (a : Int)).toNat = a := by
    rw [BitVec.ofInt_natCast, BitVec.toNat_ofNat]; exact Nat.mod_eq_of_lt (by omega)
  have h2 : (BitVec.ofInt 64 (b : Int)).toNat = b := by
    rw [BitVec.ofInt_natCast, BitVec.toNat_ofNat]; exact Nat.mod_eq_of_lt (by omega)
  show IntKind.u64.wrap ((BitVec.ofInt 64 (a : Int) ||| BitVec.ofInt 64 (b : Int)).toNat : Int) = _
  rw [BitVec.toNat_or, h1, h2, IntKind.wrap_u64]
  omega
theorem or_step (n : Nat) (y : UInt8) : Value.int .u64 (bits BinOp.or IntKind.u64 (IntKind.u64.wrap ((n : Int) * 256)) (IntKind.u64.wrap (y.toNat : Int))) = Value.int .u64 ((n * 256 % 18446744073709551616 ||| y.toNat : Nat) : Int) := by
  have hy : y.toNat < 256 := UInt8.toNat_lt y
  have h1 : IntKind.u64.wrap ((n : Int) * 256) = ((n * 256 % 18446744073709551616 : Nat) : Int) := by rw [IntKind.wrap_u64]; omega
  have h2 : IntKind.u64.wrap (y.toNat : Int) = (y.toNat : Int) := by rw [IntKind.wrap_u64]; omega
  rw [h1, h2, bits_or_u64_nat _ _ (by omega) (by omega)]
theorem leadF_le (x : UInt8) : leadF x ≤ 8 := by unfold leadF; omega
theorem lead_int (x : UInt8) : (8 : Int) - (Lib.bitLen (255 - x.toNat) : Int) = (leadF x : Nat) := by
  have hx : x.toNat < 256 := UInt8.toNat_lt x
  have : Lib.bitLen (255 - x.toNat) ≤ 8 := (bitLen_iff (255 - x.toNat) 8 (by omega) (by omega)).2 (by omega)
  unfold leadF; omega
theorem numberF_cons (x : UInt8) (r : List UInt8) : numberF (x :: r) = if r.length < leadF x then (0, 0, 12) else if behindF (foldN (firstB x) (r.take (leadF x))) = leadF x then (foldN (firstB x) (r.take (leadF x)), leadF x + 1, 0) else (0, 0, 3) := rfl
def numV (t : Nat × Nat × Int) : Value := .tuple #[.int .u64 (t.1 : Int), .int .i64 (t.2.1 : Int), errV t.2.2]
set_option maxHeartbeats 1000000 in
theorem number_any (w : World) (A : Option Addr) (n c : Nat) (l : List UInt8) (hn : n = l.length) (hA : CellsAt w A (l.map byteV)) (hc : n ≤ c) (hm : l.length ≤ 140737488351232) :
    Calls Tryz.prog 168 #[.slice A n c] w fun e w' => e = .returned (numV (numberF l)) ∧ Fr none_ w w' := by
  subst hn
  cases l with
  | nil =>
    go_enter Tryz.func168, Tryz.ntmps168
    go_wp2_with fail
    go_wp2_with fail
    exact bodyPost_ret (v := numV (numberF [])) (by simp [results, Tryz.results168, go_sem]; rfl) rfl ⟨rfl, Fr.refl _ _⟩
  | cons x r =>
    obtain ⟨b, o, rfl, hc0⟩ := hA 0 (by simp)
    have hc0 : w.cell? ⟨b, o, none⟩ = some (.int .u8 (x.toNat : Int)) := hc0
    have hx : x.toNat < 256 := UInt8.toNat_lt x
    obtain ⟨T, hT⟩ : ∃ T, T = numberF (x :: r) := ⟨_, rfl⟩
    rw [← hT]
    have HT := Lib.hid (hT.trans (numberF_cons x r))
    clear hT
    simp only [List.length_cons] at hc hm
    rw [List.length_cons]
    have hlen : (0 : Int) < ((r.length + 1 : Nat) : Int) := by omega
    have hlen0 : ¬ ((r.length + 1 : Nat) : Int) = 0 := by omega
    go_enter Tryz.func168, Tryz.ntmps168
    go_wp2_with fail
    rw [not_u8 x.toNat hx]
    (with_reducible refine (Tryz.bits_LeadingZeros8 _ _ (by omega) (by omega)).mono ?_)
    rintro e w1 ⟨rfl, hw⟩
    have hw2 := hw.symm
    subst hw2
    rw [Int.toNat_natCast, lead_int]
    have hk8 := leadF_le x
    obtain ⟨k, hk⟩ : ∃ k, k = leadF x := ⟨_, rfl⟩
    have HK := Lib.hid hk
    rw [← hk] at hk8 ⊢
    clear hk
    by_cases hlk : r.length < k
    · have hlk2 : (r.length : Int) + 1 ≤ (k : Int) := by omega
      go_wp2_with fail
      have hres : T = (0, 0, 12) := by rw [HT.out, ← HK.out, if_pos hlk]
      rw [hres]
      exact bodyPost_ret (v := numV (0, 0, 12)) (by simp [results, Tryz.results168, go_sem]; rfl) rfl ⟨rfl, Fr.refl _ _⟩
    · have hlk2 : ¬ (r.length : Int) + 1 ≤ (k : Int) := by omega
      have hT2 : T = if behindF (foldN (firstB x) (r.take k)) = k then (foldN (firstB x) (r.take k), k + 1, 0) else (0, 0, 3) := by rw [HT.out, ← HK.out, if_neg hlk]
      have HT2 := Lib.hid hT2
      clear hT2 HT
      go_wp2_with fail
      have hcd : w.drew.cell? ⟨b, o, none⟩ = some (.int .u8 (x.toNat : Int)) := hc0
      go_region_held3 (fun w' => w'.cell? ⟨b, o, none⟩ = some (.int .u8 (x.toNat : Int))) (exact hcd) (first | (go_at_call 110; (with_reducible refine (head_any k _ hk8).mono ?_); rintro e w1 ⟨rfl, hw1⟩; have hw2 := hw1.symm; subst hw2))
      rw [andnot_u8 x.toNat k hx hk8]
      have hfb : firstB x = x.toNat % 2 ^ (8 - k) := by unfold firstB; rw [← HK.out]
      rw [← hfb]
      have HF := Lib.hid hfb
      have hA2 : CellsAt w.drew (some ⟨b, o, none⟩) ((x :: r).map byteV) := hA
      have q1 : (1 : Int) ≤ (k : Int) + 1 := by omega
      have q2 : (k : Int) + 1 ≤ (c : Int) := by omega
      clear hfb
      have hcs : ∀ j (hj : j < r.length), w.drew.cell? ⟨b, o + 1 + j, none⟩ = some (.int .u8 (r[j].toNat : Int)) := fun j hj => by
        have h := hA2.get (j + 1) (by simp; omega)
        rw [show o + 1 + j = o + (j + 1) by omega, h]
        simp [byteV]
      have HCS := Lib.hid hcs
      clear hcs hA2 hA
      obtain hc1 | hc1 : c = 1 ∨ ¬ c = 1 := by omega
      all_goals
        go_wp2_with fail
        go_loopw [6, 35] (fun v i wr => ∃ j : Nat, j ≤ k ∧ i = .int .i64 j ∧ v = .int .u64 (foldN (firstB x) (r.take j) : Nat) ∧ wr = w.drew) (fun _ i _ => k - (intOf i).toNat)
        case atStart => exact ⟨0, by omega, rfl, rfl, rfl⟩
        case round =>
          obtain ⟨j, hj, rfl, rfl, rfl⟩ := hrel
          by_cases hlt : j < k
          · have hcj := HCS.out j (by omega)
            go_wp2_with fail
            all_goals
              go_roundw
              case rel =>
                refine ⟨j + 1, by omega, by go_num, ?_, by simp⟩
                rw [foldN_step _ _ _ (by omega)]
                exact or_step _ _
              case measure => simp [intOf]; omega
          · have hjk : j = k := by omega
            subst hjk
            go_wp2_with fail
            (with_reducible refine (behind_any _ _ (foldN_lt _ (firstB_lt x) _)).mono ?_)
            rintro e w1 ⟨rfl, rfl⟩
            by_cases hbk : behindF (foldN (firstB x) (r.take j)) = j
            · have hres : T = (foldN (firstB x) (r.take j), j + 1, 0) := by rw [HT2.out, if_pos hbk]
              go_wp2_with fail
              exact bodyPost_ret (v := numV T) (by rw [hres]; simp [results, Tryz.results168, go_sem]; rfl) rfl ⟨rfl, (Fr.refl _ _).drew⟩
            · have hres : T = (0, 0, 3) := by rw [HT2.out, if_neg hbk]
              have hbk2 : ¬ ((behindF (foldN (firstB x) (r.take j)) : Nat) : Int) = (j : Int) := by omega
              go_wp2_with fail
              exact bodyPost_ret (v := numV T) (by rw [hres]; simp [results, Tryz.results168, go_sem]; rfl) rfl ⟨rfl, (Fr.refl _ _).drew⟩
end Go.Proofs.YtffolfemcllfkaaGreatDoor
namespace Go.Proofs.YtffolfemcllfkaaGreatDoor
open Go.RowKit
set_option linter.unusedVariables false
set_option linter.unusedSimpArgs false
theorem numberF_k {l : List UInt8} {n k : Nat} (h : numberF l = (n, k, 0)) : 1 ≤ k ∧ k ≤ l.length := by
  cases l with
  | nil => simp [numberF] at h
  | cons x r =>
    rw [numberF_cons] at h
    split at h
    · simp at h
    · split at h
      · simp only [Prod.mk.injEq] at h
        simp only [List.length_cons]
        omega
      · simp at h
theorem numberF_n (l : List UInt8) : (numberF l).1 < 18446744073709551616 := by
  cases l with
  | nil => simp [numberF]
  | cons x r =>
    rw [numberF_cons]
    split
    · simp
    · split
      · exact foldN_lt _ (firstB_lt x) _
      · simp
/-- the error behind a bounded number: 0 if it is taken -/
def boundE (l : List UInt8) (most : Nat) (above left : Int) : Int :=
  if (numberF l).2.2 ≠ 0 then (numberF l).2.2 else if most < (numberF l).1 then above else if l.length - (numberF l).2.1 < (numberF l).1 then left else 0
def boundN (l : List UInt8) (most : Nat) (above left : Int) : Nat := if boundE l most above left = 0 then (numberF l).1 else 0
def boundL (l : List UInt8) (most : Nat) (above left : Int) : List UInt8 := if boundE l most above left = 0 then l.drop (numberF l).2.1 else l
theorem ReaderAt.bad {w : World} {p : Nat} {l : List UInt8} {e : Int} (h : ReaderAt w p l e) (e' : Int) : Fr (fun i => i = p) w (w.setCell ⟨p, 1, none⟩ (errV e')) ∧ ReaderAt (w.setCell ⟨p, 1, none⟩ (errV e')) p l e' := by
  obtain ⟨⟨A, c, h1, h2, h3, h4, h5⟩, h6⟩ := h
  have hf := Fr.set w p 1 (errV e')
  exact ⟨hf, ⟨A, c, by rw [heap_setCell_same h1]; rfl, h2.frp hf (fun b hb hl e => h5 b hb (by simpa using hl) e), h3, h4, h5⟩, h6⟩
/-- k bytes are taken off. -/
theorem ReaderAt.skip {w : World} {p : Nat} {l : List UInt8} {e : Int} {b o c : Nat} (h1 : w.heap[p]? = some (.cells #[.slice (some ⟨b, o, none⟩) l.length c, errV e] 218 (0, 0))) (h2 : CellsAt w (some ⟨b, o, none⟩) (l.map byteV)) (h3 : l.length ≤ c) (h5 : 0 < l.length → b ≠ p) (h6 : l.length ≤ 140737488351232) (k : Nat) (hk : k ≤ l.length) (A' : Option Addr) (hA' : A' = some ⟨b, o + k, none⟩ ∨ (k = l.length ∧ A' = some ⟨b, o, none⟩)) :
    Fr (fun i => i = p) w (w.setCell ⟨p, 0, none⟩ (.slice A' (l.length - k) (c - k))) ∧ ReaderAt (w.setCell ⟨p, 0, none⟩ (.slice A' (l.length - k) (c - k))) p (l.drop k) e := by
  have hf := Fr.set w p 0 (.slice A' (l.length - k) (c - k))
  refine ⟨hf, ⟨A', c - k, by rw [heap_setCell_same h1, List.length_drop]; rfl, ?_, by rw [List.length_drop]; omega, fun hn => ?_, fun x hx hl => ?_⟩, by rw [List.length_drop]; omega⟩
  · rcases hA' with rfl | ⟨rfl, rfl⟩
    · have h7 := h2.frp hf (fun x hx hl e => by have := blkOf_some hx; subst this; exact h5 (by simpa using hl) e)
      have h8 := h7.sub k (l.length - k) (by simp; omega)
      have e1 : ((l.map byteV).drop k).take (l.length - k) = (l.drop k).map byteV := by rw [← List.map_drop, List.take_of_length_le (by simp)]
      rw [e1] at h8
      exact h8
    · rw [List.drop_length]; exact CellsAt.nil _ _
  · rcases hA' with rfl | ⟨_, rfl⟩ <;> cases hn
  · rw [List.length_drop] at hl
    rcases hA' with rfl | ⟨hkl, rfl⟩
    · have := blkOf_some hx; subst this; exact h5 (by omega)
    · omega
set_option maxHeartbeats 1000000 in
set_option maxRecDepth 100000 in
theorem bounded_any {w : World} {p : Nat} {l : List UInt8} (h : ReaderAt w p l 0) (most : Nat) (above left : Int) (hab : above ≠ 0) (hmost : most < 18446744073709551616) :
    Calls Tryz.prog 126 #[ptr p, .agg #[.int .u64 (most : Int), errV above, errV left]] w fun en w' => en = .returned (.int .u64 (boundN l most above left : Nat)) ∧ Fr (fun i => i = p) w w' ∧ ReaderAt w' p (boundL l most above left) (boundE l most above left) := by
  have hb0 := h.fr0 ((Fr.refl _ _).alloc (.cells #[.int .u64 (most : Int), errV above, errV left] 221))
  obtain ⟨n, hn⟩ : ∃ n, n = boundN l most above left := ⟨_, rfl⟩
  obtain ⟨L, hL⟩ : ∃ L, L = boundL l most above left := ⟨_, rfl⟩
  obtain ⟨E, hE⟩ : ∃ E, E = boundE l most above left := ⟨_, rfl⟩
  rw [← hn, ← hL, ← hE]
  have HN := Lib.hid hn
  have HL := Lib.hid hL
  have HE := Lib.hid hE
  clear hn hL hE
  obtain ⟨⟨A, c, hb, hA, hc, hnil, hap⟩, hmo⟩ := hb0
  obtain ⟨nn, kk, e1, hT⟩ : ∃ nn kk e1, numberF l = (nn, kk, e1) := ⟨_, _, _, rfl⟩
  have hT2 : (nn : Int) < 18446744073709551616 := by have := numberF_n l; rw [hT] at this; omega
  have h3 := heap_alloc_new w (.cells #[.int .u64 (most : Int), errV above, errV left] 221)
  have hpw : p < w.heap.size := by obtain ⟨⟨_, _, h0, _⟩, _⟩ := h; exact blk_lt h0
  by_cases he1 : e1 = 0
  · subst he1
    obtain ⟨k1, k2⟩ := numberF_k hT
    have hposl : 0 < l.length := by omega
    obtain ⟨ba, oa, rfl⟩ := hA.addr (by simpa using hposl)
    have hst : ReaderAt (w.alloc (.cells #[.int .u64 (most : Int), errV above, errV left] 221)) p l 0 := h.fr0 ((Fr.refl _ _).alloc _)
    have c0 : (w.alloc (.cells #[.int .u64 (most : Int), errV above, errV left] 221)).cell? ⟨p, 0, none⟩ = some (.slice (some ⟨ba, oa, none⟩) l.length c) := by rw [cell_of_blk hb]; rfl
    have c1 : (w.alloc (.cells #[.int .u64 (most : Int), errV above, errV left] 221)).cell? ⟨p, 1, none⟩ = some .nilIface := by rw [cell_of_blk hb]; rfl
    have m0 : (w.alloc (.cells #[.int .u64 (most : Int), errV above, errV left] 221)).cell? ⟨w.heap.size, 0, none⟩ = some (.int .u64 (most : Int)) := by rw [cell_of_blk h3]; rfl
    have m1 : (w.alloc (.cells #[.int .u64 (most : Int), errV above, errV left] 221)).cell? ⟨w.heap.size, 1, none⟩ = some (.iface 106 (.int .i64 above)) := by rw [cell_of_blk h3, ← errV_n hab]; rfl
    have m2 : (w.alloc (.cells #[.int .u64 (most : Int), errV above, errV left] 221)).cell? ⟨w.heap.size, 2, none⟩ = some (errV left) := by rw [cell_of_blk h3]; rfl
    have e2 : numV (nn, kk, 0) = .tuple #[.int .u64 (nn : Int), .int .i64 (kk : Int), .nilIface] := rfl
    obtain ⟨d, hd⟩ : ∃ d, d = l.length - kk := ⟨_, rfl⟩
    have hwr : IntKind.u64.wrap ((l.length : Int) - (kk : Int)) = (d : Int) := by rw [IntKind.wrap_u64]; omega
    have HD := Lib.hid hd
    clear hd
    go_enter Tryz.func126, Tryz.ntmps126
    go_wp2_with fail
    (with_reducible refine (stuck_any hst).mono ?_)
    rintro e w1 ⟨rfl, rfl⟩
    go_wp2_with fail
    (with_reducible refine (number_any _ (some ⟨ba, oa, none⟩) l.length c l rfl hA hc hmo).mono ?_)
    rintro e w1 ⟨rfl, hF1⟩
    rw [hT, e2]
    have hst1 := hst.fr0 hF1
    have c2 := hF1.cell0 c0
    have c3 := hF1.cell0 c1
    have f1 := hF1.frozen c1 (fun h => h) (frozen_of_blk hb 1)
    have f0 := hF1.frozen c0 (fun h => h) (frozen_of_blk hb 0)
    have n0 := hF1.cell0 m0
    have n1 := hF1.cell0 m1
    have n2 := hF1.cell0 m2
    have hbF := hF1.heap0 hb
    have hAF := hA.fr0 hF1
    clear m0 m1 m2 c0 c1
    by_cases hm1 : most < nn
    · have hEE : E = above := by rw [HE.out]; unfold boundE; rw [hT]; simp [hm1]
      have hNN : n = 0 := by rw [HN.out]; unfold boundN; rw [← HE.out, hEE, if_neg hab]
      have hLL : L = l := by rw [HL.out]; unfold boundL; rw [← HE.out, hEE, if_neg hab]
      have HEE := Lib.hid hEE
      have HNN := Lib.hid hNN
      have HLL := Lib.hid hLL
      clear hEE hNN hLL HE HN HL
      have hbd := hst1.bad above
      rw [errV_n hab] at hbd
      have hm2 : (most : Int) < (nn : Int) := by omega
      go_wp2_with fail
      go_ret
      exact ⟨by rw [HNN.out]; rfl, (((Fr.refl _ _).alloc _).trans (Fr.of0 hF1)).trans hbd.1, by rw [HEE.out, HLL.out]; exact hbd.2⟩
    · have hm2 : ¬ (most : Int) < (nn : Int) := by omega
      by_cases hlf : l.length - kk < nn ∧ left ≠ 0
      · obtain ⟨hlf, hl0⟩ := hlf
        have hEE : E = left := by rw [HE.out]; unfold boundE; rw [hT]; simp [hm1, hlf]
        have hNN : n = 0 := by rw [HN.out]; unfold boundN; rw [← HE.out, hEE, if_neg hl0]
        have hLL : L = l := by rw [HL.out]; unfold boundL; rw [← HE.out, hEE, if_neg hl0]
        have HEE := Lib.hid hEE
        have HNN := Lib.hid hNN
        have HLL := Lib.hid hLL
        clear hEE hNN hLL HE HN HL
        have hbd := hst1.bad left
        rw [errV_n hl0] at hbd n2
        have hlf2 : d < nn := by have := HD.out; omega
        go_wp2_with fail
        go_ret
        exact ⟨by rw [HNN.out]; rfl, (((Fr.refl _ _).alloc _).trans (Fr.of0 hF1)).trans hbd.1, by rw [HEE.out, HLL.out]; exact hbd.2⟩
      · have hEE : E = 0 := by
          rw [HE.out]; unfold boundE; rw [hT]
          by_cases hx : l.length - kk < nn
          · have : left = 0 := by
              by_cases hl0 : left = 0
              · exact hl0
              · exact absurd ⟨hx, hl0⟩ hlf
            simp [this]; omega
          · simp [hx]; omega
        have hNN : n = nn := by rw [HN.out]; unfold boundN; rw [← HE.out, hEE, if_pos rfl, hT]
        have hLL : L = l.drop kk := by rw [HL.out]; unfold boundL; rw [← HE.out, hEE, if_pos rfl, hT]
        have HEE := Lib.hid hEE
        have HNN := Lib.hid hNN
        have HLL := Lib.hid hLL
        clear hEE hNN hLL HE HN HL
        have hsk := fun A' hA' => ReaderAt.skip hbF hAF hc (fun hl => hap ba ⟨oa, rfl⟩ hl) hmo kk k2 A' hA'
        have HSK := Lib.hid hsk
        obtain hx | ⟨hx, hl0⟩ : ¬ d < nn ∨ (d < nn ∧ left = 0) := by
          have := HD.out
          by_cases hx : l.length - kk < nn
          · right
            refine ⟨by omega, ?_⟩
            by_cases hl0 : left = 0
            · exact hl0
            · exact absurd ⟨hx, hl0⟩ hlf
          · left; omega
        · clear hsk hlf
          obtain hck | hck : c = kk ∨ ¬ c = kk := by omega
          · subst hck
            have hb2 := HSK.out (some ⟨ba, oa, none⟩) (.inr ⟨by omega, rfl⟩)
            rw [show l.length - c = 0 by omega, Nat.sub_self] at hb2
            go_wp2_with fail
            go_ret
            exact ⟨by rw [HNN.out]; rfl, (((Fr.refl _ _).alloc _).trans (Fr.of0 hF1)).trans (by simpa [show l.length - c = 0 by omega] using hb2.1), by rw [HEE.out, HLL.out]; simpa [show l.length - c = 0 by omega] using hb2.2⟩
          · have hb2 := HSK.out _ (.inl rfl)
            go_wp2_with fail
            go_ret
            exact ⟨by rw [HNN.out]; rfl, (((Fr.refl _ _).alloc _).trans (Fr.of0 hF1)).trans hb2.1, by rw [HEE.out, HLL.out]; exact hb2.2⟩
        · clear hsk hlf
          rw [hl0, errV_0] at n2
          obtain hck | hck : c = kk ∨ ¬ c = kk := by omega
          · subst hck
            have hb2 := HSK.out (some ⟨ba, oa, none⟩) (.inr ⟨by omega, rfl⟩)
            rw [show l.length - c = 0 by omega, Nat.sub_self] at hb2
            go_wp2_with fail
            go_ret
            exact ⟨by rw [HNN.out]; rfl, (((Fr.refl _ _).alloc _).trans (Fr.of0 hF1)).trans (by simpa [show l.length - c = 0 by omega] using hb2.1), by rw [HEE.out, HLL.out]; simpa [show l.length - c = 0 by omega] using hb2.2⟩
          · have hb2 := HSK.out _ (.inl rfl)
            go_wp2_with fail
            go_ret
            exact ⟨by rw [HNN.out]; rfl, (((Fr.refl _ _).alloc _).trans (Fr.of0 hF1)).trans hb2.1, by rw [HEE.out, HLL.out]; exact hb2.2⟩
  · have hEE : E = e1 := by rw [HE.out]; unfold boundE; rw [hT]; simp [he1]
    have hNN : n = 0 := by rw [HN.out]; unfold boundN; rw [← HE.out, hEE, if_neg he1]
    have hLL : L = l := by rw [HL.out]; unfold boundL; rw [← HE.out, hEE, if_neg he1]
    rw [hEE, hNN, hLL]
    clear hEE hNN hLL HE HN HL
    have hst : ReaderAt (w.alloc (.cells #[.int .u64 (most : Int), errV above, errV left] 221)) p l 0 := h.fr0 ((Fr.refl _ _).alloc _)
    have c0 : (w.alloc (.cells #[.int .u64 (most : Int), errV above, errV left] 221)).cell? ⟨p, 0, none⟩ = some (.slice A l.length c) := by rw [cell_of_blk hb]; rfl
    have c1 : (w.alloc (.cells #[.int .u64 (most : Int), errV above, errV left] 221)).cell? ⟨p, 1, none⟩ = some .nilIface := by rw [cell_of_blk hb]; rfl
    go_enter Tryz.func126, Tryz.ntmps126
    go_wp2_with fail
    (with_reducible refine (stuck_any hst).mono ?_)
    rintro e w1 ⟨rfl, rfl⟩
    go_wp2_with fail
    (with_reducible refine (number_any _ A l.length c l rfl hA hc hmo).mono ?_)
    rintro e w1 ⟨rfl, hF1⟩
    rw [hT]
    have hst1 := hst.fr0 hF1
    have c2 := hF1.cell0 c1
    have f1 := hF1.frozen c1 (fun h => h) (frozen_of_blk hb 1)
    have e2 : numV (nn, kk, e1) = .tuple #[.int .u64 (nn : Int), .int .i64 (kk : Int), .iface 106 (.int .i64 e1)] := by unfold numV; rw [errV_n he1]
    rw [e2]
    have hbd := hst1.bad e1
    rw [errV_n he1] at hbd
    go_wp2_with fail
    go_ret
    exact ⟨rfl, (((Fr.refl _ _).alloc _).trans (Fr.of0 hF1)).trans hbd.1, hbd.2⟩
end Go.Proofs.YtffolfemcllfkaaGreatDoor
namespace Go.Proofs.YtffolfemcllfkaaGreatDoor
open Go.RowKit
set_option linter.unusedVariables false
set_option linter.unusedSimpArgs false
theorem bounded_bad {w : World} {p : Nat} {l : List UInt8} {e : Int} (h : ReaderAt w p l e) (he : e ≠ 0) (m a b : Value) :
    Calls Tryz.prog 126 #[ptr p, .agg #[m, a, b]] w fun en w' => en = .returned (.int .u64 0) ∧ Fr none_ w w' := by
  have hst := h.fr0 ((Fr.refl _ _).alloc (.cells #[m, a, b] 221))
  have hd : decide (e ≠ 0) = true := by simp [he]
  go_enter Tryz.func126, Tryz.ntmps126
  go_wp2_with fail
  (with_reducible refine (stuck_any hst).mono ?_)
  rintro en w1 ⟨rfl, rfl⟩
  rw [hd]
  go_wp2_with fail
  go_ret
  exact ⟨rfl, (Fr.refl _ _).alloc _⟩
/-- A number is taken off, if there is no error. -/
def uintN (l : List UInt8) (e : Int) (most : Nat) : Nat := if e = 0 then boundN l most 4 0 else 0
def uintL (l : List UInt8) (e : Int) (most : Nat) : List UInt8 := if e = 0 then boundL l most 4 0 else l
def uintE (l : List UInt8) (e : Int) (most : Nat) : Int := if e = 0 then boundE l most 4 0 else e
theorem ruint_any {w : World} {p : Nat} {l : List UInt8} {e : Int} (h : ReaderAt w p l e) (most : Nat) (hm : most < 18446744073709551616) :
    Calls Tryz.prog 71 #[ptr p, .int .u64 (most : Int)] w fun en w' => en = .returned (.int .u64 (uintN l e most : Nat)) ∧ Fr (fun i => i = p) w w' ∧ ReaderAt w' p (uintL l e most) (uintE l e most) := by
  by_cases he : e = 0
  · subst he
    have e4 : errV 4 = .iface 106 (.int .i64 4) := errV_n (by omega)
    have hB := bounded_any h most 4 0 (by omega) hm
    rw [e4, errV_0] at hB
    unfold uintN uintL uintE
    rw [if_pos rfl, if_pos rfl, if_pos rfl]
    have HB := Lib.hid hB
    clear hB
    go_enter Tryz.func71, Tryz.ntmps71
    go_wp2_with fail
    (with_reducible refine HB.out.mono ?_)
    rintro en w1 ⟨rfl, hF, hR⟩
    go_wp2_with fail
    go_ret
    exact ⟨rfl, hF, hR⟩
  · unfold uintN uintL uintE
    rw [if_neg he, if_neg he, if_neg he]
    have hst := fun m a b => bounded_bad h he m a b
    have HB := Lib.hid hst
    clear hst
    go_enter Tryz.func71, Tryz.ntmps71
    go_wp2_with fail
    (with_reducible refine (HB.out _ _ _).mono ?_)
    rintro en w1 ⟨rfl, hF⟩
    go_wp2_with fail
    go_ret
    exact ⟨rfl, Fr.of0 hF, h.fr0 hF⟩
end Go.Proofs.YtffolfemcllfkaaGreatDoor
namespace Go.Proofs.YtffolfemcllfkaaGreatDoor
open Go.RowKit
set_option linter.unusedVariables false
set_option linter.unusedSimpArgs false

/-! What Uint lays is what Uint takes off. -/
theorem or_low (m b : Nat) (hb : b < 256) : m * 256 ||| b = m * 256 + b := by
  have h := Nat.shiftLeft_add_eq_or_of_lt (i := 8) (b := b) (by omega) m
  rw [Nat.shiftLeft_eq] at h
  exact h.symm
theorem behindF_lt (n : Nat) (hn : n < 18446744073709551616) : n < 2 ^ (7 * behindF n + 7) ∨ behindF n = 8 := by
  unfold behindF
  (repeat' split) <;> simp <;> omega
theorem high_lt (n : Nat) (hk : behindF n < 8) (hn : n < 18446744073709551616) : n / 2 ^ (8 * behindF n) < 2 ^ (7 - behindF n) := by
  rcases behindF_lt n hn with h | h
  · rw [Nat.div_lt_iff_lt_mul (Nat.two_pow_pos _), ← Nat.pow_add]
    have e : 7 - behindF n + 8 * behindF n = 7 * behindF n + 7 := by omega
    rw [e]; exact h
  · omega
theorem first_bits : ∀ k : Fin 8, ∀ h : Fin (2 ^ (7 - k.val)), leadF (UInt8.ofNat (headN k.val ||| (h.val % 256))) = k.val ∧ firstB (UInt8.ofNat (headN k.val ||| (h.val % 256))) = h.val := by decide +kernel
theorem first_8 : leadF (UInt8.ofNat 255) = 8 ∧ firstB (UInt8.ofNat 255) = 0 := by decide +kernel
theorem first_ok (n : Nat) (hn : n < 18446744073709551616) : leadF (UInt8.ofNat (firstN n)) = behindF n ∧ firstB (UInt8.ofNat (firstN n)) = n / 2 ^ (8 * behindF n) := by
  have h8 := behindF_le n
  by_cases hk : behindF n < 8
  · have hh := high_lt n hk hn
    have := first_bits ⟨behindF n, hk⟩ ⟨n / 2 ^ (8 * behindF n), hh⟩
    unfold firstN
    rw [if_pos hk]
    exact this
  · have e : behindF n = 8 := by omega
    unfold firstN
    rw [if_neg hk, e]
    refine ⟨first_8.1, ?_⟩
    rw [first_8.2]
    symm
    apply Nat.div_eq_of_lt
    omega
theorem fold_rest (n k : Nat) (hn : n < 18446744073709551616) (i : Nat) (hi : i ≤ k) : foldN (n / 2 ^ (8 * k)) (((List.range k).map (restB n k)).take i) = n / 2 ^ (8 * (k - i)) := by
  induction i with
  | zero => simp [foldN]
  | succ i ih =>
    rw [foldN_step _ _ _ (by simp; omega), ih (by omega)]
    simp only [List.getElem_map, List.getElem_range]
    have e1 : 8 * (k - i) = 8 * (k - (i + 1)) + 8 := by omega
    have e2 : k - 1 - i = k - (i + 1) := by omega
    unfold restB
    rw [e1, e2, Nat.pow_add, ← Nat.div_div_eq_div_mul]
    have hN : n / 2 ^ (8 * (k - (i + 1))) ≤ n := Nat.div_le_self _ _
    generalize n / 2 ^ (8 * (k - (i + 1))) = N at *
    have e3 : (UInt8.ofNat N).toNat = N % 256 := by simp
    rw [e3, Nat.mod_eq_of_lt (by omega : N / 2 ^ 8 * 256 < 18446744073709551616), or_low _ _ (Nat.mod_lt _ (by omega))]
    omega
theorem numberF_enc (n : Nat) (hn : n < 18446744073709551616) (rest : List UInt8) : numberF (encF n ++ rest) = (n, behindF n + 1, 0) := by
  obtain ⟨h1, h2⟩ := first_ok n hn
  unfold encF
  rw [List.cons_append, numberF_cons, h1, h2, if_neg (by simp)]
  have ht : (((List.range (behindF n)).map (restB n (behindF n))) ++ rest).take (behindF n) = (List.range (behindF n)).map (restB n (behindF n)) := by
    rw [List.take_append_of_le_length (by simp), List.take_of_length_le (by simp)]
  have hf := fold_rest n (behindF n) hn (behindF n) (Nat.le_refl _)
  rw [List.take_of_length_le (by simp), Nat.sub_self] at hf
  simp only [Nat.mul_zero, Nat.pow_zero, Nat.div_one] at hf
  rw [ht, hf, if_pos rfl]
theorem drop_enc (n : Nat) (rest : List UInt8) : (encF n ++ rest).drop (behindF n + 1) = rest := by
  rw [← encF_len n, List.drop_left]
/-- Uint takes off what Uint has laid, if it is within the bound. -/
theorem uint_enc (n most : Nat) (hn : n ≤ most) (hm : most < 18446744073709551616) (rest : List UInt8) : uintN (encF n ++ rest) 0 most = n ∧ uintL (encF n ++ rest) 0 most = rest ∧ uintE (encF n ++ rest) 0 most = 0 := by
  have h := numberF_enc n (by omega) rest
  have hE : boundE (encF n ++ rest) most 4 0 = 0 := by
    unfold boundE; rw [h]
    simp
    omega
  unfold uintN uintL uintE boundN boundL
  rw [hE, h]
  simp [drop_enc]
end Go.Proofs.YtffolfemcllfkaaGreatDoor
namespace Go.Proofs.YtffolfemcllfkaaGreatDoor
open Go.RowKit
set_option linter.unusedVariables false
set_option linter.unusedSimpArgs false

/-! pack: Reader.off -/
/-- off: so many bytes; nothing, if there is an error. -/
structure Offed (w : World) (p : Nat) (l : List UInt8) (n : Nat) (en : Ending) (w' : World) : Prop where
  ret : ∃ A c, en = .returned (.slice A n c) ∧ CellsAt w' A ((l.take n).map byteV) ∧ n ≤ c ∧ (A = none → n = 0 ∧ c = 0) ∧ (∀ b, blkOf A b → 0 < n → b ≠ p)
  fr : Fr (fun i => i = p) w w'
  rd : ReaderAt w' p (l.drop n) 0
theorem off_bad {w : World} {p : Nat} {l : List UInt8} {e : Int} (h : ReaderAt w p l e) (he : e ≠ 0) (n : Int) :
    Calls Tryz.prog 157 #[ptr p, .int .i64 n] w fun en w' => en = .returned (.slice none 0 0) ∧ w = w' := by
  have hd : decide (e ≠ 0) = true := by simp [he]
  go_enter Tryz.func157, Tryz.ntmps157
  go_wp2_with fail
  (with_reducible refine (stuck_any h).mono ?_)
  rintro en w1 ⟨rfl, rfl⟩
  rw [hd]
  go_wp2_with fail
  go_ret
  exact ⟨rfl, rfl⟩
theorem off_end {w : World} {p : Nat} {l : List UInt8} (h : ReaderAt w p l 0) (n : Nat) (hn : l.length < n) :
    Calls Tryz.prog 157 #[ptr p, .int .i64 (n : Int)] w fun en w' => en = .returned (.slice none 0 0) ∧ Fr (fun i => i = p) w w' ∧ ReaderAt w' p l 12 := by
  have hbd := h.bad 12
  rw [errV_n (by omega)] at hbd
  obtain ⟨⟨A, c, hb, hA, hc, hnil, hap⟩, hmo⟩ := id h
  have c0 : w.cell? ⟨p, 0, none⟩ = some (.slice A l.length c) := by rw [cell_of_blk hb]; rfl
  have c1 : w.cell? ⟨p, 1, none⟩ = some .nilIface := by rw [cell_of_blk hb]; rfl
  have f1 := frozen_of_blk hb 1
  have hn2 : (l.length : Int) < (n : Int) := by omega
  have HB := Lib.hid hbd
  clear hbd hb hA hnil hap
  go_enter Tryz.func157, Tryz.ntmps157
  go_wp2_with fail
  (with_reducible refine (stuck_any h).mono ?_)
  rintro en w1 ⟨rfl, rfl⟩
  go_wp2_with fail
  go_ret
  exact ⟨rfl, HB.out.1, HB.out.2⟩
set_option maxRecDepth 100000 in
theorem off_ok {w : World} {p : Nat} {l : List UInt8} (h : ReaderAt w p l 0) (n : Nat) (hn : n ≤ l.length) (hl : 0 < l.length) :
    Calls Tryz.prog 157 #[ptr p, .int .i64 (n : Int)] w fun en w' => Offed w p l n en w' := by
  obtain ⟨⟨A, c, hb, hA, hc, hnil, hap⟩, hmo⟩ := id h
  obtain ⟨ba, oa, rfl⟩ := hA.addr (by simpa using hl)
  have c0 : w.cell? ⟨p, 0, none⟩ = some (.slice (some ⟨ba, oa, none⟩) l.length c) := by rw [cell_of_blk hb]; rfl
  have f0 := frozen_of_blk hb 0
  have hsk := fun A' hA' => ReaderAt.skip hb hA hc (fun hl => hap ba ⟨oa, rfl⟩ hl) hmo n hn A' hA'
  have HSK := Lib.hid hsk
  have hcut : ∀ w', Fr (fun i => i = p) w w' → CellsAt w' (some ⟨ba, oa, none⟩) ((l.take n).map byteV) := fun w' hf => by
    have h7 := hA.frp hf (fun x hx hl e => hap ba ⟨oa, rfl⟩ (by simpa using hl) ((blkOf_some hx).symm.trans e))
    have h8 := h7.sub 0 n (by simp; omega)
    rw [List.drop_zero, ← List.map_take] at h8
    exact h8
  have HC := Lib.hid hcut
  have q0 : (n : Int) ≤ (l.length : Int) := by omega
  have q1 : (n : Int) ≤ (c : Int) := by omega
  have HAP := Lib.hid hap
  clear hsk hcut hb hA hnil hap
  obtain hck | hck : c = n ∨ ¬ c = n := by omega
  · subst hck
    have hb2 := HSK.out (some ⟨ba, oa, none⟩) (.inr ⟨by omega, rfl⟩)
    have hll : l.length = c := by omega
    rw [show l.length - c = 0 by omega, Nat.sub_self] at hb2
    have HB := Lib.hid hb2
    clear hb2
    go_enter Tryz.func157, Tryz.ntmps157
    go_wp2_with fail
    (with_reducible refine (stuck_any h).mono ?_)
    rintro en w1 ⟨rfl, rfl⟩
    go_wp2_with fail
    go_ret
    exact ⟨⟨_, _, rfl, HC.out _ HB.out.1, Nat.le_refl _, (fun h => by cases h), fun x hx _ e => HAP.out ba ⟨oa, rfl⟩ hl ((blkOf_some hx).symm.trans e)⟩, HB.out.1, HB.out.2⟩
  · have hb2 := HSK.out _ (.inl rfl)
    have HB := Lib.hid hb2
    clear hb2
    go_enter Tryz.func157, Tryz.ntmps157
    go_wp2_with fail
    (with_reducible refine (stuck_any h).mono ?_)
    rintro en w1 ⟨rfl, rfl⟩
    go_wp2_with fail
    go_ret
    exact ⟨⟨_, _, rfl, HC.out _ HB.out.1, Nat.le_refl _, (fun h => by cases h), fun x hx _ e => HAP.out ba ⟨oa, rfl⟩ hl ((blkOf_some hx).symm.trans e)⟩, HB.out.1, HB.out.2⟩
end Go.Proofs.YtffolfemcllfkaaGreatDoor
namespace Go.Proofs.YtffolfemcllfkaaGreatDoor
open Go.RowKit
set_option linter.unusedVariables false
set_option linter.unusedSimpArgs false

/-! pack: Reader.Bool -/
/-- Bool: the byte 1 or 0. -/
def boolV (l : List UInt8) (e : Int) : Bool := decide (e = 0) && (l.head? == some 1)
def boolE (l : List UInt8) (e : Int) : Int := if e ≠ 0 then e else match l with | [] => 12 | x :: _ => if 1 < x then 3 else 0
def boolL (l : List UInt8) (e : Int) : List UInt8 := if boolE l e = 0 then l.drop 1 else l
set_option maxRecDepth 100000 in
theorem rbool_ok {w : World} {p : Nat} {x : UInt8} {l : List UInt8} (h : ReaderAt w p (x :: l) 0) (hx : x ≤ 1) :
    Calls Tryz.prog 104 #[ptr p] w fun en w' => en = .returned (.bool (decide (x = 1))) ∧ Fr (fun i => i = p) w w' ∧ ReaderAt w' p l 0 := by
  obtain ⟨⟨A, c, hb, hA, hc, hnil, hap⟩, hmo⟩ := id h
  obtain ⟨ba, oa, rfl⟩ := hA.addr (by simp)
  have c0 : w.cell? ⟨p, 0, none⟩ = some (.slice (some ⟨ba, oa, none⟩) (l.length + 1) c) := by rw [cell_of_blk hb]; rfl
  have cb : w.cell? ⟨ba, oa, none⟩ = some (.int .u8 (x.toNat : Int)) := hA.get 0 (by simp)
  have hx1 : x.toNat ≤ 1 := hx
  have hx2 : (x.toNat : Int) ≤ 1 := by omega
  have q0 : (0 : Int) < (l.length : Int) + 1 := by omega
  have ho : Calls Tryz.prog 157 #[ptr p, .int .i64 1] w fun en w' => Offed w p (x :: l) 1 en w' := off_ok h 1 (by simp) (by simp)
  have HO := Lib.hid ho
  clear hb hA hnil hap ho
  go_enter Tryz.func104, Tryz.ntmps104
  go_wp2_with fail
  (with_reducible refine (stuck_any h).mono ?_)
  rintro en w1 ⟨rfl, rfl⟩
  go_wp2_with fail
  (with_reducible refine HO.out.mono ?_)
  rintro en w1 ⟨⟨A', c', rfl, hA', hc', _, _⟩, hF, hR⟩
  obtain ⟨b', o', rfl, hcb⟩ := hA' 0 (by simp)
  have hcb : w1.cell? ⟨b', o', none⟩ = some (.int .u8 (x.toNat : Int)) := hcb
  have hR2 : ReaderAt w1 p l 0 := hR
  clear hR hA'
  by_cases h1 : x = 1
  · subst h1
    have hcb : w1.cell? ⟨b', o', none⟩ = some (.int .u8 1) := hcb
    go_wp2_with fail
    go_ret
    exact ⟨rfl, hF, hR2⟩
  · have h2 : ¬ x.toNat = 1 := fun h => h1 (UInt8.toNat_inj.1 h)
    have h3 : ¬ (x.toNat : Int) = 1 := by omega
    go_wp2_with fail
    go_ret
    exact ⟨by simp [h1]; exact h3, hF, hR2⟩
end Go.Proofs.YtffolfemcllfkaaGreatDoor

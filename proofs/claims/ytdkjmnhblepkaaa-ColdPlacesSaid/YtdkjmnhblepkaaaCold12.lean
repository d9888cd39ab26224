import Derived.Test.YtdkjmnhblepkaaaCold10
import Derived.Test.YtdkjmnhblepkaaaRs14
namespace Go.Proofs.Ytdkjmnhblepkaaa
open Go.RowKit
set_option linter.unusedVariables false
set_option linter.unusedSimpArgs false
set_option maxRecDepth 100000

/-! cold: read -/
/-- what k sectors from s on hold -/
def joinC (D : DevS) (s : Nat) : Nat → List UInt8
  | 0 => []
  | k + 1 => joinC D s k ++ D.get ((s : Int) + (k : Int))
theorem joinC_len {D : DevS} (hl : ∀ i, (D.get i).length = 64) (s k : Nat) : (joinC D s k).length = k * 64 := by
  induction k with
  | zero => rfl
  | succ k ih => show (joinC D s k ++ _).length = _; rw [List.length_append, ih, hl]; omega
/-- how many bytes a part of np bytes' box has with the byte ahead, and its sectors -/
def rowN (np d : Nat) : Nat := partN np d + 1
def rowK (np d : Nat) : Nat := (rowN np d + 63) / 64
def isHere (R : List UInt8) (n sum : Nat) : Bool := (R.getD 0 0 == 1) && (sumF ((R.drop 1).take n) == sum)
def CReadP (w : World) (row : List UInt8) (n : Nat) (is : Bool) (e : Ending) (w' : World) : Prop := ∃ A c, e = .returned (.tuple #[.slice A n c, .bool is]) ∧ row.length = n ∧ CellsAt w' A (row.map byteV) ∧ (A = none → n = 0 ∧ c = 0) ∧ (∀ b, blkOf A b → w.heap.size ≤ b ∧ ∃ c, w'.heap[b]? = some (.cells c 5 (0, 0))) ∧ Fr none_ w w'
theorem rowN_le {np d si : Nat} (hn : 1 ≤ np ∧ np ≤ si) (hd : 1 ≤ d) : 2 ≤ rowN np d ∧ rowN np d ≤ partC d si := by
  unfold rowN partC partN
  have e : np + d - 1 = (np - 1) + d := by omega
  rw [e, Nat.add_div_right _ (by omega)]
  have h9 := Nat.div_le_div_right (c := d) (show np - 1 ≤ si - 1 by omega)
  obtain ⟨a, ha⟩ : ∃ a, a = (np - 1) / d := ⟨_, rfl⟩
  obtain ⟨b, hb⟩ : ∃ b, b = (si - 1) / d := ⟨_, rfl⟩
  rw [← ha, ← hb] at h9 ⊢
  omega
theorem rowK_le {np d si : Nat} (hn : 1 ≤ np ∧ np ≤ si) (hd : 1 ≤ d) : 1 ≤ rowK np d ∧ rowK np d ≤ sectC d si := by
  have := rowN_le hn hd
  unfold rowK sectC
  have := Nat.div_le_div_right (c := 64) (show rowN np d + 63 ≤ partC d si + 63 by omega)
  omega
theorem beq_natInt (a b : Nat) : ((a : Int) == (b : Int)) = (a == b) := by
  rw [Bool.eq_iff_iff, beq_iff_eq, beq_iff_eq]
  omega
structure RdC (w wr : World) (D : DevS) (s k : Nat) (v : Value) : Prop where
  own : wr.ownsRow w.heap.size 5 1 v (k * 64) ((joinC D s k).map byteV)
  fr : Fr none_ w wr
set_option maxHeartbeats 8000000 in
theorem cread_up {w : World} {x lb pb c g : Nat} {ds : List (Nat × Nat × Nat)} {Ds : List DevS} {C : ColdS} {l : List (PlaceS × Value)} (h : ColdAt w x lb pb c g (ds.map (·.1)) C l) (hD : DevsAt w ds Ds) (i : Nat) (hi : i < ds.length) (hi2 : i < Ds.length) (k : Nat) (hk : k < l.length) (hfit : ((C.first + C.places.length * sectC C.d C.size : Nat) : Int) ≤ Ds[i].sectors)
    (hnp : 1 ≤ l[k].1.n ∧ l[k].1.n ≤ C.size) (hsm : l[k].1.sums.length = ds.length) (hup : Ds[i].down = false) :
    Calls Try.prog 44 #[ptr x, .int .i64 (i : Int), .int .i64 (k : Int)] w fun e w' => CReadP w (((joinC Ds[i] (C.first + k * sectC C.d C.size) (rowK l[k].1.n C.d)).drop 1).take (partN l[k].1.n C.d)) (partN l[k].1.n C.d) (isHere (joinC Ds[i] (C.first + k * sectC C.d C.size) (rowK l[k].1.n C.d)) (partN l[k].1.n C.d) (l[k].1.sums.getD i 0)) e w' := by
  have hmost := (hD.at_ i hi hi2).most
  have hcm := h.code.most
  have hcs := h.most
  have hrN := rowN_le (d := C.d) hnp hcm.1
  have hrK := rowK_le (d := C.d) hnp hcm.1
  have hpl := partC_le (d := C.d) h.most.2.2
  have hlen := h.len
  have hkS : k * sectC C.d C.size + sectC C.d C.size ≤ C.places.length * sectC C.d C.size := by rw [← Nat.succ_mul]; exact Nat.mul_le_mul_right _ (by omega)
  have hat := fun wx (hx : Fr none_ w wx) => cat_any (h.fr0 hx) k (by omega)
  obtain ⟨S, hS⟩ : ∃ S, S = sectC C.d C.size := ⟨_, rfl⟩
  obtain ⟨T, hT⟩ : ∃ T, T = C.first + k * S := ⟨_, rfl⟩
  rw [← hS] at hkS hfit hat hrK ⊢
  rw [← hT] at hat ⊢
  have hTS : ((T + S : Nat) : Int) ≤ Ds[i].sectors := by omega
  obtain ⟨⟨cl, c0⟩, c1, _, _, _, _, _, c7⟩ := h.cells
  rw [List.length_map] at c0
  obtain ⟨rest, hlb⟩ := h.devs
  obtain ⟨D, hDe⟩ : ∃ D, D = Ds[i] := ⟨_, rfl⟩
  have hdev := hD.at_ i hi hi2
  obtain ⟨q, hq⟩ : ∃ q, q = ds[i] := ⟨_, rfl⟩
  have hcd : w.cell? ⟨lb, i, none⟩ = some (ptr q.1) := by
    rw [cell_of_blk hlb, List.getElem?_toArray, List.getElem?_append_left (by simp; omega), List.getElem?_map, List.getElem?_map, List.getElem?_eq_getElem hi, ← hq]
    rfl
  rw [← hDe] at hTS hdev hmost hup ⊢
  rw [← hq] at hdev
  obtain ⟨p, m1, m2⟩ := q
  replace hcd : w.cell? ⟨lb, i, none⟩ = some (ptr p) := hcd
  replace hdev : DevAt w p m1 m2 D := hdev
  obtain ⟨p0, p1, p2⟩ := h.pls.cells k hk
  have hss := h.pls.sums l[k] (List.getElem_mem _)
  obtain ⟨y, hy⟩ : ∃ y, y = l[k] := ⟨_, rfl⟩
  rw [← hy] at p0 p1 p2 hss hnp hsm hrN hrK ⊢
  obtain ⟨⟨st, np, sums⟩, sv⟩ := y
  replace p0 : w.cell? ⟨pb, k * 3, none⟩ = some (.int .i64 (st : Int)) := p0
  replace p1 : w.cell? ⟨pb, k * 3 + 1, none⟩ = some (.int .i64 (np : Int)) := p1
  replace p2 : w.cell? ⟨pb, k * 3 + 2, none⟩ = some sv := p2
  replace hnp : 1 ≤ np ∧ np ≤ C.size := hnp
  replace hsm : sums.length = ds.length := hsm
  replace hss : SumsAt w sv sums := hss
  replace hrN : 2 ≤ rowN np C.d ∧ rowN np C.d ≤ partC C.d C.size := hrN
  replace hrK : 1 ≤ rowK np C.d ∧ rowK np C.d ≤ S := hrK
  show Calls Try.prog _ _ w fun e w' => CReadP w (((joinC D T (rowK np C.d)).drop 1).take (partN np C.d)) (partN np C.d) (isHere (joinC D T (rowK np C.d)) (partN np C.d) (sums.getD i 0)) e w'
  obtain ⟨sb, sc, full, rfl, hsb, hsf, hsl⟩ : ∃ (b c : Nat) (full : List Value), sv = .slice (some ⟨b, 0, none⟩) sums.length c ∧ w.heap[b]? = some (.cells full.toArray 70 (0, 0)) ∧ sums.map u32V = full.take sums.length ∧ sums.length ≤ full.length := by
    rcases hss with ⟨e, _⟩ | hh
    · rw [e] at hsm; simp at hsm; omega
    · exact hh
  have hsc : w.cell? ⟨sb, i, none⟩ = some (.int .u32 ((sums.getD i 0 : Nat) : Int)) := by
    rw [cell_of_blk hsb, List.getElem?_toArray]
    have e1 : (full.take sums.length)[i]? = full[i]? := by rw [List.getElem?_take_of_lt (by omega)]
    rw [← e1, ← hsf, List.getElem?_map, List.getElem?_eq_getElem (show i < sums.length by omega), List.getD_eq_getElem?_getD, List.getElem?_eq_getElem (show i < sums.length by omega)]
    rfl
  rw [hsm] at p2
  obtain ⟨si, hsi⟩ : ∃ si, si = sums.getD i 0 := ⟨_, rfl⟩
  rw [← hsi] at hsc ⊢
  have hl64 := hdev.get_len
  obtain ⟨N, hN⟩ : ∃ N, N = partN np C.d := ⟨_, rfl⟩
  obtain ⟨n, hn⟩ : ∃ n, n = rowN np C.d := ⟨_, rfl⟩
  obtain ⟨K, hKe⟩ : ∃ K, K = rowK np C.d := ⟨_, rfl⟩
  have hnN : n = N + 1 := by rw [hn, hN]; rfl
  have hKn : K = (n + 63) / 64 := by rw [hKe, hn]; rfl
  rw [← hN, ← hKe] 
  rw [← hn] at hrN
  rw [← hKe] at hrK
  have hF0 : Fr none_ w (w.alloc (.cells #[.int .i64 (st : Int), .int .i64 (np : Int), .slice (some ⟨sb, 0, none⟩) ds.length sc] 60)) := (Fr.refl _ _).alloc _
  have hnew := heap_alloc_new w (.cells #[.int .i64 (st : Int), .int .i64 (np : Int), .slice (some ⟨sb, 0, none⟩) ds.length sc] 60)
  obtain ⟨V, hV⟩ : ∃ V, V = w.alloc (.cells #[.int .i64 (st : Int), .int .i64 (np : Int), .slice (some ⟨sb, 0, none⟩) ds.length sc] 60) := ⟨_, rfl⟩
  have HV := Lib.hid hV
  rw [← hV] at hF0 hnew
  have b1 : V.cell? ⟨w.heap.size, 1, none⟩ = some (.int .i64 (np : Int)) := by rw [cell_of_blk hnew]; rfl
  have b2 : V.cell? ⟨w.heap.size, 2, none⟩ = some (.slice (some ⟨sb, 0, none⟩) ds.length sc) := by rw [cell_of_blk hnew]; rfl
  have e1 := hF0.cell0 c1
  have e0 := hF0.cell0 c0
  have ed := hF0.cell0 hcd
  have esc := hF0.cell0 hsc
  obtain ⟨Q, hQ⟩ : ∃ Q, Q = np + C.d - 1 := ⟨_, rfl⟩
  have w1 : IntKind.i64.wrap ((np : Int) + (C.d : Int)) = (np : Int) + (C.d : Int) := IntWalk.i64_in _ (by omega)
  have w2 : IntKind.i64.wrap ((np : Int) + (C.d : Int) - 1) = (Q : Int) := by rw [IntWalk.i64_in _ (by omega)]; omega
  have w3 : (Q : Int).tdiv (C.d : Int) = (N : Int) := by rw [hN, hQ]; unfold partN; rfl
  clear hQ
  have hNb : N ≤ 70000 := by omega
  have w4 : IntKind.i64.wrap (N : Int) = (N : Int) := IntWalk.i64_in _ (by omega)
  have w8 : IntKind.i64.wrap ((N : Int) + 1) = (n : Int) := by rw [IntWalk.i64_in _ (by omega)]; omega
  have w5 : ¬ (C.d : Int) = 0 := by omega
  have w6 : ((C.d : Int) == 0) = false := by simpa using w5
  have w7 : ¬ C.d = 0 := by omega
  have q2 : (0 : Int) ≤ (k : Int) ∧ (k : Int) < (l.length : Int) := by omega
  have q3 : (0 : Int) ≤ (i : Int) ∧ (i : Int) < (ds.length : Int) := by omega
  have hdvV := hdev.fr0 hF0
  have hrd : ∀ W, Fr none_ w W → ∀ j : Nat, j < S → Calls Try.prog 53 #[ptr p, .int .i64 (IntKind.i64.wrap ((T : Int) + (j : Int)))] W fun e w' => ReadOk W (D.get ((T : Int) + (j : Int))) e w' := fun W hF j hj => by
    rw [IntWalk.i64_in _ (by omega)]
    exact read_ok (hdev.fr0 hF) _ (atE_up hup (by omega) (by omega))
  have hst : ∀ W, Fr none_ w W → (W.cell? ⟨x, 0, none⟩ = some (.slice (some ⟨lb, 0, none⟩) ds.length cl) ∧ W.cell? ⟨lb, i, none⟩ = some (ptr p)) := fun W hW => ⟨hW.cell0 c0, hW.cell0 hcd⟩
  have hat2 := fun wx (hx : Fr none_ V wx) => hat wx (hF0.trans hx)
  have hrd2 := fun wx (hx : Fr none_ V wx) => hrd wx (hF0.trans hx)
  have hst2 := fun wx (hx : Fr none_ V wx) => hst wx (hF0.trans hx)
  have HAT := Lib.hid hat2
  have HRD := Lib.hid hrd2
  have HST := Lib.hid hst2
  have HL := Lib.hid hl64
  have HK := Lib.hid (And.intro hKn (And.intro hnN hrK))
  have HF0 := Lib.hid hF0
  have HSI := Lib.hid hsi
  have hKb : K ≤ 2000 := by omega
  have hnb : 2 ≤ n ∧ n ≤ 70001 := by omega
  have hTb : T ≤ 1000000 := by omega
  have hKS2 := hrK.2
  clear hat2 hrd2 hst2 hat hrd hst hl64 hKn hnN hrK hD h hmost hrN hpl hkS hfit hTS hlb hdev hDe hq hcd hy hss hsb hsf hsl hsc hnp hN hn hKe hnew hV hF0 hS hT c0 c1 hup hsi hdvV hcm hcs hlen
  go_enter Try.func44, Try.ntmps44
  go_wp2_with fail
  rw [← HV.out]
  go_still (by kernel_rfl)
  go_wp2_with fail
  go_loopw [10, 11] (fun v t wr => ∃ j : Nat, j ≤ K ∧ t = .int .i64 j ∧ RdC V wr D T j v) (fun _ t _ => K - (intOf t).toNat)
  case atStart => exact ⟨0, by omega, rfl, ⟨by rw [Nat.zero_mul]; exact World.ownsRow_nil _ _ _ _, (Fr.refl none_ V).drew⟩⟩
  case round =>
    obtain ⟨j, hj, rfl, hR⟩ := hrel
    have hro := hR.own
    obtain ⟨A9, c9, rfl, hA, hkc, hnil, hblk⟩ := ownsRow_read hro
    by_cases hlt : j < K
    · have hc1 : (j : Int) * 64 < (n : Int) := by have := HK.out.1; omega
      have hc3 : j * 64 < n := by omega
      have hjb : j ≤ 2000 := by omega
      have hX0 := hR.fr.drew
      have hs0 := HST.out _ hX0
      have HR := Lib.hid hR
      clear hR hro hA hkc hnil hblk
      go_wp2_with fail
      go_region_held3 (fun W => W.cell? ⟨x, 0, none⟩ = some (.slice (some ⟨lb, 0, none⟩) ds.length cl) ∧ W.cell? ⟨lb, i, none⟩ = some (ptr p)) (first | exact hs0 | exact HST.out _ hX1 | exact HST.out _ hX2) (first
        | (go_at_call 34; (with_reducible refine (HAT.out _ hX0).mono ?_); rintro e x1 ⟨rfl, hY1⟩; have hX1 := hX0.trans hY1)
        | (go_at_call 53; (with_reducible refine (HRD.out x1 hX1 j (by omega)).mono ?_); rintro e x2 ⟨g2, rfl, hg, hY2, hb2⟩; rw [errV_0]; have hX2 := hX1.trans hY2))
      have ho := ownsRow_fr0 HR.out.own (((Fr.refl none_ wr).drew.trans hY1).trans hY2)
      have hA2 : CellsAt x2 (some ⟨g2, 0, none⟩) ((D.get ((T : Int) + (j : Int))).map byteV) := CellsAt.whole hb2
      have hl2 := HL.out ((T : Int) + (j : Int))
      have hsz2 := hX2.size
      clear hX0 hs0 hY1 hY2 hX1 hb2 hg
      go_wp2_with ((with_reducible refine at_append (.tmp 61) (.tmp 62) 33 V.heap.size 5 (.int .u8 0) 1 1 (n := j * 64) (A := some ⟨g2, 0, none⟩) (m := 64) (c := 64) (news := (D.get ((T : Int) + (j : Int))).map byteV) Try.underlying33 info_u8R ?_ ?_ ?_ ?_ ho hA2 ?_ ?_ ?_ ?_ ?_ ?_ ?_); (focus rfl); (focus decide); (focus rfl); (focus rfl); (focus (intro h; cases h)); (focus simp [hl2]); (focus exact bytes_one _); (focus (unfold maxLen; omega)); (focus omega); (focus omega); intro v' w4 hown4 hg4; have hR4 : RdC V w4 D T (j + 1) v' := ⟨(by rw [show (j + 1) * 64 = j * 64 + 64 by omega, show joinC D T (j + 1) = joinC D T j ++ D.get ((T : Int) + (j : Int)) from rfl, List.map_append]; exact hown4), Fr.grown hX2 hg4 ho (Nat.le_refl _)⟩; have HR4 := Lib.hid hR4; clear hR4 hown4 hg4 ho hA2 hX2)
      go_roundw
      case rel => exact ⟨j + 1, by omega, by go_num, HR4.out⟩
      case measure => simp [intOf]; omega
    · obtain rfl : K = j := by omega
      have hc1 : ¬ (K : Int) * 64 < (n : Int) := by have := HK.out.1; omega
      have hc3 : ¬ K * 64 < n := by omega
      have hJl := joinC_len HL.out T K
      obtain ⟨g9, c9', e9, hg9, hg9b⟩ := hro.form (by have := HK.out.2.2.1; omega)
      cases e9
      obtain ⟨M, hM⟩ : ∃ M, M = K * 64 := ⟨_, rfl⟩
      rw [← hM] at hkc hJl
      have hMn : n ≤ M := by omega
      have hMb : M ≤ 200000 := by omega
      obtain ⟨R, hRe⟩ : ∃ R, R = joinC D T K := ⟨_, rfl⟩
      rw [← hRe] at hJl hA
      have hnN := HK.out.2.1
      have cy : wr.cell? ⟨g9, 0, none⟩ = some (byteV (R.getD 0 0)) := by
        have h9 := hA.get 0 (by rw [List.length_map]; omega)
        rw [List.getElem_map, Nat.zero_add] at h9
        rw [h9, List.getD_eq_getElem?_getD, List.getElem?_eq_getElem (by omega)]; rfl
      obtain ⟨L, hL⟩ : ∃ L, L = (R.drop 1).take N := ⟨_, rfl⟩
      have hLl : L.length = N := by rw [hL, List.length_take, List.length_drop]; omega
      have hsub : CellsAt wr (some ⟨g9, 1, none⟩) (L.map byteV) := by
        have h9 := hA.sub 1 N (by rw [List.length_map]; omega)
        rw [← List.map_drop, ← List.map_take, ← hL, Nat.zero_add] at h9
        exact h9
      have hih : isHere (joinC D T K) N si = ((R.getD 0 0 == 1) && (sumF L == si)) := by rw [hL, hRe]; rfl
      have hLf : L = ((joinC D T K).tail).take N := by rw [hL, hRe, List.drop_one]
      obtain ⟨y, hy⟩ : ∃ y, y = R.getD 0 0 := ⟨_, rfl⟩
      rw [← hy] at cy hih
      have HIH := Lib.hid (And.intro hLf hih)
      clear hLf
      have hb2 : wr.cell? ⟨w.heap.size, 2, none⟩ = some (.slice (some ⟨sb, 0, none⟩) ds.length sc) := hR.fr.cell0 b2
      have hsc2 := hR.fr.cell0 esc
      have hge : w.heap.size ≤ g9 := Nat.le_trans HF0.out.size hg9
      have hfrw := HF0.out.trans hR.fr
      have hty : ∃ c, wr.heap[g9]? = some (.cells c 5 (0, 0)) := own_typeR hro rfl
      have hsum := fun c (W : World) (hW : Fr none_ wr W) => sum_any (n - 1) (some ⟨g9, 1, none⟩) c L W (by omega) (by omega) (hsub.fr0 hW)
      have HSUM := Lib.hid hsum
      have HE := Lib.hid (And.intro hLl (And.intro hsub (And.intro hge (And.intro hfrw (And.intro hnN hty)))))
      have HM := Lib.hid hM
      have i1 : (1 : Int) ≤ (n : Int) := by omega
      have i2 : n ≤ c9 := by omega
      have i3 : (n : Int) ≤ (c9 : Int) := by omega
      have i4 : (0 : Int) < (M : Int) := by omega
      have i5 : (0 : Int) ≤ (0 : Int) ∧ (0 : Int) < (M : Int) := by omega
      have i6 : 0 < M := by omega
      have i7 : 1 ≤ n := by omega
      have i8 : ¬ c9 = 1 := by omega
      rw [← hM]
      clear hty hR hro hA hkc hnil hblk hJl hRe hL hLl hsub hih hy hge hfrw hsum hM hc3 hnN hlt hg9 hg9b b1 b2 ed esc e0 e1
      by_cases hy1 : y = 1
      · subst hy1
        replace cy : wr.cell? ⟨g9, 0, none⟩ = some (.int .u8 1) := cy
        go_wp2_with fail
        refine wp_region_held_drew (S := fun W => W.cell? ⟨g9, 0, none⟩ = some (.int .u8 1) ∧ W.cell? ⟨w.heap.size, 2, none⟩ = some (.slice (some ⟨sb, 0, none⟩) ds.length sc) ∧ W.cell? ⟨sb, i, none⟩ = some (.int .u32 (si : Int))) (by kernel_rfl) ⟨cy, hb2, hsc2⟩ (fun hHeld0 => ?_)
        refine wpAnyH_take (i := 0) (oi := _) (v := ?vy1) rfl (by kernel_rfl) (by kernel_rfl) (by kernel_rfl) (fun _ _ _ h => h) (Or.inl ⟨by rfl, ?hyy1⟩) (by assumption) ?resty1
        case hyy1 => (intro w hSw; (try dsimp only at hSw); go_simp; try with_reducible rfl)
        try simp only [List.getElem_toArray, List.getElem_cons_zero, List.getElem_cons_succ, Act.put, List.setIfInBounds_toArray, List.set_cons_zero, List.set_cons_succ]
        refine wpAnyH_take (i := 1) (oi := _) (v := ?vy2) rfl (by kernel_rfl) (by kernel_rfl) (by kernel_rfl) (fun _ _ _ h => h) (Or.inl ⟨by rfl, ?hyy2⟩) (by assumption) ?resty2
        case hyy2 => (intro w hSw; (try dsimp only at hSw); go_simp; try with_reducible rfl)
        try simp only [List.getElem_toArray, List.getElem_cons_zero, List.getElem_cons_succ, Act.put, List.setIfInBounds_toArray, List.set_cons_zero, List.set_cons_succ]
        refine wpAnyH_take (i := 2) (oi := _) (v := ?vy3) rfl (by kernel_rfl) (by kernel_rfl) (by kernel_rfl) (fun _ _ _ h => h) (Or.inl ⟨by rfl, ?hyy3⟩) (by assumption) ?resty3
        case hyy3 => (intro w hSw; (try dsimp only at hSw); go_simp; try with_reducible rfl)
        try simp only [List.getElem_toArray, List.getElem_cons_zero, List.getElem_cons_succ, Act.put, List.setIfInBounds_toArray, List.set_cons_zero, List.set_cons_succ]
        refine wpAnyH_take (i := 3) (oi := _) (v := ?vy4) rfl (by kernel_rfl) (by kernel_rfl) (by kernel_rfl) (fun _ _ _ h => h) (Or.inl ⟨by rfl, ?hyy4⟩) (by assumption) ?resty4
        case hyy4 => (intro w hSw; (try dsimp only at hSw); go_simp; try with_reducible rfl)
        try simp only [List.getElem_toArray, List.getElem_cons_zero, List.getElem_cons_succ, Act.put, List.setIfInBounds_toArray, List.set_cons_zero, List.set_cons_succ]
        refine wpAnyH_take (i := 4) (oi := _) (v := ?vy5) rfl (by kernel_rfl) (by kernel_rfl) (by kernel_rfl) (fun _ _ _ h => h) (Or.inl ⟨by rfl, ?hyy5⟩) (by assumption) ?resty5
        case hyy5 => (intro w hSw; (try dsimp only at hSw); go_simp; try with_reducible rfl)
        try simp only [List.getElem_toArray, List.getElem_cons_zero, List.getElem_cons_succ, Act.put, List.setIfInBounds_toArray, List.set_cons_zero, List.set_cons_succ]
        refine wpAnyH_take (i := 5) (oi := _) (v := ?vy6) rfl (by kernel_rfl) (by kernel_rfl) (by kernel_rfl) (fun _ _ _ h => h) (Or.inl ⟨by rfl, ?hyy6⟩) (by assumption) ?resty6
        case hyy6 => (intro w hSw; (try dsimp only at hSw); go_simp; try with_reducible rfl)
        try simp only [List.getElem_toArray, List.getElem_cons_zero, List.getElem_cons_succ, Act.put, List.setIfInBounds_toArray, List.set_cons_zero, List.set_cons_succ]
        refine wpAnyH_take (i := 6) (oi := _) (v := ?vy7) rfl (by kernel_rfl) (by kernel_rfl) (by kernel_rfl) (fun _ _ _ h => h) (Or.inl ⟨by rfl, ?hyy7⟩) (by assumption) ?resty7
        case hyy7 => (intro w hSw; (try dsimp only at hSw); go_simp; try with_reducible rfl)
        try simp only [List.getElem_toArray, List.getElem_cons_zero, List.getElem_cons_succ, Act.put, List.setIfInBounds_toArray, List.set_cons_zero, List.set_cons_succ]
        refine wpAnyH_take (i := 7) (oi := _) (v := ?vy8) rfl (by kernel_rfl) (by kernel_rfl) (by kernel_rfl) (fun _ _ _ h => h) (Or.inl ⟨by rfl, ?hyy8⟩) (by assumption) ?resty8
        case hyy8 => (intro w hSw; (try dsimp only at hSw); go_simp; try with_reducible rfl)
        try simp only [List.getElem_toArray, List.getElem_cons_zero, List.getElem_cons_succ, Act.put, List.setIfInBounds_toArray, List.set_cons_zero, List.set_cons_succ]
        refine wpAnyH_take (i := 8) (oi := _) (v := ?vy9) rfl (by kernel_rfl) (by kernel_rfl) (by kernel_rfl) (fun _ _ _ h => h) (Or.inl ⟨by rfl, ?hyy9⟩) (by assumption) ?resty9
        case hyy9 => (intro w hSw; (try dsimp only at hSw); go_simp; try with_reducible rfl)
        try simp only [List.getElem_toArray, List.getElem_cons_zero, List.getElem_cons_succ, Act.put, List.setIfInBounds_toArray, List.set_cons_zero, List.set_cons_succ]
        refine wpAnyH_take (i := 9) (oi := _) (v := ?vy10) rfl (by kernel_rfl) (by kernel_rfl) (by kernel_rfl) (fun _ _ _ h => h) (Or.inl ⟨by rfl, ?hyy10⟩) (by assumption) ?resty10
        case hyy10 => (intro w hSw; (try dsimp only at hSw); go_simp; try with_reducible rfl)
        try simp only [List.getElem_toArray, List.getElem_cons_zero, List.getElem_cons_succ, Act.put, List.setIfInBounds_toArray, List.set_cons_zero, List.set_cons_succ]
        refine wpAnyH_take (i := 10) (oi := _) (v := ?vy11) rfl (by kernel_rfl) (by kernel_rfl) (by kernel_rfl) (fun _ _ _ h => h) (Or.inl ⟨by rfl, ?hyy11⟩) (by assumption) ?resty11
        case hyy11 => (intro w hSw; (try dsimp only at hSw); go_simp; try with_reducible rfl)
        try simp only [List.getElem_toArray, List.getElem_cons_zero, List.getElem_cons_succ, Act.put, List.setIfInBounds_toArray, List.set_cons_zero, List.set_cons_succ]
        refine wpAnyH_take (i := 12) (oi := _) (v := ?vy12) rfl (by kernel_rfl) (by kernel_rfl) (by kernel_rfl) (fun _ _ _ h => h) (Or.inl ⟨by rfl, ?hyy12⟩) (by assumption) ?resty12
        case hyy12 => (intro w hSw; (try dsimp only at hSw); go_simp; try with_reducible rfl)
        try simp only [List.getElem_toArray, List.getElem_cons_zero, List.getElem_cons_succ, Act.put, List.setIfInBounds_toArray, List.set_cons_zero, List.set_cons_succ]
        refine wpAnyH_take (i := 13) (oi := _) (v := ?vy13) rfl (by kernel_rfl) (by kernel_rfl) (by kernel_rfl) (fun _ _ _ h => h) (Or.inl ⟨by rfl, ?hyy13⟩) (by assumption) ?resty13
        case hyy13 => (intro w hSw; (try dsimp only at hSw); go_simp; try with_reducible rfl)
        try simp only [List.getElem_toArray, List.getElem_cons_zero, List.getElem_cons_succ, Act.put, List.setIfInBounds_toArray, List.set_cons_zero, List.set_cons_succ]
        refine wpAnyH_take (i := 14) (oi := _) (v := ?vy14) rfl (by kernel_rfl) (by kernel_rfl) (by kernel_rfl) (fun _ _ _ h => h) (Or.inl ⟨by rfl, ?hyy14⟩) (by assumption) ?resty14
        case hyy14 => (intro w hSw; (try dsimp only at hSw); go_simp; try with_reducible rfl)
        try simp only [List.getElem_toArray, List.getElem_cons_zero, List.getElem_cons_succ, Act.put, List.setIfInBounds_toArray, List.set_cons_zero, List.set_cons_succ]
        refine wpAnyH_take (i := 15) (oi := _) (v := ?vy15) rfl (by kernel_rfl) (by kernel_rfl) (by kernel_rfl) (fun _ _ _ h => h) (Or.inl ⟨by rfl, ?hyy15⟩) (by assumption) ?resty15
        case hyy15 => (intro w hSw; (try dsimp only at hSw); go_simp; try with_reducible rfl)
        try simp only [List.getElem_toArray, List.getElem_cons_zero, List.getElem_cons_succ, Act.put, List.setIfInBounds_toArray, List.set_cons_zero, List.set_cons_succ]
        refine wpAnyH_take (i := 16) (oi := _) (v := ?vy16) rfl (by kernel_rfl) (by kernel_rfl) (by kernel_rfl) (fun _ _ _ h => h) (Or.inl ⟨by rfl, ?hyy16⟩) (by assumption) ?resty16
        case hyy16 => (intro w hSw; (try dsimp only at hSw); go_simp; try with_reducible rfl)
        try simp only [List.getElem_toArray, List.getElem_cons_zero, List.getElem_cons_succ, Act.put, List.setIfInBounds_toArray, List.set_cons_zero, List.set_cons_succ]
        refine wpAnyH_ready (rs := [11]) (by kernel_rfl) (by simp) ?_
        refine AllReadyH.cons (o := _) rfl (fun KK hKK => ?_) (AllReadyH.nil)
        go_simp
        (go_at_call 25; (with_reducible refine (HSUM.out _ _ (Fr.refl none_ wr).drew).mono ?_); rintro e x9 ⟨rfl, hx9⟩; subst hx9)
        go_wp2_with fail
        refine hKK.out _ _ ?hSy17 (fun hHeldy17 => ?resty17)
        case hSy17 => exact ⟨cy, hb2, hsc2⟩
        clear hKK KK
        try simp only [List.getElem_toArray, List.getElem_cons_zero, List.getElem_cons_succ, Act.put, List.setIfInBounds_toArray, List.set_cons_zero, List.set_cons_succ]
        refine wpAnyH_take (i := 17) (oi := _) (v := ?vy18) rfl (by kernel_rfl) (by kernel_rfl) (by kernel_rfl) (fun _ _ _ h => h) (Or.inl ⟨by rfl, ?hyy18⟩) (by assumption) ?resty18
        case hyy18 => (intro w hSw; (try dsimp only at hSw); go_simp; try with_reducible rfl)
        try simp only [List.getElem_toArray, List.getElem_cons_zero, List.getElem_cons_succ, Act.put, List.setIfInBounds_toArray, List.set_cons_zero, List.set_cons_succ]
        refine wpAnyH_take (i := 18) (oi := _) (v := ?vy19) rfl (by kernel_rfl) (by kernel_rfl) (by kernel_rfl) (fun _ _ _ h => h) (Or.inl ⟨by rfl, ?hyy19⟩) (by assumption) ?resty19
        case hyy19 => (intro w hSw; (try dsimp only at hSw); go_simp; try with_reducible rfl)
        try simp only [List.getElem_toArray, List.getElem_cons_zero, List.getElem_cons_succ, Act.put, List.setIfInBounds_toArray, List.set_cons_zero, List.set_cons_succ]
        refine wpAnyH_take (i := 19) (oi := _) (v := ?vy20) rfl (by kernel_rfl) (by kernel_rfl) (by kernel_rfl) (fun _ _ _ h => h) (Or.inl ⟨by rfl, ?hyy20⟩) (by assumption) ?resty20
        case hyy20 => (intro w hSw; (try dsimp only at hSw); go_simp; try with_reducible rfl)
        try simp only [List.getElem_toArray, List.getElem_cons_zero, List.getElem_cons_succ, Act.put, List.setIfInBounds_toArray, List.set_cons_zero, List.set_cons_succ]
        refine wpAnyH_take (i := 20) (oi := _) (v := ?vy21) rfl (by kernel_rfl) (by kernel_rfl) (by kernel_rfl) (fun _ _ _ h => h) (Or.inl ⟨by rfl, ?hyy21⟩) (by assumption) ?resty21
        case hyy21 => (intro w hSw; (try dsimp only at hSw); go_simp; try with_reducible rfl)
        try simp only [List.getElem_toArray, List.getElem_cons_zero, List.getElem_cons_succ, Act.put, List.setIfInBounds_toArray, List.set_cons_zero, List.set_cons_succ]
        refine wpAnyH_done (by kernel_rfl) ?_ _
        go_wp2_with fail
        go_ret2
        first | rw [← HIH.out.1, HIH.out.2] | rw [List.drop_one, ← HIH.out.1, HIH.out.2]
        exact ⟨some ⟨g9, 1, none⟩, _, by rw [show N = n - 1 by have := HE.out.2.2.2.2.1; omega, beq_natInt]; rfl, HE.out.1, HE.out.2.1, (fun h => by cases h), fun b hb => ⟨(by have := blkOf_some hb; have := HE.out.2.2.1; omega), by rw [blkOf_some hb]; exact HE.out.2.2.2.2.2⟩, HE.out.2.2.2.1.drew⟩
      · have hyn : ¬ (y.toNat : Int) = 1 := fun e => hy1 (UInt8.toNat_inj.1 (show y.toNat = (1 : UInt8).toNat from by rw [show (1 : UInt8).toNat = 1 from rfl]; omega))
        have hyb : ((y.toNat : Int) == 1) = false := by simpa using hyn
        replace cy : wr.cell? ⟨g9, 0, none⟩ = some (.int .u8 (y.toNat : Int)) := cy
        go_wp2_with fail
        refine wp_region_held_drew (S := fun W => W.cell? ⟨g9, 0, none⟩ = some (.int .u8 (y.toNat : Int)) ∧ W.cell? ⟨w.heap.size, 2, none⟩ = some (.slice (some ⟨sb, 0, none⟩) ds.length sc) ∧ W.cell? ⟨sb, i, none⟩ = some (.int .u32 (si : Int))) (by kernel_rfl) ⟨cy, hb2, hsc2⟩ (fun hHeld0 => ?_)
        refine wpAnyH_take (i := 0) (oi := _) (v := ?vn1) rfl (by kernel_rfl) (by kernel_rfl) (by kernel_rfl) (fun _ _ _ h => h) (Or.inl ⟨by rfl, ?hyn1⟩) (by assumption) ?restn1
        case hyn1 => (intro w hSw; (try dsimp only at hSw); go_simp; try with_reducible rfl)
        try simp only [List.getElem_toArray, List.getElem_cons_zero, List.getElem_cons_succ, Act.put, List.setIfInBounds_toArray, List.set_cons_zero, List.set_cons_succ]
        refine wpAnyH_take (i := 1) (oi := _) (v := ?vn2) rfl (by kernel_rfl) (by kernel_rfl) (by kernel_rfl) (fun _ _ _ h => h) (Or.inl ⟨by rfl, ?hyn2⟩) (by assumption) ?restn2
        case hyn2 => (intro w hSw; (try dsimp only at hSw); go_simp; try with_reducible rfl)
        try simp only [List.getElem_toArray, List.getElem_cons_zero, List.getElem_cons_succ, Act.put, List.setIfInBounds_toArray, List.set_cons_zero, List.set_cons_succ]
        refine wpAnyH_take (i := 2) (oi := _) (v := ?vn3) rfl (by kernel_rfl) (by kernel_rfl) (by kernel_rfl) (fun _ _ _ h => h) (Or.inl ⟨by rfl, ?hyn3⟩) (by assumption) ?restn3
        case hyn3 => (intro w hSw; (try dsimp only at hSw); go_simp; try with_reducible rfl)
        try simp only [List.getElem_toArray, List.getElem_cons_zero, List.getElem_cons_succ, Act.put, List.setIfInBounds_toArray, List.set_cons_zero, List.set_cons_succ]
        refine wpAnyH_take (i := 3) (oi := _) (v := ?vn4) rfl (by kernel_rfl) (by kernel_rfl) (by kernel_rfl) (fun _ _ _ h => h) (Or.inl ⟨by rfl, ?hyn4⟩) (by assumption) ?restn4
        case hyn4 => (intro w hSw; (try dsimp only at hSw); go_simp; try with_reducible rfl)
        try simp only [List.getElem_toArray, List.getElem_cons_zero, List.getElem_cons_succ, Act.put, List.setIfInBounds_toArray, List.set_cons_zero, List.set_cons_succ]
        refine wpAnyH_take (i := 4) (oi := _) (v := ?vn5) rfl (by kernel_rfl) (by kernel_rfl) (by kernel_rfl) (fun _ _ _ h => h) (Or.inl ⟨by rfl, ?hyn5⟩) (by assumption) ?restn5
        case hyn5 => (intro w hSw; (try dsimp only at hSw); go_simp; try with_reducible rfl)
        try simp only [List.getElem_toArray, List.getElem_cons_zero, List.getElem_cons_succ, Act.put, List.setIfInBounds_toArray, List.set_cons_zero, List.set_cons_succ]
        refine wpAnyH_take (i := 5) (oi := _) (v := ?vn6) rfl (by kernel_rfl) (by kernel_rfl) (by kernel_rfl) (fun _ _ _ h => h) (Or.inl ⟨by rfl, ?hyn6⟩) (by assumption) ?restn6
        case hyn6 => (intro w hSw; (try dsimp only at hSw); go_simp; try with_reducible rfl)
        try simp only [List.getElem_toArray, List.getElem_cons_zero, List.getElem_cons_succ, Act.put, List.setIfInBounds_toArray, List.set_cons_zero, List.set_cons_succ]
        refine wpAnyH_take (i := 6) (oi := _) (v := ?vn7) rfl (by kernel_rfl) (by kernel_rfl) (by kernel_rfl) (fun _ _ _ h => h) (Or.inl ⟨by rfl, ?hyn7⟩) (by assumption) ?restn7
        case hyn7 => (intro w hSw; (try dsimp only at hSw); go_simp; try with_reducible rfl)
        try simp only [List.getElem_toArray, List.getElem_cons_zero, List.getElem_cons_succ, Act.put, List.setIfInBounds_toArray, List.set_cons_zero, List.set_cons_succ]
        refine wpAnyH_take (i := 7) (oi := _) (v := ?vn8) rfl (by kernel_rfl) (by kernel_rfl) (by kernel_rfl) (fun _ _ _ h => h) (Or.inl ⟨by rfl, ?hyn8⟩) (by assumption) ?restn8
        case hyn8 => (intro w hSw; (try dsimp only at hSw); go_simp; try with_reducible rfl)
        try simp only [List.getElem_toArray, List.getElem_cons_zero, List.getElem_cons_succ, Act.put, List.setIfInBounds_toArray, List.set_cons_zero, List.set_cons_succ]
        refine wpAnyH_take (i := 8) (oi := _) (v := undef) rfl (by kernel_rfl) (by kernel_rfl) (by kernel_rfl) (fun _ _ _ h => h) (Or.inr ⟨by rfl, rfl⟩) (by assumption) ?restn9
        try simp only [List.getElem_toArray, List.getElem_cons_zero, List.getElem_cons_succ, Act.put, List.setIfInBounds_toArray, List.set_cons_zero, List.set_cons_succ]
        refine wpAnyH_take (i := 9) (oi := _) (v := undef) rfl (by kernel_rfl) (by kernel_rfl) (by kernel_rfl) (fun _ _ _ h => h) (Or.inr ⟨by rfl, rfl⟩) (by assumption) ?restn10
        try simp only [List.getElem_toArray, List.getElem_cons_zero, List.getElem_cons_succ, Act.put, List.setIfInBounds_toArray, List.set_cons_zero, List.set_cons_succ]
        refine wpAnyH_take (i := 10) (oi := _) (v := undef) rfl (by kernel_rfl) (by kernel_rfl) (by kernel_rfl) (fun _ _ _ h => h) (Or.inr ⟨by rfl, rfl⟩) (by assumption) ?restn11
        try simp only [List.getElem_toArray, List.getElem_cons_zero, List.getElem_cons_succ, Act.put, List.setIfInBounds_toArray, List.set_cons_zero, List.set_cons_succ]
        refine wpAnyH_take (i := 11) (oi := _) (v := undef) rfl (by kernel_rfl) (by kernel_rfl) (by kernel_rfl) (fun _ _ _ h => h) (Or.inr ⟨by rfl, rfl⟩) (by assumption) ?restn12
        try simp only [List.getElem_toArray, List.getElem_cons_zero, List.getElem_cons_succ, Act.put, List.setIfInBounds_toArray, List.set_cons_zero, List.set_cons_succ]
        refine wpAnyH_take (i := 12) (oi := _) (v := undef) rfl (by kernel_rfl) (by kernel_rfl) (by kernel_rfl) (fun _ _ _ h => h) (Or.inr ⟨by rfl, rfl⟩) (by assumption) ?restn13
        try simp only [List.getElem_toArray, List.getElem_cons_zero, List.getElem_cons_succ, Act.put, List.setIfInBounds_toArray, List.set_cons_zero, List.set_cons_succ]
        refine wpAnyH_take (i := 13) (oi := _) (v := undef) rfl (by kernel_rfl) (by kernel_rfl) (by kernel_rfl) (fun _ _ _ h => h) (Or.inr ⟨by rfl, rfl⟩) (by assumption) ?restn14
        try simp only [List.getElem_toArray, List.getElem_cons_zero, List.getElem_cons_succ, Act.put, List.setIfInBounds_toArray, List.set_cons_zero, List.set_cons_succ]
        refine wpAnyH_take (i := 14) (oi := _) (v := undef) rfl (by kernel_rfl) (by kernel_rfl) (by kernel_rfl) (fun _ _ _ h => h) (Or.inr ⟨by rfl, rfl⟩) (by assumption) ?restn15
        try simp only [List.getElem_toArray, List.getElem_cons_zero, List.getElem_cons_succ, Act.put, List.setIfInBounds_toArray, List.set_cons_zero, List.set_cons_succ]
        refine wpAnyH_take (i := 15) (oi := _) (v := undef) rfl (by kernel_rfl) (by kernel_rfl) (by kernel_rfl) (fun _ _ _ h => h) (Or.inr ⟨by rfl, rfl⟩) (by assumption) ?restn16
        try simp only [List.getElem_toArray, List.getElem_cons_zero, List.getElem_cons_succ, Act.put, List.setIfInBounds_toArray, List.set_cons_zero, List.set_cons_succ]
        refine wpAnyH_take (i := 16) (oi := _) (v := undef) rfl (by kernel_rfl) (by kernel_rfl) (by kernel_rfl) (fun _ _ _ h => h) (Or.inr ⟨by rfl, rfl⟩) (by assumption) ?restn17
        try simp only [List.getElem_toArray, List.getElem_cons_zero, List.getElem_cons_succ, Act.put, List.setIfInBounds_toArray, List.set_cons_zero, List.set_cons_succ]
        refine wpAnyH_take (i := 17) (oi := _) (v := undef) rfl (by kernel_rfl) (by kernel_rfl) (by kernel_rfl) (fun _ _ _ h => h) (Or.inr ⟨by rfl, rfl⟩) (by assumption) ?restn18
        try simp only [List.getElem_toArray, List.getElem_cons_zero, List.getElem_cons_succ, Act.put, List.setIfInBounds_toArray, List.set_cons_zero, List.set_cons_succ]
        refine wpAnyH_take (i := 18) (oi := _) (v := ?vn19) rfl (by kernel_rfl) (by kernel_rfl) (by kernel_rfl) (fun _ _ _ h => h) (Or.inl ⟨by rfl, ?hyn19⟩) (by assumption) ?restn19
        case hyn19 => (intro w hSw; (try dsimp only at hSw); go_simp; try with_reducible rfl)
        try simp only [List.getElem_toArray, List.getElem_cons_zero, List.getElem_cons_succ, Act.put, List.setIfInBounds_toArray, List.set_cons_zero, List.set_cons_succ]
        refine wpAnyH_take (i := 19) (oi := _) (v := ?vn20) rfl (by kernel_rfl) (by kernel_rfl) (by kernel_rfl) (fun _ _ _ h => h) (Or.inl ⟨by rfl, ?hyn20⟩) (by assumption) ?restn20
        case hyn20 => (intro w hSw; (try dsimp only at hSw); go_simp; try with_reducible rfl)
        try simp only [List.getElem_toArray, List.getElem_cons_zero, List.getElem_cons_succ, Act.put, List.setIfInBounds_toArray, List.set_cons_zero, List.set_cons_succ]
        refine wpAnyH_take (i := 20) (oi := _) (v := ?vn21) rfl (by kernel_rfl) (by kernel_rfl) (by kernel_rfl) (fun _ _ _ h => h) (Or.inl ⟨by rfl, ?hyn21⟩) (by assumption) ?restn21
        case hyn21 => (intro w hSw; (try dsimp only at hSw); go_simp; try with_reducible rfl)
        try simp only [List.getElem_toArray, List.getElem_cons_zero, List.getElem_cons_succ, Act.put, List.setIfInBounds_toArray, List.set_cons_zero, List.set_cons_succ]
        refine wpAnyH_done (by kernel_rfl) ?_ _
        go_wp2_with fail
        go_ret2
        first | rw [← HIH.out.1, HIH.out.2] | rw [List.drop_one, ← HIH.out.1, HIH.out.2]
        exact ⟨some ⟨g9, 1, none⟩, _, by rw [show N = n - 1 by have := HE.out.2.2.2.2.1; omega, show (y == 1) = false by simpa using hy1, Bool.false_and]; rfl, HE.out.1, HE.out.2.1, (fun h => by cases h), fun b hb => ⟨(by have := blkOf_some hb; have := HE.out.2.2.1; omega), by rw [blkOf_some hb]; exact HE.out.2.2.2.2.2⟩, HE.out.2.2.2.1.drew⟩
set_option maxHeartbeats 8000000 in
theorem cread_down {w : World} {x lb pb c g : Nat} {ds : List (Nat × Nat × Nat)} {Ds : List DevS} {C : ColdS} {l : List (PlaceS × Value)} (h : ColdAt w x lb pb c g (ds.map (·.1)) C l) (hD : DevsAt w ds Ds) (i : Nat) (hi : i < ds.length) (hi2 : i < Ds.length) (k : Nat) (hk : k < l.length) (hfit : ((C.first + C.places.length * sectC C.d C.size : Nat) : Int) ≤ Ds[i].sectors)
    (hnp : 1 ≤ l[k].1.n ∧ l[k].1.n ≤ C.size) (hsm : l[k].1.sums.length = ds.length) (hup : Ds[i].down = true) :
    Calls Try.prog 44 #[ptr x, .int .i64 (i : Int), .int .i64 (k : Int)] w fun e w' => e = .returned (.tuple #[.slice none 0 0, .bool false]) ∧ Fr none_ w w' := by
  have hmost := (hD.at_ i hi hi2).most
  have hcm := h.code.most
  have hcs := h.most
  have hrN := rowN_le (d := C.d) hnp hcm.1
  have hrK := rowK_le (d := C.d) hnp hcm.1
  have hpl := partC_le (d := C.d) h.most.2.2
  have hlen := h.len
  have hkS : k * sectC C.d C.size + sectC C.d C.size ≤ C.places.length * sectC C.d C.size := by rw [← Nat.succ_mul]; exact Nat.mul_le_mul_right _ (by omega)
  have hat := fun wx (hx : Fr none_ w wx) => cat_any (h.fr0 hx) k (by omega)
  obtain ⟨S, hS⟩ : ∃ S, S = sectC C.d C.size := ⟨_, rfl⟩
  obtain ⟨T, hT⟩ : ∃ T, T = C.first + k * S := ⟨_, rfl⟩
  rw [← hS] at hkS hfit hat hrK 
  rw [← hT] at hat 
  have hTS : ((T + S : Nat) : Int) ≤ Ds[i].sectors := by omega
  obtain ⟨⟨cl, c0⟩, c1, _, _, _, _, _, c7⟩ := h.cells
  rw [List.length_map] at c0
  obtain ⟨rest, hlb⟩ := h.devs
  obtain ⟨D, hDe⟩ : ∃ D, D = Ds[i] := ⟨_, rfl⟩
  have hdev := hD.at_ i hi hi2
  obtain ⟨q, hq⟩ : ∃ q, q = ds[i] := ⟨_, rfl⟩
  have hcd : w.cell? ⟨lb, i, none⟩ = some (ptr q.1) := by
    rw [cell_of_blk hlb, List.getElem?_toArray, List.getElem?_append_left (by simp; omega), List.getElem?_map, List.getElem?_map, List.getElem?_eq_getElem hi, ← hq]
    rfl
  rw [← hDe] at hTS hdev hmost hup 
  rw [← hq] at hdev
  obtain ⟨p, m1, m2⟩ := q
  replace hcd : w.cell? ⟨lb, i, none⟩ = some (ptr p) := hcd
  replace hdev : DevAt w p m1 m2 D := hdev
  obtain ⟨p0, p1, p2⟩ := h.pls.cells k hk
  have hss := h.pls.sums l[k] (List.getElem_mem _)
  obtain ⟨y, hy⟩ : ∃ y, y = l[k] := ⟨_, rfl⟩
  rw [← hy] at p0 p1 p2 hss hnp hsm hrN hrK 
  obtain ⟨⟨st, np, sums⟩, sv⟩ := y
  replace p0 : w.cell? ⟨pb, k * 3, none⟩ = some (.int .i64 (st : Int)) := p0
  replace p1 : w.cell? ⟨pb, k * 3 + 1, none⟩ = some (.int .i64 (np : Int)) := p1
  replace p2 : w.cell? ⟨pb, k * 3 + 2, none⟩ = some sv := p2
  replace hnp : 1 ≤ np ∧ np ≤ C.size := hnp
  replace hsm : sums.length = ds.length := hsm
  replace hss : SumsAt w sv sums := hss
  replace hrN : 2 ≤ rowN np C.d ∧ rowN np C.d ≤ partC C.d C.size := hrN
  replace hrK : 1 ≤ rowK np C.d ∧ rowK np C.d ≤ S := hrK
  show Calls Try.prog _ _ w fun e w' => e = .returned (.tuple #[.slice none 0 0, .bool false]) ∧ Fr none_ w w'
  obtain ⟨sb, sc, full, rfl, hsb, hsf, hsl⟩ : ∃ (b c : Nat) (full : List Value), sv = .slice (some ⟨b, 0, none⟩) sums.length c ∧ w.heap[b]? = some (.cells full.toArray 70 (0, 0)) ∧ sums.map u32V = full.take sums.length ∧ sums.length ≤ full.length := by
    rcases hss with ⟨e, _⟩ | hh
    · rw [e] at hsm; simp at hsm; omega
    · exact hh
  have hsc : w.cell? ⟨sb, i, none⟩ = some (.int .u32 ((sums.getD i 0 : Nat) : Int)) := by
    rw [cell_of_blk hsb, List.getElem?_toArray]
    have e1 : (full.take sums.length)[i]? = full[i]? := by rw [List.getElem?_take_of_lt (by omega)]
    rw [← e1, ← hsf, List.getElem?_map, List.getElem?_eq_getElem (show i < sums.length by omega), List.getD_eq_getElem?_getD, List.getElem?_eq_getElem (show i < sums.length by omega)]
    rfl
  rw [hsm] at p2
  obtain ⟨si, hsi⟩ : ∃ si, si = sums.getD i 0 := ⟨_, rfl⟩
  rw [← hsi] at hsc 
  have hl64 := hdev.get_len
  obtain ⟨N, hN⟩ : ∃ N, N = partN np C.d := ⟨_, rfl⟩
  obtain ⟨n, hn⟩ : ∃ n, n = rowN np C.d := ⟨_, rfl⟩
  obtain ⟨K, hKe⟩ : ∃ K, K = rowK np C.d := ⟨_, rfl⟩
  have hnN : n = N + 1 := by rw [hn, hN]; rfl
  have hKn : K = (n + 63) / 64 := by rw [hKe, hn]; rfl
  rw [← hn] at hrN
  rw [← hKe] at hrK
  have hF0 : Fr none_ w (w.alloc (.cells #[.int .i64 (st : Int), .int .i64 (np : Int), .slice (some ⟨sb, 0, none⟩) ds.length sc] 60)) := (Fr.refl _ _).alloc _
  have hnew := heap_alloc_new w (.cells #[.int .i64 (st : Int), .int .i64 (np : Int), .slice (some ⟨sb, 0, none⟩) ds.length sc] 60)
  obtain ⟨V, hV⟩ : ∃ V, V = w.alloc (.cells #[.int .i64 (st : Int), .int .i64 (np : Int), .slice (some ⟨sb, 0, none⟩) ds.length sc] 60) := ⟨_, rfl⟩
  have HV := Lib.hid hV
  rw [← hV] at hF0 hnew
  have b1 : V.cell? ⟨w.heap.size, 1, none⟩ = some (.int .i64 (np : Int)) := by rw [cell_of_blk hnew]; rfl
  have b2 : V.cell? ⟨w.heap.size, 2, none⟩ = some (.slice (some ⟨sb, 0, none⟩) ds.length sc) := by rw [cell_of_blk hnew]; rfl
  have e1 := hF0.cell0 c1
  have e0 := hF0.cell0 c0
  have ed := hF0.cell0 hcd
  have esc := hF0.cell0 hsc
  obtain ⟨Q, hQ⟩ : ∃ Q, Q = np + C.d - 1 := ⟨_, rfl⟩
  have w1 : IntKind.i64.wrap ((np : Int) + (C.d : Int)) = (np : Int) + (C.d : Int) := IntWalk.i64_in _ (by omega)
  have w2 : IntKind.i64.wrap ((np : Int) + (C.d : Int) - 1) = (Q : Int) := by rw [IntWalk.i64_in _ (by omega)]; omega
  have w3 : (Q : Int).tdiv (C.d : Int) = (N : Int) := by rw [hN, hQ]; unfold partN; rfl
  clear hQ
  have hNb : N ≤ 70000 := by omega
  have w4 : IntKind.i64.wrap (N : Int) = (N : Int) := IntWalk.i64_in _ (by omega)
  have w8 : IntKind.i64.wrap ((N : Int) + 1) = (n : Int) := by rw [IntWalk.i64_in _ (by omega)]; omega
  have w5 : ¬ (C.d : Int) = 0 := by omega
  have w6 : ((C.d : Int) == 0) = false := by simpa using w5
  have w7 : ¬ C.d = 0 := by omega
  have q2 : (0 : Int) ≤ (k : Int) ∧ (k : Int) < (l.length : Int) := by omega
  have q3 : (0 : Int) ≤ (i : Int) ∧ (i : Int) < (ds.length : Int) := by omega
  have hdvV := hdev.fr0 hF0
  have hrd : ∀ W, Fr none_ w W → ∀ j : Nat, j < S → Calls Try.prog 53 #[ptr p, .int .i64 (IntKind.i64.wrap ((T : Int) + (j : Int)))] W fun e w' => e = .returned (.tuple #[.slice none 0 0, .iface 52 (.int .i64 13)]) ∧ W = w' := fun W hF j hj => by
    have hE : D.atE (IntKind.i64.wrap ((T : Int) + (j : Int))) = 13 := by unfold DevS.atE; rw [hup]; rfl
    have h9 := read_err (hdev.fr0 hF) (IntKind.i64.wrap ((T : Int) + (j : Int))) (by rw [hE]; decide)
    rw [hE, errV_n (by decide)] at h9
    exact h9
  have hst : ∀ W, Fr none_ w W → (W.cell? ⟨x, 0, none⟩ = some (.slice (some ⟨lb, 0, none⟩) ds.length cl) ∧ W.cell? ⟨lb, i, none⟩ = some (ptr p)) := fun W hW => ⟨hW.cell0 c0, hW.cell0 hcd⟩
  have hat2 := fun wx (hx : Fr none_ V wx) => hat wx (hF0.trans hx)
  have hrd2 := fun wx (hx : Fr none_ V wx) => hrd wx (hF0.trans hx)
  have hst2 := fun wx (hx : Fr none_ V wx) => hst wx (hF0.trans hx)
  have HAT := Lib.hid hat2
  have HRD := Lib.hid hrd2
  have HST := Lib.hid hst2
  have HL := Lib.hid hl64
  have HK := Lib.hid (And.intro hKn (And.intro hnN hrK))
  have HF0 := Lib.hid hF0
  have HSI := Lib.hid hsi
  have hKb : K ≤ 2000 := by omega
  have hnb : 2 ≤ n ∧ n ≤ 70001 := by omega
  have hTb : T ≤ 1000000 := by omega
  have hKS2 := hrK.2
  clear hat2 hrd2 hst2 hat hrd hst hl64 hKn hnN hrK hD h hmost hrN hpl hkS hfit hTS hlb hdev hDe hq hcd hy hss hsb hsf hsl hsc hnp hN hn hKe hnew hV hF0 hS hT c0 c1 hup hsi hdvV hcm hcs hlen
  go_enter Try.func44, Try.ntmps44
  go_wp2_with fail
  rw [← HV.out]
  go_still (by kernel_rfl)
  go_wp2_with fail
  go_loopw [10, 11] (fun v t wr => v = .slice none 0 0 ∧ t = .int .i64 0 ∧ Fr none_ V wr) (fun _ _ _ => 0)
  case atStart => exact ⟨rfl, rfl, (Fr.refl none_ V).drew⟩
  case round =>
    obtain ⟨rfl, rfl, hR⟩ := hrel
    have hc1 : (0 : Int) < (n : Int) := by omega
    have hc3 : 0 < n := by omega
    have hX0 := hR.drew
    have hs0 := HST.out _ hX0
    have HR := Lib.hid hR
    have hrd0 := fun x1 hX1 => HRD.out x1 hX1 0 (by have := HK.out.2.2.1; omega)
    have e0 : (T : Int) + ((0 : Nat) : Int) = (T : Int) := by omega
    rw [e0] at hrd0
    have HRD0 := Lib.hid hrd0
    clear hR hrd0 e0
    go_wp2_with fail
    go_region_held3 (fun W => W.cell? ⟨x, 0, none⟩ = some (.slice (some ⟨lb, 0, none⟩) ds.length cl) ∧ W.cell? ⟨lb, i, none⟩ = some (ptr p)) (first | exact hs0 | exact HST.out _ hX1) (first
      | (go_at_call 34; (with_reducible refine (HAT.out _ hX0).mono ?_); rintro e x1 ⟨rfl, hY1⟩; have hX1 := hX0.trans hY1)
      | (go_at_call 53; (with_reducible refine (HRD0.out x1 hX1).mono ?_); rintro e x2 ⟨rfl, hx2⟩; subst hx2))
    go_wp2_with fail
    go_ret2
    exact ⟨rfl, HF0.out.trans hX1⟩
end Go.Proofs.Ytdkjmnhblepkaaa

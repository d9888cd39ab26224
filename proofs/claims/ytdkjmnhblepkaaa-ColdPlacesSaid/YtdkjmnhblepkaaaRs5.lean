import Derived.Test.YtdkjmnhblepkaaaRs4
import Derived.StillTailTactics
namespace Go.Proofs.Ytdkjmnhblepkaaa
open Go.RowKit
set_option linter.unusedVariables false
set_option linter.unusedSimpArgs false
set_option maxRecDepth 100000

/-! rs: New, Split. -/
structure NewCode (w : World) (d m : Nat) (e : Ending) (w' : World) : Prop where
  ret : ∃ c g, e = .returned (.tuple #[ptr c, .nilIface]) ∧ CodeS w' c d m g ∧ w.heap.size ≤ c ∧ w.heap.size ≤ g
  fr : Fr none_ w w'
def codeOk (d m : Int) : Prop := ¬ d < 1 ∧ ¬ m < 0 ∧ ¬ 32 < d ∧ ¬ 32 - d < m
theorem rsnew_ok (d m : Nat) (hd : 1 ≤ d) (hm : d + m ≤ 32) (w : World) :
    Calls Try.prog 14 #[.int .i64 (d : Int), .int .i64 (m : Int)] w fun e w' => NewCode w d m e w' := by
  have z1 : ¬ (d : Int) < 1 := by omega
  have z2 : ¬ (m : Int) < 0 := by omega
  have z3 : ¬ (32 : Int) < (d : Int) := by omega
  have z4 : wrap64 (32 - (d : Int)) = 32 - (d : Int) := IntWalk.wrap64_in _ (by omega)
  have z5 : ¬ 32 - (d : Int) < (m : Int) := by omega
  have z6 : d ≤ 32 := by omega
  have z7 : ¬ d < 1 := by omega
  go_enter Try.func14, Try.ntmps14
  go_wp2_with fail
  (with_reducible refine (gfnew_any _).mono ?_)
  rintro e w1 ⟨rfl, hf, hF⟩
  have hlt := hf.lt
  go_wp2_with fail
  go_ret2
  refine ⟨⟨w1.heap.size, w.heap.size, rfl, ⟨heap_alloc_new _ _, hf.fr ((Fr.refl none_ _).alloc _) (fun h => h), by omega, ⟨hd, hm⟩⟩, by omega, Nat.le_refl _⟩, hF.alloc _⟩
theorem rsnew_bad (d m : Int) (hb : d < 1 ∨ m < 0 ∨ 32 < d ∨ 32 - d < m) (w : World) :
    Calls Try.prog 14 #[.int .i64 d, .int .i64 m] w fun e w' => e = .returned (.tuple #[.pointer none, .iface 52 (.int .i64 1)]) ∧ w' = w := by
  by_cases z1 : d < 1
  · go_enter Try.func14, Try.ntmps14
    go_wp2_with fail
    go_ret2
    exact ⟨rfl, rfl⟩
  · by_cases z2 : m < 0
    · go_enter Try.func14, Try.ntmps14
      go_wp2_with fail
      go_ret2
      exact ⟨rfl, rfl⟩
    · by_cases z3 : 32 < d
      · go_enter Try.func14, Try.ntmps14
        go_wp2_with fail
        go_ret2
        exact ⟨rfl, rfl⟩
      · have z4 : wrap64 (32 - d) = 32 - d := IntWalk.wrap64_in _ (by omega)
        have z5 : 32 - d < m := by omega
        go_enter Try.func14, Try.ntmps14
        go_wp2_with fail
        go_ret2
        exact ⟨rfl, rfl⟩
/-- how many bytes a part has -/
def partN (len d : Nat) : Nat := (len + d - 1) / d
def padN (n : Nat) (l : List UInt8) : List UInt8 := l.take n ++ List.replicate (n - (l.take n).length) 0
def splitF (d : Nat) (b : List UInt8) : List (List UInt8) := (List.range d).map (fun i => padN (partN b.length d) (b.drop (i * partN b.length d)))
theorem padN_len (n : Nat) (l : List UInt8) : (padN n l).length = n := by
  unfold padN; rw [List.length_append, List.length_replicate]
  have := List.length_take_le n l
  omega
theorem splitF_len (d : Nat) (b : List UInt8) : (splitF d b).length = d := by simp [splitF]
theorem splitF_row (d : Nat) (b : List UInt8) : ∀ r ∈ splitF d b, r.length = partN b.length d := by
  intro r hr
  obtain ⟨i, _, rfl⟩ := List.mem_map.1 hr
  exact padN_len _ _
theorem splitF_take (d : Nat) (b : List UInt8) (i : Nat) (hi : i < d) : (splitF d b).take (i + 1) = (splitF d b).take i ++ [padN (partN b.length d) (b.drop (i * partN b.length d))] := by
  unfold splitF
  rw [← List.map_take, ← List.map_take, List.take_range, List.take_range, Nat.min_eq_left (by omega), Nat.min_eq_left (by omega), List.range_succ, List.map_append]
  rfl
/-- a row of noughts is laid, its slice is stored, its bytes are copied -/
theorem OutS.copied {w wr V W1 W2 : World} {g b n bj N : Nat} {rows : List (List UInt8)} {cs : List UInt8} (h : OutS w wr g b n rows) (hk : rows.length < n) (hcs : cs.length ≤ N)
    (hV : V = wr.alloc (.cells ((List.replicate N (0 : UInt8)).map byteV).toArray 5)) (hbj : bj = wr.heap.size)
    (hW1 : W1 = V.setCell ⟨b, rows.length, none⟩ (.slice (some ⟨bj, 0, none⟩) N N)) (hF : Fr (fun i => i = bj) W1 W2)
    (hW2 : W2.heap[bj]? = some (.cells (cs.map byteV ++ ((List.replicate N (0 : UInt8)).map byteV).drop cs.length).toArray 5 (0, 0))) : OutS w W2 g b n (rows ++ [cs ++ List.replicate (N - cs.length) 0]) := by
  have hlb := h.lt
  have hFV : Fr none_ wr V := by rw [hV]; exact (Fr.refl _ _).alloc _
  have hVb : V.heap[bj]? = some (.cells ((List.replicate N (0 : UInt8)).map byteV).toArray 5 (0, 0)) := by rw [hV, hbj]; exact heap_alloc_new _ _
  have hgl := h.fd.lt
  have hne1 : bj ≠ b := by omega
  have hne2 : bj ≠ g := by omega
  have hge : w.heap.size ≤ bj := by have := h.fr.size; omega
  have h1 := (h.fld (h.fd.fr hFV (fun h => h)) (Fr.of0 hFV)).push (bj := bj) (r := List.replicate N 0) hk hVb hge hne1 hne2
  rw [List.length_replicate, ← hW1] at h1
  have hrow : (cs.map byteV ++ ((List.replicate N (0 : UInt8)).map byteV).drop cs.length) = (cs ++ List.replicate (N - cs.length) 0).map byteV := by
    rw [List.map_append, ← List.map_drop, List.drop_replicate]
  obtain ⟨vs, e1, e2, e3⟩ := h.blk
  obtain ⟨vs1, q1, q2, q3⟩ := h1.blk
  have hl1 : (rows ++ [List.replicate N (0 : UInt8)]).length = rows.length + 1 := by simp
  have hl2 : (rows ++ [cs ++ List.replicate (N - cs.length) 0]).length = rows.length + 1 := by simp
  have hvs : ∀ j (hj : j < rows.length), ∃ v, vs1[j]? = some v ∧ OwnRow w wr g b v rows[j] := fun j hj => by
    obtain ⟨v, g1, g2⟩ := e3 j hj
    refine ⟨v, ?_, g2⟩
    have c1 : W1.cell? ⟨b, j, none⟩ = some v := by
      rw [hW1, World.cell?_setCell_other _ _ _ _ (by first | (simp; done) | (simp; omega)), cell_of_blk (hFV.heap0 e2), List.getElem?_toArray, List.getElem?_append_left (by omega)]
      exact g1
    rw [cell_of_blk q2, List.getElem?_toArray, List.getElem?_append_left (by omega)] at c1
    exact c1
  have hlast : vs1[rows.length]? = some (.slice (some ⟨bj, 0, none⟩) N N) := by
    have c1 : W1.cell? ⟨b, rows.length, none⟩ = some (.slice (some ⟨bj, 0, none⟩) N N) := by
      rw [hW1]
      exact World.cell?_setCell_same _ _ _ (hFV.cell0 (h.cell hk))
    rw [cell_of_blk q2, List.getElem?_toArray, List.getElem?_append_left (by omega)] at c1
    exact c1
  refine ⟨h1.fd.fr hF (fun e => hne2 e.symm), h.ge, h.ne, h1.fr.own hF hge, vs1, by rw [q1, hl1, hl2], ?_, fun j hj => ?_⟩
  · have := hF.heap q2 (fun e => hne1 e.symm)
    rw [hl1] at this
    rw [hl2]
    exact this
  · by_cases hlt : j < rows.length
    · obtain ⟨v, g1, bq, g2, g3, g4, g5, g6⟩ := hvs j hlt
      refine ⟨v, g1, ?_⟩
      rw [List.getElem_append_left hlt]
      have hq1 := hFV.heap0 g3
      have hq2 : W1.heap[bq]? = some (.cells (rows[j].map byteV).toArray 5 (0, 0)) := by rw [hW1]; exact (Fr.set V b rows.length _).heap hq1 g5
      exact ⟨bq, g2, hF.heap hq2 (fun e => by have := blk_lt g3; omega), g4, g5, g6⟩
    · have hj2 : j = rows.length := by omega
      subst hj2
      refine ⟨_, hlast, ?_⟩
      rw [List.getElem_append_right (by omega)]
      simp only [Nat.sub_self, List.getElem_cons_zero]
      refine ⟨bj, ?_, by rw [← hrow]; exact hW2, hge, hne1, hne2⟩
      rw [List.length_append, List.length_replicate, show cs.length + (N - cs.length) = N by omega]
theorem bytes_one (l : List UInt8) : ∀ v ∈ l.map byteV, v.oneCell' = true := by
  intro v hv
  obtain ⟨x, _, rfl⟩ := List.mem_map.1 hv
  rfl
theorem size_u8R : (Try.prog.info? 5).map (·.size) = some 1 := by kernel_rfl
theorem part_mul {len d i : Nat} (hd : 1 ≤ d) (hi : i < d) (hl : len ≤ 1000000) (hd2 : d ≤ 32) : partN len d ≤ 1000000 ∧ i * partN len d ≤ 100000000 := by
  have h1 : partN len d ≤ 1000000 := by
    unfold partN
    by_cases h0 : len = 0
    · subst h0
      rw [Nat.div_eq_of_lt (by omega)]
      omega
    · refine Nat.le_trans (Nat.div_le_of_le_mul (m := len + d - 1) (k := d) (n := len) ?_) hl
      have : len ≤ d * len := Nat.le_mul_of_pos_left _ hd
      have h2 : d + len ≤ d * len + 1 := by
        obtain ⟨q, rfl⟩ : ∃ q, len = q + 1 := ⟨len - 1, by omega⟩
        obtain ⟨r, rfl⟩ : ∃ r, d = r + 1 := ⟨d - 1, by omega⟩
        rw [Nat.mul_add, Nat.add_mul]
        omega
      omega
  refine ⟨h1, ?_⟩
  have h3 : i * partN len d ≤ 32 * 1000000 := Nat.mul_le_mul (by omega) h1
  omega
theorem wrap_two {i N iN : Nat} (h : (i : Int) * (N : Int) = (iN : Int)) (hb : iN ≤ 100000000) : wrap64 ((i : Int) * (N : Int)) = (iN : Int) ∧ IntKind.i64.wrap ((i : Int) * (N : Int)) = (iN : Int) := by
  rw [h]
  exact ⟨IntWalk.wrap64_in _ (by omega), IntWalk.i64_in _ (by omega)⟩
set_option maxHeartbeats 8000000 in
theorem split_any {w : World} {c d m g : Nat} (h : CodeS w c d m g) (A : Option Addr) (cb : Nat) (l : List UInt8) (hA : CellsAt w A (l.map byteV)) (hAg : ∀ b, blkOf A b → 0 < l.length → b ≠ g) (hl : l.length ≤ 1000000) (hcap : l.length ≤ cb) :
    Calls Try.prog 23 #[ptr c, .slice A l.length cb] w fun e w' => ∃ b, e = .returned (.slice (some ⟨b, 0, none⟩) d d) ∧ OutS w w' g b d (splitF d l) := by
  have hm := h.most
  obtain ⟨c0, c1, c2⟩ := h.cells
  have hne := h.ne
  obtain ⟨N, hN⟩ : ∃ N, N = partN l.length d := ⟨_, rfl⟩
  have hNle : N ≤ 1000000 := by rw [hN]; exact (part_mul (i := 0) (by omega) (by omega) hl (by omega)).1
  have hNi : ∀ i, i < d → i * N ≤ 100000000 := fun i hi => by rw [hN]; exact (part_mul (by omega) hi hl (by omega)).2
  have hmk1 := mkRows d (by omega) w.drew
  obtain ⟨V, hV⟩ : ∃ V, V = w.drew.alloc (.cells (List.replicate d (Value.slice none 0 0)).toArray 33) := ⟨_, rfl⟩
  rw [← hV] at hmk1
  have hO := (OutS.start (w := w.drew) (h.fd.fr (Fr.refl none_ w).drew (fun h => h)) hV).base (Fr.refl (fun i => i = g) w).drew
  obtain ⟨b, hb⟩ : ∃ b, b = w.drew.heap.size := ⟨_, rfl⟩
  rw [← hb] at hmk1 hO
  have HO0 := Lib.hid hO
  have H := Lib.hid (And.intro h (And.intro hA (And.intro hAg hN)))
  have HNI := Lib.hid hNi
  obtain ⟨Q, hQ⟩ : ∃ Q, Q = l.length + d - 1 := ⟨_, rfl⟩
  have w1 : IntKind.i64.wrap ((l.length : Int) + (d : Int)) = (l.length : Int) + (d : Int) := IntWalk.i64_in _ (by omega)
  have w2 : IntKind.i64.wrap ((l.length : Int) + (d : Int) - 1) = (Q : Int) := by rw [IntWalk.i64_in _ (by omega)]; omega
  have w3 : (Q : Int).tdiv (d : Int) = (N : Int) := by rw [hN, hQ]; unfold partN; rfl
  clear hQ
  have w4 : IntKind.i64.wrap (N : Int) = (N : Int) := IntWalk.i64_in _ (by omega)
  have w5 : ¬ (d : Int) = 0 := by omega
  have w6 : ((d : Int) == 0) = false := by simpa using w5
  have w7 : ¬ d = 0 := by omega
  clear h hA hAg hN hNi hV hO hb
  go_enter Try.func23, Try.ntmps23
  go_wp2_with fail
  go_still (by kernel_rfl)
  go_wp2_with fail
  go_loopw [30] (fun v wr => ∃ i : Nat, i ≤ d ∧ v = .int .i64 i ∧ OutS w wr g b d ((splitF d l).take i)) (fun v _ => d - (intOf v).toNat)
  case atStart => exact ⟨0, by omega, rfl, by rw [List.take_zero]; exact HO0.out⟩
  case round =>
    obtain ⟨i, hi, rfl, hO⟩ := hrel
    clear w1 w2 w3 w4
    by_cases hid : i < d
    · have q1 : (i : Int) < (d : Int) := by omega
      have q2 : (0 : Int) ≤ (i : Int) ∧ (i : Int) < (d : Int) := by omega
      obtain ⟨hC, hA, hAg, hN⟩ := H.out
      have hiN := HNI.out i hid
      have htl : ((splitF d l).take i).length = i := by rw [List.length_take, splitF_len]; omega
      have htk := splitF_take d l i hid
      rw [← hN] at htk
      have hmk := mkB N hNle wr
      obtain ⟨V', hV'⟩ : ∃ V', V' = wr.alloc (.cells ((List.replicate N (0 : UInt8)).map byteV).toArray 5) := ⟨_, rfl⟩
      rw [← hV'] at hmk
      have hFV : Fr none_ wr V' := by rw [hV']; exact (Fr.refl _ _).alloc _
      have hVb : V'.heap[wr.heap.size]? = some (.cells ((List.replicate N (0 : UInt8)).map byteV).toArray 5 (0, 0)) := by rw [hV']; exact heap_alloc_new _ _
      obtain ⟨bj, hbj⟩ : ∃ bj, bj = wr.heap.size := ⟨_, rfl⟩
      rw [← hbj] at hmk hVb
      have hcel := hO.cellJ htl hid
      have d1 : V'.cell? ⟨b, i, none⟩ = some (.slice none 0 0) := hFV.cell0 hcel
      have d2 : V'.frozen? ⟨b, i, none⟩ = false := hFV.frozen hcel (fun h => h) (hO.fz _)
      obtain ⟨W1, hW1⟩ : ∃ W1, W1 = V'.setCell ⟨b, i, none⟩ (.slice (some ⟨bj, 0, none⟩) N N) := ⟨_, rfl⟩
      have hlb := hO.lt
      have hne1 : bj ≠ b := by omega
      have e1 : W1.cell? ⟨b, i, none⟩ = some (.slice (some ⟨bj, 0, none⟩) N N) := by rw [hW1]; exact World.cell?_setCell_same _ _ _ d1
      have hW1b : W1.heap[bj]? = some (.cells ((List.replicate N (0 : UInt8)).map byteV).toArray 5 (0, 0)) := by rw [hW1]; exact (Fr.set V' b i _).heap hVb hne1
      have hFW : Fr (fun k => k = g ∨ k = b) w W1 := by
        have := ((hO.fr.trans0 hFV).mono (S2 := fun k => k = g ∨ k = b) (fun _ _ e => .inl e)).setCell (p := ⟨b, i, none⟩) (fun _ => .inr rfl) (.slice (some ⟨bj, 0, none⟩) N N)
        rw [hW1]; exact this
      obtain ⟨iN, hiNe⟩ : ∃ iN, iN = i * N := ⟨_, rfl⟩
      have hW1' : W1 = V'.setCell ⟨b, ((splitF d l).take i).length, none⟩ (.slice (some ⟨bj, 0, none⟩) N N) := by rw [htl]; exact hW1
      have hcopy := fun (W2 : World) (cs : List UInt8) (hcs : cs.length ≤ N) (hF : Fr (fun k => k = bj) W1 W2) hW2 => hO.copied (W2 := W2) (cs := cs) (by omega) hcs hV' hbj hW1' hF hW2
      have hge := hO.ge
      rw [← hiNe] at htk hiN
      have hw2 : (i : Int) * (N : Int) = (iN : Int) := by rw [hiNe]; exact (Int.natCast_mul _ _).symm
      have HWR := Lib.hid (wrap_two hw2 hiN)
      clear hw2
      have HT := Lib.hid htk
      have HCP := Lib.hid hcopy
      by_cases hlt : iN < l.length
      · have q3 : (iN : Int) < (l.length : Int) := by omega
        obtain ⟨a, o, hAe⟩ := hA.addr (by rw [List.length_map]; omega)
        subst hAe
        have hag : a ≠ g := hAg a ⟨_, rfl⟩ (by omega)
        have hab : a < w.heap.size := hA.lt ⟨_, rfl⟩ (by rw [List.length_map]; omega)
        obtain ⟨cs, hcs⟩ : ∃ cs, cs = (l.drop iN).take N := ⟨_, rfl⟩
        have hcl : cs.length = min (l.length - iN) N := by rw [hcs, List.length_take, List.length_drop]; omega
        have hA1 : CellsAt W1 (some ⟨a, o, none⟩) (l.map byteV) := hA.fr hFW (fun x hx e => by
          have := blkOf_some hx
          subst this
          rcases e with e | e
          · exact hag e
          · omega)
        have hcells : CellsAt W1 (some ⟨a, o + iN, none⟩) (cs.map byteV) := by
          have := hA1.sub iN cs.length (by rw [List.length_map]; omega)
          rw [← List.map_drop, ← List.map_take] at this
          rw [show (l.drop iN).take cs.length = cs by rw [hcs, List.length_take, List.length_drop]; first | (rw [List.take_eq_take_iff]; simp; done) | (rw [List.take_eq_take_iff]; simp; omega)] at this
          exact this
        have hdr : CellsAt W1.drew (some ⟨a, o + iN, none⟩) (cs.map byteV) := hcells
        have hbd : W1.drew.heap[bj]? = some (.cells ((List.replicate N (0 : UInt8)).map byteV).toArray 5 (0, 0)) := hW1b
        have i1 : (0 : Int) ≤ (iN : Int) := by omega
        have i2 : (iN : Int) ≤ (l.length : Int) := by omega
        have i3 : iN ≤ l.length := by omega
        have hpd : padN N (l.drop iN) = cs ++ List.replicate (N - cs.length) 0 := by unfold padN; rw [← hcs]
        have hcN : cs.length ≤ N := by omega
        have HW1 := Lib.hid hW1
        have HB := Lib.hid (And.intro hdr (And.intro hbd (And.intro hpd hcl)))
        clear hC hA hAg hN hiN htl htk hV' hFV hVb hbj hcel hlb hW1b hFW hW1' hcopy hA1 hcells hdr hbd hpd hcs hO hag hab HO0 hcl hW1 hiNe
        have hcb : ¬ cb = iN := by omega
        have w1 := HWR.out.1
        have e2 : W1.drew.cell? ⟨b, i, none⟩ = some (.slice (some ⟨bj, 0, none⟩) N N) := e1
        go_wp2_with (first | (rw [← HW1.out]))
        have w1' := HWR.out.2
        go_still_tail 9, (by kernel_rfl)
        change wpList _ _ _ _ _ W1.drew
        clear w1 w1'
        go_wp2_with ((with_reducible refine at_copy (.tmp 47) (.tmp 52) 33 33 5 Try.underlying33 size_u8R (g := bj) (off := 0) (dLen := N) (dCap := N) (sLen := l.length - iN) (sCap := cb - iN) (A := some ⟨a, o + iN, none⟩) (cur := (List.replicate N (0 : UInt8)).map byteV) (cs := cs.map byteV) (t := 5) ?_ ?_ ?_ ?_ ?_ ?_ ?_ ?_); (focus rfl); (focus first | rfl | (simp; done)); (focus exact HB.out.2.1); (focus (rw [List.length_map]; exact HB.out.2.2.2)); (focus exact HB.out.1); (focus (rw [List.length_map, List.length_map, List.length_replicate, Nat.zero_add]; exact hcN)); (focus exact bytes_one _); intro w9 hF9 hW9; have H9 := Lib.hid (And.intro hF9 hW9); clear hF9 hW9)
        have hcp := HCP.out w9 cs hcN (Fr.undrew H9.out.1) (by have := H9.out.2; rw [List.take_zero, List.nil_append, Nat.zero_add, List.length_map] at this; exact this)
        rw [← HB.out.2.2.1, ← HT.out] at hcp
        have HC := Lib.hid hcp
        clear hcp
        go_roundw
        case rel => exact ⟨i + 1, by omega, by go_num, HC.out⟩
        case measure => simp [intOf]; omega
      · have q3 : ¬ (iN : Int) < (l.length : Int) := by omega
        have hpd : padN N (l.drop iN) = [] ++ List.replicate (N - ([] : List UInt8).length) 0 := by
          unfold padN
          rw [List.drop_eq_nil_of_le (by omega)]; simp
        have hcp := hcopy W1 [] (by simp) (Fr.refl _ _) (by simpa using hW1b)
        rw [← hpd, ← htk] at hcp
        have HC := Lib.hid hcp
        have HW1 := Lib.hid hW1
        clear hC hA hAg hN hiN htl htk hV' hFV hVb hbj hcel hlb hW1b hFW hW1' hcopy hO HO0 hW1 hiNe hcp hpd
        have w1 := HWR.out.1
        go_wp2_with (first | (rw [← HW1.out]))
        clear w1
        go_roundw
        case rel => exact ⟨i + 1, by omega, by go_num, HC.out⟩
        case measure => simp [intOf]; omega
    · have hi2 : i = d := by omega
      rw [hi2] at hO ⊢
      rw [show (splitF d l).take d = splitF d l by rw [List.take_of_length_le (by rw [splitF_len]; exact Nat.le_refl _)]] at hO
      have q1 : ¬ (d : Int) < (d : Int) := by omega
      have HO := Lib.hid hO
      clear hO HO0 hid hi
      go_wp2_with fail
      go_ret
      exact ⟨b, rfl, HO.out⟩
end Go.Proofs.Ytdkjmnhblepkaaa

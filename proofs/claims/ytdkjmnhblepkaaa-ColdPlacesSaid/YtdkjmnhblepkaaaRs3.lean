import Derived.Test.YtdkjmnhblepkaaaRs2
import Derived.Test.YtdkjmnhblepkaaaDevW
namespace Go.Proofs.Ytdkjmnhblepkaaa
open Go.RowKit
set_option linter.unusedVariables false
set_option linter.unusedSimpArgs false
set_option maxRecDepth 100000

/-! rs: rows of their own; even; made. -/
theorem info_sl8 : (Try.prog.info? 33).map (fun i => (i.zero, i.size, i.bytes)) = some (some (.slice none 0 0), 1, 24) := by kernel_rfl
theorem mkRows (n : Nat) (hn : n ≤ 1000000) (w : World) : (Instr.makeSlice 65 (.int .i64 (n : Int)) (.int .i64 (n : Int))).run Try.prog w = .ok (.slice (some ⟨w.heap.size, 0, none⟩) n n) (w.alloc (.cells (List.replicate n (Value.slice none 0 0)).toArray 33)) := by
  obtain ⟨i, hi, hzz⟩ := Option.map_eq_some_iff.1 info_sl8
  simp only [Prod.mk.injEq] at hzz
  obtain ⟨hz, hs, hb⟩ := hzz
  have h := run_make (P := Try.prog) w 65 33 i _ Try.underlying65 hi hz .i64 .i64 n n (by omega) (by omega) (by rw [hb]; omega) (by omega)
  rw [hs, Int.toNat_natCast] at h
  have e : madeCells (Value.slice none 0 0).cells (n * 1) = (List.replicate n (Value.slice none 0 0)).toArray := by
    apply Array.toList_inj.1
    rw [show (Value.slice none 0 0).cells = #[Value.slice none 0 0] from rfl, toList_madeCells_one, Nat.mul_one]
  rw [e] at h
  exact h
/-- a row's own block -/
structure OwnRow (w wr : World) (g b : Nat) (v : Value) (r : List UInt8) : Prop where
  at_ : ∃ bj, v = .slice (some ⟨bj, 0, none⟩) r.length r.length ∧ wr.heap[bj]? = some (.cells (r.map byteV).toArray 5 (0, 0)) ∧ w.heap.size ≤ bj ∧ bj ≠ b ∧ bj ≠ g
/-- n rows of their own, of which the first are made -/
structure OutS (w wr : World) (g b n : Nat) (rows : List (List UInt8)) : Prop where
  fd : FieldAt wr g
  ge : w.heap.size ≤ b
  ne : b ≠ g
  fr : Fr (fun i => i = g) w wr
  blk : ∃ vs : List Value, vs.length = rows.length ∧ wr.heap[b]? = some (.cells (vs ++ List.replicate (n - rows.length) (Value.slice none 0 0)).toArray 33 (0, 0)) ∧ ∀ j (hj : j < rows.length), ∃ v, vs[j]? = some v ∧ OwnRow w wr g b v rows[j]
theorem OwnRow.fr {w wr w' : World} {g b : Nat} {v : Value} {r : List UInt8} (h : OwnRow w wr g b v r) {S : Nat → Prop} (hF : Fr S wr w') (hS : ∀ i, i < wr.heap.size → S i → i = g ∨ i = b) : OwnRow w w' g b v r := by
  obtain ⟨bj, h1, h2, h3, h4, h5⟩ := h
  exact ⟨bj, h1, hF.heap h2 (fun e => by rcases hS bj (blk_lt h2) e with e | e; exact h5 e; exact h4 e), h3, h4, h5⟩
theorem OutS.start {w V : World} {g n : Nat} (hg : FieldAt w g) (hV : V = w.alloc (.cells (List.replicate n (Value.slice none 0 0)).toArray 33)) : OutS w V g w.heap.size n [] := by
  have hF : Fr none_ w V := by rw [hV]; exact (Fr.refl _ _).alloc _
  have hl := hg.lt
  exact ⟨hg.fr hF (fun h => h), Nat.le_refl _, by omega, Fr.of0 hF, [], rfl, by rw [hV]; exact heap_alloc_new _ _, fun j hj => absurd hj (by simp)⟩
theorem OutS.cell {w wr : World} {g b n : Nat} {rows : List (List UInt8)} (h : OutS w wr g b n rows) (hk : rows.length < n) : wr.cell? ⟨b, rows.length, none⟩ = some (.slice none 0 0) := by
  obtain ⟨vs, h1, h2, h3⟩ := h.blk
  rw [cell_of_blk h2, List.getElem?_toArray, List.getElem?_append_right (by omega), List.getElem?_replicate, if_pos (by omega)]
theorem OutS.cellJ {w wr : World} {g b n j : Nat} {rows : List (List UInt8)} (h : OutS w wr g b n rows) (hl : rows.length = j) (hk : j < n) : wr.cell? ⟨b, j, none⟩ = some (.slice none 0 0) := by subst hl; exact h.cell hk
theorem OutS.fz {w wr : World} {g b n : Nat} {rows : List (List UInt8)} (h : OutS w wr g b n rows) (o : Nat) : wr.frozen? ⟨b, o, none⟩ = false := by
  obtain ⟨vs, h1, h2, h3⟩ := h.blk
  exact frozen_of_blk h2 o
theorem OutS.lt {w wr : World} {g b n : Nat} {rows : List (List UInt8)} (h : OutS w wr g b n rows) : b < wr.heap.size := by
  obtain ⟨vs, h1, h2, h3⟩ := h.blk
  exact blk_lt h2
/-- the field is turned, new blocks are laid -/
theorem OutS.fld {w wr w' : World} {g b n : Nat} {rows : List (List UInt8)} (h : OutS w wr g b n rows) (hM : FieldAt w' g) (hF : Fr (fun i => i = g) wr w') : OutS w w' g b n rows := by
  obtain ⟨vs, h1, h2, h3⟩ := h.blk
  exact ⟨hM, h.ge, h.ne, h.fr.trans hF, vs, h1, hF.heap h2 h.ne, fun j hj => by
    obtain ⟨v, e1, e2⟩ := h3 j hj
    exact ⟨v, e1, e2.fr hF (fun i _ e => .inl e)⟩⟩
theorem OutS.push {w wr : World} {g b n bj : Nat} {rows : List (List UInt8)} {r : List UInt8} (h : OutS w wr g b n rows) (hk : rows.length < n) (hr : wr.heap[bj]? = some (.cells (r.map byteV).toArray 5 (0, 0))) (h1 : w.heap.size ≤ bj) (h2 : bj ≠ b) (h3 : bj ≠ g) : OutS w (wr.setCell ⟨b, rows.length, none⟩ (.slice (some ⟨bj, 0, none⟩) r.length r.length)) g b n (rows ++ [r]) := by
  obtain ⟨vs, e1, e2, e3⟩ := h.blk
  have hF := Fr.set wr b rows.length (.slice (some ⟨bj, 0, none⟩) r.length r.length)
  refine ⟨h.fd.fr hF (fun e => h.ne e.symm), h.ge, h.ne, h.fr.own hF h.ge, vs ++ [.slice (some ⟨bj, 0, none⟩) r.length r.length], by simp [e1], ?_, fun j hj => ?_⟩
  · rw [heap_setCell_same e2]
    obtain ⟨q, hq⟩ : ∃ q, n - rows.length = q + 1 := ⟨n - rows.length - 1, by omega⟩
    have hq2 : n - (rows ++ [r]).length = q := by rw [List.length_append, List.length_singleton]; omega
    rw [hq, hq2, List.replicate_succ]
    congr 2
    rw [List.setIfInBounds_toArray, ← e1, List.set_append_right _ _ (Nat.le_refl _), Nat.sub_self, List.set_cons_zero, List.append_assoc]
    rfl
  · by_cases hlt : j < rows.length
    · obtain ⟨v, g1, g2⟩ := e3 j hlt
      refine ⟨v, by rw [List.getElem?_append_left (by omega)]; exact g1, ?_⟩
      rw [List.getElem_append_left hlt]
      exact g2.fr hF (fun i _ e => .inr e)
    · have hj2 : j = rows.length := by rw [List.length_append, List.length_singleton] at hj; omega
      subst hj2
      refine ⟨_, by rw [List.getElem?_append_right (by omega), e1, Nat.sub_self]; rfl, ?_⟩
      rw [List.getElem_append_right (by omega)]
      simp only [Nat.sub_self, List.getElem_cons_zero]
      exact ⟨bj, rfl, hF.heap hr h2, h1, h2, h3⟩
theorem OutS.base {w w0 wr : World} {g b n : Nat} {rows : List (List UInt8)} (h : OutS w0 wr g b n rows) (hF : Fr (fun i => i = g) w w0) : OutS w wr g b n rows := by
  obtain ⟨vs, e1, e2, e3⟩ := h.blk
  have hz := hF.size
  exact ⟨h.fd, Nat.le_trans hz h.ge, h.ne, hF.trans h.fr, vs, e1, e2, fun j hj => by
    obtain ⟨v, g1, bj, q1, q2, q3, q4, q5⟩ := e3 j hj
    exact ⟨v, g1, bj, q1, q2, Nat.le_trans hz q3, q4, q5⟩⟩
/-- all are made: rows to read -/
theorem OutS.rows {w wr : World} {g b n : Nat} {rows : List (List UInt8)} (h : OutS w wr g b n rows) : RowsV wr g (some ⟨b, 0, none⟩) rows := by
  obtain ⟨vs, e1, e2, e3⟩ := h.blk
  refine ⟨⟨vs, e1, fun k hk => ⟨b, 0, rfl, ?_⟩, fun j hj => ?_⟩, fun b' hb' _ => by have := blkOf_some hb'; rw [this]; exact h.ne⟩
  · rw [cell_of_blk e2, List.getElem?_toArray, Nat.zero_add, List.getElem?_append_left hk, List.getElem?_eq_getElem hk]
  · obtain ⟨v, g1, bj, rfl, g2, g3, g4, g5⟩ := e3 j hj
    exact ⟨some ⟨bj, 0, none⟩, _, g1, CellsAt.whole g2, (fun h => by cases h), fun b' hb' _ => by have := blkOf_some hb'; rw [this]; exact g5⟩
def dataF (d : Nat) (from_ first : List (List UInt8)) (n : Nat) : List (List UInt8) := (List.range d).map (fun j => mixF (first.getD j []) from_ n)
def madeF (d m : Nat) (data : List (List UInt8)) (n : Nat) : List (List UInt8) := (List.range (d + m)).map (fun i => mixF (rowF d i) data n)
theorem dataF_take (d : Nat) (from_ first : List (List UInt8)) (n j : Nat) (hj : j < d) : (dataF d from_ first n).take (j + 1) = (dataF d from_ first n).take j ++ [mixF (first.getD j []) from_ n] := by
  unfold dataF
  rw [← List.map_take, ← List.map_take, List.take_range, List.take_range, Nat.min_eq_left (by omega), Nat.min_eq_left (by omega), List.range_succ, List.map_append]
  rfl
theorem madeF_take (d m : Nat) (data : List (List UInt8)) (n j : Nat) (hj : j < d + m) : (madeF d m data n).take (j + 1) = (madeF d m data n).take j ++ [mixF (rowF d j) data n] := by
  unfold madeF
  rw [← List.map_take, ← List.map_take, List.take_range, List.take_range, Nat.min_eq_left (by omega), Nat.min_eq_left (by omega), List.range_succ, List.map_append]
  rfl
theorem dataF_len (d : Nat) (from_ first : List (List UInt8)) (n : Nat) : (dataF d from_ first n).length = d := by simp [dataF]
theorem madeF_len (d m : Nat) (data : List (List UInt8)) (n : Nat) : (madeF d m data n).length = d + m := by simp [madeF]
theorem dataF_row (d : Nat) (from_ first : List (List UInt8)) (n : Nat) : ∀ r ∈ dataF d from_ first n, r.length = n := by
  intro r hr
  obtain ⟨j, _, rfl⟩ := List.mem_map.1 hr
  exact mixF_len _ _ _
theorem madeF_row (d m : Nat) (data : List (List UInt8)) (n : Nat) : ∀ r ∈ madeF d m data n, r.length = n := by
  intro r hr
  obtain ⟨j, _, rfl⟩ := List.mem_map.1 hr
  exact mixF_len _ _ _
def MadePost (w : World) (g : Nat) (rows : List (List UInt8)) (e : Ending) (w' : World) : Prop := ∃ b, e = .returned (.tuple #[.slice (some ⟨b, 0, none⟩) rows.length rows.length, .nilIface]) ∧ OutS w w' g b rows.length rows
set_option maxHeartbeats 8000000 in
theorem made_any {w : World} {c d m g : Nat} (h : CodeS w c d m g) (Af : Option Addr) (cf : Nat) (from_ : List (List UInt8)) (hR : RowsV w g Af from_) (hfd : from_.length = d) (n : Nat) (hn : n ≤ 1000000) (hall : ∀ r ∈ from_, r.length = n) (A1 : Option Addr) (c1' : Nat) (first : List (List UInt8)) (hR1 : RowsV w g A1 first) (h1d : first.length = d) (h1all : ∀ r ∈ first, r.length = d) :
    Calls Try.prog 32 #[ptr c, .slice Af d cf, .int .i64 (n : Int), .slice A1 d c1'] w fun e w' => MadePost w g (madeF d m (dataF d from_ first n) n) e w' := by
  have hm := h.most
  obtain ⟨c0, c1, c2⟩ := h.cells
  have hne := h.ne
  have hmkd := mkRows d (by omega) w
  obtain ⟨V, hV⟩ : ∃ V, V = w.alloc (.cells (List.replicate d (Value.slice none 0 0)).toArray 33) := ⟨_, rfl⟩
  have hO := OutS.start h.fd hV
  rw [← hV] at hmkd
  have hFV : Fr none_ w V := by rw [hV]; exact (Fr.refl _ _).alloc _
  obtain ⟨b, hb⟩ : ∃ b, b = w.heap.size := ⟨_, rfl⟩
  rw [← hb] at hmkd hO
  have HB := Lib.hid hb
  obtain ⟨D, hD⟩ : ∃ D, D = dataF d from_ first n := ⟨_, rfl⟩
  have hDl : D.length = d := by rw [hD, dataF_len]
  have hDr : ∀ r ∈ D, r.length = n := by rw [hD]; exact dataF_row _ _ _ _
  rw [← hD]
  have HD := Lib.hid (And.intro hD hDr)
  have HO0 := Lib.hid hO
  have H := Lib.hid (And.intro h (And.intro hR (And.intro hR1 (And.intro hall h1all))))
  clear hb h hR hR1 hall h1all hV hFV hO hD hDr
  go_enter Try.func32, Try.ntmps32
  go_wp2_with fail
  go_loopw [23] (fun v wr => ∃ j : Nat, j ≤ d ∧ v = .int .i64 j ∧ OutS w wr g b d (D.take j)) (fun v _ => d - (intOf v).toNat)
  case atStart => exact ⟨0, by omega, rfl, by rw [List.take_zero]; exact HO0.out⟩
  case round =>
    obtain ⟨j, hj, rfl, hO⟩ := hrel
    by_cases hjd : j < d
    · have q1 : (j : Int) < (d : Int) := by omega
      have q2 : (0 : Int) ≤ (j : Int) ∧ (j : Int) < (d : Int) := by omega
      have hj1 : j < first.length := by omega
      obtain ⟨hC, hR, hR1, hall, h1all⟩ := H.out
      obtain ⟨fa, fo, Aj, cj, rfl, hfc, hfr, hfn, hfg⟩ := hR1.row j hj1
      have hgd : first.getD j [] = first[j] := by rw [List.getD_eq_getElem?_getD, List.getElem?_eq_getElem hj1]; rfl
      have hfl : (first.getD j []).length = d := by rw [hgd]; exact h1all _ (List.getElem_mem _)
      have hfane : fa ≠ g := hR1.ne fa ⟨_, rfl⟩ (by omega)
      rw [← hgd] at hfc hfr hfg
      have y2 : ∀ wx, Fr (fun i => i = g) w wx → wx.cell? ⟨c, 2, none⟩ = some (ptr g) ∧ wx.cell? ⟨fa, fo + j, none⟩ = some (.slice Aj (first.getD j []).length cj) := fun wx hx => ⟨hx.cell c2 hne, hx.cell hfc hfane⟩
      have hmx := mix_any (w := wr.drew) (hO.fd.fr (Fr.refl none_ wr).drew (fun h => h)) Aj cj (first.getD j []) (hfr.frp hO.fr.drew (fun b' hb' hl e => hfg b' hb' (by rw [List.length_map] at hl; exact hl) e)) hfg Af d cf from_ hfd.symm (hR.fr hO.fr.drew (fun _ _ e => e)) (by omega) (by omega) n hn hall
      have htl : (D.take j).length = j := by rw [List.length_take]; omega
      have htk : D.take (j + 1) = D.take j ++ [mixF (first.getD j []) from_ n] := by rw [HD.out.1]; exact dataF_take _ _ _ _ _ hjd
      have HMX := Lib.hid hmx
      have HY := Lib.hid y2
      have HO := Lib.hid hO
      have HT := Lib.hid (And.intro htl htk)
      have hs0 := y2 wr.drew hO.fr.drew
      rw [hfl] at HMX HY
      rw [hfl] at hs0
      have HFL := Lib.hid hfl
      clear hC hR hR1 hall h1all hfc hfr hfn hfg hgd hfl y2 hmx htl htk hO HO0
      go_wp2_with fail
      refine wp_region_held_drew (S := fun W => (W.cell? ⟨c, 2, none⟩ = some (ptr g) ∧ W.cell? ⟨fa, fo + j, none⟩ = some (.slice Aj d cj))) (by kernel_rfl) hs0 (fun hHeld0 => ?_)
      refine wpAnyH_take (i := 0) (oi := _) (v := ?v1) rfl (by kernel_rfl) (by kernel_rfl) (by kernel_rfl) (fun _ _ _ h => h) (Or.inl ⟨by rfl, ?hy1⟩) (by assumption) ?rest1
      case hy1 => (intro w hSw; (try dsimp only at hSw); go_simp; try with_reducible rfl)
      try simp only [List.getElem_toArray, List.getElem_cons_zero, List.getElem_cons_succ, Act.put, List.setIfInBounds_toArray, List.set_cons_zero, List.set_cons_succ]
      refine wpAnyH_take (i := 1) (oi := _) (v := ?v2) rfl (by kernel_rfl) (by kernel_rfl) (by kernel_rfl) (fun _ _ _ h => h) (Or.inl ⟨by rfl, ?hy2⟩) (by assumption) ?rest2
      case hy2 => (intro w hSw; (try dsimp only at hSw); go_simp; try with_reducible rfl)
      try simp only [List.getElem_toArray, List.getElem_cons_zero, List.getElem_cons_succ, Act.put, List.setIfInBounds_toArray, List.set_cons_zero, List.set_cons_succ]
      refine wpAnyH_take (i := 2) (oi := _) (v := ?v3) rfl (by kernel_rfl) (by kernel_rfl) (by kernel_rfl) (fun _ _ _ h => h) (Or.inl ⟨by rfl, ?hy3⟩) (by assumption) ?rest3
      case hy3 => (intro w hSw; (try dsimp only at hSw); go_simp; try with_reducible rfl)
      try simp only [List.getElem_toArray, List.getElem_cons_zero, List.getElem_cons_succ, Act.put, List.setIfInBounds_toArray, List.set_cons_zero, List.set_cons_succ]
      refine wpAnyH_take (i := 3) (oi := _) (v := ?v4) rfl (by kernel_rfl) (by kernel_rfl) (by kernel_rfl) (fun _ _ _ h => h) (Or.inl ⟨by rfl, ?hy4⟩) (by assumption) ?rest4
      case hy4 => (intro w hSw; (try dsimp only at hSw); go_simp; try with_reducible rfl)
      try simp only [List.getElem_toArray, List.getElem_cons_zero, List.getElem_cons_succ, Act.put, List.setIfInBounds_toArray, List.set_cons_zero, List.set_cons_succ]
      refine wpAnyH_take (i := 4) (oi := _) (v := ?v5) rfl (by kernel_rfl) (by kernel_rfl) (by kernel_rfl) (fun _ _ _ h => h) (Or.inl ⟨by rfl, ?hy5⟩) (by assumption) ?rest5
      case hy5 => (intro w hSw; (try dsimp only at hSw); go_simp; try with_reducible rfl)
      try simp only [List.getElem_toArray, List.getElem_cons_zero, List.getElem_cons_succ, Act.put, List.setIfInBounds_toArray, List.set_cons_zero, List.set_cons_succ]
      refine wpAnyH_take (i := 5) (oi := _) (v := ?v6) rfl (by kernel_rfl) (by kernel_rfl) (by kernel_rfl) (fun _ _ _ h => h) (Or.inl ⟨by rfl, ?hy6⟩) (by assumption) ?rest6
      case hy6 => (intro w hSw; (try dsimp only at hSw); go_simp; try with_reducible rfl)
      try simp only [List.getElem_toArray, List.getElem_cons_zero, List.getElem_cons_succ, Act.put, List.setIfInBounds_toArray, List.set_cons_zero, List.set_cons_succ]
      refine wpAnyH_take (i := 6) (oi := _) (v := ?v7) rfl (by kernel_rfl) (by kernel_rfl) (by kernel_rfl) (fun _ _ _ h => h) (Or.inl ⟨by rfl, ?hy7⟩) (by assumption) ?rest7
      case hy7 => (intro w hSw; (try dsimp only at hSw); go_simp; try with_reducible rfl)
      try simp only [List.getElem_toArray, List.getElem_cons_zero, List.getElem_cons_succ, Act.put, List.setIfInBounds_toArray, List.set_cons_zero, List.set_cons_succ]
      refine wpAnyH_take (i := 7) (oi := _) (v := ?v8) rfl (by kernel_rfl) (by kernel_rfl) (by kernel_rfl) (fun _ _ _ h => h) (Or.inl ⟨by rfl, ?hy8⟩) (by assumption) ?rest8
      case hy8 => (intro w hSw; (try dsimp only at hSw); go_simp; try with_reducible rfl)
      try simp only [List.getElem_toArray, List.getElem_cons_zero, List.getElem_cons_succ, Act.put, List.setIfInBounds_toArray, List.set_cons_zero, List.set_cons_succ]
      refine wpAnyH_take (i := 8) (oi := _) (v := ?v9) rfl (by kernel_rfl) (by kernel_rfl) (by kernel_rfl) (fun _ _ _ h => h) (Or.inl ⟨by rfl, ?hy9⟩) (by assumption) ?rest9
      case hy9 => (intro w hSw; (try dsimp only at hSw); go_simp; try with_reducible rfl)
      try simp only [List.getElem_toArray, List.getElem_cons_zero, List.getElem_cons_succ, Act.put, List.setIfInBounds_toArray, List.set_cons_zero, List.set_cons_succ]
      refine wpAnyH_take (i := 9) (oi := _) (v := ?v10) rfl (by kernel_rfl) (by kernel_rfl) (by kernel_rfl) (fun _ _ _ h => h) (Or.inl ⟨by rfl, ?hy10⟩) (by assumption) ?rest10
      case hy10 => (intro w hSw; (try dsimp only at hSw); go_simp; try with_reducible rfl)
      try simp only [List.getElem_toArray, List.getElem_cons_zero, List.getElem_cons_succ, Act.put, List.setIfInBounds_toArray, List.set_cons_zero, List.set_cons_succ]
      refine wpAnyH_take (i := 10) (oi := _) (v := ?v11) rfl (by kernel_rfl) (by kernel_rfl) (by kernel_rfl) (fun _ _ _ h => h) (Or.inl ⟨by rfl, ?hy11⟩) (by assumption) ?rest11
      case hy11 => (intro w hSw; (try dsimp only at hSw); go_simp; try with_reducible rfl)
      try simp only [List.getElem_toArray, List.getElem_cons_zero, List.getElem_cons_succ, Act.put, List.setIfInBounds_toArray, List.set_cons_zero, List.set_cons_succ]
      refine wpAnyH_take (i := 11) (oi := _) (v := ?v12) rfl (by kernel_rfl) (by kernel_rfl) (by kernel_rfl) (fun _ _ _ h => h) (Or.inl ⟨by rfl, ?hy12⟩) (by assumption) ?rest12
      case hy12 => (intro w hSw; (try dsimp only at hSw); go_simp; try with_reducible rfl)
      try simp only [List.getElem_toArray, List.getElem_cons_zero, List.getElem_cons_succ, Act.put, List.setIfInBounds_toArray, List.set_cons_zero, List.set_cons_succ]
      refine wpAnyH_ready (rs := [12]) (by kernel_rfl) (by simp) ?_
      refine AllReadyH.cons (o := _) rfl (fun KK hKK => ?_) (AllReadyH.nil)
      go_simp
      (go_at_call 39; (with_reducible refine HMX.out.mono ?_); rintro e x1 ⟨bj, rfl, hm1⟩; have hO1 := HO.out.fld hm1.fd (Fr.undrew hm1.fr); have HO1 := Lib.hid (And.intro hO1 hm1); have u1 := hO1.cellJ HT.out.1 hjd; have u2 : x1.frozen? ⟨b, j, none⟩ = false := hO1.fz _; clear hO1 hm1)
      go_wp2_with fail
      refine hKK.out _ _ ?hS13 (fun hHeld13 => ?rest13)
      case hS13 => (first | exact hs0 | exact HY.out _ HO1.out.1.fr | exact HY.out _ (HO1.out.1.fr.own (Fr.set _ b j _) HO1.out.1.ge))
      clear hKK KK
      try simp only [List.getElem_toArray, List.getElem_cons_zero, List.getElem_cons_succ, Act.put, List.setIfInBounds_toArray, List.set_cons_zero, List.set_cons_succ]
      refine wpAnyH_take (i := 13) (oi := _) (v := ?v14) rfl (by kernel_rfl) (by kernel_rfl) (by kernel_rfl) (fun _ _ _ h => h) (Or.inl ⟨by rfl, ?hy14⟩) (by assumption) ?rest14
      case hy14 => (intro w hSw; (try dsimp only at hSw); go_simp; try with_reducible rfl)
      try simp only [List.getElem_toArray, List.getElem_cons_zero, List.getElem_cons_succ, Act.put, List.setIfInBounds_toArray, List.set_cons_zero, List.set_cons_succ]
      refine wpAnyH_ready (rs := [14]) (by kernel_rfl) (by simp) ?_
      refine AllReadyH.cons (o := _) rfl (fun KK hKK => ?_) (AllReadyH.nil)
      go_simp
      refine hKK.out _ _ ?hS15 (fun hHeld15 => ?rest15)
      case hS15 => (first | exact hs0 | exact HY.out _ HO1.out.1.fr | exact HY.out _ (HO1.out.1.fr.own (Fr.set _ b j _) HO1.out.1.ge))
      clear hKK KK
      try simp only [List.getElem_toArray, List.getElem_cons_zero, List.getElem_cons_succ, Act.put, List.setIfInBounds_toArray, List.set_cons_zero, List.set_cons_succ]
      refine wpAnyH_done (by kernel_rfl) ?_ _
      have hO2 := HO1.out.1.push (bj := bj) (r := mixF (first.getD j []) from_ n) (by have := HT.out.1; omega) HO1.out.2.out (by have := HO.out.fr.size; have := HO1.out.2.ge; show w.heap.size ≤ bj; exact Nat.le_trans HO.out.fr.size HO1.out.2.ge) (by have := HO.out.lt; have := HO1.out.2.ge; show bj ≠ b; intro e; subst e; exact absurd HO.out.lt (Nat.not_lt.2 HO1.out.2.ge)) HO1.out.2.ne
      rw [HT.out.1, ← HT.out.2, mixF_len] at hO2
      have HO2 := Lib.hid hO2
      clear hO2
      go_wp2_with fail
      go_roundw
      case rel => exact ⟨j + 1, by omega, by go_num, by (try rw [mixF_len]); exact HO2.out⟩
      case measure => simp [intOf]; omega
    · have hj2 : j = d := by omega
      rw [hj2] at hO ⊢
      clear hj hjd HO0 hmkd
      rw [show D.take d = D by rw [← hDl, List.take_length]] at hO
      obtain ⟨hC, _⟩ := H.out
      have hC2 := hC.frG hO.fr hO.fd
      have hmk2 := mkRows (d + m) (by omega) wr
      obtain ⟨V2, hV2⟩ : ∃ V2, V2 = wr.alloc (.cells (List.replicate (d + m) (Value.slice none 0 0)).toArray 33) := ⟨_, rfl⟩
      have hO2 := OutS.start hO.fd hV2
      rw [← hV2] at hmk2
      obtain ⟨b2, hb2⟩ : ∃ b2, b2 = wr.heap.size := ⟨_, rfl⟩
      rw [← hb2] at hmk2 hO2
      have hmk3 : (Instr.makeSlice 65 (.int .i64 ((d : Int) + (m : Int))) (.int .i64 ((d : Int) + (m : Int)))).run Try.prog wr = .ok (.slice (some ⟨b2, 0, none⟩) (d + m) (d + m)) V2 := by rw [show ((d : Int) + (m : Int)) = ((d + m : Nat) : Int) by omega]; exact hmk2
      have hrows := hO.rows
      obtain ⟨E, hE⟩ : ∃ E, E = madeF d m D n := ⟨_, rfl⟩
      have hEl : E.length = d + m := by rw [hE, madeF_len]
      have HE := Lib.hid (And.intro hE hEl)
      have HC2 := Lib.hid hC2
      have HO2 := Lib.hid hO2
      have HRW := Lib.hid (And.intro hrows hO.fr)
      have HB2 := Lib.hid hb2
      have hlt2 := hO.lt
      have hcc := hC2.cells.2.2
      clear hC hC2 hV2 hO2 hb2 hrows hO hE hEl
      go_wp2_with fail
      (with_reducible refine (all_any HC2.out).mono ?_)
      rintro e w0 ⟨rfl, hw0⟩
      subst hw0
      go_wp2_with fail
      go_loopw [46] (fun v wx => ∃ i : Nat, i ≤ d + m ∧ v = .int .i64 i ∧ OutS w0 wx g b2 (d + m) (E.take i)) (fun v _ => d + m - (intOf v).toNat)
      case atStart => exact ⟨0, by omega, rfl, by rw [List.take_zero]; exact HO2.out⟩
      case round =>
        obtain ⟨i, hi, rfl, hO⟩ := hrel
        by_cases hid : i < d + m
        · have q1 : (i : Int) < ((d + m : Nat) : Int) := by omega
          have q3 : (i : Int) < (d : Int) + (m : Int) := by omega
          have q2 : (0 : Int) ≤ (i : Int) ∧ (i : Int) < (d : Int) + (m : Int) := by omega
          have q4 : (0 : Int) ≤ (i : Int) ∧ (i : Int) < ((d + m : Nat) : Int) := by omega
          have hC3 := HC2.out.frG hO.fr hO.fd
          have hrow := row_any hC3 i hid
          have htl : (E.take i).length = i := by rw [List.length_take, HE.out.2]; omega
          have htk : E.take (i + 1) = E.take i ++ [mixF (rowF d i) D n] := by rw [HE.out.1]; exact madeF_take _ _ _ _ _ hid
          have HROW := Lib.hid hrow
          have HO := Lib.hid hO
          have HT := Lib.hid (And.intro htl htk)
          clear hC3 hrow htl htk hO HO2
          go_wp2_with fail
          (with_reducible refine HROW.out.mono ?_)
          rintro e x1 ⟨b3, rfl, hm1⟩
          rw [rowF_len]
          have hF1 : Fr (fun i => i = g) w0 x1 := HO.out.fr.trans hm1.fr
          have y2 : x1.cell? ⟨c, 2, none⟩ = some (ptr g) := hF1.cell hcc hne
          have hmx := mix_any (w := x1) hm1.fd (some ⟨b3, 0, none⟩) (rowF d i).length (rowF d i) (CellsAt.whole hm1.out) (fun b' hb' _ => by rw [blkOf_some hb']; exact hm1.ne) (some ⟨b, 0, none⟩) d d D hDl.symm (HRW.out.1.fr hF1 (fun _ _ e => e)) (by rw [rowF_len]; omega) (by rw [rowF_len]; omega) n hn HD.out.2
          rw [rowF_len] at hmx
          have HMX := Lib.hid hmx
          have HO1 := Lib.hid (HO.out.fld hm1.fd hm1.fr)
          have hz1 := hm1.fr.size
          clear hm1 hmx hF1
          go_wp2_with fail
          (with_reducible refine HMX.out.mono ?_)
          rintro e x2 ⟨bj, rfl, hm2⟩
          rw [mixF_len]
          have hO2 := HO1.out.fld hm2.fd hm2.fr
          have u1 := hO2.cellJ HT.out.1 hid
          have u2 : x2.frozen? ⟨b2, i, none⟩ = false := hO2.fz _
          have hlt3 := HO1.out.lt
          have hge := hm2.ge
          have hO3 := hO2.push (bj := bj) (r := mixF (rowF d i) D n) (by have := HT.out.1; omega) hm2.out (Nat.le_trans HO1.out.fr.size hge) (by omega) hm2.ne
          rw [HT.out.1, ← HT.out.2, mixF_len] at hO3
          have HO3 := Lib.hid hO3
          clear hO2 hO3 hm2
          go_wp2_with fail
          go_roundw
          case rel => exact ⟨i + 1, by omega, by go_num, HO3.out⟩
          case measure => simp [intOf]; omega
        · have hi2 : i = d + m := by omega
          rw [hi2] at hO ⊢
          have q1 : ¬ ((d + m : Nat) : Int) < ((d + m : Nat) : Int) := by omega
          have HO := Lib.hid hO
          clear hO HO2 hid hi
          go_wp2_with fail
          go_ret2
          have hEl := HE.out.2
          have hfin := HO.out.base HRW.out.2
          rw [show E.take (d + m) = E by rw [← hEl, List.take_length]] at hfin
          rw [← HE.out.1]
          exact ⟨b2, by rw [hEl] <;> rfl, by rw [hEl]; exact hfin⟩
end Go.Proofs.Ytdkjmnhblepkaaa

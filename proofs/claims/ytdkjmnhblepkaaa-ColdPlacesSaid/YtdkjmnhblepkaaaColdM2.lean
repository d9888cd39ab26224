import Derived.Test.YtdkjmnhblepkaaaCold12
namespace Go.Proofs.Ytdkjmnhblepkaaa
open Go.RowKit
set_option linter.unusedVariables false
set_option linter.unusedSimpArgs false
set_option maxRecDepth 100000

/-! cold: parts -/
def rowC (D : DevS) (T np d : Nat) : List UInt8 := if D.down = true then [] else ((joinC D T (rowK np d)).drop 1).take (partN np d)
def hereC (T np d : Nat) (D : DevS) (s : Nat) : Bool := if D.down = true then false else isHere (joinC D T (rowK np d)) (partN np d) s
def CReadQ (w : World) (row : List UInt8) (is : Bool) (e : Ending) (w' : World) : Prop := ∃ A c, e = .returned (.tuple #[.slice A row.length c, .bool is]) ∧ CellsAt w' A (row.map byteV) ∧ (A = none → row.length = 0 ∧ c = 0) ∧ (∀ b, blkOf A b → w.heap.size ≤ b ∧ ∃ c, w'.heap[b]? = some (.cells c 5 (0, 0))) ∧ Fr none_ w w'
theorem cread_any {w : World} {x lb pb c g : Nat} {ds : List (Nat × Nat × Nat)} {Ds : List DevS} {C : ColdS} {l : List (PlaceS × Value)} (h : ColdAt w x lb pb c g (ds.map (·.1)) C l) (hD : DevsAt w ds Ds) (i : Nat) (hi : i < ds.length) (hi2 : i < Ds.length) (k : Nat) (hk : k < l.length) (hfit : ((C.first + C.places.length * sectC C.d C.size : Nat) : Int) ≤ Ds[i].sectors)
    (hnp : 1 ≤ l[k].1.n ∧ l[k].1.n ≤ C.size) (hsm : l[k].1.sums.length = ds.length) :
    Calls Try.prog 44 #[ptr x, .int .i64 (i : Int), .int .i64 (k : Int)] w fun e w' => CReadQ w (rowC Ds[i] (C.first + k * sectC C.d C.size) l[k].1.n C.d) (hereC (C.first + k * sectC C.d C.size) l[k].1.n C.d Ds[i] (l[k].1.sums.getD i 0)) e w' := by
  by_cases hdn : Ds[i].down = true
  · refine (cread_down h hD i hi hi2 k hk hfit hnp hsm hdn).mono ?_
    rintro e w' ⟨rfl, hF⟩
    unfold rowC hereC
    rw [if_pos hdn, if_pos hdn]
    exact ⟨none, 0, rfl, CellsAt.nil _ _, fun _ => ⟨rfl, rfl⟩, fun b hb => (by obtain ⟨o, ho⟩ := hb; cases ho), hF⟩
  · refine (cread_up h hD i hi hi2 k hk hfit hnp hsm (by simpa using hdn)).mono ?_
    rintro e w' ⟨A, c', rfl, h1, h2, h3, h4, h5⟩
    unfold rowC hereC
    rw [if_neg hdn, if_neg hdn]
    exact ⟨A, c', by rw [h1], h2, by rw [h1]; exact h3, h4, h5⟩
/-- parts that were read, and which of them are there -/
structure PtS (w wr : World) (k : Nat) (vl : Value) (xl : List Value) (vt : Value) (rows : List (List UInt8)) (ths : List Bool) : Prop where
  fr : Fr none_ w wr
  lr : rows.length = k
  ownl : wr.ownsRow w.heap.size 33 1 vl k xl
  ownt : wr.ownsRow w.heap.size 4 1 vt k (ths.map Value.bool)
  each : ∀ j (hj : j < rows.length), ∃ A c, xl[j]? = some (.slice A rows[j].length c) ∧ CellsAt wr A (rows[j].map byteV) ∧ (A = none → rows[j].length = 0 ∧ c = 0) ∧ (∀ b, blkOf A b → w.heap.size ≤ b ∧ ∃ c, wr.heap[b]? = some (.cells c 5 (0, 0)))
theorem PtS.start (w : World) : PtS w w 0 (.slice none 0 0) [] (.slice none 0 0) [] [] :=
  ⟨Fr.refl _ _, rfl, World.ownsRow_nil _ _ _ _, World.ownsRow_nil _ _ _ _, fun j hj => absurd hj (by simp)⟩
theorem own_notU {w : World} {base n size : Nat} {e : TypeId} {v : Value} {xs : List Value} (h : w.ownsRow base e size v n xs) (he : e ≠ 5) {b : Nat} {c : Array Value} (hb : w.heap[b]? = some (.cells c 5 (0, 0))) : ¬ v.ownBlock = some b := fun e1 => by
  obtain ⟨cc, hcc⟩ := own_typeR h e1
  rw [hb] at hcc
  exact he (Obj.cells.inj (Option.some.inj hcc)).2.1.symm
theorem PtS.more {w wr w' : World} {k : Nat} {vl : Value} {xl : List Value} {vt : Value} {rows : List (List UInt8)} {ths : List Bool} (h : PtS w wr k vl xl vt rows ths) (hF : Fr none_ wr w') : PtS w w' k vl xl vt rows ths :=
  ⟨h.fr.trans hF, h.lr, ownsRow_fr0 h.ownl hF, ownsRow_fr0 h.ownt hF, fun j hj => by
    obtain ⟨A, c, h1, h2, h3, h4⟩ := h.each j hj
    exact ⟨A, c, h1, h2.fr0 hF, h3, fun b hb => ⟨(h4 b hb).1, by obtain ⟨c, hc⟩ := (h4 b hb).2; exact ⟨c, hF.heap0 hc⟩⟩⟩⟩
/-- one part more, where each row has grown -/
theorem PtS.push {w wr w1 w2 w3 w4 : World} {k : Nat} {vl : Value} {xl : List Value} {vt vl' vt' : Value} {rows : List (List UInt8)} {ths : List Bool} (h : PtS w wr k vl xl vt rows ths) {A : Option Addr} {c : Nat} {r : List UInt8} {is : Bool}
    (hc : CellsAt wr A (r.map byteV)) (hn : A = none → r.length = 0 ∧ c = 0) (hb : ∀ b, blkOf A b → w.heap.size ≤ b ∧ ∃ c, wr.heap[b]? = some (.cells c 5 (0, 0)))
    (h1 : Fr none_ wr w1) (g1 : w1.grownBy w2 vl.ownBlock) (o1 : w2.ownsRow w.heap.size 33 1 vl' (k + 1) (xl ++ [.slice A r.length c]))
    (h2 : Fr none_ w2 w3) (g2 : w3.grownBy w4 vt.ownBlock) (o2 : w4.ownsRow w.heap.size 4 1 vt' (k + 1) (ths.map Value.bool ++ [.bool is])) : PtS w w4 (k + 1) vl' (xl ++ [.slice A r.length c]) vt' (rows ++ [r]) (ths ++ [is]) := by
  have hl1 := ownsRow_fr0 h.ownl h1
  have ht1 := ownsRow_fr0 h.ownt h1
  have f12 := Fr.of_grown g1
  have f34 := Fr.of_grown g2
  have ht2 : w2.ownsRow w.heap.size 4 1 vt k (ths.map Value.bool) := ownsRow_fr ht1 f12 (fun y hy e => by
    obtain ⟨c1, e1⟩ := own_typeR ht1 hy
    obtain ⟨c2, e2⟩ := own_typeR hl1 e
    rw [e1] at e2
    exact absurd (Obj.cells.inj (Option.some.inj e2)).2.1 (by decide))
  have ht3 := ownsRow_fr0 ht2 h2
  have hl3 := ownsRow_fr0 o1 h2
  have hl4 : w4.ownsRow w.heap.size 33 1 vl' (k + 1) (xl ++ [.slice A r.length c]) := ownsRow_fr hl3 f34 (fun y hy e => by
    obtain ⟨c1, e1⟩ := own_typeR hl3 hy
    obtain ⟨c2, e2⟩ := own_typeR ht3 e
    rw [e1] at e2
    exact absurd (Obj.cells.inj (Option.some.inj e2)).2.1 (by decide))
  have hu : ∀ (b : Nat) (c : Array Value), wr.heap[b]? = some (.cells c 5 (0, 0)) → w4.heap[b]? = some (.cells c 5 (0, 0)) := fun b c hbc => by
    have a1 := h1.heap0 hbc
    have a2 := f12.heap a1 (own_notU hl1 (by decide) a1)
    have a3 := h2.heap0 a2
    exact f34.heap a3 (own_notU ht3 (by decide) a3)
  have hcc : ∀ A (vs : List Value), CellsAt wr A vs → (∀ b, blkOf A b → w.heap.size ≤ b ∧ ∃ c, wr.heap[b]? = some (.cells c 5 (0, 0))) → CellsAt w4 A vs := fun A vs hA hB j hj => by
    obtain ⟨b, o, e, hcell⟩ := hA j hj
    obtain ⟨_, c, hbc⟩ := hB b ⟨o, e⟩
    exact ⟨b, o, e, by rw [cell_of_blk (hu b c hbc)]; rw [cell_of_blk hbc] at hcell; exact hcell⟩
  have hxl : xl.length = rows.length := by have := h.ownl.1; rw [h.lr]; omega
  refine ⟨(Fr.grown ((Fr.grown (h.fr.trans h1) g1 hl1 (Nat.le_refl _)).trans h2) g2 ht3 (Nat.le_refl _)), by rw [List.length_append, h.lr]; rfl, hl4, by rw [List.map_append]; exact o2, fun j hj => ?_⟩
  by_cases hlt : j < rows.length
  · obtain ⟨A0, c0, e1, e2, e3, e4⟩ := h.each j hlt
    rw [List.getElem_append_left hlt]
    exact ⟨A0, c0, by rw [List.getElem?_append_left (by omega)]; exact e1, hcc A0 _ e2 e4, e3, fun b hb => ⟨(e4 b hb).1, by obtain ⟨c, hc⟩ := (e4 b hb).2; exact ⟨c, hu b c hc⟩⟩⟩
  · have hj2 : j = rows.length := by rw [List.length_append, List.length_singleton] at hj; omega
    subst hj2
    rw [List.getElem_append_right (by omega)]
    simp only [Nat.sub_self, List.getElem_cons_zero]
    exact ⟨A, c, by rw [List.getElem?_append_right (by omega), hxl, Nat.sub_self]; rfl, hcc A _ hc hb, hn, fun b hb' => ⟨(hb b hb').1, by obtain ⟨c, hc⟩ := (hb b hb').2; exact ⟨c, hu b c hc⟩⟩⟩
theorem PtS.keepT {w wr w1 w2 : World} {k : Nat} {vl : Value} {xl : List Value} {vt : Value} {rows : List (List UInt8)} {ths : List Bool} (h : PtS w wr k vl xl vt rows ths) (h1 : Fr none_ wr w1) (g1 : w1.grownBy w2 vl.ownBlock) : w2.ownsRow w.heap.size 4 1 vt k (ths.map Value.bool) := by
  have hl1 := ownsRow_fr0 h.ownl h1
  have ht1 := ownsRow_fr0 h.ownt h1
  exact ownsRow_fr ht1 (Fr.of_grown g1) (fun y hy e => by
    obtain ⟨c1, e1⟩ := own_typeR ht1 hy
    obtain ⟨c2, e2⟩ := own_typeR hl1 e
    rw [e1] at e2
    exact absurd (Obj.cells.inj (Option.some.inj e2)).2.1 (by decide))
theorem PtS.rowsV {w wr : World} {k g : Nat} {A : Option Addr} {c : Nat} {xl : List Value} {vt : Value} {rows : List (List UInt8)} {ths : List Bool} (h : PtS w wr k (.slice A k c) xl vt rows ths) (hg : g < w.heap.size) : RowsV wr g A rows := by
  have hxl : xl.length = rows.length := by have := h.ownl.1; rw [h.lr]; omega
  obtain ⟨A9, c9, e9, g1, g2, g3, g4⟩ := ownsRow_read h.ownl
  cases e9
  exact ⟨⟨xl, hxl, g1, fun j hj => by
    obtain ⟨A0, c0, e1, e2, e3, e4⟩ := h.each j hj
    exact ⟨A0, c0, e1, e2, e3, fun b hb _ => by have := (e4 b hb).1; omega⟩⟩, fun b hb _ => by have := (g4 b hb).1; omega⟩
def PartsP (w : World) (g n : Nat) (rows : List (List UInt8)) (ths : List Bool) (e : Ending) (w' : World) : Prop := ∃ Al cl At ct, e = .returned (.tuple #[.slice Al n cl, .slice At n ct]) ∧ RowsV w' g Al rows ∧ CellsAt w' At (ths.map Value.bool) ∧ (∀ b, blkOf At b → b ≠ g) ∧ Fr none_ w w'
def rowsC (Ds : List DevS) (T np d : Nat) : List (List UInt8) := Ds.map (fun D => rowC D T np d)
def theresC (Ds : List DevS) (T np d : Nat) (sums : List Nat) : List Bool := (List.range Ds.length).map (fun i => match Ds[i]? with | some D => hereC T np d D (sums.getD i 0) | none => false)
theorem rowsC_take (Ds : List DevS) (T np d i : Nat) (hi : i < Ds.length) : (rowsC Ds T np d).take (i + 1) = (rowsC Ds T np d).take i ++ [rowC Ds[i] T np d] := by
  unfold rowsC
  rw [List.take_add_one, List.getElem?_map, List.getElem?_eq_getElem hi]
  rfl
theorem theresC_take (Ds : List DevS) (T np d : Nat) (sums : List Nat) (i : Nat) (hi : i < Ds.length) : (theresC Ds T np d sums).take (i + 1) = (theresC Ds T np d sums).take i ++ [hereC T np d Ds[i] (sums.getD i 0)] := by
  unfold theresC
  rw [List.take_add_one, List.getElem?_map, List.getElem?_range hi]
  simp [List.getElem?_eq_getElem hi]
theorem theresC_len (Ds : List DevS) (T np d : Nat) (sums : List Nat) : (theresC Ds T np d sums).length = Ds.length := by simp [theresC]
theorem info_boC : (Try.prog.info? 4).map (fun i => (i.zero, i.size, i.bytes)) = some (some (.bool false), 1, 1) := by kernel_rfl
set_option maxHeartbeats 8000000 in
theorem cparts_any {w : World} {x lb pb c g : Nat} {ds : List (Nat × Nat × Nat)} {Ds : List DevS} {C : ColdS} {l : List (PlaceS × Value)} (h : ColdAt w x lb pb c g (ds.map (·.1)) C l) (hD : DevsAt w ds Ds) (k : Nat) (hk : k < l.length) (hfit : ∀ i (hi : i < Ds.length), ((C.first + C.places.length * sectC C.d C.size : Nat) : Int) ≤ Ds[i].sectors)
    (hnp : 1 ≤ l[k].1.n ∧ l[k].1.n ≤ C.size) (hsm : l[k].1.sums.length = ds.length) :
    Calls Try.prog 37 #[ptr x, .int .i64 (k : Int)] w fun e w' => PartsP w g ds.length (rowsC Ds (C.first + k * sectC C.d C.size) l[k].1.n C.d) (theresC Ds (C.first + k * sectC C.d C.size) l[k].1.n C.d l[k].1.sums) e w' := by
  have hrd := fun (W : World) (hW : Fr none_ w W) i (hi : i < ds.length) (hi2 : i < Ds.length) => cread_any (h.fr0 hW) (hD.fr0 hW) i hi hi2 k hk (hfit i hi2) hnp hsm
  obtain ⟨T, hT⟩ : ∃ T, T = C.first + k * sectC C.d C.size := ⟨_, rfl⟩
  obtain ⟨np, hnpe⟩ : ∃ np, np = l[k].1.n := ⟨_, rfl⟩
  obtain ⟨sums, hsum⟩ : ∃ sums, sums = l[k].1.sums := ⟨_, rfl⟩
  rw [← hT, ← hnpe, ← hsum]
  rw [← hT, ← hnpe, ← hsum] at hrd
  obtain ⟨⟨cl, c0⟩, _⟩ := h.cells
  rw [List.length_map] at c0
  have hdl := h.dl
  rw [List.length_map] at hdl
  have hcm := h.code.most
  have hgl : g < w.heap.size := h.code.fd.lt
  have hlen := hD.len
  have HRD := Lib.hid hrd
  have HL := Lib.hid hlen
  have hdb : ds.length ≤ 32 := by omega
  have HG := Lib.hid hgl
  clear h hD hfit hnp hsm hrd hT hnpe hsum hdl hcm hlen hgl
  go_enter Try.func37, Try.ntmps37
  go_wp2_with fail
  go_loopw [6, 7, 16] (fun vl vt v wr => ∃ i : Nat, i ≤ ds.length ∧ v = .int .i64 i ∧ ∃ xl, PtS w wr i vl xl vt ((rowsC Ds T np C.d).take i) ((theresC Ds T np C.d sums).take i)) (fun _ _ v _ => ds.length - (intOf v).toNat)
  case atStart => exact ⟨0, by omega, rfl, [], by rw [List.take_zero, List.take_zero]; exact PtS.start w⟩
  case round =>
    obtain ⟨i, hi, rfl, xl, hX⟩ := hrel
    by_cases hil : i < ds.length
    · have q1 : (i : Int) < (ds.length : Int) := by omega
      have q2 : (0 : Int) ≤ (i : Int) ∧ (i : Int) < (ds.length : Int) := by omega
      have hsz := hX.fr.size
      have hiD : i < Ds.length := by rw [← HL.out]; exact hil
      have hcall := HRD.out wr hX.fr i hil hiD
      have ht1 := rowsC_take Ds T np C.d i hiD
      have ht2 := theresC_take Ds T np C.d sums i hiD
      obtain ⟨r, hr⟩ : ∃ r, r = rowC Ds[i] T np C.d := ⟨_, rfl⟩
      obtain ⟨is, his⟩ : ∃ is, is = hereC T np C.d Ds[i] (sums.getD i 0) := ⟨_, rfl⟩
      rw [← hr] at ht1 hcall
      rw [← his] at ht2 hcall
      have HX := Lib.hid hX
      have HT := Lib.hid (And.intro ht1 ht2)
      clear hX ht1 ht2 hr his
      go_wp2_with fail
      (with_reducible refine (hcall).mono ?_)
      rintro e w1 ⟨A, c', rfl, hc, hn, hb, hF⟩
      have hX1 := HX.out.more hF
      have hsz1 := hX1.fr.size
      have HX1 := Lib.hid hX1
      obtain ⟨rl, hrl⟩ : ∃ rl, rl = r.length := ⟨_, rfl⟩
      rw [← hrl] at hn ⊢
      have HC := Lib.hid (And.intro hc (And.intro hn (And.intro (fun b hb' => (show w.heap.size ≤ b ∧ ∃ c, w1.heap[b]? = some (.cells c 5 (0, 0)) from ⟨Nat.le_trans hsz (hb b hb').1, (hb b hb').2⟩)) hrl)))
      have howl := ownsRow_fr0 hX1.ownl ((Fr.refl none_ w1).alloc (.cells #[.slice A rl c'] 33))
      have hlit := CellsAt.one w1 (.slice A rl c') 33
      have HOL := Lib.hid (And.intro howl hlit)
      clear hX1 hc hn hb hF hrl hcall howl hlit
      go_wp2_with (first
        | ((with_reducible refine at_append (.tmp 26) (.tmp 28) 65 w.heap.size 33 (.slice none 0 0) 1 24 (n := i) (xs := xl) (A := some ⟨w1.heap.size, 0, none⟩) (m := 1) (c := 1) (news := [.slice A rl c']) Try.underlying65 info_sl8b ?_ ?_ ?_ ?_ HOL.out.1 HOL.out.2 ?_ ?_ ?_ ?_ ?_ ?_ ?_); (focus rfl); (focus decide); (focus rfl); (focus rfl); (focus (intro h; cases h)); (focus rfl); (focus (intro u hu; rw [List.mem_singleton.1 hu]; rfl)); (focus (unfold maxLen; omega)); (focus omega); (focus (rw [World.size_alloc]; omega)); intro vl' w2 hown2 hg2; have H2 := Lib.hid (And.intro hown2 hg2); have howt : w2.ownsRow w.heap.size 4 1 _ i (((theresC Ds T np C.d sums).take i).map Value.bool) := (PtS.keepT HX1.out ((Fr.refl none_ w1).alloc _) hg2); have HOT := Lib.hid (And.intro (ownsRow_fr0 howt ((Fr.refl none_ w2).alloc (.cells #[.bool is] 4))) (And.intro (CellsAt.one w2 (.bool is) 4) (show w.heap.size ≤ w2.heap.size from Nat.le_trans (Nat.le_trans hsz1 (by rw [World.size_alloc]; omega)) (Fr.of_grown hg2).size))); clear hown2 hg2 howt)
        | ((with_reducible refine at_append (.tmp 30) (.tmp 32) 34 w.heap.size 4 (.bool false) 1 1 (n := i) (xs := ((theresC Ds T np C.d sums).take i).map Value.bool) (A := some ⟨w2.heap.size, 0, none⟩) (m := 1) (c := 1) (news := [.bool is]) Try.underlying34 info_boC ?_ ?_ ?_ ?_ HOT.out.1 HOT.out.2.1 ?_ ?_ ?_ ?_ ?_ ?_ ?_); (focus rfl); (focus decide); (focus rfl); (focus rfl); (focus (intro h; cases h)); (focus rfl); (focus (intro u hu; rw [List.mem_singleton.1 hu]; rfl)); (focus (unfold maxLen; omega)); (focus omega); (focus (rw [World.size_alloc]; have := HOT.out.2.2; omega)); intro vt' w4 hown4 hg4; have H4 := Lib.hid (And.intro hown4 hg4); clear hown4 hg4))
      go_roundw
      case rel =>
        obtain ⟨hc, hn, hb, hrl⟩ := HC.out
        subst hrl
        exact ⟨i + 1, by omega, by go_num, _, by rw [HT.out.1, HT.out.2]; exact HX1.out.push hc hn hb ((Fr.refl none_ w1).alloc _) H2.out.2 H2.out.1 ((Fr.refl none_ w2).alloc _) H4.out.2 H4.out.1⟩
      case measure => simp [intOf]; omega
    · obtain rfl : ds.length = i := by omega
      obtain ⟨A1, c1, e1, a1, _, a3, a4⟩ := ownsRow_read hX.ownl
      obtain ⟨A2, c2, e2, b1, _, b3, b4⟩ := ownsRow_read hX.ownt
      subst e1 e2
      have q1 : ¬ (ds.length : Int) < (ds.length : Int) := by omega
      have hl1 : (rowsC Ds T np C.d).take ds.length = rowsC Ds T np C.d := List.take_of_length_le (by unfold rowsC; rw [List.length_map, HL.out]; exact Nat.le_refl _)
      have hl2 : (theresC Ds T np C.d sums).take ds.length = theresC Ds T np C.d sums := List.take_of_length_le (by rw [theresC_len, HL.out]; exact Nat.le_refl _)
      rw [hl1, hl2] at hX
      rw [hl2] at b1
      have HX := Lib.hid (And.intro hX (And.intro b1 b4))
      clear hX a1 a3 a4 b1 b3 b4 hl1 hl2
      go_wp2_with fail
      go_ret2
      exact ⟨A1, c1, A2, c2, rfl, HX.out.1.rowsV HG.out, HX.out.2.1, fun b hb => by have := (HX.out.2.2 b hb).1; have := HG.out; omega, HX.out.1.fr⟩
end Go.Proofs.Ytdkjmnhblepkaaa
namespace Go.Proofs.Ytdkjmnhblepkaaa
open Go.RowKit
set_option linter.unusedVariables false
set_option linter.unusedSimpArgs false
set_option maxRecDepth 100000

/-! cold: Get -/
theorem fieldAt_blk {w : World} {g : Nat} (h : FieldAt w g) : ∃ c, w.heap[g]? = some (.cells c 104 (0, 0)) := by
  rcases h with h | h
  · exact ⟨_, h⟩
  · exact ⟨_, h⟩
/-- the field was turned -/
theorem ColdAt.fld {w w' : World} {x lb pb c g : Nat} {ds : List Nat} {C : ColdS} {l : List (PlaceS × Value)} (h : ColdAt w x lb pb c g ds C l) (hF : Fr (fun i => i = g) w w') (hf : FieldAt w' g) : ColdAt w' x lb pb c g ds C l := by
  obtain ⟨cg, hg⟩ := fieldAt_blk h.code.fd
  have hne : ∀ b (c : Array Value) (T : TypeId), w.heap[b]? = some (.cells c T (0, 0)) → T ≠ 104 → ¬ (b = g) := fun b c T hb hT e => by
    subst e
    rw [hb] at hg
    exact hT (Obj.cells.inj (Option.some.inj hg)).2.1
  obtain ⟨cl, hb⟩ := h.blk
  obtain ⟨rest, hd⟩ := h.devs
  exact ⟨⟨cl, hF.heap hb (hne x _ _ hb (by decide))⟩, h.code.frG hF hf, ⟨rest, hF.heap hd (hne lb _ _ hd (by decide))⟩, h.pls.fr hF (hne pb _ _ h.pls.blk (by decide)) (fun b c hb => hne b _ _ hb (by decide)), h.isl, h.dl, h.most⟩
theorem DevsAt.fld {w w' : World} {ds : List (Nat × Nat × Nat)} {Ds : List DevS} {g : Nat} (h : DevsAt w ds Ds) (hg : FieldAt w g) (hF : Fr (fun i => i = g) w w') : DevsAt w' ds Ds := by
  obtain ⟨cg, hgb⟩ := fieldAt_blk hg
  exact h.fr hF (fun i h1 b hb e => by
    subst e
    exact dev_cellsC (h.at_ i h1 (by rw [← h.len]; exact h1)) hgb (by decide) hb)
theorem part_cover {np d : Nat} (hd : 1 ≤ d) : np ≤ d * partN np d := by
  unfold partN
  have h1 := Nat.div_add_mod (np + d - 1) d
  have h2 := Nat.mod_lt (np + d - 1) (show 0 < d by omega)
  obtain ⟨q, hq⟩ : ∃ q, q = d * ((np + d - 1) / d) := ⟨_, rfl⟩
  rw [← hq] at h1 ⊢
  omega
/-- what Get tells of the parts that are there -/
def gotF (d m np : Nat) (rows : List (List UInt8)) (ths : List Bool) : List UInt8 := (((madeF d m (dataF d ((pickN ths d (d + m)).map (fun i => rows.getD i [])) (invF ((pickN ths d (d + m)).map (rowF d)) d) (partN np d)) (partN np d)).take d).flatten).take np
def GetP (w : World) (g d m np : Nat) (rows : List (List UInt8)) (ths : List Bool) (e : Ending) (w' : World) : Prop :=
  ((pickN ths d (d + m)).length = d → ∃ A c, e = .returned (.tuple #[.slice A (gotF d m np rows ths).length c, .nilIface]) ∧ CellsAt w' A ((gotF d m np rows ths).map byteV) ∧ (A = none → (gotF d m np rows ths).length = 0 ∧ c = 0)) ∧
  ((pickN ths d (d + m)).length < d → e = .returned (.tuple #[.slice none 0 0, .iface 52 (.int .i64 20)])) ∧ FieldAt w' g ∧ Fr (fun i => i = g) w w'
theorem rowsC_len (Ds : List DevS) (T np d : Nat) : (rowsC Ds T np d).length = Ds.length := by simp [rowsC]
theorem rows_there {Ds : List DevS} {T np d : Nat} {sums : List Nat} (hl : ∀ D ∈ Ds, ∀ i, (D.get i).length = 64) (hK : partN np d + 1 ≤ rowK np d * 64) : ∀ j (h1 : j < (theresC Ds T np d sums).length) (h2 : j < (rowsC Ds T np d).length), (theresC Ds T np d sums)[j] = true → (rowsC Ds T np d)[j].length = partN np d := by
  intro j h1 h2 ht
  have hj : j < Ds.length := by rw [rowsC_len] at h2; exact h2
  have e1 : (theresC Ds T np d sums)[j] = hereC T np d Ds[j] (sums.getD j 0) := by
    have h9 : (theresC Ds T np d sums)[j]? = some (hereC T np d Ds[j] (sums.getD j 0)) := by
      unfold theresC
      rw [List.getElem?_map, List.getElem?_range hj]
      simp [List.getElem?_eq_getElem hj]
    rw [List.getElem?_eq_getElem h1] at h9
    exact Option.some.inj h9
  have e2 : (rowsC Ds T np d)[j] = rowC Ds[j] T np d := by
    have h9 : (rowsC Ds T np d)[j]? = some (rowC Ds[j] T np d) := by
      unfold rowsC
      rw [List.getElem?_map, List.getElem?_eq_getElem hj]
      rfl
    rw [List.getElem?_eq_getElem h2] at h9
    exact Option.some.inj h9
  rw [e1] at ht
  rw [e2]
  unfold hereC at ht
  unfold rowC
  by_cases hd : Ds[j].down = true
  · rw [if_pos hd] at ht; cases ht
  · rw [if_neg hd, List.length_take, List.length_drop, joinC_len (hl _ (List.getElem_mem _))]
    omega
set_option maxHeartbeats 8000000 in
theorem get_any {w : World} {x lb pb c g : Nat} {ds : List (Nat × Nat × Nat)} {Ds : List DevS} {C : ColdS} {l : List (PlaceS × Value)} (h : ColdAt w x lb pb c g (ds.map (·.1)) C l) (hD : DevsAt w ds Ds) (k : Nat) (hk : k < l.length) (hst : l[k].1.st = 1) (hfit : ∀ i (hi : i < Ds.length), ((C.first + C.places.length * sectC C.d C.size : Nat) : Int) ≤ Ds[i].sectors)
    (hnp : 1 ≤ l[k].1.n ∧ l[k].1.n ≤ C.size) (hsm : l[k].1.sums.length = ds.length)
    (hpiv : (pickN (theresC Ds (C.first + k * sectC C.d C.size) l[k].1.n C.d l[k].1.sums) C.d (C.d + C.m)).length = C.d → pivOk ((pickN (theresC Ds (C.first + k * sectC C.d C.size) l[k].1.n C.d l[k].1.sums) C.d (C.d + C.m)).map (rowF C.d)) C.d) :
    Calls Try.prog 27 #[ptr x, .int .i64 (k : Int)] w fun e w' => GetP w g C.d C.m l[k].1.n (rowsC Ds (C.first + k * sectC C.d C.size) l[k].1.n C.d) (theresC Ds (C.first + k * sectC C.d C.size) l[k].1.n C.d l[k].1.sums) e w' := by
  have hbx := box_some h k hk hst
  obtain ⟨As, ns, cs, hsv⟩ := (h.pls.sums l[k] (List.getElem_mem _)).shape
  rw [hsv] at hbx
  have hcm := h.code.most
  have hmost := h.most
  have hdl := h.dl
  rw [List.length_map] at hdl
  have hlen := hD.len
  have hpt := fun (W : World) (hW : Fr none_ w W) => cparts_any (h.fr0 hW) (hD.fr0 hW) k hk hfit hnp hsm
  obtain ⟨np, hnpe⟩ : ∃ np, np = l[k].1.n := ⟨_, rfl⟩
  obtain ⟨sums, hse⟩ : ∃ sums, sums = l[k].1.sums := ⟨_, rfl⟩
  simp only [← hnpe, ← hse] at hbx hpt hnp hsm hpiv ⊢
  have hN : partN np C.d ≤ 1000000 := (part_mul (i := 0) hcm.1 (by omega) (by omega) (by omega)).1
  have hcov := part_cover (np := np) hcm.1
  have hK : partN np C.d + 1 ≤ rowK np C.d * 64 := by unfold rowK rowN; omega
  have hthr : ∀ rows ths, rows = rowsC Ds (C.first + k * sectC C.d C.size) np C.d → ths = theresC Ds (C.first + k * sectC C.d C.size) np C.d sums → ∀ j (h1 : j < ths.length) (h2 : j < rows.length), ths[j] = true → rows[j].length = partN np C.d := by
    rintro _ _ rfl rfl
    exact rows_there (fun D hD2 i => by
      obtain ⟨j, hj, rfl⟩ := List.getElem_of_mem hD2
      exact (hD.at_ j (by omega) hj).get_len i) hK
  obtain ⟨rows, hrows⟩ : ∃ rows, rows = rowsC Ds (C.first + k * sectC C.d C.size) np C.d := ⟨_, rfl⟩
  obtain ⟨ths, hths⟩ : ∃ ths, ths = theresC Ds (C.first + k * sectC C.d C.size) np C.d sums := ⟨_, rfl⟩
  have hth := hthr rows ths hrows hths
  have hrl : rows.length = C.d + C.m := by rw [hrows, rowsC_len]; omega
  have htl : ths.length = C.d + C.m := by rw [hths, theresC_len]; omega
  simp only [← hrows, ← hths] at hpt hpiv ⊢
  rw [hdl] at hpt
  clear hthr hrows hths
  have hcode := h.code
  obtain ⟨_, _, _, _, _, _, c6, _⟩ := h.cells
  have hgl : g < w.heap.size := h.code.fd.lt
  have hxg : x ≠ g := fun e => by
    obtain ⟨cg, hg⟩ := fieldAt_blk h.code.fd
    obtain ⟨cl, hb⟩ := h.blk
    rw [e, hg] at hb
    exact absurd (Obj.cells.inj (Option.some.inj hb)).2.1 (by decide)
  obtain ⟨d, hd⟩ : ∃ d, d = C.d := ⟨_, rfl⟩
  obtain ⟨m, hm⟩ : ∃ m, m = C.m := ⟨_, rfl⟩
  rw [← hd, ← hm] at hpt hrl htl hpiv hcode ⊢
  rw [← hd] at hN hcov hth
  obtain ⟨N, hNe⟩ : ∃ N, N = partN np d := ⟨_, rfl⟩
  have hdm : 1 ≤ d ∧ d + m ≤ 32 := by rw [hd, hm]; exact hcm
  have HB := Lib.hid hbx
  have HPT := Lib.hid hpt
  have hdc := fun (W : World) (hW : Fr none_ w W) (Al : Option Addr) (cl : Nat) (At : Option Addr) (ct : Nat) (h1 : RowsV W g Al rows) (h2 : CellsAt W At (ths.map Value.bool)) (h3 : ∀ b, blkOf At b → b ≠ g) => decode_any (hcode.fr0 hW) Al cl rows h1 hrl At ct ths h2 h3 htl (partN np d) hN hth hpiv
  have hst2 : ∀ W, Fr (fun i => i = g) w W → W.cell? ⟨x, 6, none⟩ = some (ptr c) := fun W hW => hW.cell c6 hxg
  have HDC := Lib.hid hdc
  have HST := Lib.hid hst2
  have HX := Lib.hid (And.intro hcode (And.intro hN (And.intro hcov (And.intro hgl hdm))))
  clear hbx hpt hdc hst2 hcode hN hcov hrl htl hth hpiv h hD hfit hnp hsm hsv hK hcm hmost hdl hlen hnpe hse hd hm hst hgl
  go_enter Try.func27, Try.ntmps27
  go_wp2_with fail
  (with_reducible refine (HB.out).mono ?_)
  rintro e w1 ⟨rfl, hF1⟩
  obtain ⟨V, hV⟩ : ∃ V, V = w1.alloc (.cells #[.int .i64 1, .int .i64 (np : Int), .slice As ns cs] 60) := ⟨_, rfl⟩
  have hFV : Fr none_ w V := by rw [hV]; exact hF1.alloc _
  have hnew : V.heap[w1.heap.size]? = some (.cells #[.int .i64 1, .int .i64 (np : Int), .slice As ns cs] 60 (0, 0)) := by rw [hV]; exact heap_alloc_new _ _
  have hb1 : V.cell? ⟨w1.heap.size, 1, none⟩ = some (.int .i64 (np : Int)) := by rw [cell_of_blk hnew]; rfl
  have hbg : w1.heap.size ≠ g := by have := HX.out.2.2.2.1; have := hF1.size; omega
  have HV := Lib.hid hV
  have hS0 := HST.out _ (Fr.of0 hFV.drew)
  have hb2 : ∀ W, Fr (fun i => i = g) V W → W.cell? ⟨w1.heap.size, 1, none⟩ = some (.int .i64 (np : Int)) := fun W hW => hW.cell hb1 hbg
  have HB2 := Lib.hid hb2
  clear hV hnew hb1 hb2 hF1
  go_wp2_with fail
  rw [← HV.out]
  by_cases hpk : (pickN ths d (d + m)).length = d
  · obtain ⟨mf, hmf⟩ : ∃ mf, mf = madeF d m (dataF d ((pickN ths d (d + m)).map (fun i => rows.getD i [])) (invF ((pickN ths d (d + m)).map (rowF d)) d) (partN np d)) (partN np d) := ⟨_, rfl⟩
    have hml : mf.length = d + m := by rw [hmf, madeF_len]
    have hmr : ∀ r ∈ mf, r.length = partN np d := by rw [hmf]; exact madeF_row _ _ _ _
    have hgt : gotF d m np rows ths = ((mf.take d).flatten).take np := by rw [hmf]; rfl
    have HM := Lib.hid (And.intro hmf (And.intro hml (And.intro hmr hgt)))
    clear hmf hml hmr hgt
    go_region_held3 (fun W => W.cell? ⟨x, 6, none⟩ = some (ptr c)) (first | exact hS0 | exact HST.out _ (Fr.of0 hX1) | exact HST.out _ hX2) (first
      | (go_at_call 37; (with_reducible refine (HPT.out _ hFV.drew).mono ?_); rintro e x1 ⟨Al, cl, At, ct, rfl, hR1, hT1, hG1, hY1⟩; have hX1 := hFV.drew.trans hY1)
      | (go_at_call 36; (with_reducible refine (HDC.out x1 hX1 Al cl At ct hR1 hT1 hG1).mono ?_); rintro e x2 hdp; obtain ⟨bo, rfl, hO⟩ : MadePost x1 g mf e x2 := (by rw [HM.out.1]; exact hdp.1 hpk); clear hdp; have hX2 := (Fr.of0 hX1).trans hO.fr))
    have hFV2 : Fr (fun i => i = g) V x2 := (Fr.of0 ((Fr.refl none_ V).drew.trans hY1)).trans hO.fr
    have hjn := fun (W : World) (hW : Fr none_ x2 W) => join_any ((HX.out.1.frG hX2 hO.fd).fr0 hW) (some ⟨bo, 0, none⟩) mf.length mf.length mf (hO.rows.fr hW (fun _ _ e => e.elim)) rfl (by have := HM.out.2.1; omega) (Nat.le_refl _) (partN np d) HX.out.2.1 HM.out.2.2.1 np HX.out.2.2.1
    obtain ⟨tx, htx⟩ : ∃ tx, tx = ((mf.take d).flatten).take np := ⟨_, rfl⟩
    simp only [← htx] at hjn
    have hS3 : x2.drew.cell? ⟨x, 6, none⟩ = some (ptr c) ∧ x2.drew.cell? ⟨w1.heap.size, 1, none⟩ = some (.int .i64 (np : Int)) := ⟨HST.out _ hX2.drew, HB2.out _ hFV2.drew⟩
    have HO := Lib.hid (And.intro hO.fd (And.intro hX2 (HM.out.2.2.2.trans htx.symm)))
    have HJN := Lib.hid hjn
    have HS3 := Lib.hid (fun W (hW : Fr none_ x2 W) => (⟨HST.out _ (hX2.trans0 hW), HB2.out _ (hFV2.trans0 hW)⟩ : W.cell? ⟨x, 6, none⟩ = some (ptr c) ∧ W.cell? ⟨w1.heap.size, 1, none⟩ = some (.int .i64 (np : Int))))
    clear hjn hR1 hT1 hG1 hO htx
    go_wp2_with fail
    go_region_held3 (fun W => W.cell? ⟨x, 6, none⟩ = some (ptr c) ∧ W.cell? ⟨w1.heap.size, 1, none⟩ = some (.int .i64 (np : Int))) (first | exact hS3 | exact HS3.out _ hX3) (first
      | (go_at_call 38; (with_reducible refine (HJN.out _ (Fr.refl none_ x2).drew).mono ?_); rintro e x3 ⟨A, c', rfl, hJ1, hJ2, hJ3⟩; have hX3 := (Fr.refl none_ x2).drew.trans hJ3))
    have HJ := Lib.hid (And.intro hJ1 (And.intro hJ2 hX3))
    clear hJ1 hJ2 hJ3
    go_wp2_with fail
    go_ret2
    refine ⟨fun _ => ?_, fun hlt => (by omega), HO.out.1.fr HJ.out.2.2 (fun h => h), HO.out.2.1.trans0 HJ.out.2.2⟩
    rw [HO.out.2.2]
    exact ⟨A, c', rfl, HJ.out.1, HJ.out.2.1⟩
  · have hlt : (pickN ths d (d + m)).length < d := by have := pickN_le ths d (d + m); omega
    go_region_held3 (fun W => W.cell? ⟨x, 6, none⟩ = some (ptr c)) (first | exact hS0 | exact HST.out _ (Fr.of0 hX1) | exact HST.out _ hX2) (first
      | (go_at_call 37; (with_reducible refine (HPT.out _ hFV.drew).mono ?_); rintro e x1 ⟨Al, cl, At, ct, rfl, hR1, hT1, hG1, hY1⟩; have hX1 := hFV.drew.trans hY1)
      | (go_at_call 36; (with_reducible refine (HDC.out x1 hX1 Al cl At ct hR1 hT1 hG1).mono ?_); rintro e x2 hdp; obtain ⟨rfl, hfd2, hfr2⟩ := hdp.2 hlt; have hX2 := (Fr.of0 hX1).trans hfr2))
    have HO := Lib.hid (And.intro hfd2 (And.intro hX2 hlt))
    clear hfd2 hfr2 hX2 hX1 hY1 hR1 hT1 hG1 hdp hlt hpk
    go_wp2_with fail
    go_ret2
    exact ⟨fun he => by have := HO.out.2.2; omega, fun _ => rfl, HO.out.1, HO.out.2.1⟩
end Go.Proofs.Ytdkjmnhblepkaaa
namespace Go.Proofs.Ytdkjmnhblepkaaa
open Go.RowKit
set_option linter.unusedVariables false
set_option linter.unusedSimpArgs false
set_option maxRecDepth 100000

/-! cold: Put where there is room: what holds between its parts. -/
def putDs (Ds : List DevS) (T : Int) (S : Nat) (parts : List (List UInt8)) (t : Nat) : List DevS := Ds.mapIdx (fun i D => if i < t then wrN D T (1 :: parts.getD i []) S else D)
theorem putDs_len (Ds : List DevS) (T : Int) (S : Nat) (parts : List (List UInt8)) (t : Nat) : (putDs Ds T S parts t).length = Ds.length := by simp [putDs]
theorem putDs_get (Ds : List DevS) (T : Int) (S : Nat) (parts : List (List UInt8)) (t i : Nat) (hi : i < Ds.length) : (putDs Ds T S parts t)[i]'(by rw [putDs_len]; exact hi) = if i < t then wrN Ds[i] T (1 :: parts.getD i []) S else Ds[i] := by
  simp [putDs]
theorem putDs_zero (Ds : List DevS) (T : Int) (S : Nat) (parts : List (List UInt8)) : putDs Ds T S parts 0 = Ds := by
  apply List.ext_getElem
  · rw [putDs_len]
  · intro i h1 h2
    rw [putDs_get _ _ _ _ _ i h2, if_neg (by omega)]
theorem putDs_set (Ds : List DevS) (T : Int) (S : Nat) (parts : List (List UInt8)) (t : Nat) (ht : t < Ds.length) : (putDs Ds T S parts t).set t (wrN Ds[t] T (1 :: parts.getD t []) S) = putDs Ds T S parts (t + 1) := by
  apply List.ext_getElem
  · rw [List.length_set, putDs_len, putDs_len]
  · intro i h1 h2
    have hi : i < Ds.length := by rw [putDs_len] at h2; exact h2
    rw [putDs_get _ _ _ _ _ i hi]
    by_cases e : t = i
    · subst e
      rw [List.getElem_set_self, if_pos (by omega)]
    · rw [List.getElem_set_ne e, putDs_get _ _ _ _ _ i hi]
      by_cases hlt : i < t
      · rw [if_pos hlt, if_pos (by omega)]
      · rw [if_neg hlt, if_neg (by omega)]
theorem putDs_calm {Ds : List DevS} {T : Int} {S : Nat} {parts : List (List UInt8)} {t : Nat} (h0 : 0 ≤ T) (h : ∀ D ∈ Ds, Calm D) (hs : ∀ D ∈ Ds, T + S ≤ D.sectors) : ∀ D ∈ putDs Ds T S parts t, Calm D := by
  intro D hD
  obtain ⟨i, hi, rfl⟩ := List.getElem_of_mem hD
  have hi2 : i < Ds.length := by rw [putDs_len] at hi; exact hi
  rw [putDs_get _ _ _ _ _ i hi2]
  by_cases e : i < t
  · rw [if_pos e]
    exact (h _ (List.getElem_mem hi2)).wrN h0 _ _ (hs _ (List.getElem_mem hi2))
  · rw [if_neg e]
    exact h _ (List.getElem_mem hi2)
theorem putDs_sectors {Ds : List DevS} {T : Int} {S : Nat} {parts : List (List UInt8)} {t i : Nat} (hi : i < Ds.length) : ((putDs Ds T S parts t)[i]'(by rw [putDs_len]; exact hi)).sectors = Ds[i].sectors := by
  rw [putDs_get _ _ _ _ _ i hi]
  split
  · exact wrN_sectors _ _ _ _
  · rfl
theorem downN_calm {Ds : List DevS} (h : ∀ D ∈ Ds, Calm D) : downN Ds Ds.length = 0 := by
  unfold downN
  rw [List.take_length, List.length_eq_zero_iff, List.filter_eq_nil_iff]
  intro D hD
  rw [(h D hD).up]
  simp
def devsB (ds : List (Nat × Nat × Nat)) (i : Nat) : Prop := ∃ j, ∃ h : j < ds.length, devBlks ds[j].1 ds[j].2.1 ds[j].2.2 i
theorem devsB_cells {w : World} {ds : List (Nat × Nat × Nat)} {Ds : List DevS} (h : DevsAt w ds Ds) {b : Nat} {c : Array Value} {T : TypeId} (hb : w.heap[b]? = some (.cells c T (0, 0))) (hT : T ≠ 76) : ¬ devsB ds b := by
  rintro ⟨j, hj, hd⟩
  exact dev_cellsC (h.at_ j hj (by rw [← h.len]; exact hj)) hb hT hd
theorem devsB_lt {w : World} {ds : List (Nat × Nat × Nat)} {Ds : List DevS} (h : DevsAt w ds Ds) {b : Nat} (hb : devsB ds b) : b < w.heap.size := by
  obtain ⟨j, hj, hd⟩ := hb
  exact (h.at_ j hj (by rw [← h.len]; exact hj)).lt b hd
theorem ColdAt.devs' {w w' : World} {x lb pb c g : Nat} {ds : List Nat} {C : ColdS} {l : List (PlaceS × Value)} {dt : List (Nat × Nat × Nat)} {Ds : List DevS} (h : ColdAt w x lb pb c g ds C l) (hD : DevsAt w dt Ds) (hF : Fr (devsB dt) w w') : ColdAt w' x lb pb c g ds C l :=
  h.fr hF (fun b c T hb hT => devsB_cells hD hb (by rcases hT with e | e | e | e | e | e <;> rw [e] <;> decide))
/-- between two parts: td devices are written, ts sums are told -/
structure PutR (xE wr : World) (b9 : Nat) (ds : List (Nat × Nat × Nat)) (Ds : List DevS) (n : Nat) (T : Int) (S : Nat) (parts : List (List UInt8)) (td ts : Nat) (sv : Value) : Prop where
  dev : DevsAt wr ds (putDs Ds T S parts td)
  blk : wr.heap[b9]? = some (.cells #[.int .i64 1, .int .i64 (n : Int), sv] 60 (0, 0))
  own : wr.ownsRow xE.heap.size 70 1 sv ts ((parts.take ts).map (fun r => u32V (sumF r)))
  fr : Fr (devsB ds) xE wr
  ge : xE.heap.size ≤ b9
theorem PutR.more {xE wr w' : World} {b9 : Nat} {ds : List (Nat × Nat × Nat)} {Ds : List DevS} {n : Nat} {T : Int} {S : Nat} {parts : List (List UInt8)} {td ts : Nat} {sv : Value} (h : PutR xE wr b9 ds Ds n T S parts td ts sv) (hF : Fr none_ wr w') : PutR xE w' b9 ds Ds n T S parts td ts sv :=
  ⟨h.dev.fr0 hF, hF.heap0 h.blk, ownsRow_fr0 h.own hF, h.fr.trans0 hF, h.ge⟩
theorem PutR.write {xE wr w' : World} {b9 : Nat} {ds : List (Nat × Nat × Nat)} {Ds : List DevS} {n : Nat} {T : Int} {S : Nat} {parts : List (List UInt8)} {td ts : Nat} {sv : Value} (h : PutR xE wr b9 ds Ds n T S parts td ts sv) (ht : td < ds.length) (ht2 : td < Ds.length)
    (hF : Fr (devBlks ds[td].1 ds[td].2.1 ds[td].2.2) wr w') (hD : DevAt w' ds[td].1 ds[td].2.1 ds[td].2.2 (wrN Ds[td] T (1 :: parts.getD td []) S)) : PutR xE w' b9 ds Ds n T S parts (td + 1) ts sv := by
  have hd := h.dev.at_ td ht (by rw [putDs_len]; exact ht2)
  refine ⟨by rw [← putDs_set _ _ _ _ _ ht2]; exact h.dev.set td ht hF hD, hF.heap h.blk (dev_cellsC hd h.blk (by decide)), ownsRow_fr h.own hF (fun k hk e => ?_), h.fr.trans' hF (fun i hi e => ⟨td, ht, e⟩), h.ge⟩
  obtain ⟨cc, hcc⟩ := own_typeR h.own hk
  exact dev_cellsC hd hcc (by decide) e
theorem PutR.app {xE wr W W2 : World} {b9 : Nat} {ds : List (Nat × Nat × Nat)} {Ds : List DevS} {n : Nat} {T : Int} {S : Nat} {parts : List (List UInt8)} {td ts : Nat} {sv v' : Value} (h : PutR xE wr b9 ds Ds n T S parts td ts sv) (ht : ts < parts.length) (hF : Fr none_ wr W)
    (hg : W.grownBy W2 sv.ownBlock) (hown : W2.ownsRow xE.heap.size 70 1 v' (ts + 1) ((parts.take ts).map (fun r => u32V (sumF r)) ++ [u32V (sumF (parts.getD ts []))])) : PutR xE (W2.setCell ⟨b9, 2, none⟩ v') b9 ds Ds n T S parts td (ts + 1) v' := by
  have h1 := h.more hF
  have fg := Fr.of_grown hg
  have hb2 : W2.heap[b9]? = some (.cells #[.int .i64 1, .int .i64 (n : Int), sv] 60 (0, 0)) := fg.heap h1.blk (fun e => by
    obtain ⟨cc, hcc⟩ := own_typeR h1.own e
    rw [h1.blk] at hcc
    exact absurd (Obj.cells.inj (Option.some.inj hcc)).2.1 (by decide))
  have hd2 : DevsAt W2 ds (putDs Ds T S parts td) := h1.dev.fr fg (fun i hi b hb e => by
    obtain ⟨cc, hcc⟩ := own_typeR h1.own e
    exact dev_cellsC (h1.dev.at_ i hi (by rw [← h1.dev.len]; exact hi)) hcc (by decide) hb)
  have fs := Fr.set W2 b9 2 v'
  refine ⟨hd2.fr fs (fun i hi b hb e => by subst e; exact dev_cellsC (hd2.at_ i hi (by rw [← hd2.len]; exact hi)) hb2 (by decide) hb), by rw [heap_setCell_same hb2]; rfl, ?_, (Fr.grown h1.fr hg h1.own (Nat.le_refl _)).own fs h.ge, h.ge⟩
  have e : (parts.take (ts + 1)).map (fun r => u32V (sumF r)) = (parts.take ts).map (fun r => u32V (sumF r)) ++ [u32V (sumF (parts.getD ts []))] := by
    rw [List.take_add_one, List.getElem?_eq_getElem ht, List.map_append, List.getD_eq_getElem?_getD, List.getElem?_eq_getElem ht]
    rfl
  rw [e]
  exact ownsRow_fr hown fs (fun k hk e => by
    subst e
    obtain ⟨cc, hcc⟩ := own_typeR hown hk
    rw [hb2] at hcc
    exact absurd (Obj.cells.inj (Option.some.inj hcc)).2.1 (by decide))
/-- rows of their own, behind writes to devices -/
theorem OutS.behind {w xE wr : World} {g b n j : Nat} {rows : List (List UInt8)} (h : OutS w xE g b n rows) {ds : List (Nat × Nat × Nat)} (hF : Fr (devsB ds) xE wr) (hlt : ∀ y, devsB ds y → y < w.heap.size) (hj : j < rows.length) : ∃ bj, wr.cell? ⟨b, j, none⟩ = some (.slice (some ⟨bj, 0, none⟩) rows[j].length rows[j].length) ∧ CellsAt wr (some ⟨bj, 0, none⟩) (rows[j].map byteV) := by
  obtain ⟨vs, e1, e2, e3⟩ := h.blk
  obtain ⟨v, g1, bj, rfl, g2, g3, g4, g5⟩ := e3 j hj
  have hge := h.ge
  refine ⟨bj, hF.cell (by rw [cell_of_blk e2, List.getElem?_toArray, List.getElem?_append_left (by omega)]; exact g1) (fun e => by have := hlt _ e; omega), CellsAt.whole (hF.heap g2 (fun e => by have := hlt _ e; omega))⟩
theorem OutS.row_ge {w xE wr : World} {g b n j bj : Nat} {rows : List (List UInt8)} (h : OutS w xE g b n rows) {ds : List (Nat × Nat × Nat)} (hF : Fr (devsB ds) xE wr) (hlt : ∀ y, devsB ds y → y < w.heap.size) (hj : j < rows.length) {q p : Nat} (hc : wr.cell? ⟨b, j, none⟩ = some (.slice (some ⟨bj, 0, none⟩) q p)) : w.heap.size ≤ bj := by
  obtain ⟨vs, e1, e2, e3⟩ := h.blk
  obtain ⟨v, g1, b', rfl, g2, g3, g4, g5⟩ := e3 j hj
  have hge := h.ge
  have h9 := hF.cell (S := devsB ds) (b := b) (o := j) (v := .slice (some ⟨b', 0, none⟩) rows[j].length rows[j].length) (by rw [cell_of_blk e2, List.getElem?_toArray, List.getElem?_append_left (by omega)]; exact g1) (fun e => by have := hlt _ e; omega)
  rw [hc] at h9
  cases h9
  exact g3
theorem sums_own {w : World} {base n : Nat} {sv : Value} {sums : List Nat} (h : w.ownsRow base 70 1 sv n (sums.map u32V)) (hn : n = sums.length) : SumsAt w sv sums := by
  obtain ⟨h1, h2⟩ := h
  rcases h2 with ⟨rfl, h0⟩ | ⟨g, cap, cur, rfl, hg, hh, hc, hm, hs, ht⟩
  · left
    exact ⟨List.eq_nil_of_length_eq_zero (by omega), rfl⟩
  · right
    refine ⟨g, cap, cur.toList, by rw [hn], by simpa using hh, ?_, ?_⟩
    · rw [← ht, hn, Nat.mul_one]
    · rw [← hn]
      have := congrArg List.length ht
      rw [List.length_take, List.length_map] at this
      have h3 : cur.size = cur.toList.length := by simp
      omega
theorem PutR.kept {xE wr W W2 : World} {b9 : Nat} {ds : List (Nat × Nat × Nat)} {Ds : List DevS} {n : Nat} {T : Int} {S : Nat} {parts : List (List UInt8)} {td ts : Nat} {sv : Value} (h : PutR xE wr b9 ds Ds n T S parts td ts sv) (hF : Fr none_ wr W) (hg : W.grownBy W2 sv.ownBlock) : W2.heap[b9]? = some (.cells #[.int .i64 1, .int .i64 (n : Int), sv] 60 (0, 0)) := by
  have h1 := h.more hF
  exact (Fr.of_grown hg).heap h1.blk (fun e => by
    obtain ⟨cc, hcc⟩ := own_typeR h1.own e
    rw [h1.blk] at hcc
    exact absurd (Obj.cells.inj (Option.some.inj hcc)).2.1 (by decide))
theorem info_u32C : (Try.prog.info? 70).map (fun i => (i.zero, i.size, i.bytes)) = some (some (.int .u32 0), 1, 4) := by kernel_rfl
/-- the append of one sum at a step of a drawn region -/
theorem step_u32 {w : World} {ops : Array Oper} {o : Oper} {a : Act} {K : Act → World → Prop} {Q : Exit → Act → World → Prop} {E : Prop} (hgd : o.guard = none) (s x : Operand)
    (ho : o.op = .call { callee := .builtin .append, args := #[s, x], argTypes := #[58, 58] }) (base : Nat) (v : Value) (n : Nat) (xs : List Value) (hown : w.ownsRow base 70 1 v n xs) (hs : a.eval s = v) (L : Nat) (hx : a.eval x = .slice (some ⟨L, 0, none⟩) 1 1)
    (u : Value) (hL : w.cell? ⟨L, 0, none⟩ = some u) (hu : u.oneCell' = true) (hn : n ≤ 1000) (hbase : base ≤ w.heap.size)
    (h : ∀ g cap w', w'.ownsRow base 70 1 (.slice (some ⟨g, 0, none⟩) (n + 1) cap) (n + 1) (xs ++ [u]) → w.grownBy w' v.ownBlock → K (a.put o.dst (.slice (some ⟨g, 0, none⟩) (n + 1) cap)) w') :
    if Region.wanted o (yielded ops a.tmps) = true then Oper.wp Try.prog o a w K Q else E := by
  obtain ⟨i, hi, hzz⟩ := Option.map_eq_some_iff.1 info_u32C
  simp only [Prod.mk.injEq] at hzz
  obtain ⟨hz, hs1, hb⟩ := hzz
  refine step_append_lies w hgd s x _ ho base 70 i _ 1 4 Try.underlying58 hi hz hs1 hb rfl (by omega) v n xs hs hown ⟨L, 0, none⟩ 1 1 [u] hx rfl (fun j u' hj => ?_) (fun u' hu' => ?_) (by omega) (by unfold maxLen; omega) (by omega) hbase _ rfl (fun g cap w' h1 h2 h3 h4 => h g cap w' h1 h2)
  · cases j with
    | zero => rw [Addr.add_lit]; simp at hj; subst hj; exact hL
    | succ j => simp at hj
  · rw [List.mem_singleton.1 hu']; exact hu
end Go.Proofs.Ytdkjmnhblepkaaa

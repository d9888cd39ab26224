import Derived.Test.YtdlhndbgmldeaaaHotDecA
import Derived.Test.YtdlhndbgmldeaaaHRoomsP
import Derived.Deep.DeepCutAuto
import Derived.StillTailTactics
namespace Go.Proofs.Ytdlhndbgmldeaaa
open Go.RowKit
set_option linter.unusedVariables false
set_option linter.unusedSimpArgs false
set_option maxRecDepth 100000

/-! hot.Decode of what Encode laid. -/
abbrev zeroX : Obj := .cells #[.int .i64 0, .int .i64 0, .int .i64 0] 70
/-- what is read lies in no block of ints -/
theorem reader_ne {w : World} {p : Nat} {l : List UInt8} {e : Int} (h : ReaderAt w p l e) {t : Nat} {cs : Array Value} {T : TypeId} {f : Nat × Nat} (hb : w.heap[t]? = some (.cells cs T f)) (hv : ∀ v ∈ cs.toList, ∃ n, v = Value.int .i64 n) :
    ∀ A c b, w.heap[p]? = some (.cells #[.slice A l.length c, errV e] 93 (0, 0)) → blkOf A b → 0 < l.length → ¬ b = t := by
  intro A c b h1 h2 h3 h4
  obtain ⟨⟨A', c', g1, g2, _, _, _⟩, _⟩ := h
  rw [g1] at h1
  have hA : A' = A := by
    injection h1 with h1
    injection h1 with h1
    have := congrArg (fun (a : Array Value) => a[0]?) h1
    simp at this
    exact this.1
  subst hA
  subst h4
  obtain ⟨bb, o, rfl, hc⟩ := g2 0 (by simpa using h3)
  have := blkOf_some h2
  subst this
  rw [cell_of_blk hb] at hc
  obtain ⟨hi, hx⟩ := Array.getElem?_eq_some_iff.1 hc
  obtain ⟨n, hn⟩ := hv cs[o + 0] (by simp)
  rw [hn] at hx
  simp [byteV] at hx
structure DcW (w2 wx : World) (q : Nat) (l : List UInt8) : Prop where
  fr : Fr (fun i => i = q) w2 wx
  rd : ReaderAt wx q l 0
structure DcA (w2 wx : World) (q : Nat) (l : List UInt8) (t : Nat) : Prop where
  toW : DcW w2 wx q l
  new : w2.heap.size ≤ t
  blk : wx.heap[t]? = some zeroX
theorem DcW.step {w2 wx w' : World} {q : Nat} {l l' : List UInt8} (h : DcW w2 wx q l) (hF : Fr (fun i => i = q) wx w') (hR : ReaderAt w' q l' 0) : DcW w2 w' q l' := ⟨h.fr.trans hF, hR⟩
theorem DcW.step0 {w2 wx w' : World} {q : Nat} {l : List UInt8} (h : DcW w2 wx q l) (hF : Fr none_ wx w') : DcW w2 w' q l := ⟨h.fr.trans0 hF, h.rd.fr0 hF⟩
theorem DcW.withNew {w2 wx : World} {q : Nat} {l : List UInt8} (h : DcW w2 wx q l) : DcA w2 (wx.alloc zeroX) q l wx.heap.size :=
  ⟨h.step0 ((Fr.refl _ _).alloc _), h.fr.size, heap_alloc_new _ _⟩
theorem DcA.to {w2 wx w' : World} {q t : Nat} {l l' : List UInt8} (h : DcA w2 wx q l t) (hq : q < w2.heap.size) (hF : Fr (fun i => i = q) wx w') (hW : DcW w2 w' q l') : DcA w2 w' q l' t :=
  ⟨hW, h.new, hF.heap h.blk (by have := h.new; omega)⟩
theorem DcA.cells {w2 wx : World} {q t : Nat} {l : List UInt8} (h : DcA w2 wx q l t) : wx.cell? ⟨t, 0, none⟩ = some (.int .i64 0) ∧ wx.cell? ⟨t, 1, none⟩ = some (.int .i64 0) ∧ wx.cell? ⟨t, 2, none⟩ = some (.int .i64 0) ∧ ∀ o, wx.frozen? ⟨t, o, none⟩ = false :=
  ⟨by rw [cell_of_blk h.blk]; rfl, by rw [cell_of_blk h.blk]; rfl, by rw [cell_of_blk h.blk]; rfl, fun o => frozen_of_blk h.blk o⟩
/-- o: where its variable was made, if it was -/
structure DcX (w2 wx : World) (q : Nat) (l : List UInt8) (o : Option Nat) : Prop where
  toW : DcW w2 wx q l
  box : ∀ t, o = some t → w2.heap.size ≤ t ∧ wx.heap[t]? = some zeroX
theorem DcX.step {w2 wx w' : World} {q : Nat} {l l' : List UInt8} {o : Option Nat} (h : DcX w2 wx q l o) (hq : q < w2.heap.size) (hF : Fr (fun i => i = q) wx w') (hR : ReaderAt w' q l' 0) : DcX w2 w' q l' o :=
  ⟨h.toW.step hF hR, fun t ht => ⟨(h.box t ht).1, hF.heap (h.box t ht).2 (by have := (h.box t ht).1; omega)⟩⟩
theorem DcX.step0 {w2 wx w' : World} {q : Nat} {l : List UInt8} {o : Option Nat} (h : DcX w2 wx q l o) (hF : Fr none_ wx w') : DcX w2 w' q l o :=
  ⟨h.toW.step0 hF, fun t ht => ⟨(h.box t ht).1, hF.heap0 (h.box t ht).2⟩⟩
theorem DcX.withNew {w2 wx : World} {q : Nat} {l : List UInt8} (h : DcX w2 wx q l none) : DcX w2 (wx.alloc zeroX) q l (some wx.heap.size) :=
  ⟨h.toW.step0 ((Fr.refl _ _).alloc _), fun t ht => by cases ht; exact ⟨h.toW.fr.size, heap_alloc_new _ _⟩⟩
theorem DcX.toA {w2 wx : World} {q t : Nat} {l : List UInt8} (h : DcX w2 wx q l (some t)) : DcA w2 wx q l t := ⟨h.toW, (h.box t rfl).1, (h.box t rfl).2⟩
/-- a box that was read, in a block of its own -/
def DcEnd (w2 : World) (q : Nat) (l : List UInt8) (st u v : Nat) (p : Value) (wx : World) : Prop :=
  ∃ t, p = ptr t ∧ w2.heap.size ≤ t ∧ wx.heap[t]? = some (.cells #[.int .i64 (st : Int), .int .i64 (u : Int), .int .i64 (v : Int)] 70 (0, 0)) ∧ DcW w2 wx q l
theorem DcA.done {w2 wx : World} {q t : Nat} {l : List UInt8} (h : DcA w2 wx q l t) (hq : q < w2.heap.size) (st u v : Nat) :
    DcEnd w2 q l st u v (ptr t) (((wx.setCell ⟨t, 0, none⟩ (.int .i64 (st : Int))).setCell ⟨t, 1, none⟩ (.int .i64 (u : Int))).setCell ⟨t, 2, none⟩ (.int .i64 (v : Int))) := by
  have ht := h.new
  have hF : Fr (fun i => i = t) wx (((wx.setCell ⟨t, 0, none⟩ (.int .i64 (st : Int))).setCell ⟨t, 1, none⟩ (.int .i64 (u : Int))).setCell ⟨t, 2, none⟩ (.int .i64 (v : Int))) := ((Fr.set wx t 0 _).trans (Fr.set _ t 1 _)).trans (Fr.set _ t 2 _)
  refine ⟨t, rfl, ht, heap_setCell_same (heap_setCell_same (heap_setCell_same h.blk _) _) _, ⟨h.toW.fr.trans' hF (fun k hk e => by omega), ?_⟩⟩
  exact h.toW.rd.fr hF (by omega) (reader_ne h.toW.rd h.blk (fun v hv => by simp at hv; exact ⟨0, hv⟩))
theorem DcW.done {w2 wx : World} {q : Nat} {l : List UInt8} (h : DcW w2 wx q l) (st u v : Nat) :
    DcEnd w2 q l st u v (ptr wx.heap.size) (wx.alloc (.cells #[.int .i64 (st : Int), .int .i64 (u : Int), .int .i64 (v : Int)] 70)) :=
  ⟨wx.heap.size, rfl, h.fr.size, heap_alloc_new _ _, h.step0 ((Fr.refl _ _).alloc _)⟩
/-- how many boxes are open -/
def openN (l : List BoxS) : Nat := (l.filter (fun b => b.state == 1)).length
theorem openN_succ (l : List BoxS) (k : Nat) (hk : k < l.length) : openN (l.take (k + 1)) = openN (l.take k) + if l[k].state = 1 then 1 else 0 := by
  unfold openN
  rw [List.take_succ_eq_append_getElem hk, List.filter_append, List.length_append]
  congr 1
  by_cases h : l[k].state = 1 <;> simp [List.filter_cons, h]
theorem openN_le : ∀ l : List BoxS, (∀ (i j : Nat) (hi : i < l.length) (hj : j < l.length), l[i].state = 1 → l[j].state = 1 → i = j) → openN l ≤ 1
  | [], _ => by simp [openN]
  | b :: l, h => by
    have ih := openN_le l (fun i j hi hj ha hb => by
      have := h (i + 1) (j + 1) (by simpa using hi) (by simpa using hj) (by simpa using ha) (by simpa using hb)
      omega)
    by_cases hb : b.state = 1
    · have h0 : openN l = 0 := by
        unfold openN
        rw [List.length_eq_zero_iff, List.filter_eq_nil_iff]
        intro c hc hcs
        obtain ⟨j, hj, rfl⟩ := List.getElem_of_mem hc
        have := h 0 (j + 1) (by simp) (by simpa using hj) hb (by simpa using hcs)
        omega
      unfold openN at h0 ⊢
      rw [List.filter_cons, if_pos (by simp [hb]), List.length_cons, h0]
      exact Nat.le_refl _
    · unfold openN at ih ⊢
      rw [List.filter_cons, if_neg (by simp [hb])]
      exact ih
/-- the boxes while they are read -/
def mixB (H : HotS) (k : Nat) : HotS := { H with boxes := H.boxes.take k ++ List.replicate (H.boxes.length - k) freeB }
theorem mix_len (H : HotS) (k : Nat) (hk : k ≤ H.boxes.length) : (mixB H k).boxes.length = H.boxes.length := by simp [mixB]; omega
theorem mix_zero (H : HotS) : mixB H 0 = newH H.first H.boxes.length H.sectors := rfl
theorem mix_all (H : HotS) : mixB H H.boxes.length = H := by cases H; simp [mixB]
theorem mix_get (H : HotS) (k : Nat) (hk : k < H.boxes.length) (h : k < (mixB H k).boxes.length) : (mixB H k).boxes[k] = freeB := by
  have key : (mixB H k).boxes[k]? = some freeB := by
    show (H.boxes.take k ++ List.replicate (H.boxes.length - k) freeB)[k]? = _
    rw [List.getElem?_append_right (by rw [List.length_take]; omega), List.length_take, Nat.min_eq_left (by omega), Nat.sub_self, List.getElem?_replicate, if_pos (by omega)]
  rw [List.getElem?_eq_getElem h] at key
  exact Option.some.inj key
theorem mix_succ (H : HotS) (k : Nat) (hk : k < H.boxes.length) : (mixB H k).putB k H.boxes[k] = mixB H (k + 1) := by
  unfold HotS.putB mixB
  simp only
  congr 1
  rw [List.set_append_right _ _ (by simp; omega), List.length_take, Nat.min_eq_left (by omega), Nat.sub_self, show H.boxes.length - k = (H.boxes.length - (k + 1)) + 1 by omega, List.replicate_succ, List.set_cons_zero, List.take_succ_eq_append_getElem hk, List.append_assoc]
  rfl
theorem encBoxes_drop (l : List BoxS) (k : Nat) (hk : k < l.length) : encBoxes (l.drop k) = encBox l[k] ++ encBoxes (l.drop (k + 1)) := by
  unfold encBoxes
  rw [← List.getElem_cons_drop (h := hk), List.flatMap_cons]
theorem boxes_ints (l : List BoxS) : ∀ v ∈ (l.flatMap boxC).toArray.toList, ∃ n, v = Value.int .i64 n := by
  intro v hv
  obtain ⟨b, _, hb⟩ := List.mem_flatMap.1 (by simpa using hv)
  simp [boxC] at hb
  rcases hb with rfl | rfl | rfl
  · exact ⟨_, rfl⟩
  · exact ⟨_, rfl⟩
  · exact ⟨_, rfl⟩
/-- between two boxes -/
structure DcL (w wr : World) (h bx p q : Nat) (H : HotS) (k : Nat) : Prop where
  fr : Fr none_ w wr
  hot : HotAt wr h bx p (mixB H k)
  conf : wr.heap[w.heap.size]? = some (.cells #[.int .i64 H.first, .int .i64 (H.boxes.length : Int), .int .i64 (H.sectors : Int)] 29 (0, 0))
  rd : ReaderAt wr q (encBoxes (H.boxes.drop k)) 0
theorem DcL.drew {w wr : World} {h bx p q : Nat} {H : HotS} {k : Nat} (R : DcL w wr h bx p q H k) : DcL w wr.drew h bx p q H k :=
  ⟨R.fr.drew, R.hot.fr0 (Fr.refl none_ _).drew, R.conf, R.rd.fr0 (Fr.refl none_ _).drew⟩
structure Sound (H : HotS) : Prop where
  ok : H.Ok
  st : States H
  tidy : Tidy H
  limbo : ∀ i, (H.bx i).state = 3 → (H.bx i).live = 0
set_option maxHeartbeats 16000000 in
theorem hdecode_any {w : World} {p m1 m2 : Nat} {D : DevS} (hd : DevAt w p m1 m2 D) (H : HotS) (hs : Sound H) (hf : 0 ≤ H.first) (hn : 1 ≤ H.boxes.length ∧ H.boxes.length ≤ 1024) (hsc : 1 ≤ H.sectors ∧ H.sectors ≤ 1024) (hfit : H.first + (H.boxes.length * H.sectors : Nat) ≤ D.sectors) (hm : Made H.boxes.length)
    (A : Option Addr) (n c : Nat) (l : List UInt8) (hl : l = sealB (encHot H)) (hnl : n = l.length) (hA : CellsAt w A (l.map byteV)) (hnc : n ≤ c) :
    Calls Try.prog 11 #[ptr p, confV H, .slice A n c] w fun e w' => HotNew w p H e w' := by
  have hel : (encHot H).length ≤ 28000 := by
    have h1 := encBoxes_len H.boxes
    have h2 := behindF_le H.boxes.length
    unfold encHot
    rw [List.length_append, encF_len]
    omega
  have hll : l.length ≤ 28004 := by rw [hl]; unfold sealB; rw [List.length_append]; show _ + 4 ≤ _; omega
  have hop := openE_seal (encHot H)
  rw [← hl] at hop
  obtain ⟨V, hV⟩ : ∃ V, V = w.alloc (.cells #[.int .i64 H.first, .int .i64 (H.boxes.length : Int), .int .i64 (H.sectors : Int)] 29) := ⟨_, rfl⟩
  have hFV : Fr none_ w V := hV ▸ (Fr.refl _ _).alloc _
  have hbV : V.heap[w.heap.size]? = some (.cells #[.int .i64 H.first, .int .i64 (H.boxes.length : Int), .int .i64 (H.sectors : Int)] 29 (0, 0)) := hV ▸ heap_alloc_new _ _
  have hnew := hnew_any (hd.fr0 hFV) H.first H.boxes.length H.sectors hf hn hsc hfit hm
  have HV := Lib.hid hV
  have HNEW := Lib.hid hnew
  have HOP := Lib.hid hop
  have HNL := Lib.hid hnl
  have HL := Lib.hid hl
  have HS := Lib.hid hs
  have nb : n ≤ 28004 := by omega
  clear hV hnew hop hnl hl hm hs
  go_enter Try.func11, Try.ntmps11
  go_wp2_with fail
  rw [← HV.out]
  (with_reducible refine HNEW.out.mono ?_)
  rintro e w1 ⟨⟨h, bx, rfl, hh, g1, g2⟩, hF1⟩
  rw [errV_0]
  have hA1 := hA.fr0 (hFV.trans hF1)
  have hopn := open_any (w := w1) A n c l HNL.out hA1 hnc (by omega)
  have HOPN := Lib.hid hopn
  clear hopn
  go_wp2_with fail
  (with_reducible refine HOPN.out.mono ?_)
  rintro e w2 ⟨⟨v, rfl, hown, _⟩, hF2⟩
  have hown := hown HOP.out.1
  rw [HOP.out.2] at hown
  rw [HOP.out.1, errV_0]
  obtain ⟨A2, c2, rfl, hA2, hc2, hnil2, hbl2⟩ := ownsRow_read hown
  have hrr := rread_any w2 A2 (encHot H).length c2 (encHot H) rfl hA2 (fun h => hnil2 h) hc2 (by omega)
  have HRR := Lib.hid hrr
  clear hrr
  go_wp2_with fail
  (with_reducible refine HRR.out.mono ?_)
  rintro e w3 ⟨rfl, hF3, hR3⟩
  obtain ⟨q, hq⟩ : ∃ q, q = w2.heap.size := ⟨_, rfl⟩
  rw [← hq] at hR3 ⊢
  have HQ := Lib.hid hq
  clear hq
  have hru : Calls Try.prog 25 #[ptr q, .int .u64 1024] w3 fun en w' => en = .returned (.int .u64 (H.boxes.length : Nat)) ∧ Fr (fun i => i = q) w3 w' ∧ ReaderAt w' q (encBoxes H.boxes) 0 := by
    have := ruint_any hR3 1024 (by decide)
    obtain ⟨e1, e2, e3⟩ := uint_enc H.boxes.length 1024 hn.2 (by decide) (encBoxes H.boxes)
    rw [show encHot H = encF H.boxes.length ++ encBoxes H.boxes from rfl, e1, e2, e3] at this
    exact this
  have HRU := Lib.hid hru
  clear hru
  go_wp2_with fail
  (with_reducible refine HRU.out.mono ?_)
  rintro e w4 ⟨rfl, hF4, hR4⟩
  have hz1 := hFV.size
  have hz2 := hF1.size
  have hz3 := hF2.size
  have hlth := blk_lt hh.blk
  have hltb := blk_lt hh.bxs
  have hqe := HQ.out
  have hh4 : HotAt w4 h bx p (mixB H 0) := (hh.fr0 (hF2.trans hF3)).fr hF4 (by omega) (by omega)
  have hb4 := hF4.heap (((hF1.trans hF2).trans hF3).heap0 hbV) (by have := blk_lt hbV; omega)
  have hFw : Fr none_ w w4 := ((((hFV.trans hF1).trans hF2).trans hF3)).trans' hF4 (fun k hk e => by omega)
  obtain ⟨d0, d1, d2, d3, d4⟩ := hh4.cellsAll
  rw [mix_len H 0 (by omega)] at d4
  have hqlt : q < w4.heap.size := by obtain ⟨⟨_, _, hb, _⟩, _⟩ := hR4; exact blk_lt hb
  clear hqe hF2 hF3 hF4 hR3 hown hA2 hc2 hnil2 hbl2 hA1 hh hF1 d0 d1 d2 d3
  go_wp2_with fail
  have hq1 : h < q := by have := HQ.out; omega
  have hq2 : bx < q := by have := HQ.out; omega
  have hc1 : w.heap.size < h := by have := blk_lt hbV; omega
  have hc2 : w.heap.size < bx := by have := blk_lt hbV; omega
  have hD0 : DcL w w4 h bx p q H 0 := ⟨hFw, hh4, hb4, hR4⟩
  obtain ⟨z, hz⟩ : ∃ z, z = H.sectors * 64 := ⟨_, rfl⟩
  have hsz : ∀ W, Calls Try.prog 26 #[confV H] W fun e w' => e = .returned (.int .i64 (z : Int)) ∧ Fr none_ W w' := fun W => by rw [hz]; exact size_any H hsc.2 W
  have hz64 : z ≤ 65536 := by omega
  have HSZ := Lib.hid hsz
  have HZ := Lib.hid hz
  clear hsz hz hFw hh4 hb4 hR4 d4 hbV hFV hlth hltb hz1 hz2 hz3 g1 g2
  go_loopw [13, 14, 43] (fun op bad i wr => ∃ k : Nat, k ≤ H.boxes.length ∧ i = .int .i64 (k : Int) ∧ op = .int .i64 (openN (H.boxes.take k) : Nat) ∧ bad = .bool false ∧ q < wr.heap.size ∧ DcL w wr h bx p q H k) (fun _ _ i _ => H.boxes.length - (intOf i).toNat)
  case atStart => exact ⟨0, by omega, rfl, rfl, rfl, hqlt, hD0⟩
  case round =>
    obtain ⟨k, hk, rfl, rfl, rfl, hqr, hR⟩ := hrel
    clear hD0
    by_cases hlt : k < H.boxes.length
    · have hu1 := HS.out.ok.used k hlt
      have hv1 := HS.out.ok.live k hlt
      have hsr := HS.out.st H.boxes[k] (List.getElem_mem _)
      have htf := HS.out.tidy.free k
      have hlm := HS.out.limbo k
      rw [bx_eq hlt] at htf hlm
      have hdrop := encBoxes_drop H.boxes k hlt
      have hon := openN_succ H.boxes k hlt
      have hmix := mix_succ H k hlt
      obtain ⟨x, hx⟩ : ∃ x, x = H.boxes[k] := ⟨_, rfl⟩
      rw [← hx] at hu1 hv1 hsr htf hlm hdrop hon hmix
      obtain ⟨st, hstt⟩ : ∃ st : Nat, x.state = (st : Int) := ⟨x.state.toNat, by omega⟩
      obtain ⟨u, huu⟩ : ∃ u, x.used = u := ⟨_, rfl⟩
      obtain ⟨v, hvv⟩ : ∃ v, x.live = v := ⟨_, rfl⟩
      have hxe : x = ⟨(st : Int), u, v⟩ := by cases x; simp_all
      rw [hstt] at hsr htf hlm hon
      rw [huu] at hu1 hv1 htf
      rw [hvv] at hv1 hlm
      have henc : encBox x = encF st ++ (encF u ++ encF v) := by unfold encBox; rw [hstt, huu, hvv]; rfl
      rw [hxe] at hmix
      obtain ⟨L3, hL3⟩ : ∃ L3, L3 = encBoxes (H.boxes.drop (k + 1)) := ⟨_, rfl⟩
      obtain ⟨L2, hL2⟩ : ∃ L2, L2 = encF v ++ L3 := ⟨_, rfl⟩
      obtain ⟨L1, hL1⟩ : ∃ L1, L1 = encF u ++ L2 := ⟨_, rfl⟩
      obtain ⟨L0, hL0⟩ : ∃ L0, L0 = encF st ++ L1 := ⟨_, rfl⟩
      have hL : encBoxes (H.boxes.drop k) = L0 := by rw [hdrop, henc, hL0, hL1, hL2, hL3]; simp only [List.append_assoc]
      have hrd := hR.rd
      rw [hL] at hrd
      have hW0 : DcW wr wr.drew q L0 := ⟨(Fr.refl _ _).drew, hrd.fr0 (Fr.refl none_ wr).drew⟩
      have huz : u ≤ z := by have := HZ.out; omega
      have hvz : v ≤ z := by omega
      have hk1 : ∀ wx o, DcX wr wx q L0 o → Calls Try.prog 25 #[ptr q, .int .u64 3] wx fun en w' => en = .returned (.int .u64 (st : Nat)) ∧ Fr (fun i => i = q) wx w' ∧ DcX wr w' q L1 o := fun wx o h => by
        obtain ⟨e1, e2, e3⟩ := uint_enc st 3 (by omega) (by decide) L1
        have := ruint_any h.toW.rd 3 (by decide)
        rw [hL0, e1, e2, e3] at this
        exact this.mono (fun en w' ⟨h1, h2, h3⟩ => ⟨h1, h2, h.step hqr h2 h3⟩)
      have hk2 : ∀ wx o, DcX wr wx q L1 o → Calls Try.prog 25 #[ptr q, .int .u64 (IntKind.u64.wrap (z : Int))] wx fun en w' => en = .returned (.int .u64 (u : Nat)) ∧ Fr (fun i => i = q) wx w' ∧ DcX wr w' q L2 o := fun wx o h => by
        obtain ⟨e1, e2, e3⟩ := uint_enc u z huz (by omega) L2
        have := ruint_any h.toW.rd z (by omega)
        rw [hL1, e1, e2, e3] at this
        rw [IntWalk.u64_in _ (by omega)]
        exact this.mono (fun en w' ⟨h1, h2, h3⟩ => ⟨h1, h2, h.step hqr h2 h3⟩)
      have hk3 : ∀ wx o, DcX wr wx q L2 o → Calls Try.prog 25 #[ptr q, .int .u64 (IntKind.u64.wrap (z : Int))] wx fun en w' => en = .returned (.int .u64 (v : Nat)) ∧ Fr (fun i => i = q) wx w' ∧ DcX wr w' q L3 o := fun wx o h => by
        obtain ⟨e1, e2, e3⟩ := uint_enc v z hvz (by omega) L3
        have := ruint_any h.toW.rd z (by omega)
        rw [hL2, e1, e2, e3] at this
        rw [IntWalk.u64_in _ (by omega)]
        exact this.mono (fun en w' ⟨h1, h2, h3⟩ => ⟨h1, h2, h.step hqr h2 h3⟩)
      have hks : ∀ wx l o, DcX wr wx q l o → Calls Try.prog 26 #[confV H] wx fun en w' => en = .returned (.int .i64 (z : Int)) ∧ Fr (fun i => i = q) wx w' ∧ DcX wr w' q l o := fun wx l o h => (HSZ.out wx).mono (fun en w' ⟨h1, h2⟩ => ⟨h1, Fr.of0 h2, h.step0 h2⟩)
      have hst : ∀ wx l o, DcX wr wx q l o → (wx.cell? ⟨w.heap.size, 0, none⟩ = some (.int .i64 H.first) ∧ wx.cell? ⟨w.heap.size, 1, none⟩ = some (.int .i64 (H.boxes.length : Int)) ∧ wx.cell? ⟨w.heap.size, 2, none⟩ = some (.int .i64 (H.sectors : Int))) := fun wx l o h => by
        have := h.toW.fr.heap hR.conf (by omega)
        refine ⟨?_, ?_, ?_⟩ <;> (rw [cell_of_blk this]; rfl)
      have hst2 : ∀ wx l p', DcEnd wr q l st u v p' wx → (wx.cell? ⟨w.heap.size, 0, none⟩ = some (.int .i64 H.first) ∧ wx.cell? ⟨w.heap.size, 1, none⟩ = some (.int .i64 (H.boxes.length : Int)) ∧ wx.cell? ⟨w.heap.size, 2, none⟩ = some (.int .i64 (H.sectors : Int))) := fun wx l p' ⟨_, _, _, _, h⟩ => hst wx _ none ⟨h, fun t ht => by cases ht⟩
      have hX0 : DcX wr wr.drew q L0 none := ⟨hW0, fun t ht => by cases ht⟩
      have hX0N : DcX wr (wr.alloc zeroX).drew q L0 (some wr.heap.size) := ⟨⟨((Fr.refl _ _).alloc _).drew, (hrd.fr0 ((Fr.refl none_ wr).alloc _)).fr0 (Fr.refl none_ _).drew⟩, fun t ht => by cases ht; exact ⟨Nat.le_refl _, heap_alloc_new _ _⟩⟩
      have hs0 := hst _ _ _ hX0
      have hw1 : IntKind.i64.wrap (st : Int) = (st : Int) := IntWalk.i64_in _ (by omega)
      have hw2 : IntKind.i64.wrap (u : Int) = (u : Int) := IntWalk.i64_in _ (by omega)
      have hw3 : IntKind.i64.wrap (v : Int) = (v : Int) := IntWalk.i64_in _ (by omega)
      have hub : u ≤ 65536 := by omega
      have hvb : v ≤ 65536 := by omega
      have hsb : st ≤ 3 := by omega
      have HK1 := Lib.hid hk1
      have HK2 := Lib.hid hk2
      have HK3 := Lib.hid hk3
      have HKS := Lib.hid hks
      have HST := Lib.hid hst
      have HST2 := Lib.hid hst2
      have hvu : v ≤ u := hv1
      have HX := Lib.hid (And.intro hL3 (And.intro hmix (And.intro hon hxe)))
      have HTL := Lib.hid (And.intro htf hlm)
      clear hk1 hk2 hk3 hks hst hst2 hL hL0 hL1 hL2 hL3 henc hdrop hmix hon hxe hstt huu hvv hx htf hlm hsr hu1 hv1 hrd
      go_upto_region 12 with fail
      go_cut [16] (fun v16 wx => DcEnd wr q L3 st u v v16 wx)
      case first =>
        clear hW0 hd hf hn hsc hfit hA hnc hown hR hel hll
        go_region_held3 (fun W => W.cell? ⟨w.heap.size, 0, none⟩ = some (.int .i64 H.first) ∧ W.cell? ⟨w.heap.size, 1, none⟩ = some (.int .i64 (H.boxes.length : Int)) ∧ W.cell? ⟨w.heap.size, 2, none⟩ = some (.int .i64 (H.sectors : Int))) (first | exact hs0 | exact HST.out _ _ _ (by assumption) | exact HST.out _ _ _ (DcX.withNew (by assumption)) | exact HST.out _ _ _ (DcX.step0 (by assumption) ((Fr.refl _ _).alloc _)) | exact HST2.out _ _ _ (DcA.done (DcX.toA (by assumption)) hqr st u v) | exact HST2.out _ _ _ (DcW.done (DcX.toW (by assumption)) st u v)) (first
          | (go_at_call 25; first
              | ((with_reducible refine (HK1.out _ _ (by assumption)).mono ?_); rintro e w5 ⟨rfl, hF5, hW5⟩)
              | ((with_reducible refine (HK2.out _ _ (by assumption)).mono ?_); rintro e w5 ⟨rfl, hF5, hW5⟩)
              | ((with_reducible refine (HK3.out _ _ (by assumption)).mono ?_); rintro e w5 ⟨rfl, hF5, hW5⟩; (try (obtain ⟨k0, k1, k2, k3⟩ := (DcX.toA hW5).cells)))
              | ((with_reducible refine (HK1.out _ _ (DcX.withNew (by assumption))).mono ?_); rintro e w5 ⟨rfl, hF5, hW5⟩)
              | ((with_reducible refine (HK2.out _ _ (DcX.withNew (by assumption))).mono ?_); rintro e w5 ⟨rfl, hF5, hW5⟩)
              | ((with_reducible refine (HK3.out _ _ (DcX.withNew (by assumption))).mono ?_); rintro e w5 ⟨rfl, hF5, hW5⟩; obtain ⟨k0, k1, k2, k3⟩ := (DcX.toA hW5).cells))
          | (go_at_call 26; first
              | ((with_reducible refine (HKS.out _ _ _ (by assumption)).mono ?_); rintro e w5 ⟨rfl, hF5, hW5⟩)
              | ((with_reducible refine (HKS.out _ _ _ (DcX.withNew (by assumption))).mono ?_); rintro e w5 ⟨rfl, hF5, hW5⟩)))
        all_goals
          go_wp2_with fail
          go_meet
          first
            | exact DcA.done (DcX.toA (by assumption)) hqr st u v
            | exact DcW.done (DcX.toW (by assumption)) st u v
      case rest =>
        obtain ⟨t, rfl, ht, hbt, hWt⟩ := hcut
        have hF5 : Fr none_ w wc := hR.fr.trans' hWt.fr (fun k hk e => by omega)
        have hh5 := hR.hot.fr hWt.fr (by omega) (by omega)
        have hc5 := hWt.fr.heap hR.conf (by omega)
        have hql : q < wc.heap.size := by have := hWt.fr.size; omega
        have htb := blk_lt hbt
        have hrt := hright_ok hh5 st u v (show u ≤ H.sectors * 64 by have := HZ.out; omega) hvu (fun e => HTL.out.1 (by rw [e]; rfl)) (fun e => HTL.out.2 (by rw [e]; rfl))
        have hrd5 := hWt.rd
        have t0 : wc.cell? ⟨t, 0, none⟩ = some (.int .i64 (st : Int)) := by rw [cell_of_blk hbt]; rfl
        have t1 : wc.cell? ⟨t, 1, none⟩ = some (.int .i64 (u : Int)) := by rw [cell_of_blk hbt]; rfl
        have t2 : wc.cell? ⟨t, 2, none⟩ = some (.int .i64 (v : Int)) := by rw [cell_of_blk hbt]; rfl
        have HRT := Lib.hid hrt
        clear hrt hW0 hX0 hX0N hs0 hw1 hw2 hw3
        go_wp2_with fail
        (with_reducible refine HRT.out.mono ?_)
        rintro e x6 ⟨rfl, hF6⟩
        have hb6 := hF6.heap0 hbt
        have hh6 := hh5.fr0 hF6
        have hml := mix_len H k hk
        have hkm : k < (mixB H k).boxes.length := by rw [hml]; exact hlt
        obtain ⟨d0, d1, d2, d3, d4⟩ := hh6.cellsAll
        obtain ⟨b0, b1, b2⟩ := box_cells hh6.bxs k hkm
        have bf := fun o => frozen_of_blk hh6.bxs o
        rw [mix_get H k hlt hkm] at b0 b1 b2
        rw [hml] at d4
        have hset := hh6.setBox3 k hkm ⟨(st : Int), u, v⟩
        rw [HX.out.2.1] at hset
        have hrd6 := hrd5.fr0 hF6
        have hne := reader_ne hrd6 hh6.bxs (boxes_ints _)
        have hFS : Fr (fun i => i = bx) x6 (((x6.setCell ⟨bx, k * 3, none⟩ (.int .i64 (st : Int))).setCell ⟨bx, k * 3 + 1, none⟩ (.int .i64 (u : Int))).setCell ⟨bx, k * 3 + 2, none⟩ (.int .i64 (v : Int))) := ((Fr.set x6 bx _ _).trans (Fr.set _ bx _ _)).trans (Fr.set _ bx _ _)
        have hrd7 := hrd6.fr hFS (by omega) hne
        have hc7 := hFS.heap (hF6.heap0 hc5) (by omega)
        have hF7 := (hF5.trans hF6).own hFS (by omega)
        have hq7 : q < (((x6.setCell ⟨bx, k * 3, none⟩ (.int .i64 (st : Int))).setCell ⟨bx, k * 3 + 1, none⟩ (.int .i64 (u : Int))).setCell ⟨bx, k * 3 + 2, none⟩ (.int .i64 (v : Int))).heap.size := by have := hFS.size; have := hF6.size; omega
        have hD7 : DcL w (((x6.setCell ⟨bx, k * 3, none⟩ (.int .i64 (st : Int))).setCell ⟨bx, k * 3 + 1, none⟩ (.int .i64 (u : Int))).setCell ⟨bx, k * 3 + 2, none⟩ (.int .i64 (v : Int))) h bx p q H (k + 1) := ⟨hF7, hset, hc7, by rw [← HX.out.1]; exact hrd7⟩
        have t0 : x6.cell? ⟨t, 0, none⟩ = some (.int .i64 (st : Int)) := by rw [cell_of_blk hb6]; rfl
        have t1 : x6.cell? ⟨t, 1, none⟩ = some (.int .i64 (u : Int)) := by rw [cell_of_blk hb6]; rfl
        have t2 : x6.cell? ⟨t, 2, none⟩ = some (.int .i64 (v : Int)) := by rw [cell_of_blk hb6]; rfl
        have s0 : x6.drew.cell? ⟨t, 0, none⟩ = some (.int .i64 (st : Int)) := t0
        have s1 : x6.drew.cell? ⟨t, 1, none⟩ = some (.int .i64 (u : Int)) := t1
        have s2 : x6.drew.cell? ⟨t, 2, none⟩ = some (.int .i64 (v : Int)) := t2
        have s4 : x6.drew.cell? ⟨h, 4, none⟩ = some (.slice (some ⟨bx, 0, none⟩) H.boxes.length H.boxes.length) := d4
        have j1 : (0 : Int) ≤ (k : Int) := by omega
        have j2 : (k : Int) < (H.boxes.length : Int) := by omega
        have HD7 := Lib.hid hD7
        have HQ7 := Lib.hid hq7
        clear hset hrd7 hrd6 hne hFS hc7 hF7 hq7 hD7 hh6 hh5 hml hkm
        have hob : openN (H.boxes.take k) ≤ 1024 := by
          refine Nat.le_trans (List.length_filter_le _ _) ?_
          rw [List.length_take]; omega
        by_cases hone : st = 1
        · have hon2 : openN (H.boxes.take (k + 1)) = openN (H.boxes.take k) + 1 := by rw [HX.out.2.2.1, if_pos (by rw [hone]; rfl)]
          have HON := Lib.hid hon2
          clear hon2
          subst hone
          go_wp2_with fail
          go_still_tail 7, (by kernel_rfl)
          go_wp2_with fail
          go_roundw
          case rel => exact ⟨k + 1, by omega, by go_num, by rw [HON.out]; go_num, rfl, HQ7.out, HD7.out.drew⟩
          case measure => simp [intOf]; omega
        · have hon2 : openN (H.boxes.take (k + 1)) = openN (H.boxes.take k) := by rw [HX.out.2.2.1, if_neg (by omega)]; rfl
          have HON := Lib.hid hon2
          clear hon2
          have o1 : ((st : Int) == 1) = false := by rw [beq_eq_false_iff_ne]; omega
          go_wp2_with fail
          go_still_tail 7, (by kernel_rfl)
          go_wp2_with fail
          go_roundw
          case rel => exact ⟨k + 1, by omega, by go_num, by rw [HON.out], rfl, HQ7.out, HD7.out.drew⟩
          case measure => simp [intOf]; omega
    · have hkk : k = H.boxes.length := by omega
      subst hkk
      have hrd := hR.rd
      rw [List.drop_length, show encBoxes [] = [] from rfl] at hrd
      have hhot := hR.hot
      rw [mix_all] at hhot
      have hop1 := openN_le H.boxes (fun i j hi hj ha hb => HS.out.tidy.one i j (by rw [bx_eq hi]; exact ha) (by rw [bx_eq hj]; exact hb))
      have hft : wr.cell? ⟨w.heap.size, 1, none⟩ = some (.int .i64 (H.boxes.length : Int)) := by rw [cell_of_blk hR.conf]; rfl
      have hfr := hR.fr
      rw [List.take_length]
      obtain ⟨o, ho⟩ : ∃ o, o = openN H.boxes := ⟨_, rfl⟩
      rw [← ho] at hop1 ⊢
      have o1 : ¬ (1 : Int) < (o : Int) := by omega
      have o2 : ¬ 1 < o := by omega
      have o3 : IntKind.i64.wrap (H.boxes.length : Int) = (H.boxes.length : Int) := IntWalk.i64_in _ (by omega)
      have HRD := Lib.hid hrd
      have HHOT := Lib.hid hhot
      clear hrd hhot hR ho hk
      go_wp2_with fail
      (with_reducible refine (rdone_nil HRD.out).mono ?_)
      rintro e x5 ⟨rfl, rfl⟩
      go_wp2_with fail
      go_ret2
      exact ⟨⟨h, bx, by rw [errV_0]; rfl, HHOT.out, by omega, by omega⟩, hfr⟩
end Go.Proofs.Ytdlhndbgmldeaaa

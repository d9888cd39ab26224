import Derived.Test.YtjfeibbghhjjeaaDoorHDecB
import Derived.Test.YtjfeibbghhjjeaaDoorHRoomsP
import Derived.Deep.DeepCutAuto
import Derived.StillTailTactics
namespace Go.Proofs.YtjfeibbghhjjeaaDoor
open Go.RowKit
set_option linter.unusedVariables false
set_option linter.unusedSimpArgs false
set_option maxRecDepth 100000

/-! hot.Decode of any bytes. -/
abbrev zeroY : Obj := .cells #[.int .i64 0, .int .i64 0, .int .i64 0] 70
/-- what is read lies in no block of ints -/
theorem reader_ne {w : World} {p : Nat} {l : List UInt8} {e : Int} (h : ReaderAt w p l e) {t : Nat} {cs : Array Value} {T : TypeId} {f : Nat × Nat} (hb : w.heap[t]? = some (.cells cs T f)) (hv : ∀ v ∈ cs.toList, ∃ n, v = Value.int .i64 n) :
    ∀ A c b, w.heap[p]? = some (.cells #[.slice A l.length c, errV e] 105 (0, 0)) → blkOf A b → 0 < l.length → ¬ b = t := by
  intro A c b h1 h2 h3 h4
  obtain ⟨⟨A', c', g1, g2, _, _, _⟩, _⟩ := h
  rw [g1] at h1
  have hA : A' = A := by
    injection h1 with h1
    injection h1 with h1
    have := congrArg (fun (a : Array Value) => a[0]?) h1
    simp at this
    exact this.1
  subst hA
  subst h4
  obtain ⟨bb, o, rfl, hc⟩ := g2 0 (by simpa using h3)
  have := blkOf_some h2
  subst this
  rw [cell_of_blk hb] at hc
  obtain ⟨hi, hx⟩ := Array.getElem?_eq_some_iff.1 hc
  obtain ⟨n, hn⟩ := hv cs[o + 0] (by simp)
  rw [hn] at hx
  simp [byteV] at hx
structure DqW (w2 wx : World) (q : Nat) (l : List UInt8) (e : Int) : Prop where
  fr : Fr (fun i => i = q) w2 wx
  rd : ReaderAt wx q l e
structure DqA (w2 wx : World) (q : Nat) (l : List UInt8) (e : Int) (t : Nat) : Prop where
  toW : DqW w2 wx q l e
  new : w2.heap.size ≤ t
  blk : wx.heap[t]? = some zeroY
theorem DqW.step {w2 wx w' : World} {q : Nat} {l l' : List UInt8} {e e' : Int} (h : DqW w2 wx q l e) (hF : Fr (fun i => i = q) wx w') (hR : ReaderAt w' q l' e') : DqW w2 w' q l' e' := ⟨h.fr.trans hF, hR⟩
theorem DqW.step0 {w2 wx w' : World} {q : Nat} {l : List UInt8} {e : Int} (h : DqW w2 wx q l e) (hF : Fr none_ wx w') : DqW w2 w' q l e := ⟨h.fr.trans0 hF, h.rd.fr0 hF⟩
theorem DqW.withNew {w2 wx : World} {q : Nat} {l : List UInt8} {e : Int} (h : DqW w2 wx q l e) : DqA w2 (wx.alloc zeroY) q l e wx.heap.size :=
  ⟨h.step0 ((Fr.refl _ _).alloc _), h.fr.size, heap_alloc_new _ _⟩
theorem DqA.to {w2 wx w' : World} {q t : Nat} {l l' : List UInt8} {e e' : Int} (h : DqA w2 wx q l e t) (hq : q < w2.heap.size) (hF : Fr (fun i => i = q) wx w') (hW : DqW w2 w' q l' e') : DqA w2 w' q l' e' t :=
  ⟨hW, h.new, hF.heap h.blk (by have := h.new; omega)⟩
theorem DqA.cells {w2 wx : World} {q t : Nat} {l : List UInt8} {e : Int} (h : DqA w2 wx q l e t) : wx.cell? ⟨t, 0, none⟩ = some (.int .i64 0) ∧ wx.cell? ⟨t, 1, none⟩ = some (.int .i64 0) ∧ wx.cell? ⟨t, 2, none⟩ = some (.int .i64 0) ∧ ∀ o, wx.frozen? ⟨t, o, none⟩ = false :=
  ⟨by rw [cell_of_blk h.blk]; rfl, by rw [cell_of_blk h.blk]; rfl, by rw [cell_of_blk h.blk]; rfl, fun o => frozen_of_blk h.blk o⟩
/-- o: where its variable was made, if it was -/
structure DqX (w2 wx : World) (q : Nat) (l : List UInt8) (e : Int) (o : Option Nat) : Prop where
  toW : DqW w2 wx q l e
  box : ∀ t, o = some t → w2.heap.size ≤ t ∧ wx.heap[t]? = some zeroY
theorem DqX.step {w2 wx w' : World} {q : Nat} {l l' : List UInt8} {e e' : Int} {o : Option Nat} (h : DqX w2 wx q l e o) (hq : q < w2.heap.size) (hF : Fr (fun i => i = q) wx w') (hR : ReaderAt w' q l' e') : DqX w2 w' q l' e' o :=
  ⟨h.toW.step hF hR, fun t ht => ⟨(h.box t ht).1, hF.heap (h.box t ht).2 (by have := (h.box t ht).1; omega)⟩⟩
theorem DqX.step0 {w2 wx w' : World} {q : Nat} {l : List UInt8} {e : Int} {o : Option Nat} (h : DqX w2 wx q l e o) (hF : Fr none_ wx w') : DqX w2 w' q l e o :=
  ⟨h.toW.step0 hF, fun t ht => ⟨(h.box t ht).1, hF.heap0 (h.box t ht).2⟩⟩
theorem DqX.withNew {w2 wx : World} {q : Nat} {l : List UInt8} {e : Int} (h : DqX w2 wx q l e none) : DqX w2 (wx.alloc zeroY) q l e (some wx.heap.size) :=
  ⟨h.toW.step0 ((Fr.refl _ _).alloc _), fun t ht => by cases ht; exact ⟨h.toW.fr.size, heap_alloc_new _ _⟩⟩
theorem DqX.toA {w2 wx : World} {q t : Nat} {l : List UInt8} {e : Int} (h : DqX w2 wx q l e (some t)) : DqA w2 wx q l e t := ⟨h.toW, (h.box t rfl).1, (h.box t rfl).2⟩
/-- a box that was read, in a block of its own -/
def DqEnd (w2 : World) (q : Nat) (l : List UInt8) (e : Int) (st u v : Nat) (p : Value) (wx : World) : Prop :=
  ∃ t, p = ptr t ∧ w2.heap.size ≤ t ∧ wx.heap[t]? = some (.cells #[.int .i64 (st : Int), .int .i64 (u : Int), .int .i64 (v : Int)] 70 (0, 0)) ∧ DqW w2 wx q l e
theorem DqA.done {w2 wx : World} {q t : Nat} {l : List UInt8} {e : Int} (h : DqA w2 wx q l e t) (hq : q < w2.heap.size) (st u v : Nat) :
    DqEnd w2 q l e st u v (ptr t) (((wx.setCell ⟨t, 0, none⟩ (.int .i64 (st : Int))).setCell ⟨t, 1, none⟩ (.int .i64 (u : Int))).setCell ⟨t, 2, none⟩ (.int .i64 (v : Int))) := by
  have ht := h.new
  have hF : Fr (fun i => i = t) wx (((wx.setCell ⟨t, 0, none⟩ (.int .i64 (st : Int))).setCell ⟨t, 1, none⟩ (.int .i64 (u : Int))).setCell ⟨t, 2, none⟩ (.int .i64 (v : Int))) := ((Fr.set wx t 0 _).trans (Fr.set _ t 1 _)).trans (Fr.set _ t 2 _)
  refine ⟨t, rfl, ht, heap_setCell_same (heap_setCell_same (heap_setCell_same h.blk _) _) _, ⟨h.toW.fr.trans' hF (fun k hk e => by omega), ?_⟩⟩
  exact h.toW.rd.fr hF (by omega) (reader_ne h.toW.rd h.blk (fun v hv => by simp at hv; exact ⟨0, hv⟩))
theorem DqW.done {w2 wx : World} {q : Nat} {l : List UInt8} {e : Int} (h : DqW w2 wx q l e) (st u v : Nat) :
    DqEnd w2 q l e st u v (ptr wx.heap.size) (wx.alloc (.cells #[.int .i64 (st : Int), .int .i64 (u : Int), .int .i64 (v : Int)] 70)) :=
  ⟨wx.heap.size, rfl, h.fr.size, heap_alloc_new _ _, h.step0 ((Fr.refl _ _).alloc _)⟩
theorem boxes_ints (l : List BoxS) : ∀ v ∈ (l.flatMap boxC).toArray.toList, ∃ n, v = Value.int .i64 n := by
  intro v hv
  obtain ⟨b, _, hb⟩ := List.mem_flatMap.1 (by simpa using hv)
  simp [boxC] at hb
  rcases hb with rfl | rfl | rfl
  · exact ⟨_, rfl⟩
  · exact ⟨_, rfl⟩
  · exact ⟨_, rfl⟩

theorem step_tailQ (z n k : Nat) (s0 : RS) (hk : k < n) : (bxL z k s0 ++ List.replicate (n - k) freeB).set k (boxS z (rdS z k s0)) = bxL z (k + 1) s0 ++ List.replicate (n - (k + 1)) freeB := by
  rw [List.set_append_right _ _ (by rw [bxL_len]; exact Nat.le_refl _), bxL_len, Nat.sub_self, show n - k = (n - (k + 1)) + 1 by omega, List.replicate_succ, List.set_cons_zero, bxL_succ, List.append_assoc]
  rfl
/-- the boxes while they are read -/
def mixQ (f : Int) (n s z : Nat) (s0 : RS) (k : Nat) : HotS := ⟨f, s, bxL z k s0 ++ List.replicate (n - k) freeB⟩
theorem mixQ_len {f : Int} {n s z : Nat} {s0 : RS} {k : Nat} (hk : k ≤ n) : (mixQ f n s z s0 k).boxes.length = n := by
  unfold mixQ; simp only [List.length_append, bxL_len, List.length_replicate]; omega
structure DqL (w wr : World) (h bx p q : Nat) (f : Int) (n s z : Nat) (s0 : RS) (k : Nat) : Prop where
  fr : Fr none_ w wr
  hot : HotAt wr h bx p (mixQ f n s z s0 k)
  conf : wr.heap[w.heap.size]? = some (.cells #[.int .i64 f, .int .i64 (n : Int), .int .i64 (s : Int)] 39 (0, 0))
  rd : ReaderAt wr q (rdS z k s0).1 (rdS z k s0).2
theorem DqL.drew {w wr : World} {h bx p q : Nat} {f : Int} {n s z : Nat} {s0 : RS} {k : Nat} (R : DqL w wr h bx p q f n s z s0 k) : DqL w wr.drew h bx p q f n s z s0 k :=
  ⟨R.fr.drew, R.hot.fr0 (Fr.refl none_ _).drew, R.conf, R.rd.fr0 (Fr.refl none_ _).drew⟩
/-- what Decode leaves -/
def HDec (w : World) (p : Nat) (f : Int) (n s : Nat) (l : List UInt8) (e : Ending) (w' : World) : Prop :=
  (formOK (s * 64) n l → ∃ h bx, e = .returned (.tuple #[ptr h, errV 0]) ∧ HotAt w' h bx p ⟨f, s, bxL (s * 64) n (rsHead l)⟩ ∧ w.heap.size ≤ h ∧ w.heap.size ≤ bx) ∧ (¬ formOK (s * 64) n l → e = .returned (.tuple #[.pointer none, errV 3])) ∧ Fr none_ w w'
set_option maxHeartbeats 8000000 in
theorem hdec_conf {w : World} {p m1 m2 : Nat} {D : DevS} (hd : DevAt w p m1 m2 D) (f n s : Int) (hb : confBad D.sectors f n s) (A : Option Addr) (nn cc : Nat) :
    Calls Tryd.prog 6 #[ptr p, .agg #[.int .i64 f, .int .i64 n, .int .i64 s], .slice A nn cc] w fun e w' => e = .returned (.tuple #[.pointer none, errV 1]) ∧ Fr none_ w w' := by
  obtain ⟨V, hV⟩ : ∃ V, V = w.alloc (.cells #[.int .i64 f, .int .i64 n, .int .i64 s] 39) := ⟨_, rfl⟩
  have hFV : Fr none_ w V := hV ▸ (Fr.refl _ _).alloc _
  have hnew := hnew_bad (hd.fr0 hFV) f n s hb
  have he1 : errV 1 = .iface 53 (.int .i64 1) := errV_n (by decide)
  rw [he1] at hnew ⊢
  have HV := Lib.hid hV
  have HNEW := Lib.hid hnew
  clear hV hnew hb
  go_enter Tryd.func6, Tryd.ntmps6
  go_wp2_with fail
  rw [← HV.out]
  (with_reducible refine HNEW.out.mono ?_)
  rintro e w1 ⟨rfl, hF1⟩
  go_wp2_with fail
  go_ret2
  exact ⟨rfl, hFV.trans hF1⟩
set_option maxHeartbeats 8000000 in
theorem hdec_open {w : World} {p m1 m2 : Nat} {D : DevS} (hd : DevAt w p m1 m2 D) (f : Int) (n s : Nat) (hf : 0 ≤ f) (hn : 1 ≤ n ∧ n ≤ 1024) (hs : 1 ≤ s ∧ s ≤ 1024) (hfit : f + (n * s : Nat) ≤ D.sectors) (hm : Made n)
    (A : Option Addr) (nn cc : Nat) (l : List UInt8) (hnl : nn = l.length) (hA : CellsAt w A (l.map byteV)) (hnc : nn ≤ cc) (hlm : l.length ≤ 140737488351232) (hE : openE l ≠ 0) :
    Calls Tryd.prog 6 #[ptr p, .agg #[.int .i64 f, .int .i64 (n : Int), .int .i64 (s : Int)], .slice A nn cc] w fun e w' => e = .returned (.tuple #[.pointer none, errV (openE l)]) ∧ Fr none_ w w' := by
  obtain ⟨V, hV⟩ : ∃ V, V = w.alloc (.cells #[.int .i64 f, .int .i64 (n : Int), .int .i64 (s : Int)] 39) := ⟨_, rfl⟩
  have hFV : Fr none_ w V := hV ▸ (Fr.refl _ _).alloc _
  have hnew := hnew_any (hd.fr0 hFV) f n s hf hn hs hfit hm
  have hopn : ∀ W, Fr none_ w W → Calls Tryd.prog 14 #[.slice A nn cc] W fun e w' => Opened W l e w' := fun W hW => open_any A nn cc l hnl (hA.fr0 hW) hnc (by omega)
  have HV := Lib.hid hV
  have HNEW := Lib.hid hnew
  have HOPN := Lib.hid hopn
  have HE := Lib.hid hE
  have HNL := Lib.hid hnl
  clear hV hnew hopn hE hnl hA hlm hm
  go_enter Tryd.func6, Tryd.ntmps6
  go_wp2_with fail
  rw [← HV.out]
  (with_reducible refine HNEW.out.mono ?_)
  rintro e w1 ⟨⟨h, bx, rfl, hh, g1, g2⟩, hF1⟩
  rw [errV_0]
  go_wp2_with fail
  (with_reducible refine (HOPN.out _ (hFV.trans hF1)).mono ?_)
  rintro e w2 ⟨⟨v, rfl, _, hv⟩, hF2⟩
  rw [hv HE.out, errV_n HE.out]
  go_wp2_with fail
  go_ret2
  exact ⟨by rw [errV_n HE.out]; rfl, (hFV.trans hF1).trans hF2⟩
set_option maxHeartbeats 16000000 in
theorem hdec_any {w : World} {p m1 m2 : Nat} {D : DevS} (hd : DevAt w p m1 m2 D) (f : Int) (n s : Nat) (hf : 0 ≤ f) (hn : 1 ≤ n ∧ n ≤ 1024) (hs : 1 ≤ s ∧ s ≤ 1024) (hfit : f + (n * s : Nat) ≤ D.sectors) (hm : Made n)
    (A : Option Addr) (nn cc : Nat) (l : List UInt8) (hnl : nn = l.length) (hA : CellsAt w A (l.map byteV)) (hnc : nn ≤ cc) (hlm : l.length ≤ 140737488351232) (hE : openE l = 0) :
    Calls Tryd.prog 6 #[ptr p, .agg #[.int .i64 f, .int .i64 (n : Int), .int .i64 (s : Int)], .slice A nn cc] w fun e w' => HDec w p f n s l e w' := by
  obtain ⟨V, hV⟩ : ∃ V, V = w.alloc (.cells #[.int .i64 f, .int .i64 (n : Int), .int .i64 (s : Int)] 39) := ⟨_, rfl⟩
  have hFV : Fr none_ w V := hV ▸ (Fr.refl _ _).alloc _
  have hbV : V.heap[w.heap.size]? = some (.cells #[.int .i64 f, .int .i64 (n : Int), .int .i64 (s : Int)] 39 (0, 0)) := hV ▸ heap_alloc_new _ _
  have hnew := hnew_any (hd.fr0 hFV) f n s hf hn hs hfit hm
  have hopn : ∀ W, Fr none_ w W → Calls Tryd.prog 14 #[.slice A nn cc] W fun e w' => Opened W l e w' := fun W hW => open_any A nn cc l hnl (hA.fr0 hW) hnc (by omega)
  have HV := Lib.hid hV
  have HNEW := Lib.hid hnew
  have HOPN := Lib.hid hopn
  have HE := Lib.hid hE
  have HNL := Lib.hid (And.intro hnl hlm)
  clear hV hnew hopn hE hnl hA hlm hm
  go_enter Tryd.func6, Tryd.ntmps6
  go_wp2_with fail
  rw [← HV.out]
  (with_reducible refine HNEW.out.mono ?_)
  rintro e w1 ⟨⟨h, bx, rfl, hh, g1, g2⟩, hF1⟩
  rw [errV_0]
  go_wp2_with fail
  (with_reducible refine (HOPN.out _ (hFV.trans hF1)).mono ?_)
  rintro e w2 ⟨⟨v, rfl, hown, _⟩, hF2⟩
  have hown := hown HE.out
  rw [HE.out, errV_0]
  obtain ⟨A2, c2, rfl, hA2, hc2, hnil2, hbl2⟩ := ownsRow_read hown
  have hbl : (bodyB l).length ≤ 140737488351232 := by have := HNL.out.2; unfold bodyB; rw [List.length_take]; omega
  have hrr := rread_any w2 A2 (bodyB l).length c2 (bodyB l) rfl hA2 (fun h => hnil2 h) hc2 (by omega)
  have HRR := Lib.hid hrr
  clear hrr
  go_wp2_with fail
  (with_reducible refine HRR.out.mono ?_)
  rintro e w3 ⟨rfl, hF3, hR3⟩
  obtain ⟨q, hq⟩ : ∃ q, q = w2.heap.size := ⟨_, rfl⟩
  rw [← hq] at hR3 ⊢
  have HQ := Lib.hid hq
  clear hq
  obtain ⟨N0, hN0⟩ : ∃ N0, N0 = uintN (bodyB l) 0 1024 := ⟨_, rfl⟩
  obtain ⟨s0, hs0⟩ : ∃ s0, s0 = rsHead l := ⟨_, rfl⟩
  have hru : Calls Tryd.prog 16 #[ptr q, .int .u64 1024] w3 fun en w' => en = .returned (.int .u64 (N0 : Int)) ∧ Fr (fun i => i = q) w3 w' ∧ ReaderAt w' q s0.1 s0.2 := by
    rw [hN0, hs0]; exact ruint_any hR3 1024 (by decide)
  have hNb : N0 ≤ 1024 := by rw [hN0]; exact uintN_le _ _ _
  have HRU := Lib.hid hru
  have HS0 := Lib.hid (And.intro hN0 hs0)
  clear hru hN0 hs0
  go_wp2_with fail
  (with_reducible refine HRU.out.mono ?_)
  rintro e w4 ⟨rfl, hF4, hR4⟩
  obtain ⟨z, hz⟩ : ∃ z, z = s * 64 := ⟨_, rfl⟩
  have hz1 := hFV.size
  have hz2 := hF1.size
  have hz3 := hF2.size
  have hlth := blk_lt hh.blk
  have hltb := blk_lt hh.bxs
  have hqe := HQ.out
  have hh4 : HotAt w4 h bx p (mixQ f n s z s0 0) := by
    have := (hh.fr0 (hF2.trans hF3)).fr hF4 (by omega) (by omega)
    have e : mixQ f n s z s0 0 = newH f n s := by unfold mixQ newH; rw [Nat.sub_zero]; rfl
    rw [e]; exact this
  have hb4 := hF4.heap (((hF1.trans hF2).trans hF3).heap0 hbV) (by have := blk_lt hbV; omega)
  have hFw : Fr none_ w w4 := ((((hFV.trans hF1).trans hF2).trans hF3)).trans' hF4 (fun k hk e => by omega)
  obtain ⟨d0, d1, d2, d3, d4⟩ := hh4.cellsAll
  rw [mixQ_len (by omega)] at d4
  have hqlt : q < w4.heap.size := by obtain ⟨⟨_, _, hb, _⟩, _⟩ := hR4; exact blk_lt hb
  clear hqe hF2 hF3 hF4 hR3 hown hA2 hc2 hnil2 hbl2 hh hF1 d0 d1 d2 d3
  go_wp2_with fail
  have hq1 : h < q := by have := HQ.out; omega
  have hq2 : bx < q := by have := HQ.out; omega
  have hc1 : w.heap.size < h := by have := blk_lt hbV; omega
  have hc2 : w.heap.size < bx := by have := blk_lt hbV; omega
  have hD0 : DqL w w4 h bx p q f n s z s0 0 := ⟨hFw, hh4, hb4, hR4⟩
  have hsz : ∀ W, Calls Tryd.prog 17 #[.agg #[.int .i64 f, .int .i64 (n : Int), .int .i64 (s : Int)]] W fun e w' => e = .returned (.int .i64 (z : Int)) ∧ Fr none_ W w' := fun W => by
    have := size_any (newH f n s) hs.2 W
    rw [hz]
    rw [show confV (newH f n s) = .agg #[.int .i64 f, .int .i64 (n : Int), .int .i64 (s : Int)] by unfold confV newH; simp] at this
    exact this
  have hz64 : z ≤ 65536 := by omega
  have HSZ := Lib.hid hsz
  have HZ := Lib.hid hz
  have HD0 := Lib.hid hD0
  clear hsz hz hFw hh4 hb4 hR4 d4 hbV hFV hlth hltb hz1 hz2 hz3 g1 g2 hD0
  go_loopw [13, 14, 43] (fun op bad i wr => ∃ k : Nat, k ≤ n ∧ i = .int .i64 (k : Int) ∧ op = .int .i64 (opN (bxL z k s0) : Nat) ∧ bad = .bool (!(bxL z k s0).all okB) ∧ q < wr.heap.size ∧ DqL w wr h bx p q f n s z s0 k) (fun _ _ i _ => n - (intOf i).toNat)
  case atStart => exact ⟨0, by omega, rfl, rfl, rfl, hqlt, HD0.out⟩
  case round =>
    obtain ⟨k, hk, rfl, rfl, rfl, hqr, hR⟩ := hrel
    clear HD0
    obtain ⟨okk, hokk⟩ : ∃ okk, okk = (bxL z k s0).all okB := ⟨_, rfl⟩
    obtain ⟨opk, hopk⟩ : ∃ opk, opk = opN (bxL z k s0) := ⟨_, rfl⟩
    have hopb : opk ≤ k := by rw [hopk]; exact opN_le _ _ _
    rw [← hokk, ← hopk]
    by_cases hlt : k < n
    · have hkc : (k : Int) < (n : Int) := by omega
      have hall := all_succ z k s0
      have hops := opN_succ z k s0
      have htail := step_tailQ z n k s0 hlt
      have hbox : boxS z (rdS z k s0) = ⟨((uintN (rdS z k s0).1 (rdS z k s0).2 3 : Nat) : Int), uintN (rs1 (rdS z k s0) 3).1 (rs1 (rdS z k s0) 3).2 z, uintN (rs1 (rs1 (rdS z k s0) 3) z).1 (rs1 (rs1 (rdS z k s0) 3) z).2 z⟩ := rfl
      have hsucc : rdS z (k + 1) s0 = rs1 (rs1 (rs1 (rdS z k s0) 3) z) z := rfl
      have hrd := hR.rd
      rw [hbox] at hall hops htail
      rw [← hopk] at hops
      rw [← hokk] at hall
      obtain ⟨S0, hS0⟩ : ∃ S0, S0 = rdS z k s0 := ⟨_, rfl⟩
      rw [← hS0] at hrd hsucc hall hops htail
      obtain ⟨S1, hS1⟩ : ∃ S1, S1 = rs1 S0 3 := ⟨_, rfl⟩
      rw [← hS1] at hsucc hall hops htail
      obtain ⟨S2, hS2⟩ : ∃ S2, S2 = rs1 S1 z := ⟨_, rfl⟩
      rw [← hS2] at hsucc hall hops htail
      obtain ⟨S3, hS3⟩ : ∃ S3, S3 = rs1 S2 z := ⟨_, rfl⟩
      rw [← hS3] at hsucc
      obtain ⟨st, hst⟩ : ∃ st, st = uintN S0.1 S0.2 3 := ⟨_, rfl⟩
      obtain ⟨u, hu⟩ : ∃ u, u = uintN S1.1 S1.2 z := ⟨_, rfl⟩
      obtain ⟨v, hv⟩ : ∃ v, v = uintN S2.1 S2.2 z := ⟨_, rfl⟩
      rw [← hst, ← hu, ← hv] at hall hops htail
      have hW0 : DqW wr wr.drew q S0.1 S0.2 := ⟨(Fr.refl _ _).drew, hrd.fr0 (Fr.refl none_ wr).drew⟩
      have hk1 : ∀ wx o, DqX wr wx q S0.1 S0.2 o → Calls Tryd.prog 16 #[ptr q, .int .u64 3] wx fun en w' => en = .returned (.int .u64 (st : Nat)) ∧ Fr (fun i => i = q) wx w' ∧ DqX wr w' q S1.1 S1.2 o := fun wx o h => by
        have := ruint_any h.toW.rd 3 (by decide)
        rw [hst, hS1]
        exact this.mono (fun en w' ⟨h1, h2, h3⟩ => ⟨h1, h2, h.step hqr h2 h3⟩)
      have hk2 : ∀ wx o, DqX wr wx q S1.1 S1.2 o → Calls Tryd.prog 16 #[ptr q, .int .u64 (IntKind.u64.wrap (z : Int))] wx fun en w' => en = .returned (.int .u64 (u : Nat)) ∧ Fr (fun i => i = q) wx w' ∧ DqX wr w' q S2.1 S2.2 o := fun wx o h => by
        have := ruint_any h.toW.rd z (by omega)
        rw [IntWalk.u64_in _ (by omega), hu, hS2]
        exact this.mono (fun en w' ⟨h1, h2, h3⟩ => ⟨h1, h2, h.step hqr h2 h3⟩)
      have hk3 : ∀ wx o, DqX wr wx q S2.1 S2.2 o → Calls Tryd.prog 16 #[ptr q, .int .u64 (IntKind.u64.wrap (z : Int))] wx fun en w' => en = .returned (.int .u64 (v : Nat)) ∧ Fr (fun i => i = q) wx w' ∧ DqX wr w' q S3.1 S3.2 o := fun wx o h => by
        have := ruint_any h.toW.rd z (by omega)
        rw [IntWalk.u64_in _ (by omega), hv, hS3]
        exact this.mono (fun en w' ⟨h1, h2, h3⟩ => ⟨h1, h2, h.step hqr h2 h3⟩)
      have hks : ∀ wx l e o, DqX wr wx q l e o → Calls Tryd.prog 17 #[.agg #[.int .i64 f, .int .i64 (n : Int), .int .i64 (s : Int)]] wx fun en w' => en = .returned (.int .i64 (z : Int)) ∧ Fr (fun i => i = q) wx w' ∧ DqX wr w' q l e o := fun wx l e o h => (HSZ.out wx).mono (fun en w' ⟨h1, h2⟩ => ⟨h1, Fr.of0 h2, h.step0 h2⟩)
      have hst9 : ∀ wx l e o, DqX wr wx q l e o → (wx.cell? ⟨w.heap.size, 0, none⟩ = some (.int .i64 f) ∧ wx.cell? ⟨w.heap.size, 1, none⟩ = some (.int .i64 (n : Int)) ∧ wx.cell? ⟨w.heap.size, 2, none⟩ = some (.int .i64 (s : Int))) := fun wx l e o h => by
        have := h.toW.fr.heap hR.conf (by omega)
        refine ⟨?_, ?_, ?_⟩ <;> (rw [cell_of_blk this]; rfl)
      have hst2 : ∀ wx l e p', DqEnd wr q l e st u v p' wx → (wx.cell? ⟨w.heap.size, 0, none⟩ = some (.int .i64 f) ∧ wx.cell? ⟨w.heap.size, 1, none⟩ = some (.int .i64 (n : Int)) ∧ wx.cell? ⟨w.heap.size, 2, none⟩ = some (.int .i64 (s : Int))) := fun wx l e p' ⟨_, _, _, _, h⟩ => hst9 wx _ _ none ⟨h, fun t ht => by cases ht⟩
      have hX0 : DqX wr wr.drew q S0.1 S0.2 none := ⟨hW0, fun t ht => by cases ht⟩
      have hX0N : DqX wr (wr.alloc zeroY).drew q S0.1 S0.2 (some wr.heap.size) := ⟨⟨((Fr.refl _ _).alloc _).drew, (hrd.fr0 ((Fr.refl none_ wr).alloc _)).fr0 (Fr.refl none_ _).drew⟩, fun t ht => by cases ht; exact ⟨Nat.le_refl _, heap_alloc_new _ _⟩⟩
      have hs0' := hst9 _ _ _ _ hX0
      have hstb : st ≤ 3 := by rw [hst]; exact uintN_le _ _ _
      have huz : u ≤ z := by rw [hu]; exact uintN_le _ _ _
      have hvz : v ≤ z := by rw [hv]; exact uintN_le _ _ _
      have hw1 : IntKind.i64.wrap (st : Int) = (st : Int) := IntWalk.i64_in _ (by omega)
      have hw2 : IntKind.i64.wrap (u : Int) = (u : Int) := IntWalk.i64_in _ (by omega)
      have hw3 : IntKind.i64.wrap (v : Int) = (v : Int) := IntWalk.i64_in _ (by omega)
      have hub : u ≤ 65536 := by omega
      have hvb : v ≤ 65536 := by omega
      have HK1 := Lib.hid hk1
      have HK2 := Lib.hid hk2
      have HK3 := Lib.hid hk3
      have HKS := Lib.hid hks
      have HST := Lib.hid hst9
      have HST2 := Lib.hid hst2
      have HX := Lib.hid (And.intro hsucc (And.intro htail (And.intro hall hops)))
      have HRR := Lib.hid hR
      have HOK := Lib.hid hokk
      clear hk1 hk2 hk3 hks hst9 hst2 hsucc htail hall hops hbox hst hu hv hS0 hS1 hS2 hS3 hrd hR hokk hopk
      go_upto_region 12 with fail
      go_cut [16] (fun v16 wx => DqEnd wr q S3.1 S3.2 st u v v16 wx)
      case first =>
        clear hW0 hd hf hn hs hfit hnc
        go_region_held3 (fun W => W.cell? ⟨w.heap.size, 0, none⟩ = some (.int .i64 f) ∧ W.cell? ⟨w.heap.size, 1, none⟩ = some (.int .i64 (n : Int)) ∧ W.cell? ⟨w.heap.size, 2, none⟩ = some (.int .i64 (s : Int))) (first | exact hs0' | exact HST.out _ _ _ _ (by assumption) | exact HST.out _ _ _ _ (DqX.withNew (by assumption)) | exact HST.out _ _ _ _ (DqX.step0 (by assumption) ((Fr.refl _ _).alloc _)) | exact HST2.out _ _ _ _ (DqA.done (DqX.toA (by assumption)) hqr st u v) | exact HST2.out _ _ _ _ (DqW.done (DqX.toW (by assumption)) st u v)) (first
          | (go_at_call 16; first
              | ((with_reducible refine (HK1.out _ _ (by assumption)).mono ?_); rintro e w5 ⟨rfl, hF5, hW5⟩)
              | ((with_reducible refine (HK2.out _ _ (by assumption)).mono ?_); rintro e w5 ⟨rfl, hF5, hW5⟩)
              | ((with_reducible refine (HK3.out _ _ (by assumption)).mono ?_); rintro e w5 ⟨rfl, hF5, hW5⟩; (try (obtain ⟨k0, k1, k2, k3⟩ := (DqX.toA hW5).cells)))
              | ((with_reducible refine (HK1.out _ _ (DqX.withNew (by assumption))).mono ?_); rintro e w5 ⟨rfl, hF5, hW5⟩)
              | ((with_reducible refine (HK2.out _ _ (DqX.withNew (by assumption))).mono ?_); rintro e w5 ⟨rfl, hF5, hW5⟩)
              | ((with_reducible refine (HK3.out _ _ (DqX.withNew (by assumption))).mono ?_); rintro e w5 ⟨rfl, hF5, hW5⟩; obtain ⟨k0, k1, k2, k3⟩ := (DqX.toA hW5).cells))
          | (go_at_call 17; first
              | ((with_reducible refine (HKS.out _ _ _ _ (by assumption)).mono ?_); rintro e w5 ⟨rfl, hF5, hW5⟩)
              | ((with_reducible refine (HKS.out _ _ _ _ (DqX.withNew (by assumption))).mono ?_); rintro e w5 ⟨rfl, hF5, hW5⟩)))
        all_goals
          go_wp2_with fail
          go_meet
          first
            | exact DqA.done (DqX.toA (by assumption)) hqr st u v
            | exact DqW.done (DqX.toW (by assumption)) st u v
      case rest =>
        obtain ⟨t, rfl, ht, hbt, hWt⟩ := hcut
        have hF5 : Fr none_ w wc := HRR.out.fr.trans' hWt.fr (fun k hk e => by omega)
        have hh5 := HRR.out.hot.fr hWt.fr (by omega) (by omega)
        have hc5 := hWt.fr.heap HRR.out.conf (by omega)
        have hql : q < wc.heap.size := by have := hWt.fr.size; omega
        have htb := blk_lt hbt
        have hrt := hright_any hh5 st u v (show u ≤ s * 64 by have := HZ.out; omega)
        have hrd5 := hWt.rd
        have t0 : wc.cell? ⟨t, 0, none⟩ = some (.int .i64 (st : Int)) := by rw [cell_of_blk hbt]; rfl
        have t1 : wc.cell? ⟨t, 1, none⟩ = some (.int .i64 (u : Int)) := by rw [cell_of_blk hbt]; rfl
        have t2 : wc.cell? ⟨t, 2, none⟩ = some (.int .i64 (v : Int)) := by rw [cell_of_blk hbt]; rfl
        obtain ⟨ob, hob⟩ : ∃ ob, ob = okB ⟨(st : Int), u, v⟩ := ⟨_, rfl⟩
        rw [← hob] at hrt
        clear hW0 hX0 hX0N hs0' hw1 hw2 hw3
        cases okk with
        | true =>
          rw [Bool.not_true]
          cases ob with
          | true =>
            have HRT := Lib.hid hrt
            clear hrt
            have HALL := Lib.hid (show (bxL z (k + 1) s0).all okB = true by rw [HX.out.2.2.1, ← hob]; rfl)
            clear hob
            go_wp2_with fail
            (with_reducible refine HRT.out.mono ?_)
            rintro e x6 ⟨rfl, hF6⟩
            have hb6 := hF6.heap0 hbt
            have hh6 := hh5.fr0 hF6
            have hml := mixQ_len (f := f) (s := s) (z := z) (s0 := s0) hk
            have hkm : k < (mixQ f n s z s0 k).boxes.length := by rw [hml]; exact hlt
            obtain ⟨d0, d1, d2, d3, d4⟩ := hh6.cellsAll
            obtain ⟨b0, b1, b2⟩ := box_cells hh6.bxs k hkm
            have bf := fun o => frozen_of_blk hh6.bxs o
            obtain ⟨bk, hbk⟩ : ∃ bk, bk = (mixQ f n s z s0 k).boxes[k] := ⟨_, rfl⟩
            rw [← hbk] at b0 b1 b2
            rw [hml] at d4
            have hset := hh6.setBox3 k hkm ⟨(st : Int), u, v⟩
            have hmx : (mixQ f n s z s0 k).putB k ⟨(st : Int), u, v⟩ = mixQ f n s z s0 (k + 1) := by
              unfold mixQ HotS.putB
              simp only
              rw [HX.out.2.1]
            rw [hmx] at hset
            have hrd6 := hrd5.fr0 hF6
            have hne := reader_ne hrd6 hh6.bxs (boxes_ints _)
            obtain ⟨X, hX⟩ : ∃ X, X = (((x6.setCell ⟨bx, k * 3, none⟩ (.int .i64 (st : Int))).setCell ⟨bx, k * 3 + 1, none⟩ (.int .i64 (u : Int))).setCell ⟨bx, k * 3 + 2, none⟩ (.int .i64 (v : Int))) := ⟨_, rfl⟩
            have hFS : Fr (fun i => i = bx) x6 X := by rw [hX]; exact ((Fr.set x6 bx _ _).trans (Fr.set _ bx _ _)).trans (Fr.set _ bx _ _)
            rw [← hX] at hset
            have hrd7 := hrd6.fr hFS (by omega) hne
            have hc7 := hFS.heap (hF6.heap0 hc5) (by omega)
            have hF7 := (hF5.trans hF6).own hFS (by omega)
            have hq7 : q < X.heap.size := by have := hFS.size; have := hF6.size; omega
            have hD7 : DqL w X h bx p q f n s z s0 (k + 1) := ⟨hF7, hset, hc7, by rw [HX.out.1]; exact hrd7⟩
            rw [hX] at hD7 hq7
            have t0 : x6.cell? ⟨t, 0, none⟩ = some (.int .i64 (st : Int)) := by rw [cell_of_blk hb6]; rfl
            have t1 : x6.cell? ⟨t, 1, none⟩ = some (.int .i64 (u : Int)) := by rw [cell_of_blk hb6]; rfl
            have t2 : x6.cell? ⟨t, 2, none⟩ = some (.int .i64 (v : Int)) := by rw [cell_of_blk hb6]; rfl
            have s0x : x6.drew.cell? ⟨t, 0, none⟩ = some (.int .i64 (st : Int)) := t0
            have s1x : x6.drew.cell? ⟨t, 1, none⟩ = some (.int .i64 (u : Int)) := t1
            have s2x : x6.drew.cell? ⟨t, 2, none⟩ = some (.int .i64 (v : Int)) := t2
            have s4x : x6.drew.cell? ⟨h, 4, none⟩ = some (.slice (some ⟨bx, 0, none⟩) n n) := d4
            have j1 : (0 : Int) ≤ (k : Int) := by omega
            have HD7 := Lib.hid hD7
            have HQ7 := Lib.hid hq7
            clear hset hrd7 hrd6 hne hFS hc7 hF7 hq7 hD7 hh6 hml hkm hbk hmx hX
            by_cases hone : st = 1
            · have o1 : ((st : Int) == 1) = true := by simp; omega
              have HOP := Lib.hid (show opN (bxL z (k + 1) s0) = opk + 1 by rw [HX.out.2.2.2, if_pos (by show (st : Int) = 1; omega)])
              clear hone
              go_wp2_with fail
              go_still_tail 7, (by kernel_rfl)
              go_wp2_with fail
              go_roundw
              case rel => exact ⟨k + 1, by omega, by go_num, by rw [HOP.out]; go_num, by rw [HALL.out]; rfl, HQ7.out, HD7.out.drew⟩
              case measure => simp [intOf]; omega
            · have o1 : ((st : Int) == 1) = false := by simp; omega
              have HOP := Lib.hid (show opN (bxL z (k + 1) s0) = opk by rw [HX.out.2.2.2, if_neg (by show ¬ (st : Int) = 1; omega)]; rfl)
              clear hone
              go_wp2_with fail
              go_still_tail 7, (by kernel_rfl)
              go_wp2_with fail
              go_roundw
              case rel => exact ⟨k + 1, by omega, by go_num, by rw [HOP.out], by rw [HALL.out]; rfl, HQ7.out, HD7.out.drew⟩
              case measure => simp [intOf]; omega
          | false =>
            have HRT := Lib.hid hrt
            clear hrt
            have HALL := Lib.hid (show (bxL z (k + 1) s0).all okB = false by rw [HX.out.2.2.1, ← hob]; rfl)
            clear hob
            go_wp2_with fail
            (with_reducible refine HRT.out.mono ?_)
            rintro e x6 ⟨rfl, hF6⟩
            have hb6 := hF6.heap0 hbt
            have hh6 := hh5.fr0 hF6
            have hml := mixQ_len (f := f) (s := s) (z := z) (s0 := s0) hk
            have hkm : k < (mixQ f n s z s0 k).boxes.length := by rw [hml]; exact hlt
            obtain ⟨d0, d1, d2, d3, d4⟩ := hh6.cellsAll
            obtain ⟨b0, b1, b2⟩ := box_cells hh6.bxs k hkm
            have bf := fun o => frozen_of_blk hh6.bxs o
            obtain ⟨bk, hbk⟩ : ∃ bk, bk = (mixQ f n s z s0 k).boxes[k] := ⟨_, rfl⟩
            rw [← hbk] at b0 b1 b2
            rw [hml] at d4
            have hset := hh6.setBox3 k hkm ⟨(st : Int), u, v⟩
            have hmx : (mixQ f n s z s0 k).putB k ⟨(st : Int), u, v⟩ = mixQ f n s z s0 (k + 1) := by
              unfold mixQ HotS.putB
              simp only
              rw [HX.out.2.1]
            rw [hmx] at hset
            have hrd6 := hrd5.fr0 hF6
            have hne := reader_ne hrd6 hh6.bxs (boxes_ints _)
            obtain ⟨X, hX⟩ : ∃ X, X = (((x6.setCell ⟨bx, k * 3, none⟩ (.int .i64 (st : Int))).setCell ⟨bx, k * 3 + 1, none⟩ (.int .i64 (u : Int))).setCell ⟨bx, k * 3 + 2, none⟩ (.int .i64 (v : Int))) := ⟨_, rfl⟩
            have hFS : Fr (fun i => i = bx) x6 X := by rw [hX]; exact ((Fr.set x6 bx _ _).trans (Fr.set _ bx _ _)).trans (Fr.set _ bx _ _)
            rw [← hX] at hset
            have hrd7 := hrd6.fr hFS (by omega) hne
            have hc7 := hFS.heap (hF6.heap0 hc5) (by omega)
            have hF7 := (hF5.trans hF6).own hFS (by omega)
            have hq7 : q < X.heap.size := by have := hFS.size; have := hF6.size; omega
            have hD7 : DqL w X h bx p q f n s z s0 (k + 1) := ⟨hF7, hset, hc7, by rw [HX.out.1]; exact hrd7⟩
            rw [hX] at hD7 hq7
            have t0 : x6.cell? ⟨t, 0, none⟩ = some (.int .i64 (st : Int)) := by rw [cell_of_blk hb6]; rfl
            have t1 : x6.cell? ⟨t, 1, none⟩ = some (.int .i64 (u : Int)) := by rw [cell_of_blk hb6]; rfl
            have t2 : x6.cell? ⟨t, 2, none⟩ = some (.int .i64 (v : Int)) := by rw [cell_of_blk hb6]; rfl
            have s0x : x6.drew.cell? ⟨t, 0, none⟩ = some (.int .i64 (st : Int)) := t0
            have s1x : x6.drew.cell? ⟨t, 1, none⟩ = some (.int .i64 (u : Int)) := t1
            have s2x : x6.drew.cell? ⟨t, 2, none⟩ = some (.int .i64 (v : Int)) := t2
            have s4x : x6.drew.cell? ⟨h, 4, none⟩ = some (.slice (some ⟨bx, 0, none⟩) n n) := d4
            have j1 : (0 : Int) ≤ (k : Int) := by omega
            have HD7 := Lib.hid hD7
            have HQ7 := Lib.hid hq7
            clear hset hrd7 hrd6 hne hFS hc7 hF7 hq7 hD7 hh6 hml hkm hbk hmx hX
            by_cases hone : st = 1
            · have o1 : ((st : Int) == 1) = true := by simp; omega
              have HOP := Lib.hid (show opN (bxL z (k + 1) s0) = opk + 1 by rw [HX.out.2.2.2, if_pos (by show (st : Int) = 1; omega)])
              clear hone
              go_wp2_with fail
              go_still_tail 7, (by kernel_rfl)
              go_wp2_with fail
              go_roundw
              case rel => exact ⟨k + 1, by omega, by go_num, by rw [HOP.out]; go_num, by rw [HALL.out]; rfl, HQ7.out, HD7.out.drew⟩
              case measure => simp [intOf]; omega
            · have o1 : ((st : Int) == 1) = false := by simp; omega
              have HOP := Lib.hid (show opN (bxL z (k + 1) s0) = opk by rw [HX.out.2.2.2, if_neg (by show ¬ (st : Int) = 1; omega)]; rfl)
              clear hone
              go_wp2_with fail
              go_still_tail 7, (by kernel_rfl)
              go_wp2_with fail
              go_roundw
              case rel => exact ⟨k + 1, by omega, by go_num, by rw [HOP.out], by rw [HALL.out]; rfl, HQ7.out, HD7.out.drew⟩
              case measure => simp [intOf]; omega
        | false =>
          rw [Bool.not_false]
          have HALL := Lib.hid (show (bxL z (k + 1) s0).all okB = false by rw [HX.out.2.2.1]; rfl)
          have hF6 := Fr.refl none_ wc
          have hb6 := hbt
          have hh6 := hh5
          clear hob hrt
          have hml := mixQ_len (f := f) (s := s) (z := z) (s0 := s0) hk
          have hkm : k < (mixQ f n s z s0 k).boxes.length := by rw [hml]; exact hlt
          obtain ⟨d0, d1, d2, d3, d4⟩ := hh6.cellsAll
          obtain ⟨b0, b1, b2⟩ := box_cells hh6.bxs k hkm
          have bf := fun o => frozen_of_blk hh6.bxs o
          obtain ⟨bk, hbk⟩ : ∃ bk, bk = (mixQ f n s z s0 k).boxes[k] := ⟨_, rfl⟩
          rw [← hbk] at b0 b1 b2
          rw [hml] at d4
          have hset := hh6.setBox3 k hkm ⟨(st : Int), u, v⟩
          have hmx : (mixQ f n s z s0 k).putB k ⟨(st : Int), u, v⟩ = mixQ f n s z s0 (k + 1) := by
            unfold mixQ HotS.putB
            simp only
            rw [HX.out.2.1]
          rw [hmx] at hset
          have hrd6 := hrd5.fr0 hF6
          have hne := reader_ne hrd6 hh6.bxs (boxes_ints _)
          obtain ⟨X, hX⟩ : ∃ X, X = (((wc.setCell ⟨bx, k * 3, none⟩ (.int .i64 (st : Int))).setCell ⟨bx, k * 3 + 1, none⟩ (.int .i64 (u : Int))).setCell ⟨bx, k * 3 + 2, none⟩ (.int .i64 (v : Int))) := ⟨_, rfl⟩
          have hFS : Fr (fun i => i = bx) wc X := by rw [hX]; exact ((Fr.set wc bx _ _).trans (Fr.set _ bx _ _)).trans (Fr.set _ bx _ _)
          rw [← hX] at hset
          have hrd7 := hrd6.fr hFS (by omega) hne
          have hc7 := hFS.heap (hF6.heap0 hc5) (by omega)
          have hF7 := (hF5.trans hF6).own hFS (by omega)
          have hq7 : q < X.heap.size := by have := hFS.size; have := hF6.size; omega
          have hD7 : DqL w X h bx p q f n s z s0 (k + 1) := ⟨hF7, hset, hc7, by rw [HX.out.1]; exact hrd7⟩
          rw [hX] at hD7 hq7
          have t0 : wc.cell? ⟨t, 0, none⟩ = some (.int .i64 (st : Int)) := by rw [cell_of_blk hb6]; rfl
          have t1 : wc.cell? ⟨t, 1, none⟩ = some (.int .i64 (u : Int)) := by rw [cell_of_blk hb6]; rfl
          have t2 : wc.cell? ⟨t, 2, none⟩ = some (.int .i64 (v : Int)) := by rw [cell_of_blk hb6]; rfl
          have s0x : wc.drew.cell? ⟨t, 0, none⟩ = some (.int .i64 (st : Int)) := t0
          have s1x : wc.drew.cell? ⟨t, 1, none⟩ = some (.int .i64 (u : Int)) := t1
          have s2x : wc.drew.cell? ⟨t, 2, none⟩ = some (.int .i64 (v : Int)) := t2
          have s4x : wc.drew.cell? ⟨h, 4, none⟩ = some (.slice (some ⟨bx, 0, none⟩) n n) := d4
          have j1 : (0 : Int) ≤ (k : Int) := by omega
          have HD7 := Lib.hid hD7
          have HQ7 := Lib.hid hq7
          clear hset hrd7 hrd6 hne hFS hc7 hF7 hq7 hD7 hh6 hml hkm hbk hmx hX
          by_cases hone : st = 1
          · have o1 : ((st : Int) == 1) = true := by simp; omega
            have HOP := Lib.hid (show opN (bxL z (k + 1) s0) = opk + 1 by rw [HX.out.2.2.2, if_pos (by show (st : Int) = 1; omega)])
            clear hone
            go_wp2_with fail
            go_still_tail 7, (by kernel_rfl)
            go_wp2_with fail
            go_roundw
            case rel => exact ⟨k + 1, by omega, by go_num, by rw [HOP.out]; go_num, by rw [HALL.out]; rfl, HQ7.out, HD7.out.drew⟩
            case measure => simp [intOf]; omega
          · have o1 : ((st : Int) == 1) = false := by simp; omega
            have HOP := Lib.hid (show opN (bxL z (k + 1) s0) = opk by rw [HX.out.2.2.2, if_neg (by show ¬ (st : Int) = 1; omega)]; rfl)
            clear hone
            go_wp2_with fail
            go_still_tail 7, (by kernel_rfl)
            go_wp2_with fail
            go_roundw
            case rel => exact ⟨k + 1, by omega, by go_num, by rw [HOP.out], by rw [HALL.out]; rfl, HQ7.out, HD7.out.drew⟩
            case measure => simp [intOf]; omega
    · have hkn : k = n := by omega
      subst hkn
      have hdn := rdoneP_any hR.rd
      obtain ⟨d, hd⟩ : ∃ d, d = dnE (rdS z k s0).1 (rdS z k s0).2 := ⟨_, rfl⟩
      rw [← hd] at hdn
      have hd0 : d = 0 ↔ (rdS z k s0).2 = 0 ∧ (rdS z k s0).1 = [] := by
        rw [hd]
        unfold dnE
        by_cases h1 : (rdS z k s0).2 = 0
        · rw [if_neg (by simpa using h1)]
          by_cases h2 : (rdS z k s0).1 = []
          · rw [if_pos h2]; exact ⟨fun _ => ⟨h1, h2⟩, fun _ => rfl⟩
          · rw [if_neg h2]; exact ⟨fun h => absurd h (by decide), fun h => absurd h.2 h2⟩
        · rw [if_pos h1]; exact ⟨fun h => absurd h h1, fun h => absurd h.1 h1⟩
      have hform : formOK (s * 64) k l ↔ d = 0 ∧ N0 = k ∧ okk = true ∧ opk ≤ 1 := by
        unfold formOK
        rw [← HS0.out.2, ← HS0.out.1, ← HZ.out, hd0, hokk, ← hopk]
        constructor
        · rintro ⟨h1, h2, h3, h4, h5⟩; exact ⟨⟨h1, h2⟩, h3, h4, h5⟩
        · rintro ⟨⟨h1, h2⟩, h3, h4, h5⟩; exact ⟨h1, h2, h3, h4, h5⟩
      have hhot := hR.hot
      have hft : wr.cell? ⟨w.heap.size, 1, none⟩ = some (.int .i64 (k : Int)) := by rw [cell_of_blk hR.conf]; rfl
      have HHOT := Lib.hid (And.intro hhot hR.fr)
      have HFO := Lib.hid (And.intro hform (And.intro HZ.out HS0.out.2))
      have HE3 := Lib.hid (errV_n (show (3 : Int) ≠ 0 by decide))
      clear hR hd hd0 hform hhot hokk hopk
      by_cases hdz : d = 0
      · subst hdz
        rw [errV_0] at hdn
        have HDN := Lib.hid hdn
        clear hdn
        by_cases hnk : N0 = k
        · cases okk with
          | true =>
            rw [Bool.not_true]
            by_cases hop : opk ≤ 1
            · have i1 : ¬ (1 : Int) < (opk : Int) := by omega
              have i2 : ¬ 1 < opk := by omega
              have i3 : ((N0 : Int) == (k : Int)) = true := by simp; omega
              have i4 : ((N0 : Int) != (k : Int)) = false := by simp; omega
              have HY := Lib.hid (HFO.out.1.2 ⟨rfl, hnk, rfl, hop⟩)
              clear hop hnk
              go_wp2_with fail
              (with_reducible refine HDN.out.mono ?_)
              rintro e x5 ⟨rfl, rfl⟩
              go_wp2_with fail
              go_ret2
              refine ⟨fun _ => ⟨h, bx, by rw [errV_0]; rfl, ?_, by omega, by omega⟩, fun h => absurd HY.out h, HHOT.out.2⟩
              have hx := HHOT.out.1
              unfold mixQ at hx
              rw [Nat.sub_self, List.replicate_zero, List.append_nil, HFO.out.2.1, HFO.out.2.2] at hx
              exact hx
            · have i1 : (1 : Int) < (opk : Int) := by omega
              have i3 : ((N0 : Int) == (k : Int)) = true := by simp; omega
              have i4 : ((N0 : Int) != (k : Int)) = false := by simp; omega
              have HY := Lib.hid (show ¬ formOK (s * 64) k l from fun h => hop (HFO.out.1.1 h).2.2.2)
              clear hop hnk
              go_wp2_with fail
              (with_reducible refine HDN.out.mono ?_)
              rintro e x5 ⟨rfl, rfl⟩
              go_wp2_with fail
              go_ret2
              exact ⟨fun h => absurd h HY.out, fun _ => by rw [HE3.out]; rfl, HHOT.out.2⟩
          | false =>
            rw [Bool.not_false]
            have i3 : ((N0 : Int) == (k : Int)) = true := by simp; omega
            have i4 : ((N0 : Int) != (k : Int)) = false := by simp; omega
            have HY := Lib.hid (show ¬ formOK (s * 64) k l from fun h => absurd (HFO.out.1.1 h).2.2.1 (by decide))
            clear hnk
            go_wp2_with fail
            (with_reducible refine HDN.out.mono ?_)
            rintro e x5 ⟨rfl, rfl⟩
            go_wp2_with fail
            go_ret2
            exact ⟨fun h => absurd h HY.out, fun _ => by rw [HE3.out]; rfl, HHOT.out.2⟩
        · have i3 : ((N0 : Int) == (k : Int)) = false := by simp; omega
          have i4 : ((N0 : Int) != (k : Int)) = true := by simp; omega
          have HY := Lib.hid (show ¬ formOK (s * 64) k l from fun h => hnk (HFO.out.1.1 h).2.1)
          clear hnk
          go_wp2_with fail
          (with_reducible refine HDN.out.mono ?_)
          rintro e x5 ⟨rfl, rfl⟩
          go_wp2_with fail
          go_ret2
          exact ⟨fun h => absurd h HY.out, fun _ => by rw [HE3.out]; rfl, HHOT.out.2⟩
      · rw [errV_n hdz] at hdn
        have HDN := Lib.hid hdn
        clear hdn
        have HY := Lib.hid (show ¬ formOK (s * 64) k l from fun h => hdz (HFO.out.1.1 h).1)
        go_wp2_with fail
        (with_reducible refine HDN.out.mono ?_)
        rintro e x5 ⟨rfl, rfl⟩
        go_wp2_with fail
        go_ret2
        exact ⟨fun h => absurd h HY.out, fun _ => by rw [HE3.out]; rfl, HHOT.out.2⟩
end Go.Proofs.YtjfeibbghhjjeaaDoor

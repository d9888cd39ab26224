import Derived.Test.YthkcmafflbpfoaaLogOp
import Derived.StillTailTactics
namespace Go.Proofs.Ythkcmafflbpfoaa
open Go.RowKit
set_option linter.unusedVariables false
set_option linter.unusedSimpArgs false
set_option maxRecDepth 100000

/-! log: Append where it refuses, Flush, At, Trim. -/
theorem append_long {w : World} {b p : Nat} {l : LogS} (h : LogAt w b p l) (hdead : l.dead = 0) (A : Option Addr) (n c : Nat) (hn : 65536 < n) (hm : n ≤ 140737488355328) :
    Calls Try.prog 11 #[ptr b, .slice A n c] w fun e w' => e = .returned (.tuple #[.int .i64 0, errV 2]) ∧ Fr none_ w w' := by
  have hal := alive_any h
  rw [hdead, errV_0] at hal
  have hnx := next_any h
  have hnd := fun W => need_any (n : Int) ((l.seq + l.sizes.length : Nat) : Int) W
  have hmo := h.most
  obtain ⟨N, hN⟩ : ∃ N, N = needF (n : Int) ((l.seq + l.sizes.length : Nat) : Int) := ⟨_, rfl⟩
  rw [← hN] at hnd
  obtain ⟨seq, hseq⟩ : ∃ seq, seq = l.seq + l.sizes.length := ⟨_, rfl⟩
  rw [← hseq] at hnx hnd
  have q1 : (65536 : Int) < (n : Int) := by omega
  have HAL := Lib.hid hal
  have HNX := Lib.hid hnx
  have HND := Lib.hid hnd
  clear hal hnx hnd hN hseq hmo
  go_enter Try.func11, Try.ntmps11
  go_wp2_with fail
  (with_reducible refine HAL.out.mono ?_)
  rintro e y ⟨rfl, rfl⟩
  go_wp2_with fail
  (with_reducible refine HNX.out.mono ?_)
  rintro e w1 ⟨rfl, hF1⟩
  go_wp2_with fail
  (with_reducible refine (HND.out w1).mono ?_)
  rintro e w2 ⟨rfl, hF2⟩
  go_wp2_with fail
  go_ret2
  exact ⟨rfl, hF1.trans hF2⟩
theorem append_full {w : World} {b p : Nat} {l : LogS} (h : LogAt w b p l) (hdead : l.dead = 0) (A : Option Addr) (n c : Nat) (hn : n ≤ 65536) (seq : Nat) (hseq : seq = l.seq + l.sizes.length) (hs2 : seq ≤ 1099511627776) (N : Nat) (hN : N = needF (n : Int) (seq : Int)) (hNb : N ≤ 16384) (hfull : l.secs < N + sumN l.sizes + 1) :
    Calls Try.prog 11 #[ptr b, .slice A n c] w fun e w' => e = .returned (.tuple #[.int .i64 0, errV 10]) ∧ Fr none_ w w' := by
  have hal := alive_any h
  rw [hdead, errV_0] at hal
  have hnx := next_any h
  rw [← hseq] at hnx
  have hnd := fun W => need_any (n : Int) (seq : Int) W
  rw [← hN] at hnd
  have hfr : ∀ W, Fr none_ w W → Calls Try.prog 24 #[ptr b] W fun e w' => e = .returned (.int .i64 ((l.secs : Int) - (sumN l.sizes : Nat))) ∧ Fr none_ W w' := fun W hF => free_any (h.fr0 hF)
  have hmo := h.most
  have hsb := sumN_le l.sizes hmo.2.2.2.2.2.2 0
  obtain ⟨u, hu⟩ : ∃ u, u = sumN l.sizes := ⟨_, rfl⟩
  have hub : u ≤ 268435456 := by rw [hu]; unfold sumN; omega
  rw [← hu] at hfull hfr
  have q1 : ¬ (65536 : Int) < (n : Int) := by omega
  have q2 : ¬ (1099511627776 : Int) < (seq : Int) := by omega
  obtain ⟨X, hX⟩ : ∃ X : Int, X = (l.secs : Int) - (u : Int) - 1 := ⟨_, rfl⟩
  have kx : wrap64 ((l.secs : Int) - (u : Int) - 1) = X := by rw [← hX, IntWalk.wrap64_in _ (by omega)]
  have kn : X < (N : Int) := by omega
  have HAL := Lib.hid hal
  have HNX := Lib.hid hnx
  have HND := Lib.hid hnd
  have HFR := Lib.hid hfr
  clear hal hnx hnd hfr hN hseq hmo hsb hu hfull hX hs2
  go_enter Try.func11, Try.ntmps11
  go_wp2_with fail
  (with_reducible refine HAL.out.mono ?_)
  rintro e y ⟨rfl, rfl⟩
  go_wp2_with fail
  (with_reducible refine HNX.out.mono ?_)
  rintro e w1 ⟨rfl, hF1⟩
  go_wp2_with fail
  (with_reducible refine (HND.out w1).mono ?_)
  rintro e w2 ⟨rfl, hF2⟩
  have hF02 := hF1.trans hF2
  go_wp2_with fail
  (with_reducible refine (HFR.out w2 hF02).mono ?_)
  rintro e w3 ⟨rfl, hF3⟩
  go_wp2_with fail
  go_ret2
  exact ⟨rfl, hF02.trans hF3⟩
theorem lat_any {w : World} {b p : Nat} {l : LogS} (h : LogAt w b p l) : Calls Try.prog 8 #[ptr b] w fun e w' => e = .returned (.tuple #[.int .i64 (l.at_ : Int), .int .i64 (l.seq : Int)]) ∧ Fr none_ w w' := by
  obtain ⟨A, cap, c0, c1, c2, c3, c4, c5, c6, hA⟩ := h.cellsAll
  have d3 : w.drew.cell? ⟨b, 3, none⟩ = some (.int .i64 (l.at_ : Int)) := c3
  have d4 : w.drew.cell? ⟨b, 4, none⟩ = some (.int .i64 (l.seq : Int)) := c4
  go_enter Try.func8, Try.ntmps8
  go_wp2_with fail
  go_still (by kernel_rfl)
  go_wp2_with fail
  go_ret2
  exact ⟨rfl, (Fr.refl _ _).drew⟩
theorem LogAt.deadset {w : World} {b p : Nat} {l : LogS} (h : LogAt w b p l) (e : Int) : LogAt (w.setCell ⟨b, 6, none⟩ (errV e)) b p { l with dead := e } := h.died e
theorem lflush_ok {w : World} {b p m1 m2 : Nat} {l : LogS} {D : DevS} (h : LogAt w b p l) (hdead : l.dead = 0) (hD : DevAt w p m1 m2 D) (hup : D.down = false) :
    Calls Try.prog 6 #[ptr b] w fun e w' => e = .returned (errV 0) ∧ LogAt w' b p l ∧ DevAt w' p m1 m2 { D with loose := [] } ∧ Fr (fun i => devBlks p m1 m2 i ∨ i = b) w w' ∧ ∀ i, szBlk w' b i → szBlk w b i := by
  have hal := alive_any h
  rw [hdead, errV_0] at hal
  obtain ⟨⟨v, hb, hsz⟩, hmo⟩ := id h
  have hnb := dev_cells hD hb (by decide)
  have c0 : w.cell? ⟨b, 0, none⟩ = some (ptr p) := by rw [cell_of_blk hb]; rfl
  have HAL := Lib.hid hal
  have HFL := Lib.hid (flush_ok hD hup)
  have HH := Lib.hid (And.intro h (And.intro hD hb))
  clear hal hb hsz hmo h hD
  go_enter Try.func6, Try.ntmps6
  go_wp2_with fail
  (with_reducible refine HAL.out.mono ?_)
  rintro e y ⟨rfl, rfl⟩
  go_wp2_with fail
  (with_reducible refine HFL.out.mono ?_)
  rintro e w1 ⟨rfl, hF1, hD1⟩
  obtain ⟨h, hD, hb⟩ := HH.out
  have hb1 := hF1.heap hb hnb
  have hL1 := h.frD hD hF1
  have hd := hL1.died 0
  have hl0 : { l with dead := 0 } = l := by cases l; simp at hdead; subst hdead; rfl
  rw [hl0, errV_0] at hd
  have f6 := frozen_of_blk hb1 6
  have c6 : w1.cell? ⟨b, 6, none⟩ = some (errV l.dead) := by rw [cell_of_blk hb1]; rfl
  rw [hdead, errV_0] at c6
  have HD1 := Lib.hid (And.intro hd (And.intro hD1 hF1))
  clear hd hD1 hb hL1 h hD
  rw [errV_0]
  go_wp2_with fail
  go_ret
  obtain ⟨hd, hD1, hF1⟩ := HD1.out
  have hFs := Fr.set w1 b 6 (.nilIface)
  refine ⟨rfl, hd, hD1.fr hFs (fun i hi e => hnb (e ▸ hi)), (hF1.mono (fun i _ e => .inl e)).trans (hFs.mono (fun i _ e => .inr e)), ?_⟩
  rintro i ⟨l', p', v', g1, g2⟩
  obtain ⟨h, hD, hb⟩ := HH.out
  have g3 := (heap_setCell_same (hF1.heap hb hnb) (o := 6) (.nilIface)).symm.trans g1
  have hv : v = v' := by unfold LogS.cells at g3; simp at g3; exact g3.2.2.2.2.2.1
  rw [← hv] at g2
  exact ⟨l, p, v, hb, g2⟩
def trimL (l : LogS) (k : Nat) : LogS := { l with at_ := (l.at_ + sumN (l.sizes.take k)) % l.secs, seq := l.seq + k, sizes := l.sizes.drop k }
theorem ltrim_bad {w : World} {b p : Nat} {l : LogS} (h : LogAt w b p l) (hdead : l.dead = 0) (s : Nat) (hs : s ≤ 4611686018427387904) (hb : s < l.seq ∨ l.seq + l.sizes.length < s) :
    Calls Try.prog 7 #[ptr b, .int .i64 (s : Int)] w fun e w' => e = .returned (errV 4) ∧ Fr none_ w w' := by
  have hal := alive_any h
  rw [hdead, errV_0] at hal
  have hnx := next_any h
  obtain ⟨A, cap, c0, c1, c2, c3, c4, c5, c6, hA⟩ := h.cellsAll
  have HAL := Lib.hid hal
  have HNX := Lib.hid hnx
  obtain ⟨nx, hnxe⟩ : ∃ nx, nx = l.seq + l.sizes.length := ⟨_, rfl⟩
  have HNX2 : Hid (Calls Try.prog 20 #[ptr b] w fun e w' => e = .returned (.int .i64 (nx : Int)) ∧ Fr none_ w w') := Lib.hid (by rw [hnxe]; exact hnx)
  by_cases h1 : s < l.seq
  · have q1 : (s : Int) < (l.seq : Int) := by omega
    clear hal hnx hnxe hb HNX c0 c1 c2 c3 c5 c6 hA h1
    go_enter Try.func7, Try.ntmps7
    go_wp2_with fail
    (with_reducible refine HAL.out.mono ?_)
    rintro e y ⟨rfl, rfl⟩
    go_wp2_with fail
    go_ret
    exact ⟨rfl, Fr.refl _ _⟩
  · have q1 : ¬ (s : Int) < (l.seq : Int) := by omega
    have q2 : (nx : Int) < (s : Int) := by omega
    clear hal hnx hnxe hb HNX c0 c1 c2 c3 c5 c6 hA h1
    go_enter Try.func7, Try.ntmps7
    go_wp2_with fail
    (with_reducible refine HAL.out.mono ?_)
    rintro e y ⟨rfl, rfl⟩
    go_wp2_with fail
    (with_reducible refine HNX2.out.mono ?_)
    rintro e w1 ⟨rfl, hF1⟩
    go_wp2_with fail
    go_ret
    exact ⟨rfl, hF1⟩
def seqN (b : Nat) (w : World) : Nat := match w.cell? ⟨b, 4, none⟩ with | some (.int _ n) => n.toNat | _ => 0
structure TrR (w wr : World) (b p : Nat) (l : LogS) (k : Nat) : Prop where
  log : ∃ v, wr.heap[b]? = some (.cells ((trimL l k).cells p v) 60 (0, 0)) ∧ SzAt wr v (l.sizes.drop k) ∧ ∀ i, szB v i → szBlk w b i
  fr : Fr (fun i => i = b) w wr
theorem trim_step {w wr : World} {b p : Nat} {l : LogS} {k g o cap L : Nat} {full : List Value} {x : Nat} (hmo : 2 ≤ l.secs ∧ l.secs ≤ 16384 ∧ l.at_ < l.secs ∧ l.seq ≤ 1099511627777) (hlt : k < l.sizes.length) (hx : x = l.sizes[k]) (hx16 : x ≤ 16384) (hL : L = (l.sizes.drop k).length)
    (hb : wr.heap[b]? = some (.cells ((trimL l k).cells p (.slice (some ⟨g, o, none⟩) L cap)) 60 (0, 0))) (h2 : wr.heap[g]? = some (.cells full.toArray 3 (0, 0))) (h3 : o + cap ≤ full.length) (h4 : L ≤ cap) (h5 : (full.drop o).take L = (l.sizes.drop k).map natV)
    (hszn : ∀ i, szB (.slice (some ⟨g, o, none⟩) L cap) i → szBlk w b i) (hF : Fr (fun i => i = b) w wr) (o' : Nat) (ho : o' = o + 1 ∨ (cap = 1 ∧ o' = o)) (vat : Int) (hvat : vat = (((trimL l k).at_ + x) % l.secs : Nat)) (vs : Int) (hvs : vs = ((trimL l k).seq + 1 : Nat)) (W : World)
    (hW : W = (((wr.setCell ⟨b, 3, none⟩ (.int .i64 vat)).setCell ⟨b, 5, none⟩ (.slice (some ⟨g, o', none⟩) (L - 1) (cap - 1))).setCell ⟨b, 4, none⟩ (.int .i64 vs)).drew) :
    TrR w W b p l (k + 1) := by
  have hF3 : Fr (fun i => i = b) wr W := by
    rw [hW]
    exact ((((Fr.refl (fun i => i = b) wr).setCell (p := ⟨b, 3, none⟩) (fun _ => rfl) _).setCell (p := ⟨b, 5, none⟩) (fun _ => rfl) _).setCell (p := ⟨b, 4, none⟩) (fun _ => rfl) _).drew
  have hbW : W.heap[b]? = some (.cells (((((trimL l k).cells p (.slice (some ⟨g, o, none⟩) L cap)).setIfInBounds 3 (.int .i64 vat)).setIfInBounds 5 (.slice (some ⟨g, o', none⟩) (L - 1) (cap - 1))).setIfInBounds 4 (.int .i64 vs)) 60 (0, 0)) := by
    rw [hW]
    exact heap_setCell_same (heap_setCell_same (heap_setCell_same hb _) _) _
  have hne : g ≠ b := fun e => by subst e; rw [hb] at h2; cases h2
  have hg2 : W.heap[g]? = some (.cells full.toArray 3 (0, 0)) := hF3.heap h2 hne
  clear hW
  have hdk : (l.sizes.drop (k + 1)).length = L - 1 := by rw [hL, List.length_drop, List.length_drop]; omega
  have hl1 : 1 ≤ L := by rw [hL, List.length_drop]; omega
  refine ⟨⟨.slice (some ⟨g, o', none⟩) (L - 1) (cap - 1), ?_, ?_, ?_⟩, hF.trans hF3⟩
  · rw [hbW]
    have e1 : (trimL l (k + 1)).at_ = ((trimL l k).at_ + x) % l.secs := by
      show (l.at_ + sumN (l.sizes.take (k + 1))) % l.secs = ((l.at_ + sumN (l.sizes.take k)) % l.secs + x) % l.secs
      rw [List.take_succ_eq_append_getElem hlt, sumN_append, ← hx, show sumN [x] = x by simp [sumN], Nat.mod_add_mod, Nat.add_assoc]
    have e2 : (trimL l (k + 1)).seq = (trimL l k).seq + 1 := rfl
    unfold LogS.cells
    rw [e1, e2, hvat, hvs]
    rfl
  · by_cases hn0 : L = 1
    · have hnil : l.sizes.drop (k + 1) = [] := List.length_eq_zero_iff.1 (by omega)
      rw [hnil, show L - 1 = 0 by omega]
      rcases ho with rfl | ⟨hc, rfl⟩
      · exact ⟨.inr ⟨g, o + 1, cap - 1, full, rfl, hg2, by omega, Nat.zero_le _, by simp⟩⟩
      · exact ⟨.inr ⟨g, o', 0, full, by rw [hc]; rfl, hg2, by omega, Nat.zero_le _, by simp⟩⟩
    · rcases ho with rfl | ⟨hc, rfl⟩
      · refine ⟨.inr ⟨g, o + 1, cap - 1, full, by rw [hdk], hg2, by omega, by omega, ?_⟩⟩
        have h6 := congrArg (List.drop 1) h5
        rw [List.drop_take, List.drop_drop, ← List.map_drop, List.drop_drop] at h6
        rw [hdk]
        exact h6
      · omega
  · rintro i ⟨o2, n2, c2, h⟩
    have hg : g = i := by simp at h; exact h.1.1
    subst hg
    exact hszn _ ⟨_, _, _, rfl⟩
theorem TrR.seqN {w wr : World} {b p : Nat} {l : LogS} {k : Nat} (h : TrR w wr b p l k) : seqN b wr = l.seq + k := by
  obtain ⟨⟨v, hb, _⟩, _⟩ := h
  have c : wr.cell? ⟨b, 4, none⟩ = some (.int .i64 ((l.seq + k : Nat) : Int)) := by rw [cell_of_blk hb]; rfl
  show (match wr.cell? ⟨b, 4, none⟩ with | some (.int _ n) => n.toNat | _ => 0) = _
  rw [c]
  exact Int.toNat_natCast _
theorem trim_wrap (a x : Nat) (h1 : a ≤ 16384) (h2 : x ≤ 16384) (se : Nat) (h3 : 2 ≤ se) : (IntKind.i64.wrap ((a : Int) + (x : Int))).tmod (se : Int) = (((a + x) % se : Nat) : Int) := by
  rw [sec_i1 a x (by omega)]
  exact (Int.ofNat_tmod (a + x) se).symm
set_option maxHeartbeats 2000000 in
theorem ltrim_ok {w : World} {b p : Nat} {l : LogS} (h : LogAt w b p l) (hdead : l.dead = 0) (K : Nat) (hK : K ≤ l.sizes.length) (hsq : l.seq + l.sizes.length ≤ 1099511627777) :
    Calls Try.prog 7 #[ptr b, .int .i64 ((l.seq + K : Nat) : Int)] w fun e w' => e = .returned .nilIface ∧ LogAt w' b p (trimL l K) ∧ Fr (fun i => i = b) w w' ∧ ∀ i, szBlk w' b i → szBlk w b i := by
  have hal := alive_any h
  rw [hdead, errV_0] at hal
  have hnx := next_any h
  obtain ⟨⟨v0, hb0, hsz0⟩, hmo⟩ := id h
  have c4 : w.cell? ⟨b, 4, none⟩ = some (.int .i64 (l.seq : Int)) := by rw [cell_of_blk hb0]; rfl
  have HAL := Lib.hid hal
  obtain ⟨nx, hnxe⟩ : ∃ nx, nx = l.seq + l.sizes.length := ⟨_, rfl⟩
  rw [← hnxe] at hnx
  have HNX := Lib.hid hnx
  obtain ⟨s, hs⟩ : ∃ s, s = l.seq + K := ⟨_, rfl⟩
  rw [← hs]
  have q1 : ¬ (s : Int) < (l.seq : Int) := by omega
  have q2 : ¬ (nx : Int) < (s : Int) := by omega
  have q1n : decide (s < l.seq) = false := decide_eq_false (by omega)
  have q2n : decide (nx < s) = false := decide_eq_false (by omega)
  have q1i : decide ((s : Int) < (l.seq : Int)) = false := decide_eq_false q1
  have q2i : decide ((nx : Int) < (s : Int)) = false := decide_eq_false q2
  have HH := Lib.hid (And.intro h (And.intro hb0 (And.intro hsz0 (And.intro hmo (And.intro hs hK)))))
  clear hal hnx hnxe hb0 hsz0 hmo h hK hs
  go_enter Try.func7, Try.ntmps7
  go_wp2_with fail
  (with_reducible refine HAL.out.mono ?_)
  rintro e y ⟨rfl, rfl⟩
  go_wp2_with fail
  (with_reducible refine HNX.out.mono ?_)
  rintro e w1 ⟨rfl, hF1⟩
  go_wp2_with fail
  clear c4
  go_loopw [] (fun wr => ∃ k : Nat, k ≤ K ∧ TrR w wr b p l k) (fun wr => s - seqN b wr)
  case atStart =>
    obtain ⟨h, hb0, hsz0, hmo, hs, hK⟩ := HH.out
    refine ⟨0, Nat.zero_le _, ⟨⟨v0, ?_, hsz0.fr0 hF1, fun i hi => ⟨l, p, v0, hb0, hi⟩⟩, Fr.of0 hF1⟩⟩
    have e1 : (trimL l 0).at_ = l.at_ := by
      show (l.at_ + sumN []) % l.secs = l.at_
      rw [show sumN [] = 0 from rfl, Nat.add_zero, Nat.mod_eq_of_lt hmo.2.2.2.1]
    have := hF1.heap0 hb0
    unfold LogS.cells at this ⊢
    rw [e1]
    exact this
  case round =>
    obtain ⟨k, hk, hR⟩ := hrel
    obtain ⟨⟨v, hb, hsz, hszn⟩, hF⟩ := id hR
    obtain ⟨h, hb0, hsz0, hmo, hs, hK⟩ := HH.out
    obtain ⟨sk, hsk⟩ : ∃ sk, sk = l.seq + k := ⟨_, rfl⟩
    have c4 : wr.cell? ⟨b, 4, none⟩ = some (.int .i64 (sk : Int)) := by rw [cell_of_blk hb, hsk]; rfl
    by_cases hlt : k < K
    · have hkl : k < l.sizes.length := by omega
      have q3 : (sk : Int) < (s : Int) := by omega
      have q3n : sk < s := by omega
      rcases hsz.rep with ⟨_, hnil⟩ | ⟨g, o, cap, full, rfl, g2, g3, g4, g5⟩
      · have := congrArg List.length hnil
        rw [List.length_drop, List.length_nil] at this
        omega
      · obtain ⟨x, hx⟩ : ∃ x, x = l.sizes[k] := ⟨_, rfl⟩
        have hx16 : x ≤ 16384 := by rw [hx]; exact hmo.2.2.2.2.2.2 _ (List.getElem_mem _)
        have hln : (l.sizes.drop k).length = l.sizes.length - k := List.length_drop
        have cg : wr.cell? ⟨g, o, none⟩ = some (.int .i64 (x : Int)) := by
          rw [cell_of_blk g2]
          have h0 := congrArg (·[0]?) g5
          simp only [List.getElem?_map] at h0
          rw [List.getElem?_take_of_lt (by rw [List.length_drop]; omega), List.getElem?_drop, Nat.add_zero, List.getElem?_drop, Nat.add_zero, List.getElem?_eq_getElem hkl, ← hx] at h0
          simpa [natV] using h0
        obtain ⟨at', hat⟩ : ∃ at', at' = (trimL l k).at_ := ⟨_, rfl⟩
        have hat16 : at' < l.secs := by rw [hat]; exact Nat.mod_lt _ (by omega)
        have hse := And.intro hmo.2.1 hmo.2.2.1
        have c3 : wr.drew.cell? ⟨b, 3, none⟩ = some (.int .i64 (at' : Int)) := by show wr.cell? _ = _; rw [cell_of_blk hb, hat]; rfl
        have c2 : wr.drew.cell? ⟨b, 2, none⟩ = some (.int .i64 (l.secs : Int)) := by show wr.cell? _ = _; rw [cell_of_blk hb]; rfl
        obtain ⟨L, hL⟩ : ∃ L, L = (l.sizes.drop k).length := ⟨_, rfl⟩
        rw [← hL] at hln g4 g5
        have c5 : wr.drew.cell? ⟨b, 5, none⟩ = some (.slice (some ⟨g, o, none⟩) L cap) := by show wr.cell? _ = _; rw [cell_of_blk hb, hL]; rfl
        have c5' : wr.cell? ⟨b, 5, none⟩ = some (.slice (some ⟨g, o, none⟩) L cap) := c5
        have c4' : wr.drew.cell? ⟨b, 4, none⟩ = some (.int .i64 (sk : Int)) := c4
        have cg' : wr.drew.cell? ⟨g, o, none⟩ = some (.int .i64 (x : Int)) := cg
        have ff : ∀ j, wr.drew.frozen? ⟨b, j, none⟩ = false := fun j => frozen_of_blk (w := wr) hb j
        have f3 := ff 3
        have f4 := ff 4
        have f5 := ff 5
        have f3' : wr.frozen? ⟨b, 3, none⟩ = false := f3
        have f4' : wr.frozen? ⟨b, 4, none⟩ = false := f4
        have f5' : wr.frozen? ⟨b, 5, none⟩ = false := f5
        have hz : ¬ (l.secs : Int) = 0 := by omega
        have hz2 : ¬ l.secs = 0 := by omega
        have k1 : (1 : Int) ≤ (L : Int) := by omega
        have k1n : 0 < L := by omega
        have k2 : (L : Int) ≤ (cap : Int) := by omega
        have k3 : (1 : Int) ≤ (cap : Int) := by omega
        have sb : sk ≤ 1099511700000 := by omega
        rw [← hL] at hb hszn
        have hsq2 := hR.seqN
        have HSEQ : Hid (∀ W, TrR w W b p l (k + 1) → s - seqN b W < s - seqN b wr) := Lib.hid (fun W hW => by rw [hW.seqN, hsq2]; omega)
        clear hsq2
        have HQ := Lib.hid (And.intro hb (And.intro g2 (And.intro g3 (And.intro g4 (And.intro g5 (And.intro hszn (And.intro hF (And.intro hx hx16))))))))
        have HL := Lib.hid (And.intro hL (And.intro hat hsk))
        have HM := Lib.hid (And.intro hmo hs)
        clear hb g2 g3 g4 g5 hszn hF hx hL hat hsk hmo hs hsz hR h hb0 hsz0 hK hln ff
        by_cases hc1 : cap = 1
        · have hL1 : L = 1 := by omega
          have HKEY : Hid (∀ W, W = (((wr.setCell ⟨b, 3, none⟩ (.int .i64 (((at' : Int) + (x : Int)) % (l.secs : Int)))).setCell ⟨b, 5, none⟩ (.slice (some ⟨g, o, none⟩) (L - 1) (cap - 1))).setCell ⟨b, 4, none⟩ (.int .i64 ((sk : Int) + 1))).drew → TrR w W b p l (k + 1)) := Lib.hid (fun W hW => by
            obtain ⟨hb, g2, g3, g4, g5, hszn, hF, hx, hx16⟩ := HQ.out
            obtain ⟨hL, hat, hsk⟩ := HL.out
            obtain ⟨hmo, hs⟩ := HM.out
            exact trim_step ⟨hmo.2.1, hmo.2.2.1, hmo.2.2.2.1, hmo.2.2.2.2.1⟩ hkl hx hx16 hL hb g2 g3 g4 g5 hszn hF (o) (.inr ⟨hc1, rfl⟩) _ (by rw [← hat, Int.natCast_emod, Int.natCast_add]) _ (by show _ = ((l.seq + k + 1 : Nat) : Int); rw [← hsk]; rfl) W hW)
          subst hc1
          subst hL1
          go_wp2_with fail
          go_still_tail 18, (by kernel_rfl)
          change wpList _ _ _ _ _ wr.drew
          go_wp2_with fail
          go_roundw

          case rel => exact ⟨k + 1, by omega, HKEY.out _ rfl⟩
          case measure => exact HSEQ.out _ (HKEY.out _ rfl)
        · have HKEY : Hid (∀ W, W = (((wr.setCell ⟨b, 3, none⟩ (.int .i64 (((at' : Int) + (x : Int)) % (l.secs : Int)))).setCell ⟨b, 5, none⟩ (.slice (some ⟨g, o + 1, none⟩) (L - 1) (cap - 1))).setCell ⟨b, 4, none⟩ (.int .i64 ((sk : Int) + 1))).drew → TrR w W b p l (k + 1)) := Lib.hid (fun W hW => by
            obtain ⟨hb, g2, g3, g4, g5, hszn, hF, hx, hx16⟩ := HQ.out
            obtain ⟨hL, hat, hsk⟩ := HL.out
            obtain ⟨hmo, hs⟩ := HM.out
            exact trim_step ⟨hmo.2.1, hmo.2.2.1, hmo.2.2.2.1, hmo.2.2.2.2.1⟩ hkl hx hx16 hL hb g2 g3 g4 g5 hszn hF (o + 1) (.inl rfl) _ (by rw [← hat, Int.natCast_emod, Int.natCast_add]) _ (by show _ = ((l.seq + k + 1 : Nat) : Int); rw [← hsk]; rfl) W hW)
          go_wp2_with fail
          go_still_tail 18, (by kernel_rfl)
          change wpList _ _ _ _ _ wr.drew
          go_wp2_with fail
          go_roundw

          case rel => exact ⟨k + 1, by omega, HKEY.out _ rfl⟩
          case measure => exact HSEQ.out _ (HKEY.out _ rfl)
    · have hkk : k = K := by omega
      have q3 : ¬ (sk : Int) < (s : Int) := by omega
      clear hb hsz hszn hF h hb0 hsz0 hmo hK
      have HR := Lib.hid hR
      clear hR
      go_wp2_with fail
      go_ret
      obtain ⟨⟨v, hb, hsz, hszn⟩, hF⟩ := HR.out
      obtain ⟨h, hb0, hsz0, hmo, hs, hK⟩ := HH.out
      subst hkk
      refine ⟨rfl, ⟨⟨v, hb, hsz⟩, hmo.1, hmo.2.1, hmo.2.2.1, Nat.mod_lt _ (by show 0 < l.secs; omega), ?_, ?_, fun x hx => hmo.2.2.2.2.2.2 x (List.mem_of_mem_drop hx)⟩, hF, ?_⟩
      · show l.seq + k ≤ _
        omega
      · show (l.sizes.drop k).length ≤ _
        rw [List.length_drop]; have := hmo.2.2.2.2.2.1; omega
      · rintro i ⟨l', p', v', h', hi⟩
        rw [hb] at h'
        have hv : v = v' := by unfold LogS.cells at h'; simp at h'; exact h'.2.2.2.2.2.1
        rw [← hv] at hi
        exact hszn i hi
end Go.Proofs.Ythkcmafflbpfoaa

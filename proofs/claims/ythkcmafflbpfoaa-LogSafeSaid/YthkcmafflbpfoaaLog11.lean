import Derived.Test.YthkcmafflbpfoaaLog10
import Derived.Deep.AppendLies
namespace Go.Proofs.Ythkcmafflbpfoaa
open Go.RowKit
set_option linter.unusedVariables false
set_option linter.unusedSimpArgs false
set_option maxRecDepth 100000

/-! log: Append, where there is room. -/
def secB (seq : Nat) (B : List UInt8) (k : Nat) : List UInt8 := tagL seq ++ (B.drop (k * 56)).take 56
theorem secB_len (seq : Nat) (B : List UInt8) (k : Nat) : (secB seq B k).length = 8 + min 56 (B.length - k * 56) := by
  unfold secB tagL; simp
def apN (D : DevS) (l : LogS) (u seq : Nat) (B : List UInt8) : Nat → DevS
  | 0 => D
  | k + 1 => (apN D l u seq B k).write (l.sec (u + k) : Nat) (secB seq B k)
theorem apN_sectors (D : DevS) (l : LogS) (u seq : Nat) (B : List UInt8) (k : Nat) : (apN D l u seq B k).sectors = D.sectors := by
  induction k with
  | zero => rfl
  | succ k ih =>
    show ((apN D l u seq B k).write _ _).sectors = _
    rw [write_sectors, ih]
theorem apN_down (D : DevS) (l : LogS) (u seq : Nat) (B : List UInt8) (k : Nat) (hd : (apN D l u seq B k).down = true) (j : Nat) : apN D l u seq B (k + j) = apN D l u seq B k := by
  induction j with
  | zero => rfl
  | succ j ih =>
    show (apN D l u seq B (k + j)).write _ _ = _
    rw [ih]
    exact write_down hd _ _
structure ApR (w wr : World) (p m1 m2 : Nat) (D : DevS) (l : LogS) (u seq : Nat) (B : List UInt8) (k : Nat) : Prop where
  dev : DevAt wr p m1 m2 (apN D l u seq B k)
  fr : Fr (devBlks p m1 m2) w wr
  up : 0 < k → (apN D l u seq B k).down = false
def intBlk (w : World) (i : Nat) : Prop := ∃ c F, w.heap[i]? = some (.cells c 3 F)
structure Appended (w : World) (p m1 m2 b : Nat) (l : LogS) (D : DevS) (seq N : Nat) (B : List UInt8) (e : Ending) (w' : World) : Prop where
  res : ((apN D l (sumN l.sizes) seq B N).down = false ∧ e = .returned (.tuple #[.int .i64 (seq : Int), .nilIface]) ∧ LogAt w' b p { l with sizes := l.sizes ++ [N] }) ∨
    ((apN D l (sumN l.sizes) seq B N).down = true ∧ e = .returned (.tuple #[.int .i64 0, errV 13]) ∧ LogAt w' b p { l with dead := 13 })
  dev : DevAt w' p m1 m2 (apN D l (sumN l.sizes) seq B N)
  fr : Fr (fun i => devBlks p m1 m2 i ∨ i = b ∨ szBlk w b i) w w'
  sz : (apN D l (sumN l.sizes) seq B N).down = false → ∀ i, szBlk w' b i → szBlk w b i ∨ w.heap.size ≤ i
theorem LogAt.died {w : World} {b p : Nat} {l : LogS} (h : LogAt w b p l) (e : Int) : LogAt (w.setCell ⟨b, 6, none⟩ (errV e)) b p { l with dead := e } := by
  obtain ⟨⟨v, h1, h2⟩, h3⟩ := h
  refine ⟨⟨v, by rw [heap_setCell_same h1]; rfl, ?_⟩, h3⟩
  rcases h2.rep with h | ⟨g, o, cap, full, r1, r2, r3⟩
  · exact ⟨.inl h⟩
  · refine ⟨.inr ⟨g, o, cap, full, r1, ?_, r3⟩⟩
    refine (Fr.set w b 6 (errV e)).heap r2 (fun hb => ?_)
    subst hb
    rw [h1] at r2
    cases r2
theorem ap_ar {L N k : Nat} (hN : N = secN L) (hk : k < N) : k * 56 < L := by unfold secN at hN; omega
theorem SzAt.frL {w w' : World} {v : Value} {l : List Nat} {b : Nat} {c : Array Value} {T : TypeId} (h : SzAt w v l) (hb : w.heap[b]? = some (.cells c T (0, 0))) (hT : T ≠ 3) (hF : Fr (fun i => i = b) w w') : SzAt w' v l := by
  rcases h.rep with h | ⟨g, o, cap, full, r1, r2, r3⟩
  · exact ⟨.inl h⟩
  · exact ⟨.inr ⟨g, o, cap, full, r1, hF.heap r2 (fun e => by subst e; rw [hb] at r2; cases r2; exact hT rfl), r3⟩⟩
theorem dev_int {w : World} {p m1 m2 : Nat} {D : DevS} (hD : DevAt w p m1 m2 D) {g : Nat} {c : Array Value} {F : Nat × Nat} (hb : w.heap[g]? = some (.cells c 3 F)) : ¬ devBlks p m1 m2 g := by
  obtain ⟨⟨⟨es, c1, h1, _⟩, _⟩, ⟨⟨es2, c2, h2, _⟩, _⟩⟩ := And.intro hD.now hD.loose
  have h0 := hD.blk
  rintro (rfl | rfl | rfl)
  · rw [hb] at h0; cases h0
  · rw [hb] at h1; cases h1
  · rw [hb] at h2; cases h2
theorem own_ge {w : World} {base g n c : Nat} {xs : List Value} (h : w.ownsRow base 5 1 (.slice (some ⟨g, 0, none⟩) n c) n xs) : base ≤ g := by
  rcases h.2 with ⟨h0, _⟩ | ⟨g', cap', cur, hv, hb, _⟩
  · cases h0
  · cases hv; exact hb
theorem own_cells {w : World} {base g n c seq k : Nat} {B : List UInt8} (h : w.ownsRow base 5 1 (.slice (some ⟨g, 0, none⟩) n c) n ((tagL seq).map byteV ++ ((B.drop (k * 56)).take 56).map byteV)) : CellsAt w (some ⟨g, 0, none⟩) ((secB seq B k).map byteV) := by
  rw [← List.map_append] at h
  obtain ⟨A', c', hv, hA', _⟩ := ownsRow_read h
  cases hv
  exact hA'
set_option maxHeartbeats 8000000 in
theorem append_ok {w : World} {b p m1 m2 : Nat} {l : LogS} {D : DevS} (h : LogAt w b p l) (hdead : l.dead = 0) (hD : DevAt w p m1 m2 D) (hfit : ((l.first + l.secs : Nat) : Int) ≤ D.sectors) (A : Option Addr) (n c : Nat) (data : List UInt8) (hn : n = data.length) (hA : CellsAt w A (data.map byteV)) (hnil : A = none → n = 0 ∧ c = 0) (hm : data.length ≤ 65536)
    (seq : Nat) (hseq : seq = l.seq + l.sizes.length) (hs1 : 1 ≤ seq) (hs2 : seq ≤ 1099511627776) (N : Nat) (hN : N = secN (seaB data seq).length) (hNn : N = needF (data.length : Int) (seq : Int)) (hroom : N + sumN l.sizes + 1 ≤ l.secs) (hsz : l.sizes.length < 16384) :
    Calls Try.prog 11 #[ptr b, .slice A n c] w fun e w' => Appended w p m1 m2 b l D seq N (seaB data seq) e w' := by
  have hmo := h.most
  have hal := alive_any h
  rw [hdead, errV_0] at hal
  have hnx := next_any h
  rw [← hseq] at hnx
  have hnd := fun W => need_any (data.length : Int) (seq : Int) W
  rw [← hNn, ← hn] at hnd
  have hfr : ∀ W, Fr none_ w W → Calls Try.prog 24 #[ptr b] W fun e w' => e = .returned (.int .i64 ((l.secs : Int) - (sumN l.sizes : Nat))) ∧ Fr none_ W w' := fun W hF => free_any (h.fr0 hF)
  have hus : ∀ W, Fr none_ w W → Calls Try.prog 26 #[ptr b] W fun e w' => e = .returned (.int .i64 (sumN l.sizes : Nat)) ∧ W = w' := fun W hF => used_any (h.fr0 hF)
  obtain ⟨u, hu⟩ : ∃ u, u = sumN l.sizes := ⟨_, rfl⟩
  rw [← hu] at hroom hfr hus
  have hsea : ∀ W, Fr none_ w W → Calls Try.prog 25 #[.slice A n c, .int .i64 (seq : Int)] W fun e w' => Cloned W (seaB data seq) e w' := fun W hF => sealed_any A n c data seq hn (hA.fr0 hF) hnil (by omega) (by omega)
  obtain ⟨B, hB⟩ : ∃ B, B = seaB data seq := ⟨_, rfl⟩
  rw [← hB] at hsea hN ⊢
  have hBl : B.length ≤ 70000 := by
    rw [hB, seaB_len]
    have := recB_len data seq
    omega
  have hB4 : 4 ≤ B.length := by rw [hB, seaB_len]; omega
  have hnm : n ≤ 65536 := by omega
  have HAL := Lib.hid hal
  have HNX := Lib.hid hnx
  have HND := Lib.hid hnd
  have HFR := Lib.hid hfr
  have HUS := Lib.hid hus
  have HSEA := Lib.hid hsea
  have HU := Lib.hid hu
  have HN := Lib.hid hN
  have HH := Lib.hid (And.intro h (And.intro hD (And.intro hfit hmo)))
  have hx : (l.secs : Int) - (u : Int) - 1 = ((l.secs - u - 1 : Nat) : Int) := by omega
  obtain ⟨X, hX⟩ : ∃ X, X = l.secs - u - 1 := ⟨_, rfl⟩
  have kx : wrap64 ((l.secs : Int) - (u : Int) - 1) = (X : Int) := by rw [hx, hX, IntWalk.wrap64_in _ (by omega)]
  have kn : ¬ (X : Int) < (N : Int) := by omega
  have knn : ¬ X < N := by omega
  have q1 : ¬ (65536 : Int) < (n : Int) := by omega
  have q2 : ¬ (1099511627776 : Int) < (seq : Int) := by omega
  have q1n : ¬ 65536 < n := by omega
  have q2n : ¬ 1099511627776 < seq := by omega
  have hNb : N ≤ 16384 ∧ u ≤ 16384 := by omega
  clear hal hnx hnd hfr hus hsea hu hN hNn hn hseq hx hX hmo hB hm hnil hA h hD hfit hdead
  go_enter Try.func11, Try.ntmps11
  go_wp2_with fail
  (with_reducible refine HAL.out.mono ?_)
  rintro e y ⟨rfl, rfl⟩
  go_wp2_with fail
  (with_reducible refine HNX.out.mono ?_)
  rintro e w1 ⟨rfl, hF1⟩
  go_wp2_with fail
  (with_reducible refine (HND.out w1).mono ?_)
  rintro e w2 ⟨rfl, hF2⟩
  have hF02 := hF1.trans hF2
  go_wp2_with fail
  (with_reducible refine (HFR.out w2 hF02).mono ?_)
  rintro e w3 ⟨rfl, hF3⟩
  have hF03 := hF02.trans hF3
  go_wp2_with fail
  (with_reducible refine (HSEA.out w3 hF03).mono ?_)
  rintro e w4 ⟨⟨v4, rfl, hown4⟩, hF4⟩
  obtain ⟨A4, c4, rfl, hA4, hc4, hnil4, hbl4⟩ := ownsRow_read hown4
  have hF04 := hF03.trans hF4
  have hbn : ∀ b', blkOf A4 b' → w.heap.size ≤ b' := fun b' hb => Nat.le_trans hF03.size (hbl4 b' hb).1
  go_wp2_with fail
  (with_reducible refine (HUS.out w4 hF04).mono ?_)
  rintro e y ⟨rfl, rfl⟩
  obtain ⟨L, hL⟩ : ∃ L, L = B.length := ⟨_, rfl⟩
  rw [← hL] at hc4 hBl
  rw [← hL]
  have HN2 : Hid (N = secN L) := Lib.hid (by rw [hL]; exact HN.out)
  have HLL := Lib.hid hL
  have HB4 : Hid (4 ≤ L) := Lib.hid (by rw [hL]; exact hB4)
  clear hB4
  have HA4 := Lib.hid (And.intro hA4 (And.intro hbn hF04))
  clear hF1 hF2 hF02 hF3 hF03 hF4 hF04 hown4 hnil4 hbl4 hbn hA4 hL q1 q2 q1n q2n kx kn knn
  go_wp2_with fail
  go_loopw [47] (fun i wr => ∃ k : Nat, k ≤ N ∧ i = .int .i64 (k : Int) ∧ ApR w4 wr p m1 m2 D l u seq B k) (fun i _ => N - (intOf i).toNat)
  case atStart => exact ⟨0, by omega, rfl, ⟨HH.out.2.1.fr0 HA4.out.2.2, Fr.refl _ _, fun h => absurd h (by omega)⟩⟩
  case round =>
    obtain ⟨k, hk, rfl, hR⟩ := hrel
    by_cases hlt : k < N
    · have hkL := ap_ar HN2.out hlt
      obtain ⟨hA4, hbn, hF04⟩ := HA4.out
      obtain ⟨h, hD, hfit, hmo⟩ := HH.out
      obtain ⟨g, o, rfl⟩ := hA4.addr (by rw [List.length_map, ← HLL.out]; omega)
      have hgn := hbn g ⟨o, rfl⟩
      have hgd : ¬ devBlks p m1 m2 g := hD.new hgn
      have hkb : k ≤ 16384 := by omega
      have x1 : k * 56 ≤ L := by omega
      have x1i : (k : Int) * 56 ≤ (L : Int) := by omega
      have x2 : (0 : Int) ≤ (k : Int) * 56 := by omega
      have x3 : ¬ c4 = k * 56 := by omega
      have x4 : (L : Int) ≤ (c4 : Int) := by omega
      have k1 : (k : Int) < (N : Int) := by omega
      obtain ⟨P, hP⟩ : ∃ P, P = L - k * 56 := ⟨_, rfl⟩
      obtain ⟨C, hC⟩ : ∃ C, C = c4 - k * 56 := ⟨_, rfl⟩
      obtain ⟨m, hmm⟩ : ∃ m, m = min 56 P := ⟨_, rfl⟩
      have hPC : P ≤ C := by omega
      have hmn : (if (56 : Int) < (P : Int) then (56 : Int) else (P : Int)) = (m : Int) := by split <;> omega
      have hmn2 : min (P : Int) 56 = (m : Int) := by omega
      have y1 : (m : Int) ≤ (C : Int) := by omega
      have y2 : (0 : Int) ≤ (m : Int) := by omega
      have hmp : 0 < m ∧ m ≤ 56 := by omega
      have hsec := secB_len seq B k
      rw [← HLL.out, ← hP, ← hmm] at hsec
      have hAk : CellsAt wr (some ⟨g, o + k * 56, none⟩) (((B.drop (k * 56)).take 56).map byteV) := by
        have h1 := hA4.sub (k * 56) m (by rw [List.length_map, ← HLL.out]; omega)
        rw [← List.map_drop, ← List.map_take] at h1
        have h2 : (B.drop (k * 56)).take m = (B.drop (k * 56)).take 56 := by
          rw [hmm, hP, HLL.out, ← List.length_drop, ← List.take_take, List.take_length]
        rw [h2] at h1
        exact h1.frp hR.fr (fun b hb _ => by obtain rfl := blkOf_some hb; exact hgd)
      have hml : (((B.drop (k * 56)).take 56).map byteV).length = m := by rw [List.length_map, List.length_take, List.length_drop, ← HLL.out, ← hP, hmm]
      have hLr := (h.fr0 hF04).frD (hD.fr0 hF04) hR.fr
      have hsl := sec_lt l (u + k) hmo.2.1
      have hwe := writeE_eq (apN D l u seq B k) (l.sec (u + k) : Nat) (by omega) (by rw [apN_sectors]; omega) (secB seq B k) (by omega)
      obtain ⟨en, hen⟩ : ∃ en : Int, en = (if (apN D l u seq B (k + 1)).down then 13 else 0) := ⟨_, rfl⟩
      replace hwe : (apN D l u seq B k).writeE (l.sec (u + k) : Nat) (secB seq B k).length = en := by rw [hen]; exact hwe
      have hwri : IntKind.i64.wrap ((u : Int) + (k : Int)) = ((u + k : Nat) : Int) := sec_i1 u k (by omega)
      have hlw : ∀ W, Fr none_ wr W → ∀ g2 c2, wr.heap.size ≤ g2 → CellsAt W (some ⟨g2, 0, none⟩) ((secB seq B k).map byteV) → Calls Try.prog 27 #[ptr b, .int .i64 (IntKind.i64.wrap ((u : Int) + (k : Int))), .slice (some ⟨g2, 0, none⟩) (8 + m) c2] W fun e w' => e = .returned (errV en) ∧ Fr (devBlks p m1 m2) W w' ∧ DevAt w' p m1 m2 (apN D l u seq B (k + 1)) := fun W hF g2 c2 hg2 hA2 => by
        rw [hwri, ← hwe]
        exact lwrite_any (hLr.fr0 hF) (hR.dev.fr0 hF) (u + k) (by omega) (some ⟨g2, 0, none⟩) (8 + m) c2 (secB seq B k) hsec.symm hA2 (fun b hb _ => by obtain rfl := blkOf_some hb; exact hR.dev.new hg2)
      have htg : ∀ W, Calls Try.prog 28 #[.int .i64 (seq : Int)] W fun e w' => Cloned W (tagL seq) e w' := fun W => tagged_any seq (by omega) W
      have htl : (tagL seq).length = 8 := by simp [tagL]
      obtain ⟨i0, hi0, hz0, hz1, hz2⟩ := info_parts info_u8g
      have hX0 : Fr none_ wr wr.drew := (Fr.refl _ _).drew
      have HLW := Lib.hid hlw
      have HTG := Lib.hid htg
      have HAK := Lib.hid hAk
      have HML := Lib.hid hml
      have HTL := Lib.hid htl
      have HEN := Lib.hid hen
      have HRR := Lib.hid hR
      have HPM := Lib.hid (And.intro hP (And.intro hC hmm))
      clear hP hC hmm hwe hwri hlw htg hAk hml htl hen hsl hmo hfit hsec hA4 hbn hLr h hD hgn hgd hF04 hR hkL
      go_wp2_with fail
      rw [← HPM.out.1, ← HPM.out.2.1]
      clear x1 x1i x2 x3 x4
      go_region_held3 (fun _ => True) (trivial) (first
        | (go_at_call 28; (with_reducible refine (HTG.out _).mono ?_); rintro e z1 ⟨⟨v, rfl, hown⟩, hY1⟩; rw [HTL.out] at hown)
        | (go_at_call 27; (with_reducible refine (HLW.out z3 hZ3 g3 c3 hg3 hA3).mono ?_); rintro e z4 ⟨rfl, hZ4, hD4⟩)
        | (refine step_append_lies _ (by rfl) _ _ _ (by rfl) wr.drew.heap.size 5 i0 _ 1 1 Try.underlying36 hi0 hz0 hz1 hz2 rfl (by omega) v 8 ((tagL seq).map byteV) (by rfl) hown ⟨g, o + k * 56, none⟩ m C (((B.drop (k * 56)).take 56).map byteV) (by rfl) (by rw [HML.out, Nat.mul_one]) ((HAK.out.fr0 (hX0.trans hY1)).adds rfl) (bytes_oneL _) hmp.1 (by unfold maxLen; omega) (by omega) hY1.size z1.heap.size rfl ?_; intro g3 c3 z3 hown3 hgrow hat hlt3; have hZ3 := Fr.grown (hX0.trans hY1) hgrow hown (Nat.le_refl _); have hg3 : wr.heap.size ≤ g3 := own_ge hown3; have hA3 := own_cells hown3))
      all_goals
        obtain ⟨hA4, hbn, hF04⟩ := HA4.out
        obtain ⟨h, hD, hfit, hmo⟩ := HH.out
        have hR := HRR.out
        have hDr := hR.dev
        have hL3 := ((h.fr0 hF04).frD (hD.fr0 hF04) hR.fr).fr0 hZ3
        have hL4 := hL3.frD (hDr.fr0 hZ3) hZ4
        have hFr4 : Fr (devBlks p m1 m2) w z4 := (((Fr.of0 hF04).trans hR.fr).trans (Fr.of0 hZ3)).trans hZ4
        by_cases hdn : (apN D l u seq B (k + 1)).down = true
        · have he : en = 13 := by rw [HEN.out, if_pos hdn]
          subst he
          have h13 := errV_n (n := 13) (by decide)
          obtain ⟨⟨v6, hb6, hsz6⟩, _⟩ := id hL4
          have c6 : z4.cell? ⟨b, 6, none⟩ = some (errV l.dead) := by rw [cell_of_blk hb6]; rfl
          have f6 := frozen_of_blk hb6 6
          have hnb := dev_cells hD4 hb6 (by decide)
          obtain ⟨j, hj⟩ : ∃ j, N = (k + 1) + j := ⟨N - (k + 1), by omega⟩
          have hst := apN_down D l u seq B (k + 1) hdn j
          rw [← hj] at hst
          have HF := Lib.hid (And.intro hst (And.intro hFr4 (And.intro hL4 hnb)))
          rw [h13]
          clear hA4 hbn hF04 h hD hfit hmo hR hDr hL3 hL4 hFr4 hsz6 hj hst hnb
          go_wp2_with fail
          go_ret2
          obtain ⟨hst, hFr4, hL4, hnb⟩ := HF.out
          rw [← h13]
          refine ⟨.inr ⟨by rw [← HU.out, hst]; exact hdn, rfl, hL4.died 13⟩, ?_, ?_, fun h => by rw [← HU.out, hst, hdn] at h; cases h⟩
          · rw [← HU.out, hst]
            exact hD4.fr (Fr.set z4 b 6 (errV 13)) (fun i hi e => hnb (e ▸ hi))
          · exact (hFr4.mono (fun i _ e => .inl e)).trans ((Fr.set z4 b 6 (errV 13)).mono (fun i _ e => .inr (.inl e)))
        · have he : en = 0 := by rw [HEN.out, if_neg hdn]
          subst he
          rw [errV_0]
          clear hA4 hbn h hD hfit hmo hL3 hL4
          go_wp2_with fail
          go_roundw
          case rel => exact ⟨k + 1, by omega, by go_num, hD4, (hR.fr.trans (Fr.of0 hZ3)).trans hZ4, fun _ => by simpa using hdn⟩
          case measure => simp [intOf]; omega
    · have hkN : k = N := by omega
      subst hkN
      have k1 : ¬ (k : Int) < (k : Int) := by omega
      obtain ⟨hA4, hbn, hF04⟩ := HA4.out
      obtain ⟨h, hD, hfit, hmo⟩ := HH.out
      obtain ⟨⟨v, hb0, hsz0⟩, _⟩ := id h
      obtain ⟨A5, cap5, hv5, _, _⟩ := id hsz0.read
      subst hv5
      have hnb := dev_cells hD hb0 (by decide)
      have hbr := hR.fr.heap (hF04.heap0 hb0) hnb
      have hszr := (hsz0.fr0 hF04).frD (hD.fr0 hF04) hR.fr
      have hal := (Fr.refl none_ wr).alloc (.cells #[.int .i64 (k : Int)] 3)
      have hsza := hszr.fr0 hal
      have hba := hal.heap0 hbr
      have hga : (wr.alloc (.cells #[.int .i64 (k : Int)] 3)).heap[wr.heap.size]? = some (.cells #[.int .i64 (k : Int)] 3 (0, 0)) := heap_alloc_new _ _
      have c5 : wr.cell? ⟨b, 5, none⟩ = some (.slice A5 l.sizes.length cap5) := by rw [cell_of_blk hbr]; rfl
      have hvb : ¬ szB (.slice A5 l.sizes.length cap5) b := fun ⟨o, n', c', hv⟩ => by
        rcases hsz0.rep with ⟨h1, _⟩ | ⟨g, o2, cap, full, h1, h2, _⟩
        · rw [hv] at h1; cases h1
        · rw [hv] at h1; cases h1; rw [hb0] at h2; cases h2
      have hvs : ∀ i, szB (.slice A5 l.sizes.length cap5) i → szBlk w b i := fun i hi => ⟨l, p, _, hb0, hi⟩
      have HVS := Lib.hid hvs
      clear hvs
      have hvi : ∀ i, szB (.slice A5 l.sizes.length cap5) i → intBlk w i := fun i ⟨o, n', c', hv⟩ => by
        rcases hsz0.rep with ⟨h1, _⟩ | ⟨g, o2, cap, full, h1, h2, _⟩
        · rw [hv] at h1; cases h1
        · rw [hv] at h1; cases h1; exact ⟨_, _, h2⟩
      have HV := Lib.hid (And.intro hvi (And.intro hF04 (And.intro hnb hmo)))
      clear hA4 hbn h hD hfit hmo hb0 hsz0 hnb hszr hF04 hvi
      have HRR := Lib.hid hR
      clear hR
      go_wp2_with ((with_reducible refine at_app_sz2 rfl (.tmp 79) (.tmp 81) _ Try.underlying58 (.slice A5 l.sizes.length cap5) l.sizes k wr.heap.size hsza ?_ ?_ hga ?_ ?_); (focus rfl); (focus rfl); (focus omega); intro v2 w2 hsz2 hF2 hsn2; obtain ⟨A6, cap6, hv6, _, _⟩ := id hsz2.read; subst hv6; have hb2 := hF2.heap hba hvb; have c5' : w2.cell? ⟨b, 5, none⟩ = some (.slice A5 l.sizes.length cap5) := by {rw [cell_of_blk hb2]; rfl}; have f5 := frozen_of_blk hb2 5)
      go_ret2
      obtain ⟨hvi, hF04, hnb, hmo⟩ := HV.out
      have hR := HRR.out
      have hdn := hR.up (by have := HN2.out; have := HB4.out; unfold secN at *; omega)
      rw [HU.out] at hR hdn
      have hDw2 : DevAt w2 p m1 m2 (apN D l (sumN l.sizes) seq B k) := (hR.dev.fr0 hal).fr hF2 (fun i hi e => by
        obtain ⟨c', F', hc⟩ := hvi i e
        exact absurd hi (dev_int HH.out.2.1 hc))
      refine ⟨.inl ⟨hdn, rfl, ?_⟩, ?_, ?_, ?_⟩
      · refine ⟨⟨_, by rw [heap_setCell_same hb2]; rfl, ?_⟩, hmo.1, hmo.2.1, hmo.2.2.1, hmo.2.2.2.1, hmo.2.2.2.2.1, by simp; omega, ?_⟩
        · have hsz3 : SzAt w2 (.slice A6 (l.sizes.length + 1) cap6) (l.sizes ++ [k]) := by rw [List.length_append] at hsz2; exact hsz2
          exact hsz3.frL hb2 (by decide) (Fr.set w2 b 5 _)
        · intro x hx
          rcases List.mem_append.1 hx with hx | hx
          · exact hmo.2.2.2.2.2.2 x hx
          · rw [List.mem_singleton.1 hx]; exact hNb.1
      · exact hDw2.fr (Fr.set w2 b 5 _) (fun i hi e => hnb (e ▸ hi))
      · exact (((((Fr.of0 hF04).trans (hR.fr.mono (fun i _ e => .inl e))).trans (Fr.of0 hal)).trans (hF2.mono (fun i _ e => .inr (.inr (HVS.out i e))))).trans ((Fr.set w2 b 5 _).mono (fun i _ e => .inr (.inl e))))
      · rintro - i ⟨l', p', v', h', hi⟩
        have hbw : (w2.setCell ⟨b, 5, none⟩ (.slice A6 (l.sizes.length + 1) cap6)).heap[b]? = some (.cells ((l.cells p (.slice A5 l.sizes.length cap5)).setIfInBounds 5 (.slice A6 (l.sizes.length + 1) cap6)) 60 (0, 0)) := heap_setCell_same hb2 _
        have h'' := hbw.symm.trans h'
        have hv : Value.slice A6 (l.sizes.length + 1) cap6 = v' := by
          unfold LogS.cells at h''
          simp at h''
          exact h''.2.2.2.2.2.1
        rw [← hv] at hi
        rw [List.length_append] at hsn2
        rcases hsn2 i hi with h | h
        · exact .inl (HVS.out i h)
        · refine .inr (Nat.le_trans ?_ h)
          have z1 := hF04.size
          have z2 := hR.fr.size
          have z3 := hal.size
          omega
end Go.Proofs.Ythkcmafflbpfoaa

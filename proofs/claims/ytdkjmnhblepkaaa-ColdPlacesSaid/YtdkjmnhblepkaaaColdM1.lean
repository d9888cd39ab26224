import Derived.Test.YtdkjmnhblepkaaaCold
namespace Go.Proofs.Ytdkjmnhblepkaaa
open Go.RowKit
set_option linter.unusedVariables false
set_option linter.unusedSimpArgs false
set_option maxRecDepth 100000

/-! cold: Used. -/
theorem info_intC : (Try.prog.info? 3).map (fun i => (i.zero, i.size, i.bytes)) = some (some (.int .i64 0), 1, 8) := by kernel_rfl
def usedL (l : List PlaceS) (k : Nat) : List Nat := (List.range k).filter (fun i => decide ((l[i]?).map (·.st) = some 1))
theorem usedL_succ (l : List PlaceS) (k : Nat) (hk : k < l.length) : usedL l (k + 1) = usedL l k ++ if l[k].st = 1 then [k] else [] := by
  unfold usedL
  rw [List.range_succ, List.filter_append]
  congr 1
  rw [List.filter_cons, List.getElem?_eq_getElem hk]
  by_cases h : l[k].st = 1 <;> simp [h]
theorem usedL_len (l : List PlaceS) (k : Nat) : (usedL l k).length ≤ k := by
  unfold usedL
  refine Nat.le_trans (List.length_filter_le _ _) (by simp)
abbrev natV (i : Nat) : Value := .int .i64 (i : Int)
/-- ints of their own -/
def IntsPost (w : World) (l : List Nat) (e : Ending) (w' : World) : Prop := ∃ A c, e = .returned (.slice A l.length c) ∧ CellsAt w' A (l.map natV) ∧ (A = none → l.length = 0 ∧ c = 0) ∧ Fr none_ w w'
set_option maxHeartbeats 4000000 in
theorem used_any {w : World} {x lb pb c g : Nat} {ds : List Nat} {C : ColdS} {l : List (PlaceS × Value)} (h : ColdAt w x lb pb c g ds C l) :
    Calls Try.prog 11 #[ptr x] w fun e w' => IntsPost w (usedL C.places C.places.length) e w' := by
  obtain ⟨_, _, _, _, _, _, _, c7⟩ := h.cells
  have hl := h.len
  have hm := h.most
  have H := Lib.hid h
  clear h
  go_enter Try.func11, Try.ntmps11
  go_wp2_with fail
  go_loopw [3, 14] (fun v i wr => ∃ k : Nat, k ≤ l.length ∧ i = .int .i64 k ∧ wr.ownsRow w.heap.size 3 1 v (usedL C.places k).length ((usedL C.places k).map natV) ∧ Fr none_ w wr) (fun _ i _ => l.length - (intOf i).toNat)
  case atStart => exact ⟨0, by omega, rfl, World.ownsRow_nil _ _ _ _, Fr.refl _ _⟩
  case round =>
    obtain ⟨k, hk, rfl, ho, hF⟩ := hrel
    by_cases hkl : k < l.length
    · have q1 : (k : Int) < (l.length : Int) := by omega
      have q2 : (0 : Int) ≤ (k : Int) ∧ (k : Int) < (l.length : Int) := by omega
      obtain ⟨p0, p1, p2⟩ := ((H.out.pls.fr0 hF).cells k hkl)
      have hsu := usedL_succ C.places k (by omega)
      have hle := usedL_len C.places k
      have hpk : C.places[k]'(by omega) = l[k].1 := by
        have := H.out.isl
        simp [← this]
      rw [hpk] at hsu
      obtain ⟨y, hy⟩ : ∃ y, y = l[k] := ⟨_, rfl⟩
      rw [← hy] at p0 p1 p2 hsu
      obtain ⟨As, ns, cs, hsv⟩ := ((H.out.pls.fr0 hF).sums l[k] (List.getElem_mem _)).shape
      rw [← hy] at hsv
      obtain ⟨⟨st, nn, sums⟩, sv⟩ := y
      replace hsv : sv = .slice As ns cs := hsv
      subst hsv
      replace p0 : wr.cell? ⟨pb, k * 3, none⟩ = some (.int .i64 (st : Int)) := p0
      replace p1 : wr.cell? ⟨pb, k * 3 + 1, none⟩ = some (.int .i64 (nn : Int)) := p1
      replace p2 : wr.cell? ⟨pb, k * 3 + 2, none⟩ = some (.slice As ns cs) := p2
      replace hsu : usedL C.places (k + 1) = usedL C.places k ++ if st = 1 then [k] else [] := hsu
      have HS := Lib.hid hsu
      obtain ⟨U, hU⟩ : ∃ U, U = usedL C.places k := ⟨_, rfl⟩
      rw [← hU] at HS hle ho
      have hsz := hF.size
      clear hsu hpk hy hU
      by_cases hst : st = 1
      · subst hst
        have HO := Lib.hid ho
        clear ho
        go_upto_region 8 with fail
        obtain ⟨X, hX⟩ : ∃ X, X = wr.alloc (.cells #[.int .i64 1, .int .i64 (nn : Int), .slice As ns cs] 60) := ⟨_, rfl⟩
        rw [← hX]
        have hFX : Fr none_ wr X := by rw [hX]; exact (Fr.refl _ _).alloc _
        clear hX
        have hal := (Fr.refl none_ X).alloc (.cells #[.int .i64 (k : Int)] 3)
        have howna := ownsRow_fr0 (ownsRow_fr0 HO.out hFX) hal
        have hFa := (hF.trans hFX).trans hal
        have HAZ := Lib.hid (CellsAt.one X (.int .i64 (k : Int)) 3)
        have hszX := hFX.size
        go_wp2_with ((with_reducible refine at_append (.tmp 22) (.tmp 24) 32 w.heap.size 3 (.int .i64 0) 1 8 (n := U.length) (A := some ⟨X.heap.size, 0, none⟩) (m := 1) (c := 1) (news := [.int .i64 (k : Int)]) Try.underlying32 info_intC ?_ ?_ ?_ ?_ howna HAZ.out ?_ ?_ ?_ ?_ ?_ ?_ ?_); (focus rfl); (focus decide); (focus rfl); (focus rfl); (focus (intro h; cases h)); (focus rfl); (focus (intro u hu; rw [List.mem_singleton.1 hu]; rfl)); (focus (unfold maxLen; omega)); (focus omega); (focus (rw [World.size_alloc]; omega)); intro v' w4 hown4 hg4; have H4 := Lib.hid (And.intro hown4 hg4); clear hown4 hg4)
        go_roundw
        case rel => exact ⟨k + 1, by omega, by go_num, by rw [HS.out, if_pos rfl, List.map_append, List.length_append]; exact H4.out.1, Fr.grown hFa H4.out.2 howna (Nat.le_refl _)⟩
        case measure => simp [intOf]; omega
      · have z1 : ((st : Int) == 1) = false := by simpa using (show ¬ (st : Int) = 1 by omega)
        have HO := Lib.hid ho
        clear ho
        go_wp2_with fail
        go_roundw
        case rel => exact ⟨k + 1, by omega, by go_num, by rw [HS.out, if_neg hst, List.append_nil]; exact ownsRow_fr0 HO.out ((Fr.refl none_ _).alloc _), hF.alloc _⟩
        case measure => simp [intOf]; omega
    · have hk2 : k = l.length := by omega
      subst hk2
      obtain ⟨A9, c9, rfl, g1, g2, g3, g4⟩ := ownsRow_read ho
      clear ho
      go_wp2_with fail
      go_ret
      exact ⟨A9, c9, by rw [hl] <;> rfl, by rw [← hl]; exact g1, by rw [← hl]; exact g3, hF⟩
end Go.Proofs.Ytdkjmnhblepkaaa
namespace Go.Proofs.Ytdkjmnhblepkaaa
open Go.RowKit
set_option linter.unusedVariables false
set_option linter.unusedSimpArgs false
set_option maxRecDepth 100000

/-! cold: box, Release, Settle. -/
theorem res_place {W : World} {b : Nat} {c : Array Value} {v0 v1 v2 er : Value} {T : TypeId} {F : Nat × Nat} {tmps : Array Value} (h : W.heap[b]? = some (.cells c T F)) (h0 : c[0]? = some v0) (h1 : c[1]? = some v1) (h2 : c[2]? = some v2) (t4 : tmps[4]?.getD undef = ptr b) (t5 : tmps[5]?.getD undef = er) :
    (results Try.f18 tmps).run Try.prog W = .ok (.tuple #[.agg #[v0, v1, v2], er]) W := by
  have c0 : W.cell? ⟨b, 0, none⟩ = some v0 := by rw [cell_of_blk h, h0]
  have c1 : W.cell? ⟨b, 1, none⟩ = some v1 := by rw [cell_of_blk h, h1]
  have c2 : W.cell? ⟨b, 2, none⟩ = some v2 := by rw [cell_of_blk h, h2]
  simp [results, Try.results18, go_sem, t4, t5, c0, c1, c2]
/-- is there a box? -/
def ColdS.has (C : ColdS) (at_ : Int) : Prop := 0 ≤ at_ ∧ at_ < (C.places.length : Int) ∧ (C.places[at_.toNat]?).map (·.st) = some 1
instance (C : ColdS) (a : Int) : Decidable (C.has a) := by unfold ColdS.has; exact inferInstance
abbrev plZ : Array Value := #[.int .i64 0, .int .i64 0, .slice none 0 0]
set_option maxHeartbeats 4000000 in
theorem box_none {w : World} {x lb pb c g : Nat} {ds : List Nat} {C : ColdS} {l : List (PlaceS × Value)} (h : ColdAt w x lb pb c g ds C l) (a : Int) (hn : ¬ C.has a) :
    Calls Try.prog 18 #[ptr x, .int .i64 a] w fun e w' => e = .returned (.tuple #[.agg plZ, errV 4]) ∧ Fr none_ w w' := by
  obtain ⟨_, _, _, _, _, _, _, c7⟩ := h.cells
  have hl := h.len
  have hm := h.most
  have hF0 : Fr none_ w (w.alloc (.cells plZ 60)) := (Fr.refl _ _).alloc _
  have d7 := hF0.cell0 c7
  rw [errV_n (by decide)]
  by_cases h0 : a < 0
  · have H := Lib.hid h
    clear h hn
    go_enter Try.func18, Try.ntmps18
    go_wp2_with fail
    refine bodyPost_ret (res_place (b := w.heap.size) (heap_alloc_new _ _) rfl rfl rfl rfl rfl) rfl ⟨rfl, ?_⟩
    exact hF0
  · by_cases h1 : (C.places.length : Int) ≤ a
    · have z1 : (l.length : Int) ≤ a := by omega
      have H := Lib.hid h
      clear h hn
      go_enter Try.func18, Try.ntmps18
      go_wp2_with fail
      refine bodyPost_ret (res_place (b := w.heap.size) (heap_alloc_new _ _) rfl rfl rfl rfl rfl) rfl ⟨rfl, ?_⟩
      exact hF0
    · obtain ⟨k, hk⟩ : ∃ k : Nat, (k : Int) = a := ⟨a.toNat, by omega⟩
      have hkl : k < l.length := by omega
      obtain ⟨p0, p1, p2⟩ := h.pls.cells k hkl
      have hst : l[k].1.st ≠ 1 := fun e => hn ⟨by omega, by omega, by
        rw [show a.toNat = k by omega, ← h.isl, List.getElem?_map, List.getElem?_eq_getElem hkl]
        simp [e]⟩
      have z2 : ((l[k].1.st : Int) != 1) = true := by simpa using (show ¬ (l[k].1.st : Int) = 1 by omega)
      have p0' := hF0.cell0 p0
      obtain ⟨q, hq⟩ : ∃ q, q = l[k].1.st := ⟨_, rfl⟩
      rw [← hq] at p0' z2
      have i1 : (0 : Int) ≤ (k : Int) ∧ (k : Int) < (l.length : Int) := by omega
      have z1 : ¬ (l.length : Int) ≤ (k : Int) := by omega
      have z3 : ¬ (k : Int) < 0 := by omega
      have z4 : ¬ l.length ≤ k := by omega
      have H := Lib.hid h
      subst hk
      clear h hn p0 p1 p2 hst hq h0 h1
      go_enter Try.func18, Try.ntmps18
      go_wp2_with fail
      refine bodyPost_ret (res_place (b := w.heap.size) (heap_alloc_new _ _) rfl rfl rfl rfl rfl) rfl ⟨rfl, ?_⟩
      exact hF0
set_option maxHeartbeats 4000000 in
theorem box_some {w : World} {x lb pb c g : Nat} {ds : List Nat} {C : ColdS} {l : List (PlaceS × Value)} (h : ColdAt w x lb pb c g ds C l) (k : Nat) (hkl : k < l.length) (hst : l[k].1.st = 1) :
    Calls Try.prog 18 #[ptr x, .int .i64 (k : Int)] w fun e w' => e = .returned (.tuple #[.agg #[.int .i64 1, .int .i64 (l[k].1.n : Int), l[k].2], .nilIface]) ∧ Fr none_ w w' := by
  obtain ⟨_, _, _, _, _, _, _, c7⟩ := h.cells
  have hl := h.len
  have hm := h.most
  have hF0 : Fr none_ w (w.alloc (.cells plZ 60)) := (Fr.refl _ _).alloc _
  have d7 := hF0.cell0 c7
  obtain ⟨p0, p1, p2⟩ := h.pls.cells k hkl
  obtain ⟨As, ns, cs, hsv⟩ := (h.pls.sums l[k] (List.getElem_mem _)).shape
  rw [hst] at p0
  rw [hsv] at p2 ⊢
  have p0' : (w.alloc (.cells plZ 60)).cell? ⟨pb, k * 3, none⟩ = some (.int .i64 1) := hF0.cell0 p0
  have p1' := hF0.cell0 p1
  have p2' := hF0.cell0 p2
  obtain ⟨q, hq⟩ : ∃ q, q = l[k].1.n := ⟨_, rfl⟩
  rw [← hq] at p1' ⊢
  have i1 : (0 : Int) ≤ (k : Int) ∧ (k : Int) < (l.length : Int) := by omega
  have z1 : ¬ (l.length : Int) ≤ (k : Int) := by omega
  have z3 : ¬ (k : Int) < 0 := by omega
  have z4 : ¬ l.length ≤ k := by omega
  have H := Lib.hid h
  clear h p0 p1 p2 hst hq hsv
  go_enter Try.func18, Try.ntmps18
  go_wp2_with fail
  refine bodyPost_ret (res_place (b := w.heap.size) (heap_alloc_new _ _) rfl rfl rfl rfl rfl) rfl ⟨rfl, ?_⟩
  exact (Fr.refl _ _).alloc _
/-- a place is let go -/
def limboP : PlaceS × Value := (⟨2, 0, []⟩, .slice none 0 0)
def freeP : PlaceS × Value := (⟨0, 0, []⟩, .slice none 0 0)
def ColdS.putP (C : ColdS) (k : Nat) (p : PlaceS) : ColdS := { C with places := C.places.set k p }
theorem pl_ne {w : World} {x lb pb c g : Nat} {ds : List Nat} {C : ColdS} {l : List (PlaceS × Value)} (h : ColdAt w x lb pb c g ds C l) : x ≠ pb ∧ lb ≠ pb ∧ c ≠ pb ∧ g ≠ pb := by
  obtain ⟨cl, hb⟩ := h.blk
  obtain ⟨rest, hd⟩ := h.devs
  have hp := h.pls.blk
  have hc := h.code.blk
  refine ⟨fun e => ?_, fun e => ?_, fun e => ?_, fun e => ?_⟩
  · subst e; rw [hb] at hp; exact absurd (Obj.cells.inj (Option.some.inj hp)).2.1 (by decide)
  · subst e; rw [hd] at hp; exact absurd (Obj.cells.inj (Option.some.inj hp)).2.1 (by decide)
  · subst e; rw [hc] at hp; exact absurd (Obj.cells.inj (Option.some.inj hp)).2.1 (by decide)
  · subst e
    rcases h.code.fd with hf | hf
    · rw [hf] at hp; exact absurd (Obj.cells.inj (Option.some.inj hp)).2.1 (by decide)
    · have hf2 : w.heap[g]? = _ := hf
      rw [hf2] at hp; exact absurd (Obj.cells.inj (Option.some.inj hp)).2.1 (by decide)
theorem ColdAt.put {w W : World} {x lb pb c g : Nat} {ds : List Nat} {C : ColdS} {l : List (PlaceS × Value)} (h : ColdAt w x lb pb c g ds C l) (k : Nat) (hk : k < l.length) (y : PlaceS × Value) (hy : SumsAt w y.2 y.1.sums)
    (hW : W = ((w.setCell ⟨pb, k * 3, none⟩ (.int .i64 (y.1.st : Int))).setCell ⟨pb, k * 3 + 1, none⟩ (.int .i64 (y.1.n : Int))).setCell ⟨pb, k * 3 + 2, none⟩ y.2) : ColdAt W x lb pb c g ds (C.putP k y.1) (l.set k y) ∧ Fr (fun i => i = pb) w W := by
  have hF : Fr (fun i => i = pb) w W := by
    rw [hW]
    exact (((Fr.refl (fun k => k = pb) w).setCell (p := ⟨pb, k * 3, none⟩) (fun _ => rfl) _).setCell (p := ⟨pb, k * 3 + 1, none⟩) (fun _ => rfl) _).setCell (p := ⟨pb, k * 3 + 2, none⟩) (fun _ => rfl) _
  obtain ⟨cl, hb⟩ := h.blk
  obtain ⟨rest, hd⟩ := h.devs
  obtain ⟨n1, n2, n3, n4⟩ := pl_ne h
  have hlen : (C.putP k y.1).places.length = C.places.length := by simp [ColdS.putP]
  refine ⟨⟨⟨cl, ?_⟩, h.code.fr hF n3 n4, ⟨rest, hF.heap hd n2⟩, by rw [hW]; exact h.pls.put k hk y hy, ?_, h.dl, by rw [hlen]; exact h.most⟩, hF⟩
  · rw [hlen, List.length_set]
    exact hF.heap hb n1
  · unfold ColdS.putP
    rw [List.map_set, h.isl]
set_option maxHeartbeats 4000000 in
theorem release_none {w : World} {x lb pb c g : Nat} {ds : List Nat} {C : ColdS} {l : List (PlaceS × Value)} (h : ColdAt w x lb pb c g ds C l) (a : Int) (hn : ¬ C.has a) :
    Calls Try.prog 7 #[ptr x, .int .i64 a] w fun e w' => e = .returned (errV 4) ∧ Fr none_ w w' := by
  have hb := box_none h a hn
  rw [errV_n (by decide)] at hb ⊢
  have HB := Lib.hid hb
  clear hb h hn
  go_enter Try.func7, Try.ntmps7
  go_wp2_with fail
  (with_reducible refine HB.out.mono ?_)
  rintro e w1 ⟨rfl, hF⟩
  go_wp2_with fail
  go_ret
  exact ⟨rfl, hF.alloc _⟩
set_option maxHeartbeats 4000000 in
theorem release_ok {w : World} {x lb pb c g : Nat} {ds : List Nat} {C : ColdS} {l : List (PlaceS × Value)} (h : ColdAt w x lb pb c g ds C l) (k : Nat) (hkl : k < l.length) (hst : l[k].1.st = 1) :
    Calls Try.prog 7 #[ptr x, .int .i64 (k : Int)] w fun e w' => e = .returned (errV 0) ∧ Fr (fun i => i = pb) w w' ∧ ColdAt w' x lb pb c g ds (C.putP k ⟨2, 0, []⟩) (l.set k limboP) := by
  have hb := box_some h k hkl hst
  obtain ⟨As, ns, cs, hsv⟩ := (h.pls.sums l[k] (List.getElem_mem _)).shape
  rw [hsv] at hb
  obtain ⟨q, hq⟩ : ∃ q, q = l[k].1.n := ⟨_, rfl⟩
  rw [← hq] at hb
  have HB := Lib.hid hb
  have H := Lib.hid h
  rw [errV_0]
  have i1 : (0 : Int) ≤ (k : Int) ∧ (k : Int) < (l.length : Int) := by omega
  clear hb h hsv hq hst
  go_enter Try.func7, Try.ntmps7
  go_wp2_with fail
  (with_reducible refine HB.out.mono ?_)
  rintro e w1 ⟨rfl, hF⟩
  obtain ⟨V, hV⟩ : ∃ V, V = w1.alloc (.cells #[.int .i64 1, .int .i64 (q : Int), .slice As ns cs] 60) := ⟨_, rfl⟩
  have hFV : Fr none_ w V := by rw [hV]; exact hF.alloc _
  have h4 := H.out.fr0 hFV
  obtain ⟨_, _, _, _, _, _, _, c7⟩ := h4.cells
  obtain ⟨p0, p1, p2⟩ := h4.pls.cells k hkl
  have f0 := h4.pls.fz (k * 3)
  have f1 := h4.pls.fz (k * 3 + 1)
  have f2 := h4.pls.fz (k * 3 + 2)
  have H4 := Lib.hid h4
  have HV := Lib.hid (And.intro hV hFV)
  obtain ⟨u0, hu0⟩ : ∃ u, u = l[k].1.st := ⟨_, rfl⟩
  obtain ⟨u1, hu1⟩ : ∃ u, u = l[k].1.n := ⟨_, rfl⟩
  obtain ⟨u2, hu2⟩ : ∃ u, u = l[k].2 := ⟨_, rfl⟩
  rw [← hu0] at p0
  rw [← hu1] at p1
  rw [← hu2] at p2
  clear h4 hV hFV hF hu0 hu1 hu2
  go_upto_region 4 with (rw [← HV.out.1])
  try rw [← HV.out.1]
  go_wp2_with fail
  go_ret
  have hp := H4.out.put k hkl limboP (.inl ⟨rfl, rfl⟩) rfl
  exact ⟨rfl, (Fr.of0 HV.out.2).trans hp.2, hp.1⟩
end Go.Proofs.Ytdkjmnhblepkaaa
namespace Go.Proofs.Ytdkjmnhblepkaaa
open Go.RowKit
set_option linter.unusedVariables false
set_option linter.unusedSimpArgs false
set_option maxRecDepth 100000

/-! cold: Settle, Sectors, at, down. -/
def settle1 (x : PlaceS × Value) : PlaceS × Value := if x.1.st = 2 then freeP else x
def settleL (l : List (PlaceS × Value)) (k : Nat) : List (PlaceS × Value) := (l.take k).map settle1 ++ l.drop k
def ColdS.settle (C : ColdS) : ColdS := { C with places := C.places.map (fun p => if p.st = 2 then ⟨0, 0, []⟩ else p) }
theorem settleL_len (l : List (PlaceS × Value)) (k : Nat) : (settleL l k).length = l.length := by
  unfold settleL; rw [List.length_append, List.length_map, List.length_take, List.length_drop]; omega
theorem settleL_get (l : List (PlaceS × Value)) (k : Nat) (hk : k < l.length) : (settleL l k)[k]'(by rw [settleL_len]; exact hk) = l[k] := by
  unfold settleL
  rw [List.getElem_append_right (by rw [List.length_map, List.length_take]; omega)]
  simp only [List.length_map, List.length_take, List.getElem_drop]
  congr 1
  omega
theorem settleL_succ (l : List (PlaceS × Value)) (k : Nat) (hk : k < l.length) : settleL l (k + 1) = (settleL l k).set k (settle1 l[k]) := by
  unfold settleL
  rw [List.set_append_right _ _ (by rw [List.length_map, List.length_take]; omega), List.length_map, List.length_take, show k - min k l.length = 0 by omega]
  have hd : l.drop k = l[k] :: l.drop (k + 1) := List.drop_eq_getElem_cons hk
  rw [hd, List.set_cons_zero, List.take_add_one, List.getElem?_eq_getElem hk, List.map_append, List.append_assoc]
  rfl
theorem settleL_all (l : List (PlaceS × Value)) : (settleL l l.length).map (·.1) = (l.map (·.1)).map (fun p => if p.st = 2 then ⟨0, 0, []⟩ else p) := by
  unfold settleL
  rw [List.take_length, List.drop_length, List.append_nil, List.map_map, List.map_map]
  apply List.map_congr_left
  intro x _
  show (settle1 x).1 = _
  unfold settle1
  show _ = if x.1.st = 2 then _ else x.1
  split <;> rfl
/-- the places alone differ -/
structure ColdP (w wr : World) (x lb pb c g : Nat) (ds : List Nat) (C : ColdS) (l : List (PlaceS × Value)) : Prop where
  at_ : ColdAt wr x lb pb c g ds { C with places := l.map (·.1) } l
  fr : Fr (fun i => i = pb) w wr
theorem ColdP.fr0 {w wr w' : World} {x lb pb c g : Nat} {ds : List Nat} {C : ColdS} {l : List (PlaceS × Value)} (h : ColdP w wr x lb pb c g ds C l) (hF : Fr none_ wr w') : ColdP w w' x lb pb c g ds C l := ⟨h.at_.fr0 hF, h.fr.trans0 hF⟩
theorem ColdP.put {w wr : World} {x lb pb c g : Nat} {ds : List Nat} {C : ColdS} {l : List (PlaceS × Value)} (h : ColdP w wr x lb pb c g ds C l) (k : Nat) (hk : k < l.length) (y : PlaceS × Value) (hy : SumsAt wr y.2 y.1.sums) : ColdP w (((wr.setCell ⟨pb, k * 3, none⟩ (.int .i64 (y.1.st : Int))).setCell ⟨pb, k * 3 + 1, none⟩ (.int .i64 (y.1.n : Int))).setCell ⟨pb, k * 3 + 2, none⟩ y.2) x lb pb c g ds C (l.set k y) := by
  obtain ⟨h1, h2⟩ := h.at_.put k hk y hy rfl
  refine ⟨?_, h.fr.trans h2⟩
  have e : ({ C with places := (l.set k y).map (·.1) } : ColdS) = ColdS.putP { C with places := l.map (·.1) } k y.1 := by
    unfold ColdS.putP
    rw [List.map_set]
  rw [e]
  exact h1
set_option maxHeartbeats 4000000 in
theorem settle_any {w : World} {x lb pb c g : Nat} {ds : List Nat} {C : ColdS} {l : List (PlaceS × Value)} (h : ColdAt w x lb pb c g ds C l) :
    Calls Try.prog 6 #[ptr x] w fun e w' => e = .returned (.tuple #[]) ∧ Fr (fun i => i = pb) w w' ∧ ColdAt w' x lb pb c g ds C.settle (settleL l l.length) := by
  obtain ⟨_, _, _, _, _, _, _, c7⟩ := h.cells
  have hl := h.len
  have hm := h.most
  have hfin : ({ C with places := (settleL l l.length).map (·.1) } : ColdS) = C.settle := by
    unfold ColdS.settle
    rw [settleL_all, h.isl]
  have hp0 : ColdP w w x lb pb c g ds C (settleL l 0) := by
    have e : settleL l 0 = l := by unfold settleL; simp
    rw [e]
    refine ⟨?_, Fr.refl _ _⟩
    have e2 : ({ C with places := l.map (·.1) } : ColdS) = C := by rw [h.isl]
    rw [e2]
    exact h
  have HP0 := Lib.hid hp0
  have HFIN := Lib.hid hfin
  obtain ⟨n1, _, _, _⟩ := pl_ne h
  clear h hp0 hfin
  go_enter Try.func6, Try.ntmps6
  go_wp2_with fail
  go_loopw [11] (fun i wr => ∃ k : Nat, k ≤ l.length ∧ i = .int .i64 k ∧ ColdP w wr x lb pb c g ds C (settleL l k)) (fun i _ => l.length - (intOf i).toNat)
  case atStart => exact ⟨0, by omega, rfl, HP0.out⟩
  case round =>
    obtain ⟨k, hk, rfl, hP⟩ := hrel
    by_cases hkl : k < l.length
    · have q1 : (k : Int) < (l.length : Int) := by omega
      have q2 : (0 : Int) ≤ (k : Int) ∧ (k : Int) < (l.length : Int) := by omega
      have hkl2 : k < (settleL l k).length := by rw [settleL_len]; exact hkl
      obtain ⟨p0, p1, p2⟩ := hP.at_.pls.cells k hkl2
      obtain ⟨As, ns, cs, hsv⟩ := (hP.at_.pls.sums (settleL l k)[k] (List.getElem_mem _)).shape
      rw [settleL_get l k hkl] at p0 p1 p2 hsv
      have hsu := settleL_succ l k hkl
      have y7 : wr.cell? ⟨x, 7, none⟩ = some (.slice (some ⟨pb, 0, none⟩) l.length l.length) := hP.fr.cell c7 n1
      obtain ⟨y, hy⟩ : ∃ y, y = l[k] := ⟨_, rfl⟩
      rw [← hy] at p0 p1 p2 hsv hsu
      obtain ⟨⟨st, nn, sums⟩, sv⟩ := y
      replace hsv : sv = .slice As ns cs := hsv
      subst hsv
      replace p0 : wr.cell? ⟨pb, k * 3, none⟩ = some (.int .i64 (st : Int)) := p0
      replace p1 : wr.cell? ⟨pb, k * 3 + 1, none⟩ = some (.int .i64 (nn : Int)) := p1
      replace p2 : wr.cell? ⟨pb, k * 3 + 2, none⟩ = some (.slice As ns cs) := p2
      have f0 := hP.at_.pls.fz (k * 3)
      have f1 := hP.at_.pls.fz (k * 3 + 1)
      have f2 := hP.at_.pls.fz (k * 3 + 2)
      have HP := Lib.hid hP
      have HY := Lib.hid hy
      clear hy hP
      by_cases hst : st = 2
      · subst hst
        rw [show settle1 ((⟨2, nn, sums⟩ : PlaceS), Value.slice As ns cs) = freeP by unfold settle1; rw [if_pos rfl]] at hsu
        have hpa := (HP.out.fr0 ((Fr.refl none_ wr).alloc (.cells #[.int .i64 2, .int .i64 (nn : Int), .slice As ns cs] 60))).put k hkl2 freeP (.inl ⟨rfl, rfl⟩)
        rw [← hsu] at hpa
        have HPA := Lib.hid hpa
        obtain ⟨V, hV⟩ : ∃ V, V = wr.alloc (.cells #[.int .i64 2, .int .i64 (nn : Int), .slice As ns cs] 60) := ⟨_, rfl⟩
        rw [← hV] at HPA
        have hFV : Fr none_ wr V := by rw [hV]; exact (Fr.refl _ _).alloc _
        have v7 := hFV.cell0 y7
        have v0 := hFV.cell0 p0
        have v1 := hFV.cell0 p1
        have v2 := hFV.cell0 p2
        have u0 := hFV.frozen p0 (fun h => h) f0
        have u1 := hFV.frozen p1 (fun h => h) f1
        have u2 := hFV.frozen p2 (fun h => h) f2
        have HV := Lib.hid hV
        clear hpa hsu hV hFV
        go_upto_region 5 with fail
        rw [← HV.out]
        go_wp2_with fail
        go_roundw
        case rel => exact ⟨k + 1, by omega, by go_num, HPA.out⟩
        case measure => simp [intOf]; omega
      · have z1 : ((st : Int) == 2) = false := by simpa using (show ¬ (st : Int) = 2 by omega)
        rw [show settle1 ((⟨st, nn, sums⟩ : PlaceS), Value.slice As ns cs) = (⟨st, nn, sums⟩, Value.slice As ns cs) by unfold settle1; rw [if_neg hst]] at hsu
        have hid : settleL l (k + 1) = settleL l k := by
          rw [hsu]
          apply List.ext_getElem?
          intro i
          by_cases e : k = i
          · subst e
            rw [List.getElem?_set_self hkl2, List.getElem?_eq_getElem hkl2, settleL_get l k hkl]
            rw [← HY.out]
          · rw [List.getElem?_set_ne e]
        have HID := Lib.hid hid
        clear hsu hid
        go_wp2_with fail
        go_roundw
        case rel => exact ⟨k + 1, by omega, by go_num, by rw [HID.out]; exact HP.out.fr0 ((Fr.refl none_ wr).alloc _)⟩
        case measure => simp [intOf]; omega
    · have hk2 : k = l.length := by omega
      rw [hk2] at hP
      have hA := hP.at_
      rw [HFIN.out] at hA
      go_wp2_with fail
      go_end0
      exact ⟨rfl, hP.fr, hA⟩
/-- its Config as a value -/
abbrev cfgV (d m fi pl si : Nat) : Value := .agg #[.int .i64 (d : Int), .int .i64 (m : Int), .int .i64 (fi : Int), .int .i64 (pl : Int), .int .i64 (si : Int)]
def partC (d si : Nat) : Nat := (si - 1) / d + 2
def sectC (d si : Nat) : Nat := (partC d si + 63) / 64
theorem partC_le {d si : Nat} (hs : si ≤ 65536) : partC d si ≤ 65537 := by
  unfold partC
  have := Nat.div_le_self (si - 1) d
  omega
theorem part_any (d m fi pl si : Nat) (hd : 1 ≤ d ∧ d ≤ 32) (hs : 1 ≤ si ∧ si ≤ 65536) (w : World) :
    Calls Try.prog 29 #[cfgV d m fi pl si] w fun e w' => e = .returned (.int .i64 (partC d si : Nat)) ∧ Fr none_ w w' := by
  obtain ⟨q, hq⟩ : ∃ q, q = (si - 1) / d := ⟨_, rfl⟩
  have hqs : q ≤ 65535 := by rw [hq]; have := Nat.div_le_self (si - 1) d; omega
  have hpc : partC d si = q + 2 := by unfold partC; rw [← hq]
  obtain ⟨s1, hs1⟩ : ∃ s1, s1 = si - 1 := ⟨_, rfl⟩
  have w2 : ((si : Int) - 1) / (d : Int) = (q : Int) := by rw [show ((si : Int) - 1) = (s1 : Int) by omega, hq, hs1]; rfl
  have w5 : ¬ d = 0 := by omega
  have HPC := Lib.hid hpc
  rw [HPC.out]
  clear hq hs1 hpc
  go_enter Try.func29, Try.ntmps29
  go_wp2_with fail
  go_ret
  exact ⟨rfl, (Fr.refl _ _).alloc _⟩
theorem sect_any (d m fi pl si : Nat) (hd : 1 ≤ d ∧ d ≤ 32) (hs : 1 ≤ si ∧ si ≤ 65536) (w : World) :
    Calls Try.prog 16 #[cfgV d m fi pl si] w fun e w' => e = .returned (.int .i64 (sectC d si : Nat)) ∧ Fr none_ w w' := by
  have hp := part_any d m fi pl si hd hs
  have hle := partC_le (d := d) hs.2
  obtain ⟨p, hpe⟩ : ∃ p, p = partC d si := ⟨_, rfl⟩
  rw [← hpe] at hp hle
  have hsc : sectC d si = (p + 63) / 64 := by unfold sectC; rw [← hpe]
  obtain ⟨q, hq⟩ : ∃ q, q = (p + 63) / 64 := ⟨_, rfl⟩
  rw [hsc, ← hq]
  have w2 : ((p : Int) + 64 - 1) / 64 = (q : Int) := by rw [hq]; omega
  have w3 : ((p : Int) + 63) / 64 = (q : Int) := by rw [hq]; omega
  have HP := Lib.hid hp
  have z1 : ¬ (d : Int) < 1 := by omega
  have z2 : ¬ (si : Int) < 1 := by omega
  have z3 : ¬ (65536 : Int) < (si : Int) := by omega
  have z4 : ¬ d < 1 := by omega
  have z5 : ¬ si < 1 := by omega
  have z6 : si ≤ 65536 := by omega
  clear hp hpe hsc hq
  go_enter Try.func16, Try.ntmps16
  go_wp2_with fail
  (with_reducible refine (HP.out _).mono ?_)
  rintro e w1 ⟨rfl, hF⟩
  go_wp2_with fail
  go_ret
  refine ⟨?_, ((Fr.refl _ _).alloc _).trans hF⟩
  show Ending.returned (.int .i64 (((p : Int) + 64 - 1) / 64)) = _
  rw [w2]
/-- its devices, each with blocks of its own -/
structure DevsAt (w : World) (ds : List (Nat × Nat × Nat)) (Ds : List DevS) : Prop where
  len : ds.length = Ds.length
  at_ : ∀ i (h1 : i < ds.length) (h2 : i < Ds.length), DevAt w ds[i].1 ds[i].2.1 ds[i].2.2 Ds[i]
  apart : ∀ i j (h1 : i < ds.length) (h2 : j < ds.length), i ≠ j → ∀ b, devBlks ds[i].1 ds[i].2.1 ds[i].2.2 b → ¬ devBlks ds[j].1 ds[j].2.1 ds[j].2.2 b
theorem DevsAt.fr {w w' : World} {ds : List (Nat × Nat × Nat)} {Ds : List DevS} (h : DevsAt w ds Ds) {S : Nat → Prop} (hF : Fr S w w') (hS : ∀ i (h1 : i < ds.length) b, devBlks ds[i].1 ds[i].2.1 ds[i].2.2 b → ¬ S b) : DevsAt w' ds Ds :=
  ⟨h.len, fun i h1 h2 => (h.at_ i h1 h2).fr hF (hS i h1), h.apart⟩
theorem DevsAt.fr0 {w w' : World} {ds : List (Nat × Nat × Nat)} {Ds : List DevS} (h : DevsAt w ds Ds) (hF : Fr none_ w w') : DevsAt w' ds Ds := h.fr hF (fun _ _ _ _ h => h)
theorem DevsAt.set {w w' : World} {ds : List (Nat × Nat × Nat)} {Ds : List DevS} (h : DevsAt w ds Ds) (i : Nat) (hi : i < ds.length) {D : DevS} (hF : Fr (devBlks ds[i].1 ds[i].2.1 ds[i].2.2) w w') (hD : DevAt w' ds[i].1 ds[i].2.1 ds[i].2.2 D) : DevsAt w' ds (Ds.set i D) := by
  refine ⟨by rw [List.length_set]; exact h.len, fun j h1 h2 => ?_, h.apart⟩
  rw [List.length_set] at h2
  by_cases e : i = j
  · subst e
    rw [List.getElem_set_self]
    exact hD
  · rw [List.getElem_set_ne e]
    exact (h.at_ j h1 h2).fr hF (fun b hb hb2 => h.apart i j hi h1 e b hb2 hb)
def downN (Ds : List DevS) (k : Nat) : Nat := ((Ds.take k).filter (fun D => D.down)).length
theorem downN_succ (Ds : List DevS) (k : Nat) (hk : k < Ds.length) : downN Ds (k + 1) = downN Ds k + if Ds[k].down = true then 1 else 0 := by
  unfold downN
  rw [List.take_add_one, List.getElem?_eq_getElem hk, List.filter_append, List.length_append]
  cases h : Ds[k].down <;> simp [h]
theorem downN_le (Ds : List DevS) (k : Nat) : downN Ds k ≤ k := by
  unfold downN
  exact Nat.le_trans (List.length_filter_le _ _) (List.length_take_le _ _)
set_option maxHeartbeats 4000000 in
theorem cdown_any {w : World} {x lb pb c g : Nat} {ds : List (Nat × Nat × Nat)} {Ds : List DevS} {C : ColdS} {l : List (PlaceS × Value)} (h : ColdAt w x lb pb c g (ds.map (·.1)) C l) (hD : DevsAt w ds Ds) :
    Calls Try.prog 21 #[ptr x] w fun e w' => e = .returned (.int .i64 (downN Ds Ds.length : Nat)) ∧ w' = w := by
  obtain ⟨⟨cl, c0⟩, _⟩ := h.cells
  obtain ⟨rest, hlb⟩ := h.devs
  have hdl := h.dl
  have hmost := h.code.most
  have hlen := hD.len
  rw [List.length_map] at hdl c0
  have H := Lib.hid (And.intro h hD)
  clear h hD
  go_enter Try.func21, Try.ntmps21
  go_wp2_with fail
  go_loopw [3, 11] (fun v i wr => ∃ k : Nat, k ≤ ds.length ∧ i = .int .i64 k ∧ v = .int .i64 (downN Ds k : Nat) ∧ wr = w) (fun _ i _ => ds.length - (intOf i).toNat)
  case atStart => exact ⟨0, by omega, rfl, rfl, rfl⟩
  case round =>
    obtain ⟨k, hk, rfl, rfl, rfl⟩ := hrel
    by_cases hkl : k < ds.length
    · have q1 : (k : Int) < (ds.length : Int) := by omega
      have q2 : (0 : Int) ≤ (k : Int) ∧ (k : Int) < (ds.length : Int) := by omega
      have hd := H.out.2.at_ k hkl (by omega)
      have hc : wr.cell? ⟨lb, k, none⟩ = some (ptr ds[k].1) := by
        rw [cell_of_blk hlb, List.getElem?_toArray, List.getElem?_append_left (by simp; omega), List.getElem?_map, List.getElem?_map, List.getElem?_eq_getElem hkl]
        rfl
      have hsu := downN_succ Ds k (by omega)
      have hle := downN_le Ds k
      obtain ⟨p, hp⟩ : ∃ p, p = ds[k].1 := ⟨_, rfl⟩
      have hdc := down_any hd
      rw [← hp] at hc hdc
      obtain ⟨bo, hbo⟩ : ∃ bo, bo = Ds[k].down := ⟨_, rfl⟩
      rw [← hbo] at hsu hdc
      obtain ⟨q, hq⟩ : ∃ q, q = downN Ds k := ⟨_, rfl⟩
      rw [← hq] at hsu hle ⊢
      have HS := Lib.hid hsu
      have HDC := Lib.hid hdc
      clear hd hsu hdc hp hbo hq
      go_wp2_with fail
      (with_reducible refine HDC.out.mono ?_)
      rintro e w1 ⟨rfl, hw1⟩
      subst hw1
      cases bo
      · go_wp2_with fail
        go_roundw
        case rel => exact ⟨k + 1, by omega, by go_num, by rw [HS.out, if_neg (by decide)]; rfl, trivial⟩
        case measure => simp [intOf]; omega
      · go_wp2_with fail
        go_roundw
        case rel => exact ⟨k + 1, by omega, by go_num, by (have h9 := HS.out; rw [if_pos (by trivial)] at h9; rw [h9]; go_num), trivial⟩
        case measure => simp [intOf]; omega
    · have hk2 : k = ds.length := by omega
      subst hk2
      go_wp2_with fail
      go_ret
      exact ⟨by rw [← hlen]; rfl, rfl⟩
end Go.Proofs.Ytdkjmnhblepkaaa

import Derived.Test.YtffolfemcllfkaaGreatDoorRefLoad
import Derived.Test.YtffolfemcllfkaaGreatDoorRunsM
import Derived.Test.YtffolfemcllfkaaGreatDoorKit
import Derived.Deep.RegionHeld3
namespace Go.Proofs.YtffolfemcllfkaaGreatDoor
open Go.RowKit
set_option linter.unusedVariables false
set_option linter.unusedSimpArgs false
set_option maxRecDepth 100000

/-! The document's toggle: Save: what holds between its stores. -/
/-- a Dev's cells -/
def DevC (c : Array Value) : Prop := ∃ A1 n1 c1 A2 n2 c2 A3 n3 c3 x y z u v, c = #[.slice A1 n1 c1, .slice A2 n2 c2, .slice A3 n3 c3, .int .i64 x, .bool y, .int .i64 z, .bool u, .bool v]
theorem DevC.noStr {c : Array Value} (h : DevC c) (j : Nat) (x : List UInt8) : c[j]? ≠ some (strOf x) := by
  obtain ⟨A1, n1, c1, A2, n2, c2, A3, n3, c3, x', y, z, u, v, rfl⟩ := h
  intro h
  unfold strOf at h
  match j with
  | 0 => cases h
  | 1 => cases h
  | 2 => cases h
  | 3 => cases h
  | 4 => cases h
  | 5 => cases h
  | 6 => cases h
  | 7 => cases h
  | j + 8 => simp at h
theorem DevC.noBools {c : Array Value} (h : DevC c) (j : Nat) (p q r : Bool) (h0 : c[j]? = some (.bool p)) (h1 : c[j + 1]? = some (.bool q)) (h2 : c[j + 2]? = some (.bool r)) : False := by
  obtain ⟨A1, n1, c1, A2, n2, c2, A3, n3, c3, x', y, z, u, v, rfl⟩ := h
  match j with
  | 0 => cases h0
  | 1 => cases h0
  | 2 => cases h0
  | 3 => cases h0
  | 4 => cases h1
  | 5 => cases h0
  | 6 => simp at h2
  | 7 => simp at h1
  | j + 8 => simp at h0
theorem RDV.devC {w : World} {cs : Array Value} {R : RefD} (h : RDV w cs R) : DevC cs := by
  obtain ⟨⟨A1, c1, A2, c2, A3, c3, e, _⟩, _⟩ := h
  exact ⟨A1, _, c1, A2, _, c2, A3, _, c3, _, _, _, _, _, e⟩
theorem RDV.frD {w w' : World} {cs c : Array Value} {R : RefD} {b : Nat} {T : TypeId} {F : Nat × Nat} (h : RDV w cs R) (h3 : 3 ≤ R.now.length) (hb : w.heap[b]? = some (.cells c T F)) (hc : DevC c) (hF : Fr (fun i => i = b) w w') : RDV w' cs R := by
  obtain ⟨⟨A1, c1, A2, c2, A3, c3, e, h1, h2, h4, r⟩, l2, l3, m⟩ := h
  have hs : ∀ (A : Option Addr) (l : List (List UInt8)), 0 < l.length → CellsAt w A (l.map strOf) → CellsAt w' A (l.map strOf) := fun A l hl hA => hA.fr hF (fun x hx e => by
    subst e
    obtain ⟨b', o, hA', hcell⟩ := hA 0 (by rw [List.length_map]; exact hl)
    have := blkOf_some (hA' ▸ hx)
    subst this
    rw [cell_of_blk hb, List.getElem_map] at hcell
    exact hc.noStr _ _ hcell)
  have hbl : CellsAt w' A3 (R.loose.map Value.bool) := h4.fr hF (fun x hx e => by
    subst e
    obtain ⟨o, rfl⟩ := hx
    have g := fun k (hk : k < R.loose.length) => h4.get k (by rw [List.length_map]; exact hk)
    have g0 := g 0 (by omega)
    have g1 := g 1 (by omega)
    have g2 := g 2 (by omega)
    rw [cell_of_blk hb, List.getElem_map] at g0 g1 g2
    exact hc.noBools o _ _ _ g0 g1 g2)
  exact ⟨⟨A1, c1, A2, c2, A3, c3, e, hs A1 _ (by omega) h1, hs A2 _ (by omega) h2, hbl, r⟩, l2, l3, m⟩
/-- What holds in Save between its stores: cs in its own device's block, R in the rows. -/
structure SvX (w wr : World) (f s : Int) (cs : Array Value) (R : RefD) : Prop where
  v : RDV wr cs R
  b3 : wr.heap[w.heap.size]? = some (.cells cs 33 (0, 0))
  b4 : wr.heap[w.heap.size + 1]? = some (.cells #[.int .i64 f, .int .i64 s] 23 (0, 0))
  b6 : wr.heap[w.heap.size + 2]? = some (.cells #[.slice none 0 0, .slice none 0 0, .slice none 0 0, .int .i64 0, .bool false, .int .i64 0, .bool false, .bool false] 33 (0, 0))
  fr : Fr none_ w wr
theorem SvX.fr0 {w wr wx : World} {f s : Int} {cs : Array Value} {R : RefD} (h : SvX w wr f s cs R) (hF : Fr none_ wr wx) : SvX w wx f s cs R :=
  ⟨h.v.fr0 hF, hF.heap0 h.b3, hF.heap0 h.b4, hF.heap0 h.b6, h.fr.trans hF⟩
/-- another device is stored -/
theorem SvX.put {w wr wx : World} {f s : Int} {cs cs' : Array Value} {R R' : RefD} (h : SvX w wr f s cs R) (h3 : 3 ≤ R'.now.length) (hv : RDV wr cs' R') (hF : Fr (fun i => i = w.heap.size) wr wx) (hb : wx.heap[w.heap.size]? = some (.cells cs' 33 (0, 0))) : SvX w wx f s cs' R' :=
  ⟨hv.frD h3 h.b3 h.v.devC hF, hb, hF.heap h.b4 (by omega), hF.heap h.b6 (by omega), h.fr.own hF (Nat.le_refl _)⟩
theorem three_alloc (w : World) (o1 o2 o3 : Array Value) (T U : TypeId) : ∃ V, V = ((w.alloc (.cells o1 T)).alloc (.cells o2 U)).alloc (.cells o3 T) ∧ Fr none_ w V ∧ V.heap[w.heap.size]? = some (.cells o1 T (0, 0)) ∧ V.heap[w.heap.size + 1]? = some (.cells o2 U (0, 0)) ∧ V.heap[w.heap.size + 2]? = some (.cells o3 T (0, 0)) := by
  obtain ⟨V, hV, hF, h1, h2, hs⟩ := two_any w o1 o2 T U
  have hsz : V.heap.size = w.heap.size + 2 := by rw [hV, World.size_alloc, World.size_alloc]
  rw [← hV]
  have h3 := heap_alloc_new V (.cells o3 T)
  rw [hsz] at h3
  exact ⟨_, rfl, hF.alloc _, heap_alloc_old h1 _, heap_alloc_old h2 _, h3⟩
end Go.Proofs.YtffolfemcllfkaaGreatDoor
namespace Go.Proofs.YtffolfemcllfkaaGreatDoor
open Go.RowKit
set_option linter.unusedVariables false
set_option linter.unusedSimpArgs false
set_option maxRecDepth 100000

/-! The document's toggle: Save where nothing is written. -/
theorem zeroDevC : DevC #[.slice none 0 0, .slice none 0 0, .slice none 0 0, .int .i64 0, .bool false, .int .i64 0, .bool false, .bool false] := ⟨none, 0, 0, none, 0, 0, none, 0, 0, 0, false, 0, false, false, rfl⟩
set_option maxHeartbeats 8000000 in
theorem rsave_bad {w : World} {cs : Array Value} {R : RefD} (h : RDV w cs R) (h3 : 3 ≤ R.now.length) (hb64 : ∀ x ∈ R.now, x.length = 64) (f s : Int) (tx : Value) (hE : (R.look f s).err ≠ 0 ∧ (R.look f s).err ≠ 8) :
    Calls Tryz.prog 19 #[.agg cs, area f s, tx] w fun e w' => RDo w R (R.look f s).err e w' := by
  obtain ⟨A1, c1, A2, c2, A3, c3, ecs, hjunk⟩ := h.rep
  have hm := h.most
  subst ecs
  clear hjunk
  obtain ⟨V, hV, hF, hbp, hbq, hbr⟩ := three_alloc w #[.slice A1 R.now.length c1, .slice A2 R.now.length c2, .slice A3 R.now.length c3, .int .i64 R.writes, .bool R.armed, .int .i64 R.left, .bool R.crashed, .bool R.gone] #[.int .i64 f, .int .i64 s] #[.slice none 0 0, .slice none 0 0, .slice none 0 0, .int .i64 0, .bool false, .int .i64 0, .bool false, .bool false] 33 23
  have hX : SvX w V f s _ R := ⟨h.fr0 hF, hbp, hbq, hbr, hF⟩
  have a0 : V.cell? ⟨w.heap.size + 1, 0, none⟩ = some (.int .i64 f) := by rw [cell_of_blk hbq]; rfl
  have a1 : V.cell? ⟨w.heap.size + 1, 1, none⟩ = some (.int .i64 s) := by rw [cell_of_blk hbq]; rfl
  have HLK := Lib.hid (rlook_any hX.v hb64 f s)
  have HX := Lib.hid hX
  have HV := Lib.hid hV
  clear hV hF hbp hbq hbr hX h
  have hb := RefD.look_bad hE.1
  obtain ⟨E, hEe⟩ : ∃ E, E = (R.look f s).err := ⟨_, rfl⟩
  rw [← hEe] at hb hE ⊢
  have k1 : (E == 0) = false := by simpa using hE.1
  have k2 : (E != 0) = true := by simpa using hE.1
  have k3 : (E == 8) = false := by simpa using hE.2
  have k4 : (E != 8) = true := by simpa using hE.2
  rw [hb] at HLK
  clear hb hEe hE
  go_enter Tryz.func19, Tryz.ntmps19
  go_upto_region 1 with fail
  rw [← HV.out]
  go_wp2_with (first | ((with_reducible refine at_load 33 (.tmp 3) (b := w.heap.size) ?_ HX.out.b3 Tryz.underlying33 rfl (by kernel_rfl) ?_); (focus rfl)))
  (with_reducible refine HLK.out.mono ?_)
  rintro e w1 ⟨rfl, hF1⟩
  have HY := Lib.hid (HX.out.fr0 hF1)
  have b0 : w1.cell? ⟨w.heap.size + 1, 0, none⟩ = some (.int .i64 f) := by rw [cell_of_blk HY.out.b4]; rfl
  have b1 : w1.cell? ⟨w.heap.size + 1, 1, none⟩ = some (.int .i64 s) := by rw [cell_of_blk HY.out.b4]; rfl
  clear hF1 a0 a1
  unfold tellRV
  go_wp2_with (first | ((with_reducible refine at_load 33 (.tmp 3) (b := w.heap.size) ?_ HY.out.b3 Tryz.underlying33 rfl (by kernel_rfl) ?_); (focus rfl)) | ((with_reducible refine at_store 33 (.tmp 6) (.tmp 29) (b := w.heap.size + 2) (c' := #[.slice A1 R.now.length c1, .slice A2 R.now.length c2, .slice A3 R.now.length c3, .int .i64 R.writes, .bool R.armed, .int .i64 R.left, .bool R.crashed, .bool R.gone]) ?_ ?_ HY.out.b6 ?_ ?_ ?_ ?_); (focus rfl); (focus rfl); (focus rfl); (focus kernel_rfl); (focus (intro u hu; simp at hu; rcases hu with rfl | rfl | rfl | rfl | rfl | rfl | rfl | rfl <;> rfl)); intro w8 hF8 hb8; have HZ := Lib.hid (And.intro hF8 hb8); clear hF8 hb8))
  refine bodyPost_ret (res_dev (b := w.heap.size + 2) Tryz.results19 HZ.out.2 rfl rfl) rfl ?_
  exact ⟨_, rfl, HY.out.v.frD h3 HY.out.b6 zeroDevC HZ.out.1, HY.out.fr.own HZ.out.1 (by omega)⟩
set_option maxHeartbeats 8000000 in
theorem rsave_long {w : World} {cs : Array Value} {R : RefD} (h : RDV w cs R) (h3 : 3 ≤ R.now.length) (hb64 : ∀ x ∈ R.now, x.length = 64) (f s : Int) (l : List UInt8) (hE : (R.look f s).err = 0 ∨ (R.look f s).err = 8) (hl : roomF s < (l.length : Int)) :
    Calls Tryz.prog 19 #[.agg cs, area f s, strOf l] w fun e w' => RDo w R 2 e w' := by
  obtain ⟨A1, c1, A2, c2, A3, c3, ecs, hjunk⟩ := h.rep
  have hm := h.most
  subst ecs
  clear hjunk
  obtain ⟨V, hV, hF, hbp, hbq, hbr⟩ := three_alloc w #[.slice A1 R.now.length c1, .slice A2 R.now.length c2, .slice A3 R.now.length c3, .int .i64 R.writes, .bool R.armed, .int .i64 R.left, .bool R.crashed, .bool R.gone] #[.int .i64 f, .int .i64 s] #[.slice none 0 0, .slice none 0 0, .slice none 0 0, .int .i64 0, .bool false, .int .i64 0, .bool false, .bool false] 33 23
  have hX : SvX w V f s _ R := ⟨h.fr0 hF, hbp, hbq, hbr, hF⟩
  have a0 : V.cell? ⟨w.heap.size + 1, 0, none⟩ = some (.int .i64 f) := by rw [cell_of_blk hbq]; rfl
  have a1 : V.cell? ⟨w.heap.size + 1, 1, none⟩ = some (.int .i64 s) := by rw [cell_of_blk hbq]; rfl
  have HLK := Lib.hid (rlook_any hX.v hb64 f s)
  have HX := Lib.hid hX
  have HV := Lib.hid hV
  clear hV hF hbp hbq hbr hX h
  obtain ⟨t, ht⟩ : ∃ t, t = R.look f s := ⟨_, rfl⟩
  rw [← ht] at HLK hE
  obtain ⟨n, sec, long, err⟩ := t
  replace hE : err = 0 ∨ err = 8 := hE
  clear ht
  unfold strOf
  obtain ⟨B, hB⟩ : ∃ B, B = (⟨l.toArray⟩ : ByteArray) := ⟨_, rfl⟩
  rw [← hB]
  have hBs : B.size = l.length := by rw [hB]; show l.toArray.size = _; simp
  have q1 : roomF s < (B.size : Int) := by rw [hBs]; exact hl
  clear hB hBs
  rcases hE with rfl | rfl
  · go_enter Tryz.func19, Tryz.ntmps19
    go_upto_region 1 with fail
    rw [← HV.out]
    go_wp2_with (first | ((with_reducible refine at_load 33 (.tmp 3) (b := w.heap.size) ?_ HX.out.b3 Tryz.underlying33 rfl (by kernel_rfl) ?_); (focus rfl)))
    (with_reducible refine HLK.out.mono ?_)
    rintro e w1 ⟨rfl, hF1⟩
    have HY := Lib.hid (HX.out.fr0 hF1)
    have b0 : w1.cell? ⟨w.heap.size + 1, 0, none⟩ = some (.int .i64 f) := by rw [cell_of_blk HY.out.b4]; rfl
    have b1 : w1.cell? ⟨w.heap.size + 1, 1, none⟩ = some (.int .i64 s) := by rw [cell_of_blk HY.out.b4]; rfl
    clear hF1 a0 a1
    unfold tellRV
    go_wp2_with fail
    (with_reducible refine (rroom_any f s _).mono ?_)
    rintro e w2 ⟨rfl, hF2⟩
    have HQ := Lib.hid (HY.out.fr0 hF2)
    clear hF2
    go_wp2_with (first | ((with_reducible refine at_load 33 (.tmp 3) (b := w.heap.size) ?_ HQ.out.b3 Tryz.underlying33 rfl (by kernel_rfl) ?_); (focus rfl)) | ((with_reducible refine at_store 33 (.tmp 6) (.tmp 36) (b := w.heap.size + 2) (c' := #[.slice A1 R.now.length c1, .slice A2 R.now.length c2, .slice A3 R.now.length c3, .int .i64 R.writes, .bool R.armed, .int .i64 R.left, .bool R.crashed, .bool R.gone]) ?_ ?_ HQ.out.b6 ?_ ?_ ?_ ?_); (focus rfl); (focus rfl); (focus rfl); (focus kernel_rfl); (focus (intro u hu; simp at hu; rcases hu with rfl | rfl | rfl | rfl | rfl | rfl | rfl | rfl <;> rfl)); intro w8 hF8 hb8; have HZ := Lib.hid (And.intro hF8 hb8); clear hF8 hb8))
    refine bodyPost_ret (res_dev (b := w.heap.size + 2) Tryz.results19 HZ.out.2 rfl rfl) rfl ?_
    exact ⟨_, rfl, HQ.out.v.frD h3 HQ.out.b6 zeroDevC HZ.out.1, HQ.out.fr.own HZ.out.1 (by omega)⟩
  · go_enter Tryz.func19, Tryz.ntmps19
    go_upto_region 1 with fail
    rw [← HV.out]
    go_wp2_with (first | ((with_reducible refine at_load 33 (.tmp 3) (b := w.heap.size) ?_ HX.out.b3 Tryz.underlying33 rfl (by kernel_rfl) ?_); (focus rfl)))
    (with_reducible refine HLK.out.mono ?_)
    rintro e w1 ⟨rfl, hF1⟩
    have HY := Lib.hid (HX.out.fr0 hF1)
    have b0 : w1.cell? ⟨w.heap.size + 1, 0, none⟩ = some (.int .i64 f) := by rw [cell_of_blk HY.out.b4]; rfl
    have b1 : w1.cell? ⟨w.heap.size + 1, 1, none⟩ = some (.int .i64 s) := by rw [cell_of_blk HY.out.b4]; rfl
    clear hF1 a0 a1
    unfold tellRV
    go_wp2_with fail
    (with_reducible refine (rroom_any f s _).mono ?_)
    rintro e w2 ⟨rfl, hF2⟩
    have HQ := Lib.hid (HY.out.fr0 hF2)
    clear hF2
    go_wp2_with (first | ((with_reducible refine at_load 33 (.tmp 3) (b := w.heap.size) ?_ HQ.out.b3 Tryz.underlying33 rfl (by kernel_rfl) ?_); (focus rfl)) | ((with_reducible refine at_store 33 (.tmp 6) (.tmp 36) (b := w.heap.size + 2) (c' := #[.slice A1 R.now.length c1, .slice A2 R.now.length c2, .slice A3 R.now.length c3, .int .i64 R.writes, .bool R.armed, .int .i64 R.left, .bool R.crashed, .bool R.gone]) ?_ ?_ HQ.out.b6 ?_ ?_ ?_ ?_); (focus rfl); (focus rfl); (focus rfl); (focus kernel_rfl); (focus (intro u hu; simp at hu; rcases hu with rfl | rfl | rfl | rfl | rfl | rfl | rfl | rfl <;> rfl)); intro w8 hF8 hb8; have HZ := Lib.hid (And.intro hF8 hb8); clear hF8 hb8))
    refine bodyPost_ret (res_dev (b := w.heap.size + 2) Tryz.results19 HZ.out.2 rfl rfl) rfl ?_
    exact ⟨_, rfl, HQ.out.v.frD h3 HQ.out.b6 zeroDevC HZ.out.1, HQ.out.fr.own HZ.out.1 (by omega)⟩
end Go.Proofs.YtffolfemcllfkaaGreatDoor
namespace Go.Proofs.YtffolfemcllfkaaGreatDoor
open Go.RowKit
set_option linter.unusedVariables false
set_option linter.unusedSimpArgs false

/-! A struct stored into a block of its own, in a region that draws its order. -/
theorem step_store_blk {P : Program} {w : World} {ops : Array Oper} {o : Oper} {a : Act} {K : Act → World → Prop} {Q : Exit → Act → World → Prop} {E : Prop} (hgd : o.guard = none) (ty : TypeId) (x y : Operand) (ho : o.op = .store ty x y)
    {b : Nat} {c c' : Array Value} {e : TypeId} (hx : a.eval x = .pointer (some ⟨b, 0, none⟩)) (hy : a.eval y = .agg c') (hb : w.heap[b]? = some (.cells c e (0, 0))) (hs : c.size = c'.size) (hi : (P.info? ty).map (·.size) = some c'.size) (h1 : ∀ v ∈ c'.toList, v.oneCell' = true)
    (h : ∀ w', Fr (fun i => i = b) w w' → w'.heap[b]? = some (.cells c' e (0, 0)) → K (a.put o.dst undef) w') :
    if Region.wanted o (yielded ops a.tmps) = true then Oper.wp P o a w K Q else E := by
  have hw : Region.wanted o (yielded ops a.tmps) = true := by simp [Region.wanted, hgd]
  rw [if_pos hw]
  have hrun := run_storeVar_row (P := P) w b e ty c c' hb hi hs (by simpa using all_oneCell_toArray h1)
  unfold Oper.wp execOp
  simp only [ho, hx, hy, Instr.storeAt, Instr.sureAddr, Sem.run_bind, Sem.run_pure, Result.andThen_ok, hrun]
  refine h _ ⟨rfl, rfl, rfl, by simp [World.setRow], fun k _ hn => by simp only [World.setRow, Array.getElem?_modify]; rw [if_neg (Ne.symm hn)]⟩ ?_
  simp [World.setRow, Array.getElem?_modify, hb]
end Go.Proofs.YtffolfemcllfkaaGreatDoor

import Derived.Test.YtffolfemcllfkaaGreatDoorRef06
import Derived.Test.YtffolfemcllfkaaGreatDoorRefDevM1
import Derived.Deep.AppendLies
import Derived.Deep.RegionHeld3
import Derived.Deep.DeepCutAuto
namespace Go.Proofs.YtffolfemcllfkaaGreatDoor
open Go.RowKit
set_option linter.unusedVariables false
set_option linter.unusedSimpArgs false
set_option maxRecDepth 100000

/-! The document's device, walked: settle. -/
def mixL {α : Type} (k : Nat) (l x : List α) : List α := l.take k ++ x.drop k
theorem mixL_len {α : Type} (k : Nat) (l x : List α) (h : l.length = x.length) : (mixL k l x).length = x.length := by
  unfold mixL; rw [List.length_append, List.length_take, List.length_drop]; omega
theorem mixL_set {α : Type} (k : Nat) (l x : List α) (h : l.length = x.length) (hk : k < l.length) : (mixL k l x).set k l[k] = mixL (k + 1) l x := by
  unfold mixL
  rw [List.set_append_right _ _ (by rw [List.length_take]; omega), List.length_take, Nat.min_eq_left (by omega), Nat.sub_self, ← List.getElem_cons_drop (h := (by omega : k < x.length)), List.set_cons_zero, List.take_succ_eq_append_getElem hk, List.append_assoc]
  rfl
theorem mixL_zero {α : Type} (l x : List α) : mixL 0 l x = x := by simp [mixL]
theorem mixL_all {α : Type} (k : Nat) (l x : List α) (h : l.length = x.length) (hk : k = l.length) : mixL k l x = l := by
  unfold mixL; rw [List.take_of_length_le (by omega), List.drop_eq_nil_of_le (by omega), List.append_nil]
structure StR (w wr : World) (base n g1 d1 g2 d2 g3 d3 : Nat) (R : RefD) (ls : List (List UInt8)) (k : Nat) : Prop where
  fr : Fr none_ w wr
  par : wr.heap[w.heap.size]? = some (.cells #[.slice (some ⟨g1, 0, none⟩) n d1, .slice (some ⟨g2, 0, none⟩) n d2, .slice (some ⟨g3, 0, none⟩) n d3, .int .i64 R.writes, .bool R.armed, .int .i64 R.left, .bool R.crashed, .bool R.gone] 33 (0, 0))
  res : wr.heap[w.heap.size + 1]? = some (.cells #[.slice none 0 0, .slice none 0 0, .slice none 0 0, .int .i64 0, .bool false, .int .i64 0, .bool false, .bool false] 33 (0, 0))
  rows : RW wr base n g1 d1 g2 d2 g3 d3 (mixL k ls R.now) (mixL k ls R.safe) (mixL k (List.replicate n false) R.loose)
theorem RW.toB {w : World} {base g1 d1 g2 d2 g3 d3 : Nat} {R : RefD} (h : RW w base R.now.length g1 d1 g2 d2 g3 d3 R.now R.safe R.loose) (l2 : R.safe.length = R.now.length) (l3 : R.loose.length = R.now.length) (m : R.now.length ≤ 16384) :
    RDB w base #[.slice (some ⟨g1, 0, none⟩) R.now.length d1, .slice (some ⟨g2, 0, none⟩) R.now.length d2, .slice (some ⟨g3, 0, none⟩) R.now.length d3, .int .i64 R.writes, .bool R.armed, .int .i64 R.left, .bool R.crashed, .bool R.gone] R := by
  have hge := h.ge
  obtain ⟨A1, c1, e1, h1, n1, z1, _⟩ := ownsRow_read h.o1
  obtain ⟨A2, c2, e2, h2, n2, z2, _⟩ := ownsRow_read h.o2
  obtain ⟨A3, c3, e3, h3, n3, z3, _⟩ := ownsRow_read h.o3
  cases e1; cases e2; cases e3
  refine ⟨⟨_, _, _, _, _, _, rfl, ⟨h1, h2, h3⟩, ⟨n1, n2, n3, z1, z2, z3⟩, fun b hb => ?_, fun b hb => ?_, fun b hb => ?_⟩, l2, l3, m⟩
  · have := blkOf_some hb; omega
  · have := blkOf_some hb; omega
  · have := blkOf_some hb; omega
def RefD.settle (R : RefD) (ls : List (List UInt8)) : RefD := { R with now := ls, safe := ls, loose := List.replicate R.now.length false }
theorem res_dev1 {f : Func} {W : World} {b i : Nat} {v0 v1 v2 v3 v4 v5 v6 v7 : Value} {T : TypeId} {F : Nat × Nat} {tmps : Array Value} (hr : f.results = #[.cell i 33]) (h : W.heap[b]? = some (.cells #[v0, v1, v2, v3, v4, v5, v6, v7] T F)) (t6 : tmps[i]?.getD undef = ptr b) :
    (results f tmps).run Tryz.prog W = .ok (.agg #[v0, v1, v2, v3, v4, v5, v6, v7]) W := by
  have c0 : W.cell? ⟨b, 0, none⟩ = some v0 := by rw [cell_of_blk h]; rfl
  have c1 : W.cell? ⟨b, 1, none⟩ = some v1 := by rw [cell_of_blk h]; rfl
  have c2 : W.cell? ⟨b, 2, none⟩ = some v2 := by rw [cell_of_blk h]; rfl
  have c3 : W.cell? ⟨b, 3, none⟩ = some v3 := by rw [cell_of_blk h]; rfl
  have c4 : W.cell? ⟨b, 4, none⟩ = some v4 := by rw [cell_of_blk h]; rfl
  have c5 : W.cell? ⟨b, 5, none⟩ = some v5 := by rw [cell_of_blk h]; rfl
  have c6 : W.cell? ⟨b, 6, none⟩ = some v6 := by rw [cell_of_blk h]; rfl
  have c7 : W.cell? ⟨b, 7, none⟩ = some v7 := by rw [cell_of_blk h]; rfl
  simp [results, hr, go_sem, t6, c0, c1, c2, c3, c4, c5, c6, c7]
set_option maxHeartbeats 16000000 in
theorem ref_settle {w : World} {cs : Array Value} {R : RefD} (h : RDV w cs R) (hpos : 0 < R.now.length) (ls : List (List UInt8)) (hls : ls.length = R.now.length) (A : Option Addr) (nl cl : Nat) (hnl : nl = ls.length) (hA : CellsAt w A (ls.map strOf)) : Calls Tryz.prog 52 #[.agg cs, .slice A nl cl] w fun e w' => ∃ cs', e = .returned (.agg cs') ∧ RDB w' w.heap.size cs' (R.settle ls) ∧ Fr none_ w w' := by
  obtain ⟨⟨A1, c1, A2, c2, A3, c3, rfl, hrest⟩, l2, l3, m⟩ := id h
  obtain ⟨gl, ol, rfl⟩ := hA.addr (by rw [List.length_map]; omega)
  have hgl : gl < w.heap.size := by
    obtain ⟨b0, o0, hA0, hc0⟩ := hA 0 (by rw [List.length_map]; omega)
    cases hA0
    exact cell_lt hc0
  have hcl : ∀ W, (∃ S, Fr S w W ∧ ¬ S gl) → ∀ k (hk : k < ls.length), W.cell? ⟨gl, ol + k, none⟩ = some (.string ⟨ls[k].toArray⟩) := fun W ⟨S, hW, hn⟩ k hk => by
    have := hA.get k (by rw [List.length_map]; exact hk)
    rw [List.getElem_map] at this
    exact hW.cell this hn
  have HH := Lib.hid h
  have HCL := Lib.hid hcl
  have HLL := Lib.hid (And.intro l2 (And.intro l3 m))
  have HNP := Lib.hid hpos
  obtain ⟨n, hn⟩ : ∃ n, n = R.now.length := ⟨_, rfl⟩
  have HNN := Lib.hid hn
  have hnl2 : nl = n := by omega
  have HLS := Lib.hid (show ls.length = n by omega)
  have hnb : n ≤ 16384 := by omega
  subst hnl2
  clear hrest l2 l3 h hn hnl hls hA hcl hpos m
  go_enter Tryz.func52, Tryz.ntmps52
  go_upto_region 1 with fail
  obtain ⟨V, hV, hF, hbp, hbq, hsz⟩ := two_alloc w #[.slice A1 R.now.length c1, .slice A2 R.now.length c2, .slice A3 R.now.length c3, .int .i64 R.writes, .bool R.armed, .int .i64 R.left, .bool R.crashed, .bool R.gone] #[.slice none 0 0, .slice none 0 0, .slice none 0 0, .int .i64 0, .bool false, .int .i64 0, .bool false, .bool false] 33
  rw [← hV]
  have HRV := Lib.hid (HH.out.fr0 hF)
  have HB := Lib.hid (And.intro hF (And.intro hbp hbq))
  have hVs : w.heap.size + 2 ≤ V.heap.size := by omega
  clear hV hF hbp hbq hsz
  go_upto_region 2 with (first | ((with_reducible refine at_load 33 (.tmp 2) (b := w.heap.size) ?_ HB.out.2.1 Tryz.underlying33 rfl (by kernel_rfl) ?_); (focus rfl)) | ((with_reducible refine (ref_twin (R := R) HRV.out).mono ?_); rintro e w2 ⟨cs2, rfl, hO, hF2⟩; obtain ⟨g1, d1, g2, d2, g3, d3, rfl, hRW⟩ := hO.rw HNP.out; rw [← HNN.out] at hRW ⊢; have HB2 := Lib.hid (And.intro (HB.out.1.trans hF2) (And.intro (hF2.heap0 HB.out.2.1) (And.intro (hF2.heap0 HB.out.2.2) hRW))); have hs2 := hF2.size; clear hF2 hO hRW) | ((with_reducible refine at_store 33 (.tmp 2) (.tmp 7) (b := w.heap.size) (c' := #[.slice (some ⟨g1, 0, none⟩) nl d1, .slice (some ⟨g2, 0, none⟩) nl d2, .slice (some ⟨g3, 0, none⟩) nl d3, .int .i64 R.writes, .bool R.armed, .int .i64 R.left, .bool R.crashed, .bool R.gone]) ?_ ?_ HB2.out.2.1 ?_ ?_ ?_ ?_); (focus rfl); (focus rfl); (focus rfl); (focus kernel_rfl); (focus (intro u hu; simp at hu; rcases hu with rfl | rfl | rfl | rfl | rfl | rfl | rfl | rfl <;> rfl)); intro w3 hFw3 hbw3; have HB3 := Lib.hid (And.intro (HB2.out.1.own hFw3 (Nat.le_refl _)) (And.intro hbw3 (And.intro (hFw3.heap HB2.out.2.2.1 (by omega)) (HB2.out.2.2.2.fr hFw3 (fun k h1 h2 e => by omega))))); have hs3 := hFw3.size; clear hFw3 hbw3))
  have hR0 : StR w w3 V.heap.size nl g1 d1 g2 d2 g3 d3 R ls 0 := ⟨HB3.out.1, HB3.out.2.1, HB3.out.2.2.1, by rw [mixL_zero, mixL_zero, mixL_zero]; exact HB3.out.2.2.2⟩
  have HR0 := Lib.hid hR0
  clear hR0
  go_wp2_with fail
  go_loopw [5] (fun iv wr => ∃ k : Nat, k ≤ nl ∧ iv = .int .i64 (k : Int) ∧ StR w wr V.heap.size nl g1 d1 g2 d2 g3 d3 R ls k) (fun iv _ => nl - (intOf iv).toNat)
  case atStart => exact ⟨0, by omega, rfl, HR0.out⟩
  case round =>
    obtain ⟨k, hk, rfl, hR⟩ := hrel
    clear HR0
    by_cases hlt : k < nl
    · have k1 : (k : Int) < (nl : Int) := by omega
      have k2 : (0 : Int) ≤ (k : Int) := by omega
      have hkl : k < ls.length := by rw [HLS.out]; exact hlt
      obtain ⟨lk, hlk⟩ : ∃ lk, lk = ls[k] := ⟨_, rfl⟩
      have hge := hR.rows.ge
      have hneg : gl ≠ g1 ∧ gl ≠ g2 ∧ gl ≠ g3 := by omega
      have hst : ∀ W, (∃ S, Fr S wr W ∧ ¬ S w.heap.size ∧ ¬ S gl) → ((W.cell? ⟨w.heap.size, 0, none⟩ = some (.slice (some ⟨g1, 0, none⟩) nl d1) ∧ W.cell? ⟨w.heap.size, 1, none⟩ = some (.slice (some ⟨g2, 0, none⟩) nl d2) ∧ W.cell? ⟨w.heap.size, 2, none⟩ = some (.slice (some ⟨g3, 0, none⟩) nl d3)) ∧ W.cell? ⟨gl, ol + k, none⟩ = some (.string ⟨lk.toArray⟩)) := fun W ⟨S, hW, hn, hn2⟩ => by
        have h1 := hW.heap hR.par hn
        refine ⟨⟨by rw [cell_of_blk h1]; rfl, by rw [cell_of_blk h1]; rfl, by rw [cell_of_blk h1]; rfl⟩, ?_⟩
        rw [hlk]
        exact hW.cell (HCL.out wr ⟨none_, hR.fr, fun h => h⟩ k hkl) hn2
      have h12 := hR.rows.n12
      have h13 := hR.rows.n13
      have h23 := hR.rows.n23
      obtain ⟨⟨⟨y1, p1⟩, f1⟩, ⟨⟨y2, p2⟩, f2⟩, ⟨⟨y3, p3⟩, f3⟩⟩ := hR.rows.cells k hlt
      have hr1 := hR.rows.set1 k lk
      have hr2 := hr1.set2 k lk
      have hr3 := hr2.set3 k false
      obtain ⟨_, ⟨⟨z2, p2a⟩, f2a⟩, _⟩ := hr1.cells k hlt
      obtain ⟨_, _, ⟨⟨z3, p3a⟩, f3a⟩⟩ := hr2.cells k hlt
      have p2d : (wr.setCell ⟨g1, k, none⟩ (.string ⟨lk.toArray⟩)).drew.cell? ⟨g2, k, none⟩ = some z2 := p2a
      have f2d : (wr.setCell ⟨g1, k, none⟩ (.string ⟨lk.toArray⟩)).drew.frozen? ⟨g2, k, none⟩ = false := f2a
      have p3d : ((wr.setCell ⟨g1, k, none⟩ (.string ⟨lk.toArray⟩)).setCell ⟨g2, k, none⟩ (.string ⟨lk.toArray⟩)).drew.cell? ⟨g3, k, none⟩ = some z3 := p3a
      have f3d : ((wr.setCell ⟨g1, k, none⟩ (.string ⟨lk.toArray⟩)).setCell ⟨g2, k, none⟩ (.string ⟨lk.toArray⟩)).drew.frozen? ⟨g3, k, none⟩ = false := f3a
      have q1 : wr.drew.cell? ⟨g1, k, none⟩ = some y1 := p1
      have q1f : wr.drew.frozen? ⟨g1, k, none⟩ = false := f1
      have hFA := (Fr.refl (fun i => i = g1 ∨ i = g2 ∨ i = g3) wr).setCell (p := ⟨g1, k, none⟩) (fun _ => .inl rfl) (.string ⟨lk.toArray⟩)
      have hFB := hFA.setCell (p := ⟨g2, k, none⟩) (fun _ => .inr (.inl rfl)) (.string ⟨lk.toArray⟩)
      have hFC := hFB.setCell (p := ⟨g3, k, none⟩) (fun _ => .inr (.inr rfl)) (.bool false)
      have hs0 := hst wr.drew ⟨none_, (Fr.refl none_ wr).drew, fun h => h, fun h => h⟩
      have hsA := hst (wr.setCell ⟨g1, k, none⟩ (.string ⟨lk.toArray⟩)).drew ⟨_, hFA.drew, by omega, by omega⟩
      have hsB := hst ((wr.setCell ⟨g1, k, none⟩ (.string ⟨lk.toArray⟩)).setCell ⟨g2, k, none⟩ (.string ⟨lk.toArray⟩)).drew ⟨_, hFB.drew, by omega, by omega⟩
      have hsC := hst (((wr.setCell ⟨g1, k, none⟩ (.string ⟨lk.toArray⟩)).setCell ⟨g2, k, none⟩ (.string ⟨lk.toArray⟩)).setCell ⟨g3, k, none⟩ (.bool false)).drew ⟨_, hFC.drew, by omega, by omega⟩
      have hnxt : StR w (((wr.setCell ⟨g1, k, none⟩ (.string ⟨lk.toArray⟩)).setCell ⟨g2, k, none⟩ (.string ⟨lk.toArray⟩)).setCell ⟨g3, k, none⟩ (.bool false)).drew V.heap.size nl g1 d1 g2 d2 g3 d3 R ls (k + 1) := by
        refine ⟨hR.fr.trans' hFC.drew (fun i hi e => by omega), hFC.drew.heap hR.par (by omega), hFC.drew.heap hR.res (by omega), ?_⟩
        obtain ⟨hL2, hL3, _⟩ := HLL.out
        have e1 := mixL_set k ls R.now (by rw [HLS.out, HNN.out]) hkl
        have e2 := mixL_set k ls R.safe (by rw [HLS.out, HNN.out, hL2]) hkl
        have e3 := mixL_set k (List.replicate nl false) R.loose (by rw [List.length_replicate, hL3, HNN.out]) (by rw [List.length_replicate]; exact hlt)
        rw [List.getElem_replicate] at e3
        rw [← e1, ← e2, ← e3, ← hlk]
        exact hr3.fr0 (Fr.refl none_ _).drew
      have HNXT := Lib.hid hnxt
      clear hnxt hr1 hr2 hr3 hFA hFB hFC hst hR p1 p2 p3 f1 f2 f3 hlk hkl p2a f2a p3a f3a
      go_upto_region 5 with fail
      refine wp_region_held_drew (S := fun W => ((W.cell? ⟨w.heap.size, 0, none⟩ = some (.slice (some ⟨g1, 0, none⟩) nl d1) ∧ W.cell? ⟨w.heap.size, 1, none⟩ = some (.slice (some ⟨g2, 0, none⟩) nl d2) ∧ W.cell? ⟨w.heap.size, 2, none⟩ = some (.slice (some ⟨g3, 0, none⟩) nl d3)) ∧ W.cell? ⟨gl, ol + k, none⟩ = some (.string ⟨lk.toArray⟩))) (by kernel_rfl) hs0 (fun hHeld0 => ?_)
      refine wpAnyH_take (i := 0) (oi := _) (v := ?v1) rfl (by kernel_rfl) (by kernel_rfl) (by kernel_rfl) (fun _ _ _ h => h) (Or.inl ⟨by rfl, ?hy1⟩) (by assumption) ?rest1
      case hy1 => (intro w hSw; (try dsimp only at hSw); go_simp; try with_reducible rfl)
      try simp only [List.getElem_toArray, List.getElem_cons_zero, List.getElem_cons_succ, Act.put, List.setIfInBounds_toArray, List.set_cons_zero, List.set_cons_succ]
      refine wpAnyH_take (i := 1) (oi := _) (v := ?v2) rfl (by kernel_rfl) (by kernel_rfl) (by kernel_rfl) (fun _ _ _ h => h) (Or.inl ⟨by rfl, ?hy2⟩) (by assumption) ?rest2
      case hy2 => (intro w hSw; (try dsimp only at hSw); go_simp; try with_reducible rfl)
      try simp only [List.getElem_toArray, List.getElem_cons_zero, List.getElem_cons_succ, Act.put, List.setIfInBounds_toArray, List.set_cons_zero, List.set_cons_succ]
      refine wpAnyH_take (i := 2) (oi := _) (v := ?v3) rfl (by kernel_rfl) (by kernel_rfl) (by kernel_rfl) (fun _ _ _ h => h) (Or.inl ⟨by rfl, ?hy3⟩) (by assumption) ?rest3
      case hy3 => (intro w hSw; (try dsimp only at hSw); go_simp; try with_reducible rfl)
      try simp only [List.getElem_toArray, List.getElem_cons_zero, List.getElem_cons_succ, Act.put, List.setIfInBounds_toArray, List.set_cons_zero, List.set_cons_succ]
      refine wpAnyH_take (i := 3) (oi := _) (v := ?v4) rfl (by kernel_rfl) (by kernel_rfl) (by kernel_rfl) (fun _ _ _ h => h) (Or.inl ⟨by rfl, ?hy4⟩) (by assumption) ?rest4
      case hy4 => (intro w hSw; (try dsimp only at hSw); go_simp; try with_reducible rfl)
      try simp only [List.getElem_toArray, List.getElem_cons_zero, List.getElem_cons_succ, Act.put, List.setIfInBounds_toArray, List.set_cons_zero, List.set_cons_succ]
      refine wpAnyH_take (i := 4) (oi := _) (v := ?v5) rfl (by kernel_rfl) (by kernel_rfl) (by kernel_rfl) (fun _ _ _ h => h) (Or.inl ⟨by rfl, ?hy5⟩) (by assumption) ?rest5
      case hy5 => (intro w hSw; (try dsimp only at hSw); go_simp; try with_reducible rfl)
      try simp only [List.getElem_toArray, List.getElem_cons_zero, List.getElem_cons_succ, Act.put, List.setIfInBounds_toArray, List.set_cons_zero, List.set_cons_succ]
      refine wpAnyH_take (i := 5) (oi := _) (v := ?v6) rfl (by kernel_rfl) (by kernel_rfl) (by kernel_rfl) (fun _ _ _ h => h) (Or.inl ⟨by rfl, ?hy6⟩) (by assumption) ?rest6
      case hy6 => (intro w hSw; (try dsimp only at hSw); go_simp; try with_reducible rfl)
      try simp only [List.getElem_toArray, List.getElem_cons_zero, List.getElem_cons_succ, Act.put, List.setIfInBounds_toArray, List.set_cons_zero, List.set_cons_succ]
      refine wpAnyH_take (i := 6) (oi := _) (v := ?v7) rfl (by kernel_rfl) (by kernel_rfl) (by kernel_rfl) (fun _ _ _ h => h) (Or.inl ⟨by rfl, ?hy7⟩) (by assumption) ?rest7
      case hy7 => (intro w hSw; (try dsimp only at hSw); go_simp; try with_reducible rfl)
      try simp only [List.getElem_toArray, List.getElem_cons_zero, List.getElem_cons_succ, Act.put, List.setIfInBounds_toArray, List.set_cons_zero, List.set_cons_succ]
      refine wpAnyH_take (i := 7) (oi := _) (v := ?v8) rfl (by kernel_rfl) (by kernel_rfl) (by kernel_rfl) (fun _ _ _ h => h) (Or.inl ⟨by rfl, ?hy8⟩) (by assumption) ?rest8
      case hy8 => (intro w hSw; (try dsimp only at hSw); go_simp; try with_reducible rfl)
      try simp only [List.getElem_toArray, List.getElem_cons_zero, List.getElem_cons_succ, Act.put, List.setIfInBounds_toArray, List.set_cons_zero, List.set_cons_succ]
      refine wpAnyH_take (i := 8) (oi := _) (v := ?v9) rfl (by kernel_rfl) (by kernel_rfl) (by kernel_rfl) (fun _ _ _ h => h) (Or.inl ⟨by rfl, ?hy9⟩) (by assumption) ?rest9
      case hy9 => (intro w hSw; (try dsimp only at hSw); go_simp; try with_reducible rfl)
      try simp only [List.getElem_toArray, List.getElem_cons_zero, List.getElem_cons_succ, Act.put, List.setIfInBounds_toArray, List.set_cons_zero, List.set_cons_succ]
      refine wpAnyH_take (i := 9) (oi := _) (v := ?v10) rfl (by kernel_rfl) (by kernel_rfl) (by kernel_rfl) (fun _ _ _ h => h) (Or.inl ⟨by rfl, ?hy10⟩) (by assumption) ?rest10
      case hy10 => (intro w hSw; (try dsimp only at hSw); go_simp; try with_reducible rfl)
      try simp only [List.getElem_toArray, List.getElem_cons_zero, List.getElem_cons_succ, Act.put, List.setIfInBounds_toArray, List.set_cons_zero, List.set_cons_succ]
      refine wpAnyH_take (i := 10) (oi := _) (v := ?v11) rfl (by kernel_rfl) (by kernel_rfl) (by kernel_rfl) (fun _ _ _ h => h) (Or.inl ⟨by rfl, ?hy11⟩) (by assumption) ?rest11
      case hy11 => (intro w hSw; (try dsimp only at hSw); go_simp; try with_reducible rfl)
      try simp only [List.getElem_toArray, List.getElem_cons_zero, List.getElem_cons_succ, Act.put, List.setIfInBounds_toArray, List.set_cons_zero, List.set_cons_succ]
      refine wpAnyH_take (i := 11) (oi := _) (v := ?v12) rfl (by kernel_rfl) (by kernel_rfl) (by kernel_rfl) (fun _ _ _ h => h) (Or.inl ⟨by rfl, ?hy12⟩) (by assumption) ?rest12
      case hy12 => (intro w hSw; (try dsimp only at hSw); go_simp; try with_reducible rfl)
      try simp only [List.getElem_toArray, List.getElem_cons_zero, List.getElem_cons_succ, Act.put, List.setIfInBounds_toArray, List.set_cons_zero, List.set_cons_succ]
      refine wpAnyH_take (i := 12) (oi := _) (v := ?v13) rfl (by kernel_rfl) (by kernel_rfl) (by kernel_rfl) (fun _ _ _ h => h) (Or.inl ⟨by rfl, ?hy13⟩) (by assumption) ?rest13
      case hy13 => (intro w hSw; (try dsimp only at hSw); go_simp; try with_reducible rfl)
      try simp only [List.getElem_toArray, List.getElem_cons_zero, List.getElem_cons_succ, Act.put, List.setIfInBounds_toArray, List.set_cons_zero, List.set_cons_succ]
      refine wpAnyH_take (i := 13) (oi := _) (v := ?v14) rfl (by kernel_rfl) (by kernel_rfl) (by kernel_rfl) (fun _ _ _ h => h) (Or.inl ⟨by rfl, ?hy14⟩) (by assumption) ?rest14
      case hy14 => (intro w hSw; (try dsimp only at hSw); go_simp; try with_reducible rfl)
      try simp only [List.getElem_toArray, List.getElem_cons_zero, List.getElem_cons_succ, Act.put, List.setIfInBounds_toArray, List.set_cons_zero, List.set_cons_succ]
      refine wpAnyH_take (i := 14) (oi := _) (v := ?v15) rfl (by kernel_rfl) (by kernel_rfl) (by kernel_rfl) (fun _ _ _ h => h) (Or.inl ⟨by rfl, ?hy15⟩) (by assumption) ?rest15
      case hy15 => (intro w hSw; (try dsimp only at hSw); go_simp; try with_reducible rfl)
      try simp only [List.getElem_toArray, List.getElem_cons_zero, List.getElem_cons_succ, Act.put, List.setIfInBounds_toArray, List.set_cons_zero, List.set_cons_succ]
      refine wpAnyH_take (i := 15) (oi := _) (v := ?v16) rfl (by kernel_rfl) (by kernel_rfl) (by kernel_rfl) (fun _ _ _ h => h) (Or.inl ⟨by rfl, ?hy16⟩) (by assumption) ?rest16
      case hy16 => (intro w hSw; (try dsimp only at hSw); go_simp; try with_reducible rfl)
      try simp only [List.getElem_toArray, List.getElem_cons_zero, List.getElem_cons_succ, Act.put, List.setIfInBounds_toArray, List.set_cons_zero, List.set_cons_succ]
      refine wpAnyH_take (i := 16) (oi := _) (v := ?v17) rfl (by kernel_rfl) (by kernel_rfl) (by kernel_rfl) (fun _ _ _ h => h) (Or.inl ⟨by rfl, ?hy17⟩) (by assumption) ?rest17
      case hy17 => (intro w hSw; (try dsimp only at hSw); go_simp; try with_reducible rfl)
      try simp only [List.getElem_toArray, List.getElem_cons_zero, List.getElem_cons_succ, Act.put, List.setIfInBounds_toArray, List.set_cons_zero, List.set_cons_succ]
      refine wpAnyH_take (i := 17) (oi := _) (v := ?v18) rfl (by kernel_rfl) (by kernel_rfl) (by kernel_rfl) (fun _ _ _ h => h) (Or.inl ⟨by rfl, ?hy18⟩) (by assumption) ?rest18
      case hy18 => (intro w hSw; (try dsimp only at hSw); go_simp; try with_reducible rfl)
      try simp only [List.getElem_toArray, List.getElem_cons_zero, List.getElem_cons_succ, Act.put, List.setIfInBounds_toArray, List.set_cons_zero, List.set_cons_succ]
      refine wpAnyH_ready (rs := [18]) (by kernel_rfl) (by simp) ?_
      refine AllReadyH.cons (o := _) rfl (fun KK hKK => ?_) (AllReadyH.nil)
      go_simp
      refine hKK.out _ _ ?hS19 (fun hHeld19 => ?rest19)
      case hS19 => first | exact hsA | exact hsB | exact hsC
      clear hKK KK
      try simp only [List.getElem_toArray, List.getElem_cons_zero, List.getElem_cons_succ, Act.put, List.setIfInBounds_toArray, List.set_cons_zero, List.set_cons_succ]
      refine wpAnyH_take (i := 19) (oi := _) (v := ?v20) rfl (by kernel_rfl) (by kernel_rfl) (by kernel_rfl) (fun _ _ _ h => h) (Or.inl ⟨by rfl, ?hy20⟩) (by assumption) ?rest20
      case hy20 => (intro w hSw; (try dsimp only at hSw); go_simp; try with_reducible rfl)
      try simp only [List.getElem_toArray, List.getElem_cons_zero, List.getElem_cons_succ, Act.put, List.setIfInBounds_toArray, List.set_cons_zero, List.set_cons_succ]
      refine wpAnyH_ready (rs := [20]) (by kernel_rfl) (by simp) ?_
      refine AllReadyH.cons (o := _) rfl (fun KK hKK => ?_) (AllReadyH.nil)
      go_simp
      refine hKK.out _ _ ?hS21 (fun hHeld21 => ?rest21)
      case hS21 => first | exact hsA | exact hsB | exact hsC
      clear hKK KK
      try simp only [List.getElem_toArray, List.getElem_cons_zero, List.getElem_cons_succ, Act.put, List.setIfInBounds_toArray, List.set_cons_zero, List.set_cons_succ]
      refine wpAnyH_take (i := 21) (oi := _) (v := ?v22) rfl (by kernel_rfl) (by kernel_rfl) (by kernel_rfl) (fun _ _ _ h => h) (Or.inl ⟨by rfl, ?hy22⟩) (by assumption) ?rest22
      case hy22 => (intro w hSw; (try dsimp only at hSw); go_simp; try with_reducible rfl)
      try simp only [List.getElem_toArray, List.getElem_cons_zero, List.getElem_cons_succ, Act.put, List.setIfInBounds_toArray, List.set_cons_zero, List.set_cons_succ]
      refine wpAnyH_ready (rs := [22]) (by kernel_rfl) (by simp) ?_
      refine AllReadyH.cons (o := _) rfl (fun KK hKK => ?_) (AllReadyH.nil)
      go_simp
      refine hKK.out _ _ ?hS23 (fun hHeld23 => ?rest23)
      case hS23 => first | exact hsA | exact hsB | exact hsC
      clear hKK KK
      try simp only [List.getElem_toArray, List.getElem_cons_zero, List.getElem_cons_succ, Act.put, List.setIfInBounds_toArray, List.set_cons_zero, List.set_cons_succ]
      refine wpAnyH_done (by kernel_rfl) ?_ _
      go_wp2_with fail
      go_roundw
      case rel => exact ⟨k + 1, by omega, by go_num, HNXT.out⟩
      case measure => simp [intOf]; omega
    · have k1 : ¬ (k : Int) < (nl : Int) := by omega
      have hkn : k = nl := by omega
      have hpar := hR.par
      have hres := hR.res
      have HR := Lib.hid hR
      clear hR
      go_wp2_with (first | ((with_reducible refine at_load 33 (.tmp 2) (b := w.heap.size) ?_ hpar Tryz.underlying33 rfl (by kernel_rfl) ?_); (focus rfl)) | ((with_reducible refine at_store 33 (.tmp 4) (.tmp 34) (b := (w.heap.size + 1)) (c' := #[.slice (some ⟨g1, 0, none⟩) nl d1, .slice (some ⟨g2, 0, none⟩) nl d2, .slice (some ⟨g3, 0, none⟩) nl d3, .int .i64 R.writes, .bool R.armed, .int .i64 R.left, .bool R.crashed, .bool R.gone]) ?_ ?_ hres ?_ ?_ ?_ ?_); (focus rfl); (focus rfl); (focus rfl); (focus kernel_rfl); (focus (intro u hu; simp at hu; rcases hu with rfl | rfl | rfl | rfl | rfl | rfl | rfl | rfl <;> rfl)); intro w9 hFw9 hbw9; have HZ := Lib.hid (And.intro hFw9 hbw9); clear hFw9 hbw9))
      refine bodyPost_ret (res_dev1 (b := w.heap.size + 1) Tryz.results52 HZ.out.2 rfl) rfl ?_
      have hge := HR.out.rows.ge
      have hO9 := HR.out.rows.fr HZ.out.1 (fun i h1 h2 e => by omega)
      obtain ⟨hL2, hL3, hmo⟩ := HLL.out
      rw [mixL_all k ls R.now (by rw [HLS.out, HNN.out]) (by rw [HLS.out]; exact hkn), mixL_all k ls R.safe (by rw [HLS.out, HNN.out, hL2]) (by rw [HLS.out]; exact hkn), mixL_all k (List.replicate nl false) R.loose (by rw [List.length_replicate, hL3, HNN.out]) (by rw [List.length_replicate]; exact hkn)] at hO9
      refine ⟨_, rfl, ?_, HR.out.fr.own HZ.out.1 (by omega)⟩
      have hl1 : (R.settle ls).now.length = nl := HLS.out
      have hV := RW.toB (R := R.settle ls) (base := V.heap.size) (g1 := g1) (d1 := d1) (g2 := g2) (d2 := d2) (g3 := g3) (d3 := d3) (w := w9) (by rw [hl1]; unfold RefD.settle; rw [← HNN.out]; exact hO9) rfl (by unfold RefD.settle; rw [List.length_replicate, ← HNN.out]; exact HLS.out.symm) (by rw [hl1, HNN.out]; exact hmo)
      rw [hl1] at hV
      exact hV.le (by omega)
end Go.Proofs.YtffolfemcllfkaaGreatDoor
namespace Go.Proofs.YtffolfemcllfkaaGreatDoor
open Go.RowKit
set_option linter.unusedVariables false
set_option linter.unusedSimpArgs false
set_option maxRecDepth 100000

/-! The document's device, walked: New. -/
structure NwR (w wr : World) (q k1 k2 k3 : Nat) (v1 v2 v3 : Value) : Prop where
  fr : Fr none_ w wr
  hq : q = w.heap.size + 1
  blk : wr.heap[q]? = some (.cells #[v1, v2, v3, .int .i64 0, .bool false, .int .i64 0, .bool false, .bool false] 33 (0, 0))
  res : wr.heap[w.heap.size]? = some (.cells #[.slice none 0 0, .slice none 0 0, .slice none 0 0, .int .i64 0, .bool false, .int .i64 0, .bool false, .bool false] 33 (0, 0))
  o1 : wr.ownsRow (q + 1) 9 1 v1 k1 (List.replicate k1 (strOf zeroB : Value))
  o2 : wr.ownsRow (q + 1) 9 1 v2 k2 (List.replicate k2 (strOf zeroB : Value))
  o3 : wr.ownsRow (q + 1) 4 1 v3 k3 (List.replicate k3 (.bool false : Value))
  n12 : ∀ i, v1.ownBlock = some i → v2.ownBlock ≠ some i
  n13 : ∀ i, v1.ownBlock = some i → v3.ownBlock ≠ some i
  n23 : ∀ i, v2.ownBlock = some i → v3.ownBlock ≠ some i
theorem NwR.fr0 {w wr x : World} {q k1 k2 k3 : Nat} {v1 v2 v3 : Value} (h : NwR w wr q k1 k2 k3 v1 v2 v3) (hF : Fr none_ wr x) : NwR w x q k1 k2 k3 v1 v2 v3 :=
  ⟨h.fr.trans hF, h.hq, hF.heap0 h.blk, hF.heap0 h.res, ownsRow_fr0 h.o1 hF, ownsRow_fr0 h.o2 hF, ownsRow_fr0 h.o3 hF, h.n12, h.n13, h.n23⟩
theorem NwR.app1 {w x y : World} {q k1 k2 k3 : Nat} {v1 v2 v3 : Value} (h : NwR w x q k1 k2 k3 v1 v2 v3) {g cap : Nat} (ho : y.ownsRow (q + 1) 9 1 (.slice (some ⟨g, 0, none⟩) (k1 + 1) cap) (k1 + 1) ((List.replicate k1 (strOf zeroB : Value)) ++ [strOf zeroB])) (hg : x.grownBy y v1.ownBlock) (hat : v1.ownBlock = some g ∨ g = x.heap.size) :
    NwR w (y.setCell ⟨q, 0, none⟩ (.slice (some ⟨g, 0, none⟩) (k1 + 1) cap)) q (k1 + 1) k2 k3 (.slice (some ⟨g, 0, none⟩) (k1 + 1) cap) v2 v3 ∧ Fr none_ w (y.setCell ⟨q, 0, none⟩ (.slice (some ⟨g, 0, none⟩) (k1 + 1) cap)) := by
  have hgr := Fr.of_grown hg
  have hge : ∀ i, v1.ownBlock = some i → q + 1 ≤ i ∧ i < x.heap.size := fun i hi => ownsRow_lt h.o1 hi
  have hq := h.hq
  have hF2 : Fr (fun i => i = q) y (y.setCell ⟨q, 0, none⟩ (.slice (some ⟨g, 0, none⟩) (k1 + 1) cap)) := Fr.set y q 0 _
  have hgb : q + 1 ≤ g ∧ g < y.heap.size := ownsRow_lt ho rfl
  have hFr : Fr none_ w (y.setCell ⟨q, 0, none⟩ (.slice (some ⟨g, 0, none⟩) (k1 + 1) cap)) := (h.fr.trans' hgr (fun k hk e => by have := hge k e; omega)).own hF2 (by omega)
  have hb := hgr.heap h.blk (fun e => by have := hge q e; omega)
  have hr := hgr.heap h.res (fun e => by have := hge _ e; omega)
  have l1 : ∀ i, v1.ownBlock = some i → q + 1 ≤ i ∧ i < x.heap.size := fun i hi => ownsRow_lt h.o1 hi
  have l2 : ∀ i, v2.ownBlock = some i → q + 1 ≤ i ∧ i < x.heap.size := fun i hi => ownsRow_lt h.o2 hi
  have l3 : ∀ i, v3.ownBlock = some i → q + 1 ≤ i ∧ i < x.heap.size := fun i hi => ownsRow_lt h.o3 hi
  refine ⟨⟨hFr, hq, heap_setCell_same hb (o := 0) _, hF2.heap hr (by omega), ?_, ?_, ?_, ?_, ?_, ?_⟩, hFr⟩
  · rw [← List.replicate_append_replicate (n := k1) (m := 1)]
    exact ownsRow_fr ho hF2 (fun k hk e => by have := ownsRow_lt ho hk; omega)
  · exact ownsRow_fr (ownsRow_fr h.o2 hgr (fun k hk e => h.n12 k e hk)) hF2 (fun k hk e => by have := l2 k hk; omega)
  · exact ownsRow_fr (ownsRow_fr h.o3 hgr (fun k hk e => h.n13 k e hk)) hF2 (fun k hk e => by have := l3 k hk; omega)
  · intro i hi h2
    have hi : g = i := by simpa [Value.ownBlock] using hi
    subst hi
    rcases hat with e | e
    · exact h.n12 g e h2
    · have := l2 g h2; omega
  · intro i hi h2
    have hi : g = i := by simpa [Value.ownBlock] using hi
    subst hi
    rcases hat with e | e
    · exact h.n13 g e h2
    · have := l3 g h2; omega
  · exact h.n23
theorem NwR.app2 {w x y : World} {q k1 k2 k3 : Nat} {v1 v2 v3 : Value} (h : NwR w x q k1 k2 k3 v1 v2 v3) {g cap : Nat} (ho : y.ownsRow (q + 1) 9 1 (.slice (some ⟨g, 0, none⟩) (k2 + 1) cap) (k2 + 1) ((List.replicate k2 (strOf zeroB : Value)) ++ [strOf zeroB])) (hg : x.grownBy y v2.ownBlock) (hat : v2.ownBlock = some g ∨ g = x.heap.size) :
    NwR w (y.setCell ⟨q, 1, none⟩ (.slice (some ⟨g, 0, none⟩) (k2 + 1) cap)) q k1 (k2 + 1) k3 v1 (.slice (some ⟨g, 0, none⟩) (k2 + 1) cap) v3 ∧ Fr none_ w (y.setCell ⟨q, 1, none⟩ (.slice (some ⟨g, 0, none⟩) (k2 + 1) cap)) := by
  have hgr := Fr.of_grown hg
  have hge : ∀ i, v2.ownBlock = some i → q + 1 ≤ i ∧ i < x.heap.size := fun i hi => ownsRow_lt h.o2 hi
  have hq := h.hq
  have hF2 : Fr (fun i => i = q) y (y.setCell ⟨q, 1, none⟩ (.slice (some ⟨g, 0, none⟩) (k2 + 1) cap)) := Fr.set y q 1 _
  have hgb : q + 1 ≤ g ∧ g < y.heap.size := ownsRow_lt ho rfl
  have hFr : Fr none_ w (y.setCell ⟨q, 1, none⟩ (.slice (some ⟨g, 0, none⟩) (k2 + 1) cap)) := (h.fr.trans' hgr (fun k hk e => by have := hge k e; omega)).own hF2 (by omega)
  have hb := hgr.heap h.blk (fun e => by have := hge q e; omega)
  have hr := hgr.heap h.res (fun e => by have := hge _ e; omega)
  have l1 : ∀ i, v1.ownBlock = some i → q + 1 ≤ i ∧ i < x.heap.size := fun i hi => ownsRow_lt h.o1 hi
  have l2 : ∀ i, v2.ownBlock = some i → q + 1 ≤ i ∧ i < x.heap.size := fun i hi => ownsRow_lt h.o2 hi
  have l3 : ∀ i, v3.ownBlock = some i → q + 1 ≤ i ∧ i < x.heap.size := fun i hi => ownsRow_lt h.o3 hi
  refine ⟨⟨hFr, hq, heap_setCell_same hb (o := 1) _, hF2.heap hr (by omega), ?_, ?_, ?_, ?_, ?_, ?_⟩, hFr⟩
  · exact ownsRow_fr (ownsRow_fr h.o1 hgr (fun k hk e => h.n12 k hk e)) hF2 (fun k hk e => by have := l1 k hk; omega)
  · rw [← List.replicate_append_replicate (n := k2) (m := 1)]
    exact ownsRow_fr ho hF2 (fun k hk e => by have := ownsRow_lt ho hk; omega)
  · exact ownsRow_fr (ownsRow_fr h.o3 hgr (fun k hk e => h.n23 k e hk)) hF2 (fun k hk e => by have := l3 k hk; omega)
  · intro i h2 hi
    have hi : g = i := by simpa [Value.ownBlock] using hi
    subst hi
    rcases hat with e | e
    · exact h.n12 g h2 e
    · have := l1 g h2; omega
  · exact h.n13
  · intro i hi h2
    have hi : g = i := by simpa [Value.ownBlock] using hi
    subst hi
    rcases hat with e | e
    · exact h.n23 g e h2
    · have := l3 g h2; omega
theorem NwR.app3 {w x y : World} {q k1 k2 k3 : Nat} {v1 v2 v3 : Value} (h : NwR w x q k1 k2 k3 v1 v2 v3) {g cap : Nat} (ho : y.ownsRow (q + 1) 4 1 (.slice (some ⟨g, 0, none⟩) (k3 + 1) cap) (k3 + 1) ((List.replicate k3 (.bool false : Value)) ++ [.bool false])) (hg : x.grownBy y v3.ownBlock) (hat : v3.ownBlock = some g ∨ g = x.heap.size) :
    NwR w (y.setCell ⟨q, 2, none⟩ (.slice (some ⟨g, 0, none⟩) (k3 + 1) cap)) q k1 k2 (k3 + 1) v1 v2 (.slice (some ⟨g, 0, none⟩) (k3 + 1) cap) ∧ Fr none_ w (y.setCell ⟨q, 2, none⟩ (.slice (some ⟨g, 0, none⟩) (k3 + 1) cap)) := by
  have hgr := Fr.of_grown hg
  have hge : ∀ i, v3.ownBlock = some i → q + 1 ≤ i ∧ i < x.heap.size := fun i hi => ownsRow_lt h.o3 hi
  have hq := h.hq
  have hF2 : Fr (fun i => i = q) y (y.setCell ⟨q, 2, none⟩ (.slice (some ⟨g, 0, none⟩) (k3 + 1) cap)) := Fr.set y q 2 _
  have hgb : q + 1 ≤ g ∧ g < y.heap.size := ownsRow_lt ho rfl
  have hFr : Fr none_ w (y.setCell ⟨q, 2, none⟩ (.slice (some ⟨g, 0, none⟩) (k3 + 1) cap)) := (h.fr.trans' hgr (fun k hk e => by have := hge k e; omega)).own hF2 (by omega)
  have hb := hgr.heap h.blk (fun e => by have := hge q e; omega)
  have hr := hgr.heap h.res (fun e => by have := hge _ e; omega)
  have l1 : ∀ i, v1.ownBlock = some i → q + 1 ≤ i ∧ i < x.heap.size := fun i hi => ownsRow_lt h.o1 hi
  have l2 : ∀ i, v2.ownBlock = some i → q + 1 ≤ i ∧ i < x.heap.size := fun i hi => ownsRow_lt h.o2 hi
  have l3 : ∀ i, v3.ownBlock = some i → q + 1 ≤ i ∧ i < x.heap.size := fun i hi => ownsRow_lt h.o3 hi
  refine ⟨⟨hFr, hq, heap_setCell_same hb (o := 2) _, hF2.heap hr (by omega), ?_, ?_, ?_, ?_, ?_, ?_⟩, hFr⟩
  · exact ownsRow_fr (ownsRow_fr h.o1 hgr (fun k hk e => h.n13 k hk e)) hF2 (fun k hk e => by have := l1 k hk; omega)
  · exact ownsRow_fr (ownsRow_fr h.o2 hgr (fun k hk e => h.n23 k hk e)) hF2 (fun k hk e => by have := l2 k hk; omega)
  · rw [← List.replicate_append_replicate (n := k3) (m := 1)]
    exact ownsRow_fr ho hF2 (fun k hk e => by have := ownsRow_lt ho hk; omega)
  · exact h.n12
  · intro i h2 hi
    have hi : g = i := by simpa [Value.ownBlock] using hi
    subst hi
    rcases hat with e | e
    · exact h.n13 g h2 e
    · have := l1 g h2; omega
  · intro i h2 hi
    have hi : g = i := by simpa [Value.ownBlock] using hi
    subst hi
    rcases hat with e | e
    · exact h.n23 g h2 e
    · have := l2 g h2; omega
theorem own_types_ne {w : World} {b1 b2 n1 n2 s1 s2 : Nat} {e1 e2 : TypeId} {v1 v2 : Value} {xs1 xs2 : List Value} (h1 : w.ownsRow b1 e1 s1 v1 n1 xs1) (h2 : w.ownsRow b2 e2 s2 v2 n2 xs2) (hne : e1 ≠ e2) : ∀ i, v1.ownBlock = some i → v2.ownBlock ≠ some i := by
  intro i hi hj
  rcases h1.2 with ⟨rfl, _⟩ | ⟨g, cap, cur, rfl, _, hg, _⟩
  · cases hi
  · simp [Value.ownBlock] at hi
    subst hi
    rcases h2.2 with ⟨rfl, _⟩ | ⟨g2, cap2, cur2, rfl, _, hg2, _⟩
    · cases hj
    · simp [Value.ownBlock] at hj
      subst hj
      rw [hg] at hg2
      cases hg2
      exact hne rfl
theorem NwR.app3' {w x y : World} {q k1 k2 k3 : Nat} {v1 v2 v3 v' : Value} (h : NwR w x q k1 k2 k3 v1 v2 v3) (ho : y.ownsRow (q + 1) 4 1 v' (k3 + 1) (List.replicate k3 (.bool false : Value) ++ [.bool false])) (hg : x.grownBy y v3.ownBlock) :
    NwR w (y.setCell ⟨q, 2, none⟩ v') q k1 k2 (k3 + 1) v1 v2 v' := by
  have hgr := Fr.of_grown hg
  have hge : ∀ i, v3.ownBlock = some i → q + 1 ≤ i ∧ i < x.heap.size := fun i hi => ownsRow_lt h.o3 hi
  have hq := h.hq
  have hF2 : Fr (fun i => i = q) y (y.setCell ⟨q, 2, none⟩ v') := Fr.set y q 2 _
  have hFr : Fr none_ w (y.setCell ⟨q, 2, none⟩ v') := (h.fr.trans' hgr (fun k hk e => by have := hge k e; omega)).own hF2 (by omega)
  have hb := hgr.heap h.blk (fun e => by have := hge q e; omega)
  have hr := hgr.heap h.res (fun e => by have := hge _ e; omega)
  have l1 : ∀ i, v1.ownBlock = some i → q + 1 ≤ i ∧ i < x.heap.size := fun i hi => ownsRow_lt h.o1 hi
  have l2 : ∀ i, v2.ownBlock = some i → q + 1 ≤ i ∧ i < x.heap.size := fun i hi => ownsRow_lt h.o2 hi
  have o1 := ownsRow_fr (ownsRow_fr h.o1 hgr (fun k hk e => h.n13 k hk e)) hF2 (fun k hk e => by have := l1 k hk; omega)
  have o2 := ownsRow_fr (ownsRow_fr h.o2 hgr (fun k hk e => h.n23 k hk e)) hF2 (fun k hk e => by have := l2 k hk; omega)
  have o3 : (y.setCell ⟨q, 2, none⟩ v').ownsRow (q + 1) 4 1 v' (k3 + 1) (List.replicate (k3 + 1) (.bool false : Value)) := by
    rw [← List.replicate_append_replicate (n := k3) (m := 1)]
    exact ownsRow_fr ho hF2 (fun k hk e => by have := ownsRow_lt ho hk; omega)
  exact ⟨hFr, hq, heap_setCell_same hb (o := 2) _, hF2.heap hr (by omega), o1, o2, o3, h.n12, own_types_ne o1 o3 (by decide), own_types_ne o2 o3 (by decide)⟩
end Go.Proofs.YtffolfemcllfkaaGreatDoor
namespace Go.Proofs.YtffolfemcllfkaaGreatDoor
open Go.RowKit
set_option linter.unusedVariables false
set_option linter.unusedSimpArgs false
set_option maxRecDepth 100000

/-! The document's device, walked: New. -/
theorem own_oneCell {w : World} {base : Nat} {e : TypeId} {size n : Nat} {v : Value} {xs : List Value} (h : w.ownsRow base e size v n xs) : v.oneCell' = true := by
  obtain ⟨A, c, rfl, _⟩ := ownsRow_read h; rfl
theorem res_dev {f : Func} {W : World} {b i j : Nat} {v0 v1 v2 v3 v4 v5 v6 v7 er : Value} {T : TypeId} {F : Nat × Nat} {tmps : Array Value} (hr : f.results = #[.cell i 33, .tmp j]) (h : W.heap[b]? = some (.cells #[v0, v1, v2, v3, v4, v5, v6, v7] T F)) (t6 : tmps[i]?.getD undef = ptr b) (t7 : tmps[j]?.getD undef = er) :
    (results f tmps).run Tryz.prog W = .ok (.tuple #[.agg #[v0, v1, v2, v3, v4, v5, v6, v7], er]) W := by
  have c0 : W.cell? ⟨b, 0, none⟩ = some v0 := by rw [cell_of_blk h]; rfl
  have c1 : W.cell? ⟨b, 1, none⟩ = some v1 := by rw [cell_of_blk h]; rfl
  have c2 : W.cell? ⟨b, 2, none⟩ = some v2 := by rw [cell_of_blk h]; rfl
  have c3 : W.cell? ⟨b, 3, none⟩ = some v3 := by rw [cell_of_blk h]; rfl
  have c4 : W.cell? ⟨b, 4, none⟩ = some v4 := by rw [cell_of_blk h]; rfl
  have c5 : W.cell? ⟨b, 5, none⟩ = some v5 := by rw [cell_of_blk h]; rfl
  have c6 : W.cell? ⟨b, 6, none⟩ = some v6 := by rw [cell_of_blk h]; rfl
  have c7 : W.cell? ⟨b, 7, none⟩ = some v7 := by rw [cell_of_blk h]; rfl
  simp [results, hr, go_sem, t6, t7, c0, c1, c2, c3, c4, c5, c6, c7]
theorem NwR.qsz {w x : World} {q k1 k2 k3 : Nat} {v1 v2 v3 : Value} (h : NwR w x q k1 k2 k3 v1 v2 v3) : q + 1 ≤ x.heap.size := by
  have := blk_lt h.blk; omega
theorem NwR.cell1 {w x : World} {q k1 k2 k3 : Nat} {v1 v2 v3 : Value} (h : NwR w x q k1 k2 k3 v1 v2 v3) : x.cell? ⟨q, 0, none⟩ = some v1 := by rw [cell_of_blk h.blk]; rfl
theorem NwR.cellg1 {w x y : World} {q k1 k2 k3 : Nat} {v1 v2 v3 : Value} (h : NwR w x q k1 k2 k3 v1 v2 v3) (hg : x.grownBy y v1.ownBlock) : y.cell? ⟨q, 0, none⟩ = some v1 ∧ y.frozen? ⟨q, 0, none⟩ = false := by
  have hb := (Fr.of_grown hg).heap h.blk (fun e => by have := ownsRow_lt h.o1 e; omega)
  exact ⟨by rw [cell_of_blk hb]; rfl, frozen_of_blk hb 0⟩
theorem NwR.cell2 {w x : World} {q k1 k2 k3 : Nat} {v1 v2 v3 : Value} (h : NwR w x q k1 k2 k3 v1 v2 v3) : x.cell? ⟨q, 1, none⟩ = some v2 := by rw [cell_of_blk h.blk]; rfl
theorem NwR.cellg2 {w x y : World} {q k1 k2 k3 : Nat} {v1 v2 v3 : Value} (h : NwR w x q k1 k2 k3 v1 v2 v3) (hg : x.grownBy y v2.ownBlock) : y.cell? ⟨q, 1, none⟩ = some v2 ∧ y.frozen? ⟨q, 1, none⟩ = false := by
  have hb := (Fr.of_grown hg).heap h.blk (fun e => by have := ownsRow_lt h.o2 e; omega)
  exact ⟨by rw [cell_of_blk hb]; rfl, frozen_of_blk hb 1⟩
theorem NwR.cell3 {w x : World} {q k1 k2 k3 : Nat} {v1 v2 v3 : Value} (h : NwR w x q k1 k2 k3 v1 v2 v3) : x.cell? ⟨q, 2, none⟩ = some v3 := by rw [cell_of_blk h.blk]; rfl
theorem NwR.cellg3 {w x y : World} {q k1 k2 k3 : Nat} {v1 v2 v3 : Value} (h : NwR w x q k1 k2 k3 v1 v2 v3) (hg : x.grownBy y v3.ownBlock) : y.cell? ⟨q, 2, none⟩ = some v3 ∧ y.frozen? ⟨q, 2, none⟩ = false := by
  have hb := (Fr.of_grown hg).heap h.blk (fun e => by have := ownsRow_lt h.o3 e; omega)
  exact ⟨by rw [cell_of_blk hb]; rfl, frozen_of_blk hb 2⟩
set_option maxHeartbeats 8000000 in
theorem ref_newB {n : Nat} (hn : 1 ≤ n ∧ n ≤ 16384) (w : World) : Calls Tryz.prog 7 #[.int .i64 (n : Int)] w fun e w' => ∃ cs, e = .returned (.tuple #[.agg cs, .int .i64 0]) ∧ RDB w' w.heap.size cs (newRef n) ∧ Fr none_ w w' := by
  have hbl : ∀ W, Calls Tryz.prog 47 #[.string ⟨#[]⟩] W fun e w' => e = .returned (.string ⟨zeroB.toArray⟩) ∧ Fr none_ W w' := fun W => ref_blank [] (by decide) W
  have HBL := Lib.hid hbl
  have n1 : ¬ (n : Int) < 1 := by omega
  have n2 : ¬ (16384 : Int) < (n : Int) := by omega
  have n3 : ¬ 16384 < n := by omega
  obtain ⟨i0, hi0, hz0, hz1, hz2⟩ := info_parts info_str
  obtain ⟨i1, hi1, hy0, hy1, hy2⟩ := info_parts info_boo
  clear hbl
  go_enter Tryz.func7, Tryz.ntmps7
  go_wp2_with fail
  obtain ⟨q, hq⟩ : ∃ q, q = w.heap.size + 1 := ⟨_, rfl⟩
  have hN0 : NwR w ((w.alloc (.cells #[.slice none 0 0, .slice none 0 0, .slice none 0 0, .int .i64 0, .bool false, .int .i64 0, .bool false, .bool false] 33)).alloc (.cells #[.slice none 0 0, .slice none 0 0, .slice none 0 0, .int .i64 0, .bool false, .int .i64 0, .bool false, .bool false] 33)) q 0 0 0 (.slice none 0 0) (.slice none 0 0) (.slice none 0 0) := by
    refine ⟨((Fr.refl _ _).alloc _).alloc _, hq, ?_, ?_, World.ownsRow_nil _ _ _ _, World.ownsRow_nil _ _ _ _, World.ownsRow_nil _ _ _ _, (fun i h => by cases h), (fun i h => by cases h), (fun i h => by cases h)⟩
    · have h2 := heap_alloc_new (w.alloc (.cells #[.slice none 0 0, .slice none 0 0, .slice none 0 0, .int .i64 0, .bool false, .int .i64 0, .bool false, .bool false] 33)) (.cells #[.slice none 0 0, .slice none 0 0, .slice none 0 0, .int .i64 0, .bool false, .int .i64 0, .bool false, .bool false] 33)
      rw [World.size_alloc, ← hq] at h2
      exact h2
    · exact ((Fr.refl none_ (w.alloc (.cells #[.slice none 0 0, .slice none 0 0, .slice none 0 0, .int .i64 0, .bool false, .int .i64 0, .bool false, .bool false] 33))).alloc _).heap0 (heap_alloc_new _ _)
  have HN0 := Lib.hid hN0
  rw [← hq]
  have HQ := Lib.hid hq
  clear hN0 hq
  go_loopw [5] (fun i wr => ∃ k : Nat, ∃ v1 v2 v3 : Value, k ≤ n ∧ i = .int .i64 (k : Int) ∧ NwR w wr q k k k v1 v2 v3) (fun i _ => n - (intOf i).toNat)
  case atStart => exact ⟨0, _, _, _, by omega, rfl, HN0.out⟩
  case round =>
    obtain ⟨k, v1, v2, v3, hk, rfl, hR⟩ := hrel
    clear HN0
    have HR := Lib.hid hR
    by_cases hlt : k < n
    · have k1 : (k : Int) < (n : Int) := by omega
      have c0 := hR.cell1
      have d0 : wr.drew.cell? ⟨q, 0, none⟩ = some v1 := c0
      clear hR
      go_upto_region 7 with fail
      go_cut [] (fun wx => ∃ g cap, NwR w wx q (k + 1) k k (.slice (some ⟨g, 0, none⟩) (k + 1) cap) v2 v3)
      case first =>
        refine wp_region_held_drew (S := fun _ => True) (by kernel_rfl) trivial (fun hHeld0 => ?_)
        refine wpAnyH_take (i := 0) (oi := _) (v := ?va1) rfl (by kernel_rfl) (by kernel_rfl) (by kernel_rfl) (fun _ _ _ h => h) (Or.inl ⟨by rfl, ?hya1⟩) trivial ?resta1
        case hya1 => (intro w hSw; (try dsimp only at hSw); go_simp; try with_reducible rfl)
        try simp only [List.getElem_toArray, List.getElem_cons_zero, List.getElem_cons_succ, Act.put, List.setIfInBounds_toArray, List.set_cons_zero, List.set_cons_succ]
        refine wpAnyH_ready (rs := [1, 2]) (by kernel_rfl) (by simp) ?_
        refine AllReadyH.cons (o := _) rfl (fun KK hKK => ?_) (AllReadyH.cons (o := _) rfl (fun KK hKK => ?_) (AllReadyH.nil))
        · go_simp
          refine hKK.out _ _ ?hSa2 (fun hHelda2 => ?resta2)
          case hSa2 => exact trivial
          clear hKK KK
          try simp only [List.getElem_toArray, List.getElem_cons_zero, List.getElem_cons_succ, Act.put, List.setIfInBounds_toArray, List.set_cons_zero, List.set_cons_succ]
          refine wpAnyH_ready (rs := [2]) (by kernel_rfl) (by simp) ?_
          refine AllReadyH.cons (o := _) rfl (fun KK hKK => ?_) (AllReadyH.nil)
          go_simp
          (go_at_call 47; (with_reducible refine (HBL.out _).mono ?_); rintro e x1 ⟨rfl, hY1⟩; have hX1 := (Fr.refl none_ wr).drew.trans hY1; have hX2 := hX1.alloc (.cells #[.string ⟨zeroB.toArray⟩] 9); have hn1 := HR.out.fr0 hX1; have hn2 := HR.out.fr0 hX2; have c1 := hn1.cell1; have c2 := hn2.cell1; have HN2 := Lib.hid hn2; have hXs : x1.heap.size < (x1.alloc (.cells #[.string ⟨zeroB.toArray⟩] 9)).heap.size := (by rw [World.size_alloc]; omega); have hXq : q + 1 ≤ x1.heap.size := hn1.qsz; have hb1 := heap_alloc_new x1 (.cells #[.string ⟨zeroB.toArray⟩] 9); have HAT := Lib.hid hb1; clear hn1 hn2 hb1)
          go_wp2_with fail
          refine hKK.out _ _ ?hSa3 (fun hHelda3 => ?resta3)
          case hSa3 => exact trivial
          clear hKK KK
          try simp only [List.getElem_toArray, List.getElem_cons_zero, List.getElem_cons_succ, Act.put, List.setIfInBounds_toArray, List.set_cons_zero, List.set_cons_succ]
          refine wpAnyH_ready (rs := [3]) (by kernel_rfl) (by simp) ?_
          refine AllReadyH.cons (o := _) rfl (fun KK hKK => ?_) (AllReadyH.nil)
          go_simp
          refine hKK.out _ _ ?hSa4 (fun hHelda4 => ?resta4)
          case hSa4 => exact trivial
          clear hKK KK
          try simp only [List.getElem_toArray, List.getElem_cons_zero, List.getElem_cons_succ, Act.put, List.setIfInBounds_toArray, List.set_cons_zero, List.set_cons_succ]
          refine wpAnyH_ready (rs := [4]) (by kernel_rfl) (by simp) ?_
          refine AllReadyH.cons (o := _) rfl (fun KK hKK => ?_) (AllReadyH.nil)
          (refine step_append_lies _ (by rfl) _ _ _ (by rfl) (q + 1) 9 i0 _ 1 16 Tryz.underlying30 hi0 hz0 hz1 hz2 rfl (by omega) v1 k (List.replicate k (strOf zeroB)) (by rfl) HN2.out.o1 ⟨x1.heap.size, 0, none⟩ 1 1 [strOf zeroB] (by rfl) (by rfl) (World.news_of_block HAT.out) (by intro u hu; simp at hu; subst hu; rfl) (by omega) (by unfold maxLen; omega) (by omega) (by omega) _ rfl ?_; intro ga capa ya hy1 hy2 hy3 hy4; have hcy := HN2.out.cellg1 hy2; have hfy1 := hcy.1; have hfy2 := hcy.2; have HYa := Lib.hid (HN2.out.app1 hy1 hy2 hy3))
          refine hKK.out _ _ ?hSa5 (fun hHelda5 => ?resta5)
          case hSa5 => exact trivial
          clear hKK KK
          try simp only [List.getElem_toArray, List.getElem_cons_zero, List.getElem_cons_succ, Act.put, List.setIfInBounds_toArray, List.set_cons_zero, List.set_cons_succ]
          refine wpAnyH_take (i := 5) (oi := _) (v := ?va6) rfl (by kernel_rfl) (by kernel_rfl) (by kernel_rfl) (fun _ _ _ h => h) (Or.inl ⟨by rfl, ?hya6⟩) trivial ?resta6
          case hya6 => (intro w hSw; (try dsimp only at hSw); go_simp; try with_reducible rfl)
          try simp only [List.getElem_toArray, List.getElem_cons_zero, List.getElem_cons_succ, Act.put, List.setIfInBounds_toArray, List.set_cons_zero, List.set_cons_succ]
          refine wpAnyH_ready (rs := [6]) (by kernel_rfl) (by simp) ?_
          refine AllReadyH.cons (o := _) rfl (fun KK hKK => ?_) (AllReadyH.nil)
          go_simp
          refine hKK.out _ _ ?hSa7 (fun hHelda7 => ?resta7)
          case hSa7 => exact trivial
          clear hKK KK
          try simp only [List.getElem_toArray, List.getElem_cons_zero, List.getElem_cons_succ, Act.put, List.setIfInBounds_toArray, List.set_cons_zero, List.set_cons_succ]
          refine wpAnyH_done (by kernel_rfl) ?_ _
          go_wp2_with fail
          go_meet
          exact ⟨_, _, HYa.out.1⟩
        · go_simp
          (go_at_call 47; (with_reducible refine (HBL.out _).mono ?_); rintro e x1 ⟨rfl, hY1⟩; have hX1 := (Fr.refl none_ wr).drew.trans hY1; have hX2 := hX1.alloc (.cells #[.string ⟨zeroB.toArray⟩] 9); have hn1 := HR.out.fr0 hX1; have hn2 := HR.out.fr0 hX2; have c1 := hn1.cell1; have c2 := hn2.cell1; have HN2 := Lib.hid hn2; have hXs : x1.heap.size < (x1.alloc (.cells #[.string ⟨zeroB.toArray⟩] 9)).heap.size := (by rw [World.size_alloc]; omega); have hXq : q + 1 ≤ x1.heap.size := hn1.qsz; have hb1 := heap_alloc_new x1 (.cells #[.string ⟨zeroB.toArray⟩] 9); have HAT := Lib.hid hb1; clear hn1 hn2 hb1)
          go_wp2_with fail
          refine hKK.out _ _ ?hSa8 (fun hHelda8 => ?resta8)
          case hSa8 => exact trivial
          clear hKK KK
          try simp only [List.getElem_toArray, List.getElem_cons_zero, List.getElem_cons_succ, Act.put, List.setIfInBounds_toArray, List.set_cons_zero, List.set_cons_succ]
          refine wpAnyH_ready (rs := [1, 3]) (by kernel_rfl) (by simp) ?_
          refine AllReadyH.cons (o := _) rfl (fun KK hKK => ?_) (AllReadyH.cons (o := _) rfl (fun KK hKK => ?_) (AllReadyH.nil))
          · go_simp
            refine hKK.out _ _ ?hSa9 (fun hHelda9 => ?resta9)
            case hSa9 => exact trivial
            clear hKK KK
            try simp only [List.getElem_toArray, List.getElem_cons_zero, List.getElem_cons_succ, Act.put, List.setIfInBounds_toArray, List.set_cons_zero, List.set_cons_succ]
            refine wpAnyH_ready (rs := [3]) (by kernel_rfl) (by simp) ?_
            refine AllReadyH.cons (o := _) rfl (fun KK hKK => ?_) (AllReadyH.nil)
            go_simp
            refine hKK.out _ _ ?hSa10 (fun hHelda10 => ?resta10)
            case hSa10 => exact trivial
            clear hKK KK
            try simp only [List.getElem_toArray, List.getElem_cons_zero, List.getElem_cons_succ, Act.put, List.setIfInBounds_toArray, List.set_cons_zero, List.set_cons_succ]
            refine wpAnyH_ready (rs := [4]) (by kernel_rfl) (by simp) ?_
            refine AllReadyH.cons (o := _) rfl (fun KK hKK => ?_) (AllReadyH.nil)
            (refine step_append_lies _ (by rfl) _ _ _ (by rfl) (q + 1) 9 i0 _ 1 16 Tryz.underlying30 hi0 hz0 hz1 hz2 rfl (by omega) v1 k (List.replicate k (strOf zeroB)) (by rfl) HN2.out.o1 ⟨x1.heap.size, 0, none⟩ 1 1 [strOf zeroB] (by rfl) (by rfl) (World.news_of_block HAT.out) (by intro u hu; simp at hu; subst hu; rfl) (by omega) (by unfold maxLen; omega) (by omega) (by omega) _ rfl ?_; intro ga capa ya hy1 hy2 hy3 hy4; have hcy := HN2.out.cellg1 hy2; have hfy1 := hcy.1; have hfy2 := hcy.2; have HYa := Lib.hid (HN2.out.app1 hy1 hy2 hy3))
            refine hKK.out _ _ ?hSa11 (fun hHelda11 => ?resta11)
            case hSa11 => exact trivial
            clear hKK KK
            try simp only [List.getElem_toArray, List.getElem_cons_zero, List.getElem_cons_succ, Act.put, List.setIfInBounds_toArray, List.set_cons_zero, List.set_cons_succ]
            refine wpAnyH_take (i := 5) (oi := _) (v := ?va12) rfl (by kernel_rfl) (by kernel_rfl) (by kernel_rfl) (fun _ _ _ h => h) (Or.inl ⟨by rfl, ?hya12⟩) trivial ?resta12
            case hya12 => (intro w hSw; (try dsimp only at hSw); go_simp; try with_reducible rfl)
            try simp only [List.getElem_toArray, List.getElem_cons_zero, List.getElem_cons_succ, Act.put, List.setIfInBounds_toArray, List.set_cons_zero, List.set_cons_succ]
            refine wpAnyH_ready (rs := [6]) (by kernel_rfl) (by simp) ?_
            refine AllReadyH.cons (o := _) rfl (fun KK hKK => ?_) (AllReadyH.nil)
            go_simp
            refine hKK.out _ _ ?hSa13 (fun hHelda13 => ?resta13)
            case hSa13 => exact trivial
            clear hKK KK
            try simp only [List.getElem_toArray, List.getElem_cons_zero, List.getElem_cons_succ, Act.put, List.setIfInBounds_toArray, List.set_cons_zero, List.set_cons_succ]
            refine wpAnyH_done (by kernel_rfl) ?_ _
            go_wp2_with fail
            go_meet
            exact ⟨_, _, HYa.out.1⟩
          · go_simp
            refine hKK.out _ _ ?hSa14 (fun hHelda14 => ?resta14)
            case hSa14 => exact trivial
            clear hKK KK
            try simp only [List.getElem_toArray, List.getElem_cons_zero, List.getElem_cons_succ, Act.put, List.setIfInBounds_toArray, List.set_cons_zero, List.set_cons_succ]
            refine wpAnyH_ready (rs := [1]) (by kernel_rfl) (by simp) ?_
            refine AllReadyH.cons (o := _) rfl (fun KK hKK => ?_) (AllReadyH.nil)
            go_simp
            refine hKK.out _ _ ?hSa15 (fun hHelda15 => ?resta15)
            case hSa15 => exact trivial
            clear hKK KK
            try simp only [List.getElem_toArray, List.getElem_cons_zero, List.getElem_cons_succ, Act.put, List.setIfInBounds_toArray, List.set_cons_zero, List.set_cons_succ]
            refine wpAnyH_ready (rs := [4]) (by kernel_rfl) (by simp) ?_
            refine AllReadyH.cons (o := _) rfl (fun KK hKK => ?_) (AllReadyH.nil)
            (refine step_append_lies _ (by rfl) _ _ _ (by rfl) (q + 1) 9 i0 _ 1 16 Tryz.underlying30 hi0 hz0 hz1 hz2 rfl (by omega) v1 k (List.replicate k (strOf zeroB)) (by rfl) HN2.out.o1 ⟨x1.heap.size, 0, none⟩ 1 1 [strOf zeroB] (by rfl) (by rfl) (World.news_of_block HAT.out) (by intro u hu; simp at hu; subst hu; rfl) (by omega) (by unfold maxLen; omega) (by omega) (by omega) _ rfl ?_; intro ga capa ya hy1 hy2 hy3 hy4; have hcy := HN2.out.cellg1 hy2; have hfy1 := hcy.1; have hfy2 := hcy.2; have HYa := Lib.hid (HN2.out.app1 hy1 hy2 hy3))
            refine hKK.out _ _ ?hSa16 (fun hHelda16 => ?resta16)
            case hSa16 => exact trivial
            clear hKK KK
            try simp only [List.getElem_toArray, List.getElem_cons_zero, List.getElem_cons_succ, Act.put, List.setIfInBounds_toArray, List.set_cons_zero, List.set_cons_succ]
            refine wpAnyH_take (i := 5) (oi := _) (v := ?va17) rfl (by kernel_rfl) (by kernel_rfl) (by kernel_rfl) (fun _ _ _ h => h) (Or.inl ⟨by rfl, ?hya17⟩) trivial ?resta17
            case hya17 => (intro w hSw; (try dsimp only at hSw); go_simp; try with_reducible rfl)
            try simp only [List.getElem_toArray, List.getElem_cons_zero, List.getElem_cons_succ, Act.put, List.setIfInBounds_toArray, List.set_cons_zero, List.set_cons_succ]
            refine wpAnyH_ready (rs := [6]) (by kernel_rfl) (by simp) ?_
            refine AllReadyH.cons (o := _) rfl (fun KK hKK => ?_) (AllReadyH.nil)
            go_simp
            refine hKK.out _ _ ?hSa18 (fun hHelda18 => ?resta18)
            case hSa18 => exact trivial
            clear hKK KK
            try simp only [List.getElem_toArray, List.getElem_cons_zero, List.getElem_cons_succ, Act.put, List.setIfInBounds_toArray, List.set_cons_zero, List.set_cons_succ]
            refine wpAnyH_done (by kernel_rfl) ?_ _
            go_wp2_with fail
            go_meet
            exact ⟨_, _, HYa.out.1⟩
      case rest =>
        obtain ⟨ga, capa, hRa⟩ := hcut
        have HRa := Lib.hid hRa
        have e0 := hRa.cell2
        have f0 : wc.drew.cell? ⟨q, 1, none⟩ = some v2 := e0
        clear hRa c0 d0
        go_upto_region 8 with fail
        go_cut [] (fun wx => ∃ g cap, NwR w wx q (k + 1) (k + 1) k (.slice (some ⟨ga, 0, none⟩) (k + 1) capa) (.slice (some ⟨g, 0, none⟩) (k + 1) cap) v3)
        case first =>
          refine wp_region_held_drew (S := fun _ => True) (by kernel_rfl) trivial (fun hHeld0 => ?_)
          refine wpAnyH_take (i := 0) (oi := _) (v := ?vb1) rfl (by kernel_rfl) (by kernel_rfl) (by kernel_rfl) (fun _ _ _ h => h) (Or.inl ⟨by rfl, ?hyb1⟩) trivial ?restb1
          case hyb1 => (intro w hSw; (try dsimp only at hSw); go_simp; try with_reducible rfl)
          try simp only [List.getElem_toArray, List.getElem_cons_zero, List.getElem_cons_succ, Act.put, List.setIfInBounds_toArray, List.set_cons_zero, List.set_cons_succ]
          refine wpAnyH_ready (rs := [1, 2]) (by kernel_rfl) (by simp) ?_
          refine AllReadyH.cons (o := _) rfl (fun KK hKK => ?_) (AllReadyH.cons (o := _) rfl (fun KK hKK => ?_) (AllReadyH.nil))
          · go_simp
            refine hKK.out _ _ ?hSb2 (fun hHeldb2 => ?restb2)
            case hSb2 => exact trivial
            clear hKK KK
            try simp only [List.getElem_toArray, List.getElem_cons_zero, List.getElem_cons_succ, Act.put, List.setIfInBounds_toArray, List.set_cons_zero, List.set_cons_succ]
            refine wpAnyH_ready (rs := [2]) (by kernel_rfl) (by simp) ?_
            refine AllReadyH.cons (o := _) rfl (fun KK hKK => ?_) (AllReadyH.nil)
            go_simp
            (go_at_call 47; (with_reducible refine (HBL.out _).mono ?_); rintro e x1 ⟨rfl, hY1⟩; have hX1 := (Fr.refl none_ wc).drew.trans hY1; have hX2 := hX1.alloc (.cells #[.string ⟨zeroB.toArray⟩] 9); have hn1 := HRa.out.fr0 hX1; have hn2 := HRa.out.fr0 hX2; have c1 := hn1.cell2; have c2 := hn2.cell2; have HN2 := Lib.hid hn2; have hXs : x1.heap.size < (x1.alloc (.cells #[.string ⟨zeroB.toArray⟩] 9)).heap.size := (by rw [World.size_alloc]; omega); have hXq : q + 1 ≤ x1.heap.size := hn1.qsz; have hb1 := heap_alloc_new x1 (.cells #[.string ⟨zeroB.toArray⟩] 9); have HAT := Lib.hid hb1; clear hn1 hn2 hb1)
            go_wp2_with fail
            refine hKK.out _ _ ?hSb3 (fun hHeldb3 => ?restb3)
            case hSb3 => exact trivial
            clear hKK KK
            try simp only [List.getElem_toArray, List.getElem_cons_zero, List.getElem_cons_succ, Act.put, List.setIfInBounds_toArray, List.set_cons_zero, List.set_cons_succ]
            refine wpAnyH_ready (rs := [3]) (by kernel_rfl) (by simp) ?_
            refine AllReadyH.cons (o := _) rfl (fun KK hKK => ?_) (AllReadyH.nil)
            go_simp
            refine hKK.out _ _ ?hSb4 (fun hHeldb4 => ?restb4)
            case hSb4 => exact trivial
            clear hKK KK
            try simp only [List.getElem_toArray, List.getElem_cons_zero, List.getElem_cons_succ, Act.put, List.setIfInBounds_toArray, List.set_cons_zero, List.set_cons_succ]
            refine wpAnyH_ready (rs := [4]) (by kernel_rfl) (by simp) ?_
            refine AllReadyH.cons (o := _) rfl (fun KK hKK => ?_) (AllReadyH.nil)
            (refine step_append_lies _ (by rfl) _ _ _ (by rfl) (q + 1) 9 i0 _ 1 16 Tryz.underlying30 hi0 hz0 hz1 hz2 rfl (by omega) v2 k (List.replicate k (strOf zeroB)) (by rfl) HN2.out.o2 ⟨x1.heap.size, 0, none⟩ 1 1 [strOf zeroB] (by rfl) (by rfl) (World.news_of_block HAT.out) (by intro u hu; simp at hu; subst hu; rfl) (by omega) (by unfold maxLen; omega) (by omega) (by omega) _ rfl ?_; intro gb capb yb hy1 hy2 hy3 hy4; have hcy := HN2.out.cellg2 hy2; have hfy1 := hcy.1; have hfy2 := hcy.2; have HYb := Lib.hid (HN2.out.app2 hy1 hy2 hy3))
            refine hKK.out _ _ ?hSb5 (fun hHeldb5 => ?restb5)
            case hSb5 => exact trivial
            clear hKK KK
            try simp only [List.getElem_toArray, List.getElem_cons_zero, List.getElem_cons_succ, Act.put, List.setIfInBounds_toArray, List.set_cons_zero, List.set_cons_succ]
            refine wpAnyH_take (i := 5) (oi := _) (v := ?vb6) rfl (by kernel_rfl) (by kernel_rfl) (by kernel_rfl) (fun _ _ _ h => h) (Or.inl ⟨by rfl, ?hyb6⟩) trivial ?restb6
            case hyb6 => (intro w hSw; (try dsimp only at hSw); go_simp; try with_reducible rfl)
            try simp only [List.getElem_toArray, List.getElem_cons_zero, List.getElem_cons_succ, Act.put, List.setIfInBounds_toArray, List.set_cons_zero, List.set_cons_succ]
            refine wpAnyH_ready (rs := [6]) (by kernel_rfl) (by simp) ?_
            refine AllReadyH.cons (o := _) rfl (fun KK hKK => ?_) (AllReadyH.nil)
            go_simp
            refine hKK.out _ _ ?hSb7 (fun hHeldb7 => ?restb7)
            case hSb7 => exact trivial
            clear hKK KK
            try simp only [List.getElem_toArray, List.getElem_cons_zero, List.getElem_cons_succ, Act.put, List.setIfInBounds_toArray, List.set_cons_zero, List.set_cons_succ]
            refine wpAnyH_done (by kernel_rfl) ?_ _
            go_wp2_with fail
            go_meet
            exact ⟨_, _, HYb.out.1⟩
          · go_simp
            (go_at_call 47; (with_reducible refine (HBL.out _).mono ?_); rintro e x1 ⟨rfl, hY1⟩; have hX1 := (Fr.refl none_ wc).drew.trans hY1; have hX2 := hX1.alloc (.cells #[.string ⟨zeroB.toArray⟩] 9); have hn1 := HRa.out.fr0 hX1; have hn2 := HRa.out.fr0 hX2; have c1 := hn1.cell2; have c2 := hn2.cell2; have HN2 := Lib.hid hn2; have hXs : x1.heap.size < (x1.alloc (.cells #[.string ⟨zeroB.toArray⟩] 9)).heap.size := (by rw [World.size_alloc]; omega); have hXq : q + 1 ≤ x1.heap.size := hn1.qsz; have hb1 := heap_alloc_new x1 (.cells #[.string ⟨zeroB.toArray⟩] 9); have HAT := Lib.hid hb1; clear hn1 hn2 hb1)
            go_wp2_with fail
            refine hKK.out _ _ ?hSb8 (fun hHeldb8 => ?restb8)
            case hSb8 => exact trivial
            clear hKK KK
            try simp only [List.getElem_toArray, List.getElem_cons_zero, List.getElem_cons_succ, Act.put, List.setIfInBounds_toArray, List.set_cons_zero, List.set_cons_succ]
            refine wpAnyH_ready (rs := [1, 3]) (by kernel_rfl) (by simp) ?_
            refine AllReadyH.cons (o := _) rfl (fun KK hKK => ?_) (AllReadyH.cons (o := _) rfl (fun KK hKK => ?_) (AllReadyH.nil))
            · go_simp
              refine hKK.out _ _ ?hSb9 (fun hHeldb9 => ?restb9)
              case hSb9 => exact trivial
              clear hKK KK
              try simp only [List.getElem_toArray, List.getElem_cons_zero, List.getElem_cons_succ, Act.put, List.setIfInBounds_toArray, List.set_cons_zero, List.set_cons_succ]
              refine wpAnyH_ready (rs := [3]) (by kernel_rfl) (by simp) ?_
              refine AllReadyH.cons (o := _) rfl (fun KK hKK => ?_) (AllReadyH.nil)
              go_simp
              refine hKK.out _ _ ?hSb10 (fun hHeldb10 => ?restb10)
              case hSb10 => exact trivial
              clear hKK KK
              try simp only [List.getElem_toArray, List.getElem_cons_zero, List.getElem_cons_succ, Act.put, List.setIfInBounds_toArray, List.set_cons_zero, List.set_cons_succ]
              refine wpAnyH_ready (rs := [4]) (by kernel_rfl) (by simp) ?_
              refine AllReadyH.cons (o := _) rfl (fun KK hKK => ?_) (AllReadyH.nil)
              (refine step_append_lies _ (by rfl) _ _ _ (by rfl) (q + 1) 9 i0 _ 1 16 Tryz.underlying30 hi0 hz0 hz1 hz2 rfl (by omega) v2 k (List.replicate k (strOf zeroB)) (by rfl) HN2.out.o2 ⟨x1.heap.size, 0, none⟩ 1 1 [strOf zeroB] (by rfl) (by rfl) (World.news_of_block HAT.out) (by intro u hu; simp at hu; subst hu; rfl) (by omega) (by unfold maxLen; omega) (by omega) (by omega) _ rfl ?_; intro gb capb yb hy1 hy2 hy3 hy4; have hcy := HN2.out.cellg2 hy2; have hfy1 := hcy.1; have hfy2 := hcy.2; have HYb := Lib.hid (HN2.out.app2 hy1 hy2 hy3))
              refine hKK.out _ _ ?hSb11 (fun hHeldb11 => ?restb11)
              case hSb11 => exact trivial
              clear hKK KK
              try simp only [List.getElem_toArray, List.getElem_cons_zero, List.getElem_cons_succ, Act.put, List.setIfInBounds_toArray, List.set_cons_zero, List.set_cons_succ]
              refine wpAnyH_take (i := 5) (oi := _) (v := ?vb12) rfl (by kernel_rfl) (by kernel_rfl) (by kernel_rfl) (fun _ _ _ h => h) (Or.inl ⟨by rfl, ?hyb12⟩) trivial ?restb12
              case hyb12 => (intro w hSw; (try dsimp only at hSw); go_simp; try with_reducible rfl)
              try simp only [List.getElem_toArray, List.getElem_cons_zero, List.getElem_cons_succ, Act.put, List.setIfInBounds_toArray, List.set_cons_zero, List.set_cons_succ]
              refine wpAnyH_ready (rs := [6]) (by kernel_rfl) (by simp) ?_
              refine AllReadyH.cons (o := _) rfl (fun KK hKK => ?_) (AllReadyH.nil)
              go_simp
              refine hKK.out _ _ ?hSb13 (fun hHeldb13 => ?restb13)
              case hSb13 => exact trivial
              clear hKK KK
              try simp only [List.getElem_toArray, List.getElem_cons_zero, List.getElem_cons_succ, Act.put, List.setIfInBounds_toArray, List.set_cons_zero, List.set_cons_succ]
              refine wpAnyH_done (by kernel_rfl) ?_ _
              go_wp2_with fail
              go_meet
              exact ⟨_, _, HYb.out.1⟩
            · go_simp
              refine hKK.out _ _ ?hSb14 (fun hHeldb14 => ?restb14)
              case hSb14 => exact trivial
              clear hKK KK
              try simp only [List.getElem_toArray, List.getElem_cons_zero, List.getElem_cons_succ, Act.put, List.setIfInBounds_toArray, List.set_cons_zero, List.set_cons_succ]
              refine wpAnyH_ready (rs := [1]) (by kernel_rfl) (by simp) ?_
              refine AllReadyH.cons (o := _) rfl (fun KK hKK => ?_) (AllReadyH.nil)
              go_simp
              refine hKK.out _ _ ?hSb15 (fun hHeldb15 => ?restb15)
              case hSb15 => exact trivial
              clear hKK KK
              try simp only [List.getElem_toArray, List.getElem_cons_zero, List.getElem_cons_succ, Act.put, List.setIfInBounds_toArray, List.set_cons_zero, List.set_cons_succ]
              refine wpAnyH_ready (rs := [4]) (by kernel_rfl) (by simp) ?_
              refine AllReadyH.cons (o := _) rfl (fun KK hKK => ?_) (AllReadyH.nil)
              (refine step_append_lies _ (by rfl) _ _ _ (by rfl) (q + 1) 9 i0 _ 1 16 Tryz.underlying30 hi0 hz0 hz1 hz2 rfl (by omega) v2 k (List.replicate k (strOf zeroB)) (by rfl) HN2.out.o2 ⟨x1.heap.size, 0, none⟩ 1 1 [strOf zeroB] (by rfl) (by rfl) (World.news_of_block HAT.out) (by intro u hu; simp at hu; subst hu; rfl) (by omega) (by unfold maxLen; omega) (by omega) (by omega) _ rfl ?_; intro gb capb yb hy1 hy2 hy3 hy4; have hcy := HN2.out.cellg2 hy2; have hfy1 := hcy.1; have hfy2 := hcy.2; have HYb := Lib.hid (HN2.out.app2 hy1 hy2 hy3))
              refine hKK.out _ _ ?hSb16 (fun hHeldb16 => ?restb16)
              case hSb16 => exact trivial
              clear hKK KK
              try simp only [List.getElem_toArray, List.getElem_cons_zero, List.getElem_cons_succ, Act.put, List.setIfInBounds_toArray, List.set_cons_zero, List.set_cons_succ]
              refine wpAnyH_take (i := 5) (oi := _) (v := ?vb17) rfl (by kernel_rfl) (by kernel_rfl) (by kernel_rfl) (fun _ _ _ h => h) (Or.inl ⟨by rfl, ?hyb17⟩) trivial ?restb17
              case hyb17 => (intro w hSw; (try dsimp only at hSw); go_simp; try with_reducible rfl)
              try simp only [List.getElem_toArray, List.getElem_cons_zero, List.getElem_cons_succ, Act.put, List.setIfInBounds_toArray, List.set_cons_zero, List.set_cons_succ]
              refine wpAnyH_ready (rs := [6]) (by kernel_rfl) (by simp) ?_
              refine AllReadyH.cons (o := _) rfl (fun KK hKK => ?_) (AllReadyH.nil)
              go_simp
              refine hKK.out _ _ ?hSb18 (fun hHeldb18 => ?restb18)
              case hSb18 => exact trivial
              clear hKK KK
              try simp only [List.getElem_toArray, List.getElem_cons_zero, List.getElem_cons_succ, Act.put, List.setIfInBounds_toArray, List.set_cons_zero, List.set_cons_succ]
              refine wpAnyH_done (by kernel_rfl) ?_ _
              go_wp2_with fail
              go_meet
              exact ⟨_, _, HYb.out.1⟩
        case rest =>
          obtain ⟨gb, capb, hRb⟩ := hcut
          have HRb := Lib.hid hRb
          have g0 := hRb.cell3
          have hsz := hRb.qsz
          clear hRb e0 f0
          obtain ⟨X, hX⟩ : ∃ X, X = wc.alloc (.cells #[.bool false] 4) := ⟨_, rfl⟩
          have hFX : Fr none_ wc X := by rw [hX]; exact (Fr.refl _ _).alloc _
          have hat : CellsAt X (some ⟨wc.heap.size, 0, none⟩) [.bool false] := by rw [hX]; exact CellsAt.whole (l := [Value.bool false]) (heap_alloc_new wc (.cells #[.bool false] 4))
          have hnil : (some (⟨wc.heap.size, 0, none⟩ : Addr)) = none → (1 : Nat) = 0 ∧ (1 : Nat) = 0 := fun h => by cases h
          have hXs : X.heap.size = wc.heap.size + 1 := by rw [hX, World.size_alloc]
          have HXN := Lib.hid (HRb.out.fr0 hFX)
          have hox := HXN.out.o3
          rw [hX] at hox hat hXs
          have HX := Lib.hid hX
          clear hX hFX
          go_wp2_with ((with_reducible refine at_append (.tmp 32) (.tmp 33) 31 (q + 1) 4 (.bool false) 1 1 (v := v3) (n := k) (xs := List.replicate k (.bool false)) (A := some ⟨wc.heap.size, 0, none⟩) (m := 1) (c := 1) (news := [.bool false]) Tryz.underlying31 info_boo ?_ ?_ ?_ ?_ hox hat hnil ?_ ?_ ?_ ?_ ?_ ?_); (focus rfl); (focus decide); (focus rfl); (focus rfl); (focus rfl); (focus (intro u hu; simp at hu; subst hu; rfl)); (focus unfold maxLen; omega); (focus omega); (focus omega); intro vc yc hown3 hg3; rw [← HX.out] at hg3; have hcy := HXN.out.cellg3 hg3; have hfy1 := hcy.1; have hfy2 := hcy.2; have HY := Lib.hid (HXN.out.app3' hown3 hg3); obtain ⟨Ac, cc, hvc, _⟩ := ownsRow_read hown3; subst hvc; clear hown3 hg3)
          go_roundw
          case rel => exact ⟨k + 1, _, _, _, by omega, by go_num, HY.out⟩
          case measure => simp [intOf]; omega
    · have k1 : ¬ (k : Int) < (n : Int) := by omega
      have hkn : k = n := by omega
      have hblk := hR.blk
      have hres := hR.res
      have hq := HQ.out
      clear hR
      go_wp2_with (first | ((with_reducible refine at_load 33 (.tmp 4) (b := q) ?_ hblk Tryz.underlying33 rfl (by kernel_rfl) ?_); (focus rfl)) | ((with_reducible refine at_store 33 (.tmp 2) (.tmp 36) (b := w.heap.size) (c' := #[v1, v2, v3, .int .i64 0, .bool false, .int .i64 0, .bool false, .bool false]) ?_ ?_ hres ?_ ?_ ?_ ?_); (focus rfl); (focus rfl); (focus rfl); (focus kernel_rfl); (focus (intro u hu; simp at hu; rcases hu with rfl | rfl | rfl | rfl | rfl | rfl | rfl | rfl <;> first | rfl | exact own_oneCell HR.out.o1 | exact own_oneCell HR.out.o2 | exact own_oneCell HR.out.o3)); intro w7 hF7 hb7; have HZ := Lib.hid (And.intro hF7 hb7); clear hF7 hb7))
      refine bodyPost_ret (res_dev Tryz.results7 HZ.out.2 rfl rfl) rfl ?_
      obtain ⟨hF7, hb7⟩ := HZ.out
      have hN := HR.out
      subst hkn
      have o1 := ownsRow_fr hN.o1 hF7 (fun i hi e => by have := ownsRow_lt hN.o1 hi; omega)
      have o2 := ownsRow_fr hN.o2 hF7 (fun i hi e => by have := ownsRow_lt hN.o2 hi; omega)
      have o3 := ownsRow_fr hN.o3 hF7 (fun i hi e => by have := ownsRow_lt hN.o3 hi; omega)
      obtain ⟨A1, c1, rfl, a1, b1, d1, x1⟩ := ownsRow_read o1
      obtain ⟨A2, c2, rfl, a2, b2, d2, x2⟩ := ownsRow_read o2
      obtain ⟨A3, c3, rfl, a3, b3, d3, x3⟩ := ownsRow_read o3
      have hl : (newRef k).now.length = k := by simp [newRef]
      have hqs := HQ.out
      refine ⟨_, rfl, ⟨⟨A1, c1, A2, c2, A3, c3, by rw [hl]; rfl, ⟨?_, ?_, ?_⟩, ⟨by rw [hl]; exact b1, by rw [hl]; exact b2, by rw [hl]; exact b3, by rw [hl]; exact d1, by rw [hl]; exact d2, by rw [hl]; exact d3⟩, fun b hb => by have := (x1 b hb).1; omega, fun b hb => by have := (x2 b hb).1; omega, fun b hb => by have := (x3 b hb).1; omega⟩, by simp [newRef], by simp [newRef], by rw [hl]; omega⟩, hN.fr.own hF7 (Nat.le_refl _)⟩
      · show CellsAt _ A1 ((List.replicate k zeroB).map strOf)
        rw [List.map_replicate]; exact a1
      · show CellsAt _ A2 ((List.replicate k zeroB).map strOf)
        rw [List.map_replicate]; exact a2
      · show CellsAt _ A3 ((List.replicate k false).map Value.bool)
        rw [List.map_replicate]; exact a3
theorem ref_new {n : Nat} (hn : 1 ≤ n ∧ n ≤ 16384) (w : World) : Calls Tryz.prog 7 #[.int .i64 (n : Int)] w fun e w' => ∃ cs, e = .returned (.tuple #[.agg cs, .int .i64 0]) ∧ RDV w' cs (newRef n) ∧ Fr none_ w w' :=
  (ref_newB hn w).mono (fun e w' ⟨cs, h1, h2, h3⟩ => ⟨cs, h1, h2.toV, h3⟩)
end Go.Proofs.YtffolfemcllfkaaGreatDoor
namespace Go.Proofs.YtffolfemcllfkaaGreatDoor
open Go.RowKit
set_option linter.unusedVariables false
set_option linter.unusedSimpArgs false
set_option maxRecDepth 100000

/-! The document's device, walked: Flush, Lose, Replace. -/
theorem RDV.nowCells {w : World} {A1 : Option Addr} {c1 : Nat} {A2 : Option Addr} {c2 : Nat} {A3 : Option Addr} {c3 : Nat} {R : RefD} (h : RDV w #[.slice A1 R.now.length c1, .slice A2 R.now.length c2, .slice A3 R.now.length c3, .int .i64 R.writes, .bool R.armed, .int .i64 R.left, .bool R.crashed, .bool R.gone] R) : CellsAt w A1 (R.now.map strOf) := by
  obtain ⟨⟨A1', c1', A2', c2', A3', c3', he, h1, _⟩, _⟩ := h
  simp only [Array.mk.injEq, List.cons.injEq] at he
  obtain ⟨e1, _⟩ := he
  injection e1 with e1 _ _
  rw [e1]; exact h1
theorem RefD.settle_flush {R : RefD} (l3 : R.loose.length = R.now.length) (hc : R.crashed = false) (hg : R.gone = false) : R.flush = R.settle R.now := by
  unfold RefD.flush RefD.settle
  rw [if_neg (by rw [hc, hg]; simp), ← l3, List.map_const']
theorem RefD.settle_lose {R : RefD} (l3 : R.loose.length = R.now.length) : R.lose = { R.settle R.now with gone := true } := by
  unfold RefD.lose RefD.settle
  rw [← l3, List.map_const']
/-- what a call leaves -/
def RDo (w : World) (R : RefD) (er : Int) (e : Ending) (w' : World) : Prop := ∃ cs', e = .returned (.tuple #[.agg cs', .int .i64 er]) ∧ RDV w' cs' R ∧ Fr none_ w w'
def RDo1 (w : World) (R : RefD) (e : Ending) (w' : World) : Prop := ∃ cs', e = .returned (.agg cs') ∧ RDV w' cs' R ∧ Fr none_ w w'
set_option maxHeartbeats 8000000 in
theorem ref_flush {w : World} {cs : Array Value} {R : RefD} (h : RDV w cs R) (hpos : 0 < R.now.length) : Calls Tryz.prog 65 #[.agg cs] w fun e w' => RDo w R.flush (if R.crashed = true ∨ R.gone = true then 13 else 0) e w' := by
  obtain ⟨⟨A1, c1, A2, c2, A3, c3, rfl, hrest⟩, l2, l3, m⟩ := id h
  have HH := Lib.hid h
  have HL3 := Lib.hid l3
  by_cases hd : R.crashed = true ∨ R.gone = true
  · rw [if_pos hd, show R.flush = R by unfold RefD.flush; rw [if_pos hd]]
    have hcase : R.crashed = true ∨ (R.crashed = false ∧ R.gone = true) := by
      cases hc : R.crashed
      · rw [hc] at hd; simp at hd; exact .inr ⟨rfl, hd⟩
      · exact .inl rfl
    clear hd hrest l2 l3 h m
    rcases hcase with hc | ⟨hc, hg⟩
    · have HC := Lib.hid hc
      clear hc
      go_enter Tryz.func65, Tryz.ntmps65
      go_upto_region 1 with fail
      obtain ⟨V, hV, hF, hbp, hbq, hsz⟩ := two_alloc w #[.slice A1 R.now.length c1, .slice A2 R.now.length c2, .slice A3 R.now.length c3, .int .i64 R.writes, .bool R.armed, .int .i64 R.left, .bool R.crashed, .bool R.gone] #[.slice none 0 0, .slice none 0 0, .slice none 0 0, .int .i64 0, .bool false, .int .i64 0, .bool false, .bool false] 33
      rw [← hV]
      have HRV := Lib.hid (HH.out.fr0 hF)
      have HB := Lib.hid (And.intro hF (And.intro hbp hbq))
      have hVs : w.heap.size + 2 ≤ V.heap.size := by omega
      have v0 : V.cell? ⟨w.heap.size, 0, none⟩ = some (.slice A1 R.now.length c1) := by rw [cell_of_blk hbp]; rfl
      have v6 : V.cell? ⟨w.heap.size, 6, none⟩ = some (.bool R.crashed) := by rw [cell_of_blk hbp]; rfl
      have v7 : V.cell? ⟨w.heap.size, 7, none⟩ = some (.bool R.gone) := by rw [cell_of_blk hbp]; rfl
      rw [HC.out] at v6
      clear hV hF hbp hbq hsz
      go_wp2_with (first | ((with_reducible refine at_load 33 (.tmp 1) (b := w.heap.size) ?_ HB.out.2.1 Tryz.underlying33 rfl (by kernel_rfl) ?_); (focus rfl)) | ((with_reducible refine at_store 33 (.tmp 2) (.tmp 10) (b := (w.heap.size + 1)) (c' := #[.slice A1 R.now.length c1, .slice A2 R.now.length c2, .slice A3 R.now.length c3, .int .i64 R.writes, .bool R.armed, .int .i64 R.left, .bool R.crashed, .bool R.gone]) ?_ ?_ HB.out.2.2 ?_ ?_ ?_ ?_); (focus rfl); (focus rfl); (focus rfl); (focus kernel_rfl); (focus (intro u hu; simp at hu; rcases hu with rfl | rfl | rfl | rfl | rfl | rfl | rfl | rfl <;> rfl)); intro w9 hFw9 hbw9; have HZ := Lib.hid (And.intro hFw9 hbw9); clear hFw9 hbw9))
      refine bodyPost_ret (res_dev (b := w.heap.size + 1) Tryz.results65 HZ.out.2 rfl rfl) rfl ?_
      exact ⟨_, rfl, HH.out.fr0 (HB.out.1.own HZ.out.1 (by omega)), HB.out.1.own HZ.out.1 (by omega)⟩
    · have HC := Lib.hid (And.intro hc hg)
      clear hc hg
      go_enter Tryz.func65, Tryz.ntmps65
      go_upto_region 1 with fail
      obtain ⟨V, hV, hF, hbp, hbq, hsz⟩ := two_alloc w #[.slice A1 R.now.length c1, .slice A2 R.now.length c2, .slice A3 R.now.length c3, .int .i64 R.writes, .bool R.armed, .int .i64 R.left, .bool R.crashed, .bool R.gone] #[.slice none 0 0, .slice none 0 0, .slice none 0 0, .int .i64 0, .bool false, .int .i64 0, .bool false, .bool false] 33
      rw [← hV]
      have HRV := Lib.hid (HH.out.fr0 hF)
      have HB := Lib.hid (And.intro hF (And.intro hbp hbq))
      have hVs : w.heap.size + 2 ≤ V.heap.size := by omega
      have v0 : V.cell? ⟨w.heap.size, 0, none⟩ = some (.slice A1 R.now.length c1) := by rw [cell_of_blk hbp]; rfl
      have v6 : V.cell? ⟨w.heap.size, 6, none⟩ = some (.bool R.crashed) := by rw [cell_of_blk hbp]; rfl
      have v7 : V.cell? ⟨w.heap.size, 7, none⟩ = some (.bool R.gone) := by rw [cell_of_blk hbp]; rfl
      rw [HC.out.1] at v6
      rw [HC.out.2] at v7
      clear hV hF hbp hbq hsz
      go_wp2_with (first | ((with_reducible refine at_load 33 (.tmp 1) (b := w.heap.size) ?_ HB.out.2.1 Tryz.underlying33 rfl (by kernel_rfl) ?_); (focus rfl)) | ((with_reducible refine at_store 33 (.tmp 2) (.tmp 10) (b := (w.heap.size + 1)) (c' := #[.slice A1 R.now.length c1, .slice A2 R.now.length c2, .slice A3 R.now.length c3, .int .i64 R.writes, .bool R.armed, .int .i64 R.left, .bool R.crashed, .bool R.gone]) ?_ ?_ HB.out.2.2 ?_ ?_ ?_ ?_); (focus rfl); (focus rfl); (focus rfl); (focus kernel_rfl); (focus (intro u hu; simp at hu; rcases hu with rfl | rfl | rfl | rfl | rfl | rfl | rfl | rfl <;> rfl)); intro w9 hFw9 hbw9; have HZ := Lib.hid (And.intro hFw9 hbw9); clear hFw9 hbw9))
      refine bodyPost_ret (res_dev (b := w.heap.size + 1) Tryz.results65 HZ.out.2 rfl rfl) rfl ?_
      exact ⟨_, rfl, HH.out.fr0 (HB.out.1.own HZ.out.1 (by omega)), HB.out.1.own HZ.out.1 (by omega)⟩
  · have hc : R.crashed = false := by cases h1 : R.crashed; rfl; exact absurd (.inl h1) hd
    have hg : R.gone = false := by cases h1 : R.gone; rfl; exact absurd (.inr h1) hd
    rw [if_neg hd, RefD.settle_flush l3 hc hg]
    have HP := Lib.hid hpos
    have HCG := Lib.hid (And.intro hc hg)
    clear hd hrest l2 l3 h m hpos hc hg
    go_enter Tryz.func65, Tryz.ntmps65
    go_upto_region 1 with fail
    obtain ⟨V, hV, hF, hbp, hbq, hsz⟩ := two_alloc w #[.slice A1 R.now.length c1, .slice A2 R.now.length c2, .slice A3 R.now.length c3, .int .i64 R.writes, .bool R.armed, .int .i64 R.left, .bool R.crashed, .bool R.gone] #[.slice none 0 0, .slice none 0 0, .slice none 0 0, .int .i64 0, .bool false, .int .i64 0, .bool false, .bool false] 33
    rw [← hV]
    have HRV := Lib.hid (HH.out.fr0 hF)
    have HB := Lib.hid (And.intro hF (And.intro hbp hbq))
    have hVs : w.heap.size + 2 ≤ V.heap.size := by omega
    have v0 : V.cell? ⟨w.heap.size, 0, none⟩ = some (.slice A1 R.now.length c1) := by rw [cell_of_blk hbp]; rfl
    have v6 : V.cell? ⟨w.heap.size, 6, none⟩ = some (.bool R.crashed) := by rw [cell_of_blk hbp]; rfl
    have v7 : V.cell? ⟨w.heap.size, 7, none⟩ = some (.bool R.gone) := by rw [cell_of_blk hbp]; rfl
    rw [HCG.out.1] at v6
    rw [HCG.out.2] at v7
    have HST := Lib.hid (ref_settle HRV.out HP.out R.now rfl A1 R.now.length c1 rfl HRV.out.nowCells)
    clear hV hF hbp hbq hsz
    go_wp2_with (first | ((with_reducible refine at_load 33 (.tmp 1) (b := w.heap.size) ?_ HB.out.2.1 Tryz.underlying33 rfl (by kernel_rfl) ?_); (focus rfl)) | ((with_reducible refine HST.out.mono ?_); rintro e w2 ⟨cs2, rfl, hV2, hF2⟩; obtain ⟨⟨a1, e1, a2, e2, a3, e3, hcs, -⟩, -, -, -⟩ := id hV2; replace hcs : cs2 = #[.slice a1 R.now.length e1, .slice a2 R.now.length e2, .slice a3 R.now.length e3, .int .i64 R.writes, .bool R.armed, .int .i64 R.left, .bool R.crashed, .bool R.gone] := hcs; subst hcs; have HB2 := Lib.hid (And.intro (HB.out.1.trans hF2) (And.intro (hF2.heap0 HB.out.2.1) (And.intro (hF2.heap0 HB.out.2.2) hV2))); have hs2 := hF2.size; clear hF2 hV2) | ((with_reducible refine at_store 33 (.tmp 2) (.tmp 14) (b := (w.heap.size + 1)) (c' := #[.slice a1 R.now.length e1, .slice a2 R.now.length e2, .slice a3 R.now.length e3, .int .i64 R.writes, .bool R.armed, .int .i64 R.left, .bool R.crashed, .bool R.gone]) ?_ ?_ HB2.out.2.2.1 ?_ ?_ ?_ ?_); (focus rfl); (focus rfl); (focus rfl); (focus kernel_rfl); (focus (intro u hu; simp at hu; rcases hu with rfl | rfl | rfl | rfl | rfl | rfl | rfl | rfl <;> rfl)); intro w9 hFw9 hbw9; have HZ := Lib.hid (And.intro hFw9 hbw9); clear hFw9 hbw9))
    refine bodyPost_ret (res_dev (b := w.heap.size + 1) Tryz.results65 HZ.out.2 rfl rfl) rfl ?_
    exact ⟨_, rfl, (HB2.out.2.2.2.fr HZ.out.1 (fun i h1 h2 => by omega)).toV, HB2.out.1.own HZ.out.1 (by omega)⟩
set_option maxHeartbeats 8000000 in
theorem ref_lose {w : World} {cs : Array Value} {R : RefD} (h : RDV w cs R) (hpos : 0 < R.now.length) : Calls Tryz.prog 15 #[.agg cs] w fun e w' => RDo1 w R.lose e w' := by
  obtain ⟨⟨A1, c1, A2, c2, A3, c3, rfl, hrest⟩, l2, l3, m⟩ := id h
  have HH := Lib.hid h
  have HL3 := Lib.hid l3
  rw [RefD.settle_lose l3]
  have HP := Lib.hid hpos
  clear hrest l2 l3 h m hpos
  go_enter Tryz.func15, Tryz.ntmps15
  go_upto_region 1 with fail
  obtain ⟨V, hV, hF, hbp, hbq, hsz⟩ := two_alloc w #[.slice A1 R.now.length c1, .slice A2 R.now.length c2, .slice A3 R.now.length c3, .int .i64 R.writes, .bool R.armed, .int .i64 R.left, .bool R.crashed, .bool R.gone] #[.slice none 0 0, .slice none 0 0, .slice none 0 0, .int .i64 0, .bool false, .int .i64 0, .bool false, .bool false] 33
  rw [← hV]
  have HRV := Lib.hid (HH.out.fr0 hF)
  have HB := Lib.hid (And.intro hF (And.intro hbp hbq))
  have hVs : w.heap.size + 2 ≤ V.heap.size := by omega
  have v0 : V.cell? ⟨w.heap.size, 0, none⟩ = some (.slice A1 R.now.length c1) := by rw [cell_of_blk hbp]; rfl
  have HST := Lib.hid (ref_settle HRV.out HP.out R.now rfl A1 R.now.length c1 rfl HRV.out.nowCells)
  clear hV hF hbp hbq hsz
  go_wp2_with (first | ((with_reducible refine at_load 33 (.tmp 1) (b := w.heap.size) ?_ HB.out.2.1 Tryz.underlying33 rfl (by kernel_rfl) ?_); (focus rfl)) | ((with_reducible refine HST.out.mono ?_); rintro e w2 ⟨cs2, rfl, hV2, hF2⟩; obtain ⟨⟨a1, e1, a2, e2, a3, e3, hcs, -⟩, -, -, -⟩ := id hV2; replace hcs : cs2 = #[.slice a1 R.now.length e1, .slice a2 R.now.length e2, .slice a3 R.now.length e3, .int .i64 R.writes, .bool R.armed, .int .i64 R.left, .bool R.crashed, .bool R.gone] := hcs; subst hcs; have HB2 := Lib.hid (And.intro (HB.out.1.trans hF2) (And.intro (hF2.heap0 HB.out.2.1) (And.intro (hF2.heap0 HB.out.2.2) hV2))); have hs2 := hF2.size; clear hF2 hV2) | ((with_reducible refine at_store 33 (.tmp 1) (.tmp 6) (b := w.heap.size) (c' := #[.slice a1 R.now.length e1, .slice a2 R.now.length e2, .slice a3 R.now.length e3, .int .i64 R.writes, .bool R.armed, .int .i64 R.left, .bool R.crashed, .bool R.gone]) ?_ ?_ HB2.out.2.1 ?_ ?_ ?_ ?_); (focus rfl); (focus rfl); (focus rfl); (focus kernel_rfl); (focus (intro u hu; simp at hu; rcases hu with rfl | rfl | rfl | rfl | rfl | rfl | rfl | rfl <;> rfl)); intro w3 hFw3 hbw3; have HB3 := Lib.hid (And.intro (HB2.out.1.own hFw3 (by omega)) (And.intro hbw3 (And.intro (hFw3.heap HB2.out.2.2.1 (by omega)) (HB2.out.2.2.2.fr hFw3 (fun i h1 h2 => by omega))))); have hs3 := hFw3.size; have u7 : w3.cell? ⟨w.heap.size, 7, none⟩ = some (.bool R.gone) := (by rw [cell_of_blk hbw3]; rfl); have uf := frozen_of_blk hbw3 7; have hX4 := Fr.set w3 w.heap.size 7 (.bool true); have hp4 : (w3.setCell ⟨w.heap.size, 7, none⟩ (.bool true)).heap[w.heap.size]? = some (.cells #[.slice a1 R.now.length e1, .slice a2 R.now.length e2, .slice a3 R.now.length e3, .int .i64 R.writes, .bool R.armed, .int .i64 R.left, .bool R.crashed, .bool true] 33 (0, 0)) := heap_setCell_same hbw3 (o := 7) (.bool true); have hq4 := hX4.heap HB3.out.2.2.1 (by omega); clear hFw3 hbw3) | ((with_reducible refine at_load 33 (.tmp 1) (b := w.heap.size) ?_ hp4 Tryz.underlying33 rfl (by kernel_rfl) ?_); (focus rfl)) | ((with_reducible refine at_store 33 (.tmp 2) (.tmp 8) (b := (w.heap.size + 1)) (c' := #[.slice a1 R.now.length e1, .slice a2 R.now.length e2, .slice a3 R.now.length e3, .int .i64 R.writes, .bool R.armed, .int .i64 R.left, .bool R.crashed, .bool true]) ?_ ?_ hq4 ?_ ?_ ?_ ?_); (focus rfl); (focus rfl); (focus rfl); (focus kernel_rfl); (focus (intro u hu; simp at hu; rcases hu with rfl | rfl | rfl | rfl | rfl | rfl | rfl | rfl <;> rfl)); intro w9 hFw9 hbw9; have HZ := Lib.hid (And.intro hFw9 hbw9); clear hFw9 hbw9))
  refine bodyPost_ret (res_dev1 (b := w.heap.size + 1) Tryz.results15 HZ.out.2 rfl) rfl ?_
  have hB := (HB3.out.2.2.2.fr hX4 (fun i h1 h2 => by omega)).fr HZ.out.1 (fun i h1 h2 => by omega)
  obtain ⟨⟨b1, f1, b2, f2, b3, f3, he, hc, hr, _⟩, l2, l3, m⟩ := hB
  refine ⟨_, rfl, ?_, (HB3.out.1.own hX4 (by omega)).own HZ.out.1 (by omega)⟩
  simp only [Array.mk.injEq, List.cons.injEq] at he
  obtain ⟨q1, q2, q3, _⟩ := he
  rw [q1, q2, q3]
  obtain ⟨k1, k2, k3⟩ := hc
  obtain ⟨r1, r2, r3, r4, r5, r6⟩ := hr
  exact ⟨⟨b1, f1, b2, f2, b3, f3, rfl, k1, k2, k3, r1, r2, r3, r4, r5, r6⟩, l2, l3, m⟩
set_option maxHeartbeats 8000000 in
theorem ref_replace {w : World} {cs : Array Value} {R : RefD} (h : RDV w cs R) (hpos : 0 < R.now.length) : Calls Tryz.prog 17 #[.agg cs] w fun e w' => RDo1 w R.replace e w' := by
  obtain ⟨⟨A1, c1, A2, c2, A3, c3, rfl, hrest⟩, l2, l3, m⟩ := id h
  have HH := Lib.hid h
  have HL3 := Lib.hid l3
  by_cases hg : R.gone = true
  case neg =>
    have HC := Lib.hid (show R.gone = false by simpa using hg)
    rw [show R.replace = R by unfold RefD.replace; rw [if_neg hg]]
    clear hg hrest l2 l3 h m
    go_enter Tryz.func17, Tryz.ntmps17
    go_upto_region 1 with fail
    obtain ⟨V, hV, hF, hbp, hbq, hsz⟩ := two_alloc w #[.slice A1 R.now.length c1, .slice A2 R.now.length c2, .slice A3 R.now.length c3, .int .i64 R.writes, .bool R.armed, .int .i64 R.left, .bool R.crashed, .bool R.gone] #[.slice none 0 0, .slice none 0 0, .slice none 0 0, .int .i64 0, .bool false, .int .i64 0, .bool false, .bool false] 33
    rw [← hV]
    have HRV := Lib.hid (HH.out.fr0 hF)
    have HB := Lib.hid (And.intro hF (And.intro hbp hbq))
    have hVs : w.heap.size + 2 ≤ V.heap.size := by omega
    have v7 : V.cell? ⟨w.heap.size, 7, none⟩ = some (.bool R.gone) := by rw [cell_of_blk hbp]; rfl
    rw [HC.out] at v7
    clear hV hF hbp hbq hsz
    go_wp2_with (first | ((with_reducible refine at_load 33 (.tmp 1) (b := w.heap.size) ?_ HB.out.2.1 Tryz.underlying33 rfl (by kernel_rfl) ?_); (focus rfl)) | ((with_reducible refine at_store 33 (.tmp 2) (.tmp 8) (b := (w.heap.size + 1)) (c' := #[.slice A1 R.now.length c1, .slice A2 R.now.length c2, .slice A3 R.now.length c3, .int .i64 R.writes, .bool R.armed, .int .i64 R.left, .bool R.crashed, .bool R.gone]) ?_ ?_ HB.out.2.2 ?_ ?_ ?_ ?_); (focus rfl); (focus rfl); (focus rfl); (focus kernel_rfl); (focus (intro u hu; simp at hu; rcases hu with rfl | rfl | rfl | rfl | rfl | rfl | rfl | rfl <;> rfl)); intro w9 hFw9 hbw9; have HZ := Lib.hid (And.intro hFw9 hbw9); clear hFw9 hbw9))
    refine bodyPost_ret (res_dev1 (b := w.heap.size + 1) Tryz.results17 HZ.out.2 rfl) rfl ?_
    exact ⟨_, rfl, HH.out.fr0 (HB.out.1.own HZ.out.1 (by omega)), HB.out.1.own HZ.out.1 (by omega)⟩
  case pos =>
    have HC := Lib.hid hg
    rw [show R.replace = { newRef R.now.length with writes := R.writes } by unfold RefD.replace; rw [if_pos hg]]
    have HM := Lib.hid (And.intro hpos m)
    have HLN := Lib.hid (show (newRef R.now.length).now.length = R.now.length by simp [newRef])
    clear hg hrest l2 l3 h m hpos
    go_enter Tryz.func17, Tryz.ntmps17
    go_upto_region 1 with fail
    obtain ⟨V, hV, hF, hbp, hbq, hsz⟩ := two_alloc w #[.slice A1 R.now.length c1, .slice A2 R.now.length c2, .slice A3 R.now.length c3, .int .i64 R.writes, .bool R.armed, .int .i64 R.left, .bool R.crashed, .bool R.gone] #[.slice none 0 0, .slice none 0 0, .slice none 0 0, .int .i64 0, .bool false, .int .i64 0, .bool false, .bool false] 33
    rw [← hV]
    have HRV := Lib.hid (HH.out.fr0 hF)
    have HB := Lib.hid (And.intro hF (And.intro hbp hbq))
    have hVs : w.heap.size + 2 ≤ V.heap.size := by omega
    have v0 : V.cell? ⟨w.heap.size, 0, none⟩ = some (.slice A1 R.now.length c1) := by rw [cell_of_blk hbp]; rfl
    have v3 : V.cell? ⟨w.heap.size, 3, none⟩ = some (.int .i64 R.writes) := by rw [cell_of_blk hbp]; rfl
    have v7 : V.cell? ⟨w.heap.size, 7, none⟩ = some (.bool R.gone) := by rw [cell_of_blk hbp]; rfl
    rw [HC.out] at v7
    have HNEW := Lib.hid (ref_newB (n := R.now.length) ⟨HM.out.1, HM.out.2⟩ V)
    clear hV hF hbp hbq hsz
    go_upto_region 5 with (first | ((with_reducible refine HNEW.out.mono ?_); rintro e w2 ⟨cs2, rfl, hV2, hF2⟩; obtain ⟨⟨a1, e1, a2, e2, a3, e3, hcs, -⟩, -, -, -⟩ := id hV2; rw [HLN.out] at hcs; replace hcs : cs2 = #[.slice a1 R.now.length e1, .slice a2 R.now.length e2, .slice a3 R.now.length e3, .int .i64 0, .bool false, .int .i64 0, .bool false, .bool false] := hcs; subst hcs; have hX2 := hF2.alloc (.cells #[.slice a1 R.now.length e1, .slice a2 R.now.length e2, .slice a3 R.now.length e3, .int .i64 0, .bool false, .int .i64 0, .bool false, .bool false] 33); have u3 : (w2.alloc (.cells #[.slice a1 R.now.length e1, .slice a2 R.now.length e2, .slice a3 R.now.length e3, .int .i64 0, .bool false, .int .i64 0, .bool false, .bool false] 33)).cell? ⟨w.heap.size, 3, none⟩ = some (.int .i64 R.writes) := hX2.cell0 v3; have hbn := heap_alloc_new w2 (.cells #[.slice a1 R.now.length e1, .slice a2 R.now.length e2, .slice a3 R.now.length e3, .int .i64 0, .bool false, .int .i64 0, .bool false, .bool false] 33); have HBX := Lib.hid (And.intro (HB.out.1.trans hF2) (And.intro (hF2.heap0 HB.out.2.2) hV2)); have HB2 := Lib.hid (And.intro (HB.out.1.trans hX2) (And.intro (hX2.heap0 HB.out.2.2) (And.intro (hV2.toV.fr0 ((Fr.refl none_ w2).alloc (.cells #[.slice a1 R.now.length e1, .slice a2 R.now.length e2, .slice a3 R.now.length e3, .int .i64 0, .bool false, .int .i64 0, .bool false, .bool false] 33))) hbn))); have hs2 := hF2.size; clear hF2 hX2 hbn))
    have hXX := (Fr.refl none_ w2).alloc (.cells #[.slice a1 R.now.length e1, .slice a2 R.now.length e2, .slice a3 R.now.length e3, .int .i64 R.writes, .bool false, .int .i64 0, .bool false, .bool false] 33)
    have hqq := hXX.heap0 HBX.out.2.1
    go_wp2_with (first | ((with_reducible refine at_store 33 (.tmp 2) (.tmp 19) (b := (w.heap.size + 1)) (c' := #[.slice a1 R.now.length e1, .slice a2 R.now.length e2, .slice a3 R.now.length e3, .int .i64 R.writes, .bool false, .int .i64 0, .bool false, .bool false]) ?_ ?_ hqq ?_ ?_ ?_ ?_); (focus rfl); (focus rfl); (focus rfl); (focus kernel_rfl); (focus (intro u hu; simp at hu; rcases hu with rfl | rfl | rfl | rfl | rfl | rfl | rfl | rfl <;> rfl)); intro w9 hFw9 hbw9; have HZ := Lib.hid (And.intro hFw9 hbw9); clear hFw9 hbw9))
    refine bodyPost_ret (res_dev1 (b := w.heap.size + 1) Tryz.results17 HZ.out.2 rfl) rfl ?_
    have hB := (HBX.out.2.2.fr hXX (fun _ _ h => h)).fr HZ.out.1 (fun i h1 h2 => by omega)
    obtain ⟨⟨b1, f1, b2, f2, b3, f3, he, hc, hr, _⟩, q2, q3, q4⟩ := hB
    refine ⟨_, rfl, ?_, (HBX.out.1.trans hXX).own HZ.out.1 (by omega)⟩
    rw [HLN.out] at he hr q2 q3 q4
    simp only [Array.mk.injEq, List.cons.injEq] at he
    obtain ⟨u1, u2, u3, _⟩ := he
    rw [u1, u2, u3]
    obtain ⟨k1, k2, k3⟩ := hc
    obtain ⟨r1, r2, r3, r4, r5, r6⟩ := hr
    have hl : ({ newRef R.now.length with writes := R.writes } : RefD).now.length = R.now.length := HLN.out
    exact ⟨⟨b1, f1, b2, f2, b3, f3, by rw [hl]; rfl, k1, k2, k3, by rw [hl]; exact r1, by rw [hl]; exact r2, by rw [hl]; exact r3, by rw [hl]; exact r4, by rw [hl]; exact r5, by rw [hl]; exact r6⟩, by rw [hl]; exact q2, by rw [hl]; exact q3, by rw [hl]; exact q4⟩
end Go.Proofs.YtffolfemcllfkaaGreatDoor
namespace Go.Proofs.YtffolfemcllfkaaGreatDoor
open Go.RowKit
set_option linter.unusedVariables false
set_option linter.unusedSimpArgs false
set_option maxRecDepth 100000

/-! The document's device, walked: Start. -/
def RefD.startT (R : RefD) (kept : List Bool) (i : Nat) : List (List UInt8) := (List.range i).map (R.startB kept)
theorem startT_succ (R : RefD) (kept : List Bool) (i : Nat) : R.startT kept (i + 1) = R.startT kept i ++ [R.startB kept i] := by
  unfold RefD.startT; rw [List.range_succ, List.map_append]; rfl
theorem startT_len (R : RefD) (kept : List Bool) (i : Nat) : (R.startT kept i).length = i := by simp [RefD.startT]
theorem rank_succ (R : RefD) (i : Nat) : R.rank (i + 1) = R.rank i + if R.loose[i]? = some true then 1 else 0 := by
  unfold RefD.rank
  rw [List.range_succ, List.filter_append, List.length_append]
  congr 1
  by_cases h : R.loose[i]? = some true <;> simp [List.filter_cons, h]
theorem rank_le (R : RefD) (i : Nat) : R.rank i ≤ i := by
  unfold RefD.rank
  refine Nat.le_trans (List.length_filter_le _ _) ?_
  simp
set_option maxHeartbeats 16000000 in
theorem ref_start {w : World} {cs : Array Value} {R : RefD} (h : RDV w cs R) (hpos : 0 < R.now.length) (kept : List Bool) (A : Option Addr) (nk ck : Nat) (hnk : nk = kept.length) (hA : CellsAt w A (kept.map Value.bool)) : Calls Tryz.prog 13 #[.agg cs, .slice A nk ck] w fun e w' => RDo1 w (R.start kept) e w' := by
  obtain ⟨⟨A1, c1, A2, c2, A3, c3, rfl, k1, k2, k3, hrest⟩, l2, l3, m⟩ := id h
  have HH := Lib.hid h
  by_cases hg : R.gone = true
  case pos =>
    have HC := Lib.hid hg
    rw [show R.start kept = R by unfold RefD.start; rw [if_pos hg]]
    clear hg hrest l2 l3 h m k1 k2 k3
    go_enter Tryz.func13, Tryz.ntmps13
    go_upto_region 1 with fail
    obtain ⟨V, hV, hF, hbp, hbq, hsz⟩ := two_alloc w #[.slice A1 R.now.length c1, .slice A2 R.now.length c2, .slice A3 R.now.length c3, .int .i64 R.writes, .bool R.armed, .int .i64 R.left, .bool R.crashed, .bool R.gone] #[.slice none 0 0, .slice none 0 0, .slice none 0 0, .int .i64 0, .bool false, .int .i64 0, .bool false, .bool false] 33
    rw [← hV]
    have HB := Lib.hid (And.intro hF (And.intro hbp hbq))
    have hVs : w.heap.size + 2 ≤ V.heap.size := by omega
    have v7 : V.cell? ⟨w.heap.size, 7, none⟩ = some (.bool R.gone) := by rw [cell_of_blk hbp]; rfl
    rw [HC.out] at v7
    clear hV hF hbp hbq hsz
    go_wp2_with (first | ((with_reducible refine at_load 33 (.tmp 2) (b := w.heap.size) ?_ HB.out.2.1 Tryz.underlying33 rfl (by kernel_rfl) ?_); (focus rfl)) | ((with_reducible refine at_store 33 (.tmp 4) (.tmp 10) (b := (w.heap.size + 1)) (c' := #[.slice A1 R.now.length c1, .slice A2 R.now.length c2, .slice A3 R.now.length c3, .int .i64 R.writes, .bool R.armed, .int .i64 R.left, .bool R.crashed, .bool R.gone]) ?_ ?_ HB.out.2.2 ?_ ?_ ?_ ?_); (focus rfl); (focus rfl); (focus rfl); (focus kernel_rfl); (focus (intro u hu; simp at hu; rcases hu with rfl | rfl | rfl | rfl | rfl | rfl | rfl | rfl <;> rfl)); intro w9 hFw9 hbw9; have HZ := Lib.hid (And.intro hFw9 hbw9); clear hFw9 hbw9))
    refine bodyPost_ret (res_dev1 (b := w.heap.size + 1) Tryz.results13 HZ.out.2 rfl) rfl ?_
    exact ⟨_, rfl, HH.out.fr0 (HB.out.1.own HZ.out.1 (by omega)), HB.out.1.own HZ.out.1 (by omega)⟩
  case neg =>
    have hgf : R.gone = false := by simpa using hg
    have HC := Lib.hid hgf
    have HP := Lib.hid hpos
    obtain ⟨n, hn⟩ : ∃ n, n = R.now.length := ⟨_, rfl⟩
    have hnb : n ≤ 16384 := by omega
    have HNN := Lib.hid hn
    have HRST := Lib.hid (show R.start kept = { R.settle (R.startT kept n) with crashed := false, armed := false } by
      have hL : R.startL kept = R.startT kept n := by unfold RefD.startL RefD.startT; rw [hn]
      unfold RefD.start RefD.settle
      rw [if_neg hg, hL, List.map_const', l3])
    obtain ⟨x1, p1, rfl⟩ := k1.addr (by rw [List.length_map]; omega)
    obtain ⟨x2, p2, rfl⟩ := k2.addr (by rw [List.length_map]; omega)
    obtain ⟨x3, p3, rfl⟩ := k3.addr (by rw [List.length_map]; omega)
    have HKK := Lib.hid (And.intro k1 (And.intro k2 (And.intro k3 hA)))
    have HLL := Lib.hid (And.intro l2 (And.intro l3 hnk))
    clear hg hgf hrest l2 l3 h m k1 k2 k3 hpos hn hA hnk
    go_enter Tryz.func13, Tryz.ntmps13
    go_upto_region 1 with fail
    obtain ⟨V, hV, hF, hbp, hbq, hsz⟩ := two_alloc w #[.slice (some ⟨x1, p1, none⟩) R.now.length c1, .slice (some ⟨x2, p2, none⟩) R.now.length c2, .slice (some ⟨x3, p3, none⟩) R.now.length c3, .int .i64 R.writes, .bool R.armed, .int .i64 R.left, .bool R.crashed, .bool R.gone] #[.slice none 0 0, .slice none 0 0, .slice none 0 0, .int .i64 0, .bool false, .int .i64 0, .bool false, .bool false] 33
    rw [← hV]
    have HRV := Lib.hid (HH.out.fr0 hF)
    have HB := Lib.hid (And.intro hF (And.intro hbp hbq))
    have hVs : w.heap.size + 2 ≤ V.heap.size := by omega
    have v7 : V.cell? ⟨w.heap.size, 7, none⟩ = some (.bool R.gone) := by rw [cell_of_blk hbp]; rfl
    rw [HC.out] at v7
    have v0 : V.cell? ⟨w.heap.size, 0, none⟩ = some (.slice (some ⟨x1, p1, none⟩) n c1) := by rw [cell_of_blk hbp, HNN.out]; rfl
    have v1 : V.cell? ⟨w.heap.size, 1, none⟩ = some (.slice (some ⟨x2, p2, none⟩) n c2) := by rw [cell_of_blk hbp, HNN.out]; rfl
    have v2 : V.cell? ⟨w.heap.size, 2, none⟩ = some (.slice (some ⟨x3, p3, none⟩) n c3) := by rw [cell_of_blk hbp, HNN.out]; rfl
    clear hV hF hbp hbq hsz
    go_wp2_with fail
    go_loopw [5, 6, 7] (fun lv kv iv wr => ∃ i : Nat, ∃ v, i ≤ n ∧ iv = .int .i64 (i : Int) ∧ kv = .int .i64 (R.rank i : Nat) ∧ wr.ownsRow V.heap.size 9 1 v i ((R.startT kept i).map strOf) ∧ v = lv ∧ Fr none_ V wr) (fun _ _ iv _ => n - (intOf iv).toNat)
    case atStart => exact ⟨0, _, by omega, rfl, rfl, World.ownsRow_nil _ _ _ _, rfl, Fr.refl _ _⟩
    case round =>
      obtain ⟨i, v, hi, rfl, rfl, hown, rfl, hFr⟩ := hrel
      have HOW := Lib.hid hown
      have hFw := HB.out.1.trans hFr
      have u0 := hFr.cell0 v0
      have u1 := hFr.cell0 v1
      have u2 := hFr.cell0 v2
      have hrl := rank_le R i
      by_cases hlt : i < n
      · have j1 : (i : Int) < (n : Int) := by omega
        have j2 : (0 : Int) ≤ (i : Int) := by omega
        obtain ⟨hL2, hL3, hnk⟩ := HLL.out
        have hi1 : i < R.now.length := by rw [← HNN.out]; exact hlt
        have hc1 := (HKK.out.1.fr0 hFw).get i (by rw [List.length_map]; exact hi1)
        rw [List.getElem_map] at hc1
        have hc2 := (HKK.out.2.1.fr0 hFw).get i (by rw [List.length_map, hL2]; exact hi1)
        rw [List.getElem_map] at hc2
        have hc3 := (HKK.out.2.2.1.fr0 hFw).get i (by rw [List.length_map, hL3]; exact hi1)
        rw [List.getElem_map] at hc3
        obtain ⟨nw, hnw⟩ : ∃ x, x = R.now[i] := ⟨_, rfl⟩
        obtain ⟨sf, hsf⟩ : ∃ x, x = R.safe[i]'(by rw [hL2]; exact hi1) := ⟨_, rfl⟩
        rw [← hnw] at hc1
        rw [← hsf] at hc2
        unfold strOf at hc1 hc2
        have hlo : R.loose[i]? = some (R.loose[i]'(by rw [hL3]; exact hi1)) := List.getElem?_eq_getElem _
        have hrs := rank_succ R i
        obtain ⟨rk, hrk⟩ : ∃ rk, rk = R.rank i := ⟨_, rfl⟩
        rw [← hrk] at hrl hrs ⊢
        cases hlb : R.loose[i]'(by rw [hL3]; exact hi1) with
        | false =>
          rw [hlb] at hc3 hlo
          have HRK := Lib.hid (show R.rank (i + 1) = rk by rw [hrs, hlo, if_neg (by decide)]; rfl)
          clear hrs hrk hlb
          obtain ⟨bb, hbb⟩ : ∃ bb, bb = nw := ⟨_, rfl⟩
          have hstb : R.startB kept i = bb := by rw [hbb]; unfold RefD.startB; rw [hlo, if_neg (by rintro ⟨h, _⟩; cases h), List.getElem?_eq_getElem hi1, hnw]; rfl
          obtain ⟨X, hX⟩ : ∃ X, X = wr.alloc (.cells #[.string ⟨bb.toArray⟩] 9) := ⟨_, rfl⟩
          have hFX : Fr none_ wr X := by rw [hX]; exact (Fr.refl _ _).alloc _
          have hat : CellsAt X (some ⟨wr.heap.size, 0, none⟩) [.string ⟨bb.toArray⟩] := by rw [hX]; exact CellsAt.whole (l := [Value.string ⟨bb.toArray⟩]) (heap_alloc_new wr (.cells #[.string ⟨bb.toArray⟩] 9))
          have hnil : (some (⟨wr.heap.size, 0, none⟩ : Addr)) = none → (1 : Nat) = 0 ∧ (1 : Nat) = 0 := fun h => by cases h
          have hXs : X.heap.size = wr.heap.size + 1 := by rw [hX, World.size_alloc]
          have hown := ownsRow_fr0 HOW.out hFX
          have hown0 := Lib.hid hown
          have hws := hFr.size
          have HFX := Lib.hid (hFr.trans hFX)
          rw [hX] at hown hat hXs
          have HX := Lib.hid hX
          have HNX := Lib.hid (show (R.startT kept (i + 1)) = R.startT kept i ++ [bb] by rw [startT_succ, hstb])
          clear hX hFX hstb
          rw [← hbb] at hc1; clear hnw hsf hlo hL2 hL3 hnk
          clear hbb
          go_wp2_with ((with_reducible refine at_append (.tmp 24) (.tmp 30) 30 V.heap.size 9 (.string ⟨#[]⟩) 1 16 (v := v) (n := i) (xs := (R.startT kept i).map strOf) (A := some ⟨wr.heap.size, 0, none⟩) (m := 1) (c := 1) (news := [.string ⟨bb.toArray⟩]) Tryz.underlying30 info_str ?_ ?_ ?_ ?_ hown hat hnil ?_ ?_ ?_ ?_ ?_ ?_); (focus rfl); (focus decide); (focus rfl); (focus rfl); (focus rfl); (focus (intro u hu; simp at hu; subst hu; rfl)); (focus unfold maxLen; omega); (focus omega); (focus omega); intro v9 w9 hown9 hg9; rw [← HX.out] at hg9; have HO9 := Lib.hid (And.intro hown9 (Fr.grown HFX.out hg9 hown0.out (Nat.le_refl _))); clear hown9 hg9)
          go_roundw
          case rel => exact ⟨i + 1, v9, by omega, by go_num, by (rw [HRK.out]) <;> go_num, by rw [HNX.out, List.map_append]; exact HO9.out.1, rfl, HO9.out.2⟩
          case measure => simp [intOf]; omega
        | true =>
          rw [hlb] at hc3 hlo
          have HRK := Lib.hid (show R.rank (i + 1) = rk + 1 by rw [hrs, hlo, if_pos rfl])
          by_cases hkl : rk < kept.length
          · have l1 : (rk : Int) < (nk : Int) := by omega
            have l2 : (0 : Int) ≤ (rk : Int) := by omega
            obtain ⟨y, q, hAq⟩ := HKK.out.2.2.2.addr (by rw [List.length_map]; omega)
            subst hAq
            have hkc := (HKK.out.2.2.2.fr0 hFw).get rk (by rw [List.length_map]; exact hkl)
            rw [List.getElem_map] at hkc
            have hkk : kept[rk]? = some kept[rk] := List.getElem?_eq_getElem hkl
            cases hkb : kept[rk] with
            | true =>
              rw [hkb] at hkc hkk
              clear hrs hlb hkb
              obtain ⟨bb, hbb⟩ : ∃ bb, bb = nw := ⟨_, rfl⟩
              have hstb : R.startB kept i = bb := by rw [hbb]; unfold RefD.startB; rw [hlo, if_neg (by rintro ⟨_, h⟩; exact h (by rw [← hrk]; exact hkk)), List.getElem?_eq_getElem hi1, hnw]; rfl
              obtain ⟨X, hX⟩ : ∃ X, X = wr.alloc (.cells #[.string ⟨bb.toArray⟩] 9) := ⟨_, rfl⟩
              have hFX : Fr none_ wr X := by rw [hX]; exact (Fr.refl _ _).alloc _
              have hat : CellsAt X (some ⟨wr.heap.size, 0, none⟩) [.string ⟨bb.toArray⟩] := by rw [hX]; exact CellsAt.whole (l := [Value.string ⟨bb.toArray⟩]) (heap_alloc_new wr (.cells #[.string ⟨bb.toArray⟩] 9))
              have hnil : (some (⟨wr.heap.size, 0, none⟩ : Addr)) = none → (1 : Nat) = 0 ∧ (1 : Nat) = 0 := fun h => by cases h
              have hXs : X.heap.size = wr.heap.size + 1 := by rw [hX, World.size_alloc]
              have hown := ownsRow_fr0 HOW.out hFX
              have hown0 := Lib.hid hown
              have hws := hFr.size
              have HFX := Lib.hid (hFr.trans hFX)
              rw [hX] at hown hat hXs
              have HX := Lib.hid hX
              have HNX := Lib.hid (show (R.startT kept (i + 1)) = R.startT kept i ++ [bb] by rw [startT_succ, hstb])
              clear hX hFX hstb
              rw [← hbb] at hc1; clear hnw hsf hlo hL2 hL3 hnk hkk hrk
              clear hbb
              go_wp2_with ((with_reducible refine at_append (.tmp 42) (.tmp 48) 30 V.heap.size 9 (.string ⟨#[]⟩) 1 16 (v := v) (n := i) (xs := (R.startT kept i).map strOf) (A := some ⟨wr.heap.size, 0, none⟩) (m := 1) (c := 1) (news := [.string ⟨bb.toArray⟩]) Tryz.underlying30 info_str ?_ ?_ ?_ ?_ hown hat hnil ?_ ?_ ?_ ?_ ?_ ?_); (focus rfl); (focus decide); (focus rfl); (focus rfl); (focus rfl); (focus (intro u hu; simp at hu; subst hu; rfl)); (focus unfold maxLen; omega); (focus omega); (focus omega); intro v9 w9 hown9 hg9; rw [← HX.out] at hg9; have HO9 := Lib.hid (And.intro hown9 (Fr.grown HFX.out hg9 hown0.out (Nat.le_refl _))); clear hown9 hg9)
              go_roundw
              case rel => exact ⟨i + 1, v9, by omega, by go_num, by (rw [HRK.out]) <;> go_num, by rw [HNX.out, List.map_append]; exact HO9.out.1, rfl, HO9.out.2⟩
              case measure => simp [intOf]; omega
            | false =>
              rw [hkb] at hkc hkk
              clear hrs hlb hkb
              obtain ⟨bb, hbb⟩ : ∃ bb, bb = sf := ⟨_, rfl⟩
              have hstb : R.startB kept i = bb := by rw [hbb]; unfold RefD.startB; rw [hlo, if_pos ⟨rfl, by rw [← hrk, hkk]; decide⟩, List.getElem?_eq_getElem (by rw [hL2]; exact hi1), hsf]; rfl
              obtain ⟨X, hX⟩ : ∃ X, X = wr.alloc (.cells #[.string ⟨bb.toArray⟩] 9) := ⟨_, rfl⟩
              have hFX : Fr none_ wr X := by rw [hX]; exact (Fr.refl _ _).alloc _
              have hat : CellsAt X (some ⟨wr.heap.size, 0, none⟩) [.string ⟨bb.toArray⟩] := by rw [hX]; exact CellsAt.whole (l := [Value.string ⟨bb.toArray⟩]) (heap_alloc_new wr (.cells #[.string ⟨bb.toArray⟩] 9))
              have hnil : (some (⟨wr.heap.size, 0, none⟩ : Addr)) = none → (1 : Nat) = 0 ∧ (1 : Nat) = 0 := fun h => by cases h
              have hXs : X.heap.size = wr.heap.size + 1 := by rw [hX, World.size_alloc]
              have hown := ownsRow_fr0 HOW.out hFX
              have hown0 := Lib.hid hown
              have hws := hFr.size
              have HFX := Lib.hid (hFr.trans hFX)
              rw [hX] at hown hat hXs
              have HX := Lib.hid hX
              have HNX := Lib.hid (show (R.startT kept (i + 1)) = R.startT kept i ++ [bb] by rw [startT_succ, hstb])
              clear hX hFX hstb
              rw [← hbb] at hc2; clear hnw hsf hlo hL2 hL3 hnk hkk hrk
              clear hbb
              go_wp2_with ((with_reducible refine at_append (.tmp 50) (.tmp 56) 30 V.heap.size 9 (.string ⟨#[]⟩) 1 16 (v := v) (n := i) (xs := (R.startT kept i).map strOf) (A := some ⟨wr.heap.size, 0, none⟩) (m := 1) (c := 1) (news := [.string ⟨bb.toArray⟩]) Tryz.underlying30 info_str ?_ ?_ ?_ ?_ hown hat hnil ?_ ?_ ?_ ?_ ?_ ?_); (focus rfl); (focus decide); (focus rfl); (focus rfl); (focus rfl); (focus (intro u hu; simp at hu; subst hu; rfl)); (focus unfold maxLen; omega); (focus omega); (focus omega); intro v9 w9 hown9 hg9; rw [← HX.out] at hg9; have HO9 := Lib.hid (And.intro hown9 (Fr.grown HFX.out hg9 hown0.out (Nat.le_refl _))); clear hown9 hg9)
              go_roundw
              case rel => exact ⟨i + 1, v9, by omega, by go_num, by (rw [HRK.out]) <;> go_num, by rw [HNX.out, List.map_append]; exact HO9.out.1, rfl, HO9.out.2⟩
              case measure => simp [intOf]; omega
          · have l1 : ¬ (rk : Int) < (nk : Int) := by omega
            have hkk : kept[rk]? = none := List.getElem?_eq_none (by omega)
            clear hrs hlb
            obtain ⟨bb, hbb⟩ : ∃ bb, bb = sf := ⟨_, rfl⟩
            have hstb : R.startB kept i = bb := by rw [hbb]; unfold RefD.startB; rw [hlo, if_pos ⟨rfl, by rw [← hrk, hkk]; decide⟩, List.getElem?_eq_getElem (by rw [hL2]; exact hi1), hsf]; rfl
            obtain ⟨X, hX⟩ : ∃ X, X = wr.alloc (.cells #[.string ⟨bb.toArray⟩] 9) := ⟨_, rfl⟩
            have hFX : Fr none_ wr X := by rw [hX]; exact (Fr.refl _ _).alloc _
            have hat : CellsAt X (some ⟨wr.heap.size, 0, none⟩) [.string ⟨bb.toArray⟩] := by rw [hX]; exact CellsAt.whole (l := [Value.string ⟨bb.toArray⟩]) (heap_alloc_new wr (.cells #[.string ⟨bb.toArray⟩] 9))
            have hnil : (some (⟨wr.heap.size, 0, none⟩ : Addr)) = none → (1 : Nat) = 0 ∧ (1 : Nat) = 0 := fun h => by cases h
            have hXs : X.heap.size = wr.heap.size + 1 := by rw [hX, World.size_alloc]
            have hown := ownsRow_fr0 HOW.out hFX
            have hown0 := Lib.hid hown
            have hws := hFr.size
            have HFX := Lib.hid (hFr.trans hFX)
            rw [hX] at hown hat hXs
            have HX := Lib.hid hX
            have HNX := Lib.hid (show (R.startT kept (i + 1)) = R.startT kept i ++ [bb] by rw [startT_succ, hstb])
            clear hX hFX hstb
            rw [← hbb] at hc2; clear hnw hsf hlo hL2 hL3 hnk hkk hrk
            clear hbb
            go_wp2_with ((with_reducible refine at_append (.tmp 50) (.tmp 56) 30 V.heap.size 9 (.string ⟨#[]⟩) 1 16 (v := v) (n := i) (xs := (R.startT kept i).map strOf) (A := some ⟨wr.heap.size, 0, none⟩) (m := 1) (c := 1) (news := [.string ⟨bb.toArray⟩]) Tryz.underlying30 info_str ?_ ?_ ?_ ?_ hown hat hnil ?_ ?_ ?_ ?_ ?_ ?_); (focus rfl); (focus decide); (focus rfl); (focus rfl); (focus rfl); (focus (intro u hu; simp at hu; subst hu; rfl)); (focus unfold maxLen; omega); (focus omega); (focus omega); intro v9 w9 hown9 hg9; rw [← HX.out] at hg9; have HO9 := Lib.hid (And.intro hown9 (Fr.grown HFX.out hg9 hown0.out (Nat.le_refl _))); clear hown9 hg9)
            go_roundw
            case rel => exact ⟨i + 1, v9, by omega, by go_num, by (rw [HRK.out]) <;> go_num, by rw [HNX.out, List.map_append]; exact HO9.out.1, rfl, HO9.out.2⟩
            case measure => simp [intOf]; omega
      · have j1 : ¬ (i : Int) < (n : Int) := by omega
        have hin : i = n := by omega
        subst hin
        obtain ⟨A9, c9, rfl, hA9, _⟩ := ownsRow_read HOW.out
        have hbp2 := hFr.heap0 HB.out.2.1
        have HSL := Lib.hid (show (R.settle (R.startT kept i)).now.length = i from startT_len R kept i)
        have HST := Lib.hid (ref_settle (HRV.out.fr0 hFr) HP.out (R.startT kept i) (by rw [startT_len, HNN.out]) A9 i c9 (startT_len R kept i).symm hA9)
        have hws := hFr.size
        have HW := Lib.hid (And.intro hFw (And.intro hbp2 (hFr.heap0 HB.out.2.2)))
        clear hown hA9 hFr hFw u1 u2
        go_wp2_with (first | ((with_reducible refine at_load 33 (.tmp 2) (b := w.heap.size) ?_ hbp2 Tryz.underlying33 rfl (by kernel_rfl) ?_); (focus rfl)) | ((with_reducible refine HST.out.mono ?_); rintro e w2 ⟨cs2, rfl, hV2, hF2⟩; obtain ⟨⟨a1, e1, a2, e2, a3, e3, hcs, -⟩, -, -, -⟩ := id hV2; rw [HSL.out] at hcs; replace hcs : cs2 = #[.slice a1 i e1, .slice a2 i e2, .slice a3 i e3, .int .i64 R.writes, .bool R.armed, .int .i64 R.left, .bool R.crashed, .bool R.gone] := hcs; subst hcs; have HB2 := Lib.hid (And.intro (HW.out.1.trans hF2) (And.intro (hF2.heap0 HW.out.2.1) (And.intro (hF2.heap0 HW.out.2.2) hV2))); have hs2 := hF2.size; clear hF2 hV2) | ((with_reducible refine at_store 33 (.tmp 2) (.tmp 62) (b := w.heap.size) (c' := #[.slice a1 i e1, .slice a2 i e2, .slice a3 i e3, .int .i64 R.writes, .bool R.armed, .int .i64 R.left, .bool R.crashed, .bool R.gone]) ?_ ?_ HB2.out.2.1 ?_ ?_ ?_ ?_); (focus rfl); (focus rfl); (focus rfl); (focus kernel_rfl); (focus (intro u hu; simp at hu; rcases hu with rfl | rfl | rfl | rfl | rfl | rfl | rfl | rfl <;> rfl)); intro w3 hFw3 hbw3; have HB3 := Lib.hid (And.intro (HB2.out.1.own hFw3 (by omega)) (And.intro (hFw3.heap HB2.out.2.2.1 (by omega)) (HB2.out.2.2.2.fr hFw3 (fun i h1 h2 => by omega)))); have hs3 := hFw3.size; have y6 : w3.cell? ⟨w.heap.size, 6, none⟩ = some (.bool R.crashed) := (by rw [cell_of_blk hbw3]; rfl); have y4 : w3.cell? ⟨w.heap.size, 4, none⟩ = some (.bool R.armed) := (by rw [cell_of_blk hbw3]; rfl); have yf := (fun o => frozen_of_blk hbw3 o); have hX4 : Fr (fun i => i = w.heap.size) w3 ((w3.setCell ⟨w.heap.size, 6, none⟩ (.bool false)).setCell ⟨w.heap.size, 4, none⟩ (.bool false)) := (Fr.set w3 w.heap.size 6 _).trans (Fr.set _ w.heap.size 4 _); have hp4 : ((w3.setCell ⟨w.heap.size, 6, none⟩ (.bool false)).setCell ⟨w.heap.size, 4, none⟩ (.bool false)).heap[w.heap.size]? = some (.cells #[.slice a1 i e1, .slice a2 i e2, .slice a3 i e3, .int .i64 R.writes, .bool false, .int .i64 R.left, .bool false, .bool R.gone] 33 (0, 0)) := heap_setCell_same (heap_setCell_same hbw3 (o := 6) (.bool false)) (o := 4) (.bool false); have hq4 := hX4.heap HB3.out.2.1 (by omega); clear hFw3 hbw3) | ((with_reducible refine at_load 33 (.tmp 2) (b := w.heap.size) ?_ hp4 Tryz.underlying33 rfl (by kernel_rfl) ?_); (focus rfl)) | ((with_reducible refine at_store 33 (.tmp 4) (.tmp 65) (b := (w.heap.size + 1)) (c' := #[.slice a1 i e1, .slice a2 i e2, .slice a3 i e3, .int .i64 R.writes, .bool false, .int .i64 R.left, .bool false, .bool R.gone]) ?_ ?_ hq4 ?_ ?_ ?_ ?_); (focus rfl); (focus rfl); (focus rfl); (focus kernel_rfl); (focus (intro u hu; simp at hu; rcases hu with rfl | rfl | rfl | rfl | rfl | rfl | rfl | rfl <;> rfl)); intro w9 hFw9 hbw9; have HZ := Lib.hid (And.intro hFw9 hbw9); clear hFw9 hbw9))
        refine bodyPost_ret (res_dev1 (b := w.heap.size + 1) Tryz.results13 HZ.out.2 rfl) rfl ?_
        have hB := (HB3.out.2.2.fr hX4 (fun i h1 h2 => by omega)).fr HZ.out.1 (fun i h1 h2 => by omega)
        obtain ⟨⟨b1, f1, b2, f2, b3, f3, he, hc, hr, _⟩, q2, q3, q4⟩ := hB
        rw [HRST.out]
        refine ⟨_, rfl, ?_, (HB3.out.1.own hX4 (by omega)).own HZ.out.1 (by omega)⟩
        rw [HSL.out] at he hr q2 q3 q4
        simp only [Array.mk.injEq, List.cons.injEq] at he
        obtain ⟨z1, z2, z3, _⟩ := he
        rw [z1, z2, z3]
        obtain ⟨k1, k2, k3⟩ := hc
        obtain ⟨r1, r2, r3, r4, r5, r6⟩ := hr
        have hl : ({ R.settle (R.startT kept i) with crashed := false, armed := false } : RefD).now.length = i := HSL.out
        exact ⟨⟨b1, f1, b2, f2, b3, f3, by rw [hl]; rfl, k1, k2, k3, by rw [hl]; exact r1, by rw [hl]; exact r2, by rw [hl]; exact r3, by rw [hl]; exact r4, by rw [hl]; exact r5, by rw [hl]; exact r6⟩, by rw [hl]; exact q2, by rw [hl]; exact q3, by rw [hl]; exact q4⟩
end Go.Proofs.YtffolfemcllfkaaGreatDoor

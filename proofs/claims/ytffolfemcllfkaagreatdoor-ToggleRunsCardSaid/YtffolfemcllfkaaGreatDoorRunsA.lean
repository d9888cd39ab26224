import Derived.Test.YtffolfemcllfkaaGreatDoorRunsSM
import Derived.Test.YtffolfemcllfkaaGreatDoorRefSave
import Derived.Test.YtffolfemcllfkaaGreatDoorLawNum04
import Derived.Test.YtffolfemcllfkaaGreatDoorTogSure
import Derived.Test.YtffolfemcllfkaaGreatDoorLawKM
import Derived.ArgAppend
namespace Go.Proofs.YtffolfemcllfkaaGreatDoor
open Go.RowKit
set_option linter.unusedVariables false
set_option linter.unusedSimpArgs false
set_option maxRecDepth 100000

/-! ToggleRuns: its arguments; both devices between its acts. -/
theorem ra_bool : Tryz.prog.cellsOf 4 = 1 := by kernel_rfl
theorem ra_bb : 1 ≤ Tryz.prog.bytesOf 4 := by rw [show Tryz.prog.bytesOf 4 = 1 by kernel_rfl]; exact Nat.le_refl _
theorem ra_int : Tryz.prog.cellsOf 3 = 1 := by kernel_rfl
theorem ra_u8 : Tryz.prog.cellsOf 5 = 1 := by kernel_rfl
theorem ra_b8 : 1 ≤ Tryz.prog.bytesOf 5 := by rw [show Tryz.prog.bytesOf 5 = 1 by kernel_rfl]; exact Nat.le_refl _
theorem ra_sl : Tryz.prog.cellsOf 37 = 1 := by kernel_rfl
theorem ra_bools : Tryz.prog.cellsOf 31 = 1 := by kernel_rfl
theorem ra_act : Tryz.prog.cellsOf 39 = 4 := by kernel_rfl
structure BArg (w : World) (A : Option Addr) (n c : Nat) (l : List UInt8) : Prop where
  len : n = l.length
  cap : n ≤ c
  cells : CellsAt w A (l.map byteV)
  nil : A = none → n = 0 ∧ c = 0
structure KpArg (w : World) (A : Option Addr) (n c : Nat) (kept : List Bool) : Prop where
  len : n = kept.length
  most : kept.length ≤ 140737488351232
  cells : CellsAt w A (kept.map Value.bool)
  nil : A = none → n = 0 ∧ c = 0
def TActsAt (w : World) (L : Option Addr) (m : Nat) : Prop := ∀ i, i < m → ∃ b o kd aa A n c l Ak nk ck kept, L = some ⟨b, o, none⟩ ∧ w.cell? ⟨b, o + i * 4, none⟩ = some (.int .i64 kd) ∧ w.cell? ⟨b, o + i * 4 + 1, none⟩ = some (.int .i64 aa) ∧ w.cell? ⟨b, o + i * 4 + 2, none⟩ = some (.slice A n c) ∧ w.cell? ⟨b, o + i * 4 + 3, none⟩ = some (.slice Ak nk ck) ∧ BArg w A n c l ∧ KpArg w Ak nk ck kept
theorem four_of_len {α : Type} (r : List α) (h : r.length = 4) : ∃ a b c d, r = [a, b, c, d] := by
  match r, h with
  | [a, b, c, d], _ => exact ⟨a, b, c, d, rfl⟩
theorem tacts_of_rows {W : World} {v : Value} {A : Option Addr} {n c : Nat} {rows : List (List Value)} (hR : RowsArg Tryz.prog W 39 v A n c 4 rows) : TActsAt W A n := by
  intro i hi
  have hi2 : i < rows.length := by have := hR.len; omega
  obtain ⟨b, o, hA, hc⟩ := hR.cells i hi2
  obtain ⟨hlen, hrd⟩ := hR.rd rows[i] (List.getElem_mem _)
  obtain ⟨_, hf⟩ := hrd.struct Tryz.underlying39
  clear hrd
  obtain ⟨r, hr⟩ : ∃ r, r = rows[i] := ⟨_, rfl⟩
  rw [← hr] at hlen hf hc
  clear hr
  have h0 : Rd Tryz.prog W 3 ((r.drop 0).take (Tryz.prog.cellsOf 3)) := hf 0 (by simp)
  have h1 : Rd Tryz.prog W 3 ((r.drop 1).take (Tryz.prog.cellsOf 3)) := hf 1 (by simp)
  have h3 : Rd Tryz.prog W 37 ((r.drop 2).take (Tryz.prog.cellsOf 37)) := hf 2 (by simp)
  have h4 : Rd Tryz.prog W 31 ((r.drop 3).take (Tryz.prog.cellsOf 31)) := hf 3 (by simp)
  clear hf
  rw [ra_int] at h0 h1
  rw [ra_sl] at h3
  rw [ra_bools] at h4
  obtain ⟨u0, u1, u3, u4, rfl⟩ := four_of_len r hlen
  obtain ⟨k0, e0⟩ := rd_int Tryz.underlying3 u0 h0
  obtain ⟨k1, e1⟩ := rd_int Tryz.underlying3 u1 h1
  obtain ⟨Ad, nd, cd, l, hB⟩ := (h3.sl Tryz.underlying37).ones byteV ra_u8 ra_b8 (fun u hu => by
    obtain ⟨n, hn, hw⟩ := hu.int Tryz.underlying5
    obtain ⟨x, hx⟩ := u8_of_wf hw
    exact ⟨x, by simp at hn; rw [hn, hx]⟩)
  obtain ⟨Ak, nk, ck, kept, hK⟩ := (h4.sl Tryz.underlying31).ones Value.bool ra_bool ra_bb (rd_bool Tryz.underlying4)
  obtain ⟨e3, hn, hcap, hm, hC, hnil⟩ := hB
  obtain ⟨e4, hn2, hcap2, hm2, hC2, hnil2⟩ := hK
  subst e0 e1 e3 e4
  exact ⟨b, o, k0, k1, Ad, nd, cd, l, Ak, nk, ck, kept, hA, hc 0 _ rfl, hc 1 _ rfl, hc 2 _ rfl, hc 3 _ rfl, ⟨hn, hcap, hC, hnil⟩, ⟨hn2, by omega, hC2, hnil2⟩⟩
/-! drydocklaw04.own: marks of their own. -/
theorem info_boolA : (Tryz.prog.info? 4).map (fun i => (i.zero, i.size, i.bytes)) = some (some (.bool false), 1, 1) := by kernel_rfl
theorem own_any (w : World) (A : Option Addr) (n c : Nat) (kept : List Bool) (hn : n = kept.length) (hA : CellsAt w A (kept.map Value.bool)) (hnil : A = none → n = 0 ∧ c = 0) (hm : kept.length ≤ 140737488351232) :
    Calls Tryz.prog 12 #[.slice A n c] w fun e w' => ∃ A' c', e = .returned (.slice A' kept.length c') ∧ CellsAt w' A' (kept.map Value.bool) ∧ (∀ b, blkOf A' b → w.heap.size ≤ b) ∧ Fr none_ w w' := by
  subst hn
  have h0 : w.ownsRow w.heap.size 4 1 (.slice none 0 0) 0 [] := World.ownsRow_nil _ _ _ _
  go_enter Tryz.func12, Tryz.ntmps12
  go_wp2_with ((with_reducible refine at_append (.tmp 4) (.tmp 5) 31 w.heap.size 4 (.bool false) 1 1 (v := .slice none 0 0) (n := 0) (xs := []) (A := A) (m := kept.length) (c := c) (news := kept.map Value.bool) Tryz.underlying31 info_boolA ?_ ?_ ?_ ?_ h0 hA hnil ?_ ?_ ?_ ?_ ?_ ?_); (focus rfl); (focus decide); (focus rfl); (focus rfl); (focus simp); (focus (intro u hu; obtain ⟨x, _, rfl⟩ := List.mem_map.1 hu; rfl)); (focus unfold maxLen; omega); (focus omega); (focus exact Nat.le_refl _); intro v' w1 hown1 hg)
  go_ret
  rw [Nat.zero_add, List.nil_append] at hown1
  obtain ⟨A', c', rfl, hA', hc', hnil', hbl'⟩ := ownsRow_read hown1
  exact ⟨A', c', rfl, hA', fun b hb => (hbl' b hb).1, Fr.grown (Fr.refl _ _) hg h0 (Nat.le_refl _)⟩
theorem dev_cellsT {w : World} {p m1 m2 : Nat} {D : DevS} (hD : DevAt w p m1 m2 D) {g : Nat} {c : Array Value} {T : TypeId} (hb : w.heap[g]? = some (.cells c T (0, 0))) (hT : T ≠ 109) : ¬ devBlks p m1 m2 g := by
  rintro (rfl | rfl | rfl)
  · rw [hD.blk] at hb; cases hb; exact hT rfl
  · obtain ⟨es, c2, h2, _⟩ := hD.now.has
    rw [h2] at hb; cases hb
  · obtain ⟨es, c2, h2, _⟩ := hD.loose.has
    rw [h2] at hb; cases hb
theorem dev_shape {w : World} {p m1 m2 : Nat} {D : DevS} (hD : DevAt w p m1 m2 D) {x o : Nat} {v : Value} (hx : devBlks p m1 m2 x) (hc : w.cell? ⟨x, o, none⟩ = some v) : (D.cells m1 m2)[o]? = some v := by
  rcases hx with rfl | rfl | rfl
  · rw [cell_of_blk hD.blk] at hc; exact hc
  · obtain ⟨es, c2, h2, _⟩ := hD.now.has
    unfold World.cell? at hc
    rw [h2] at hc; cases hc
  · obtain ⟨es, c2, h2, _⟩ := hD.loose.has
    unfold World.cell? at hc
    rw [h2] at hc; cases hc
theorem cells_noStr (D : DevS) (m1 m2 j : Nat) (x : List UInt8) : (D.cells m1 m2)[j]? ≠ some (strOf x) := by
  unfold DevS.cells strOf
  intro h
  match j with
  | 0 => cases h
  | 1 => cases h
  | 2 => cases h
  | 3 => cases h
  | 4 => cases h
  | 5 => cases h
  | 6 => cases h
  | 7 => cases h
  | j + 8 => simp at h
theorem cells_noBools (D : DevS) (m1 m2 j : Nat) (p q r : Bool) (h0 : (D.cells m1 m2)[j]? = some (.bool p)) (h1 : (D.cells m1 m2)[j + 1]? = some (.bool q)) (h2 : (D.cells m1 m2)[j + 2]? = some (.bool r)) : False := by
  unfold DevS.cells at h0 h1 h2
  match j with
  | 0 => cases h0
  | 1 => cases h0
  | 2 => cases h0
  | 3 => cases h0
  | 4 => cases h1
  | 5 => cases h0
  | 6 => simp at h2
  | 7 => simp at h1
  | j + 8 => simp at h0
theorem RDV.frDev {w w' : World} {p m1 m2 : Nat} {D : DevS} {cs : Array Value} {R : RefD} (h : RDV w cs R) (h3 : 3 ≤ R.now.length) (hD : DevAt w p m1 m2 D) (hF : Fr (devBlks p m1 m2) w w') : RDV w' cs R := by
  obtain ⟨⟨A1, c1, A2, c2, A3, c3, e, h1, h2, h4, r⟩, l2, l3, m⟩ := h
  have hs : ∀ (A : Option Addr) (l : List (List UInt8)), 0 < l.length → CellsAt w A (l.map strOf) → CellsAt w' A (l.map strOf) := fun A l hl hA => hA.fr hF (fun x hx e => by
    obtain ⟨b', o, hA', hcell⟩ := hA 0 (by rw [List.length_map]; exact hl)
    have := blkOf_some (hA' ▸ hx)
    subst this
    have hcell2 := dev_shape hD e hcell
    rw [List.getElem_map] at hcell2
    exact cells_noStr _ _ _ _ _ hcell2)
  have hbl : CellsAt w' A3 (R.loose.map Value.bool) := h4.fr hF (fun x hx hd => by
    obtain ⟨o, rfl⟩ := hx
    have g := fun k (hk : k < R.loose.length) => dev_shape hD hd (h4.get k (by rw [List.length_map]; exact hk))
    have g0 := g 0 (by omega)
    have g1 := g 1 (by omega)
    have g2 := g 2 (by omega)
    rw [List.getElem_map] at g0 g1 g2
    exact cells_noBools _ _ _ o _ _ _ g0 g1 g2)
  exact ⟨⟨A1, c1, A2, c2, A3, c3, e, hs A1 _ (by omega) h1, hs A2 _ (by omega) h2, hbl, r⟩, l2, l3, m⟩
abbrev KPT := Nat → Array Value → TypeId → Prop
/-- both devices, the document's in its block b; other blocks that stay -/
structure RunH (W wr : World) (p m1 m2 b : Nat) (K : KPT) (cs : Array Value) (D : DevS) (R : RefD) : Prop where
  dev : DevAt wr p m1 m2 D
  ref : RDV wr cs R
  blk : wr.heap[b]? = some (.cells cs 33 (0, 0))
  keep : ∀ g c T, K g c T → wr.heap[g]? = some (.cells c T (0, 0)) ∧ T ≠ 109 ∧ g ≠ b
  fr : Fr none_ W wr
  nd : ∀ i, devBlks p m1 m2 i → W.heap.size ≤ i
  nb : W.heap.size ≤ b
  len : R.now.length = 14
theorem RunH.fr0 {W wr w' : World} {p m1 m2 b : Nat} {K : KPT} {cs : Array Value} {D : DevS} {R : RefD} (h : RunH W wr p m1 m2 b K cs D R) (hF : Fr none_ wr w') : RunH W w' p m1 m2 b K cs D R :=
  ⟨h.dev.fr0 hF, h.ref.fr0 hF, hF.heap0 h.blk, fun g c T hg => ⟨hF.heap0 (h.keep g c T hg).1, (h.keep g c T hg).2⟩, h.fr.trans hF, h.nd, h.nb, h.len⟩
theorem RunH.devStep {W wr w' : World} {p m1 m2 b : Nat} {K : KPT} {cs : Array Value} {D D' : DevS} {R : RefD} (h : RunH W wr p m1 m2 b K cs D R) (hF : Fr (devBlks p m1 m2) wr w') (hD : DevAt w' p m1 m2 D') : RunH W w' p m1 m2 b K cs D' R :=
  ⟨hD, h.ref.frDev (by rw [h.len]; decide) h.dev hF, hF.heap h.blk (dev_cellsT h.dev h.blk (by decide)), fun g c T hg => ⟨hF.heap (h.keep g c T hg).1 (dev_cellsT h.dev (h.keep g c T hg).1 (h.keep g c T hg).2.1), (h.keep g c T hg).2⟩, h.fr.trans' hF (fun i hi e => by have := h.nd i e; omega), h.nd, h.nb, h.len⟩
theorem RunH.refStep {W wr w1 w2 : World} {p m1 m2 b : Nat} {K : KPT} {cs cs' : Array Value} {D : DevS} {R R' : RefD} (h : RunH W wr p m1 m2 b K cs D R) (hF : Fr none_ wr w1) (hv : RDV w1 cs' R') (hl : R'.now.length = 14) (hFb : Fr (fun i => i = b) w1 w2) (hb : w2.heap[b]? = some (.cells cs' 33 (0, 0))) : RunH W w2 p m1 m2 b K cs' D R' :=
  ⟨(h.dev.fr0 hF).fr hFb (fun i hi e => by subst e; exact dev_cellsT (h.dev.fr0 hF) (hF.heap0 h.blk) (by decide) hi), hv.frD (by rw [hl]; decide) (hF.heap0 h.blk) h.ref.devC hFb, hb, fun g c T hg => ⟨hFb.heap (hF.heap0 (h.keep g c T hg).1) (h.keep g c T hg).2.2, (h.keep g c T hg).2⟩, (h.fr.trans hF).trans' hFb (fun i hi e => by have := h.nb; omega), h.nd, h.nb, hl⟩
theorem RunH.add {W wr : World} {p m1 m2 b : Nat} {K : KPT} {cs : Array Value} {D : DevS} {R : RefD} (h : RunH W wr p m1 m2 b K cs D R) {g : Nat} {c : Array Value} {T : TypeId} (hg : wr.heap[g]? = some (.cells c T (0, 0))) (h1 : T ≠ 109) (h2 : g ≠ b) : RunH W wr p m1 m2 b (fun g' c' T' => K g' c' T' ∨ (g' = g ∧ c' = c ∧ T' = T)) cs D R :=
  ⟨h.dev, h.ref, h.blk, fun g' c' T' hk => by
    rcases hk with hk | ⟨rfl, rfl, rfl⟩
    · exact h.keep g' c' T' hk
    · exact ⟨hg, h1, h2⟩, h.fr, h.nd, h.nb, h.len⟩
theorem RunH.less {W wr : World} {p m1 m2 b : Nat} {K K' : KPT} {cs : Array Value} {D : DevS} {R : RefD} (h : RunH W wr p m1 m2 b K cs D R) (hk : ∀ g c T, K' g c T → K g c T) : RunH W wr p m1 m2 b K' cs D R :=
  ⟨h.dev, h.ref, h.blk, fun g c T hg => h.keep g c T (hk g c T hg), h.fr, h.nd, h.nb, h.len⟩
theorem RefD.saveA_len (R : RefD) (f s : Int) (l : List UInt8) : (R.saveA f s l).now.length = R.now.length := by
  unfold RefD.saveA
  split
  · rfl
  · rw [RefD.flush_len, RefD.write_len, RefD.flush_len, RefD.wrN_len]
theorem RefD.start_len (R : RefD) (kept : List Bool) : (R.start kept).now.length = R.now.length := by
  unfold RefD.start
  split
  · rfl
  · show (R.startL kept).length = _
    unfold RefD.startL; simp
theorem RefD.replace_len (R : RefD) : R.replace.now.length = R.now.length := by
  unfold RefD.replace
  split
  · simp [newRef]
  · rfl
def RefD.arm' (R : RefD) (n : Int) : RefD := if R.crashed = true ∨ R.gone = true then R else { R with armed := true, left := n }
theorem RDV.fields {w : World} {cs : Array Value} {R : RefD} (h : RDV w cs R) : ∃ v0 v1 v2, cs = #[v0, v1, v2, .int .i64 R.writes, .bool R.armed, .int .i64 R.left, .bool R.crashed, .bool R.gone] := by
  obtain ⟨⟨A1, c1, A2, c2, A3, c3, e, _⟩, _⟩ := h
  exact ⟨_, _, _, e⟩
theorem RDV.armed {w : World} {v0 v1 v2 : Value} {R : RefD} (h : RDV w #[v0, v1, v2, .int .i64 R.writes, .bool R.armed, .int .i64 R.left, .bool R.crashed, .bool R.gone] R) (n : Int) : RDV w #[v0, v1, v2, .int .i64 R.writes, .bool true, .int .i64 n, .bool R.crashed, .bool R.gone] { R with armed := true, left := n } := by
  obtain ⟨⟨A1, c1, A2, c2, A3, c3, e, h1, h2, h4, r⟩, l2, l3, m⟩ := h
  have e2 := congrArg Array.toList e
  simp only [List.cons.injEq] at e2
  obtain ⟨rfl, rfl, rfl, _⟩ := e2
  exact ⟨⟨A1, c1, A2, c2, A3, c3, rfl, h1, h2, h4, r⟩, l2, l3, m⟩
theorem ra_mod (x : Int) (q : Nat) (hq : 0 < q) (hq2 : q ≤ 100) : ∃ k : Nat, k < q ∧ wrap64 ((IntKind.u64.wrap x).tmod (q : Int)) = (k : Int) := by
  have h : 0 ≤ IntKind.u64.wrap x := by rw [IntKind.wrap_u64]; omega
  generalize IntKind.u64.wrap x = y at *
  have h1 : y.tmod (q : Int) = y % (q : Int) := Int.tmod_eq_emod_of_nonneg h
  have h2 := Int.emod_nonneg y (show (q : Int) ≠ 0 by omega)
  have h3 := Int.emod_lt_of_pos y (show 0 < (q : Int) by omega)
  rw [h1]
  generalize y % (q : Int) = z at *
  rw [IntWalk.wrap64_in z (by omega)]
  exact ⟨z.toNat, by omega, by omega⟩
end Go.Proofs.YtffolfemcllfkaaGreatDoor

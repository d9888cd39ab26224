import Derived.Test.YtdkjmnhblepkaaaRs12
import Derived.Deep.AppendLies
namespace Go.Proofs.Ytdkjmnhblepkaaa
open Go.RowKit
set_option linter.unusedVariables false
set_option linter.unusedSimpArgs false
set_option maxRecDepth 100000

/-! rs.Decode: the parts that are taken; two rows that grow beside each other. -/
def pickN (there : List Bool) (d k : Nat) : List Nat := ((List.range k).filter (fun i => there.getD i false)).take d
theorem pickN_no {there : List Bool} {d k : Nat} (h : there.getD k false = false) : pickN there d (k + 1) = pickN there d k := by
  unfold pickN
  rw [List.range_succ, List.filter_append]
  simp only [List.filter_cons, h, List.filter_nil]
  simp
theorem pickN_yes {there : List Bool} {d k : Nat} (h : there.getD k false = true) (hl : (pickN there d k).length < d) : pickN there d (k + 1) = pickN there d k ++ [k] := by
  unfold pickN at hl ⊢
  obtain ⟨F, hF⟩ : ∃ F, F = (List.range k).filter (fun i => there.getD i false) := ⟨_, rfl⟩
  rw [← hF] at hl
  rw [List.length_take] at hl
  rw [List.range_succ, List.filter_append, ← hF]
  have e : [k].filter (fun i => there.getD i false) = [k] := by simp only [List.filter_cons, h, List.filter_nil]; simp
  rw [e, List.take_of_length_le (by simp; omega), List.take_of_length_le (by omega)]
theorem pickN_full {there : List Bool} {d k : Nat} (hl : (pickN there d k).length = d) : pickN there d (k + 1) = pickN there d k := by
  unfold pickN at hl ⊢
  rw [List.length_take] at hl
  rw [List.range_succ, List.filter_append, List.take_append_of_le_length (by omega)]
theorem pickN_le (there : List Bool) (d k : Nat) : (pickN there d k).length ≤ d := by unfold pickN; rw [List.length_take]; omega
theorem pickN_mem {there : List Bool} {d k i : Nat} (h : i ∈ pickN there d k) : i < k ∧ there.getD i false = true := by
  unfold pickN at h
  have h2 := List.mem_of_mem_take h
  rw [List.mem_filter, List.mem_range] at h2
  exact h2
theorem own_typeR {w : World} {base n size : Nat} {e : TypeId} {v : Value} {xs : List Value} (h : w.ownsRow base e size v n xs) {b : Nat} (hb : v.ownBlock = some b) : ∃ c, w.heap[b]? = some (.cells c e (0, 0)) := by
  obtain ⟨_, h2⟩ := h
  rcases h2 with ⟨rfl, _⟩ | ⟨g, cap, cur, rfl, _, hg, _⟩
  · simp [Value.ownBlock] at hb
  · have : g = b := by simpa [Value.ownBlock] using hb
    subst this
    exact ⟨cur, hg⟩
theorem info_sl8b : (Try.prog.info? 33).map (fun i => (i.zero, i.size, i.bytes)) = some (some (.slice none 0 0), 1, 24) := by kernel_rfl
/-- rows of their own, and parts that are told, in two rows that grow -/
structure TwoS (w W : World) (g d : Nat) (vr : Value) (nr : Nat) (xr : List Value) (rs : List (List UInt8)) (vf : Value) (nf : Nat) (xf : List Value) (fs : List (List UInt8)) : Prop where
  gl : g < w.heap.size
  fd : FieldAt W g
  fr : Fr (fun i => i = g) w W
  lr : rs.length = nr
  lf : fs.length = nf
  ownr : W.ownsRow w.heap.size 33 1 vr nr xr
  ownf : W.ownsRow w.heap.size 33 1 vf nf xf
  dis : ∀ b, vr.ownBlock = some b → vf.ownBlock = some b → False
  rows : ∀ j (hj : j < rs.length), rs[j].length = d ∧ ∃ b, xr[j]? = some (.slice (some ⟨b, 0, none⟩) d d) ∧ W.heap[b]? = some (.cells (rs[j].map byteV).toArray 5 (0, 0)) ∧ b ≠ g
  parts : ∀ j (hj : j < fs.length), ∃ A c, xf[j]? = some (.slice A fs[j].length c) ∧ CellsAt w A (fs[j].map byteV) ∧ (A = none → fs[j].length = 0 ∧ c = 0) ∧ (∀ b, blkOf A b → 0 < fs[j].length → b ≠ g)
theorem TwoS.start {w W : World} {g d : Nat} (hfd : FieldAt w g) (hF : Fr none_ w W) : TwoS w W g d (.slice none 0 0) 0 [] [] (.slice none 0 0) 0 [] [] :=
  ⟨hfd.lt, hfd.fr hF (fun h => h), Fr.of0 hF, rfl, rfl, World.ownsRow_nil _ _ _ _, World.ownsRow_nil _ _ _ _, fun b h => by simp [Value.ownBlock] at h, fun j hj => absurd hj (by simp), fun j hj => absurd hj (by simp)⟩
theorem TwoS.more {w W W' : World} {g d : Nat} {vr : Value} {nr : Nat} {xr : List Value} {rs : List (List UInt8)} {vf : Value} {nf : Nat} {xf : List Value} {fs : List (List UInt8)} (h : TwoS w W g d vr nr xr rs vf nf xf fs) (hF : Fr none_ W W') : TwoS w W' g d vr nr xr rs vf nf xf fs :=
  ⟨h.gl, h.fd.fr hF (fun h => h), h.fr.trans0 hF, h.lr, h.lf, ownsRow_fr0 h.ownr hF, ownsRow_fr0 h.ownf hF, h.dis, fun j hj => by
    obtain ⟨e0, b, e1, e2, e3⟩ := h.rows j hj
    exact ⟨e0, b, e1, hF.heap0 e2, e3⟩, h.parts⟩
theorem TwoS.fld {w W W' : World} {g d : Nat} {vr : Value} {nr : Nat} {xr : List Value} {rs : List (List UInt8)} {vf : Value} {nf : Nat} {xf : List Value} {fs : List (List UInt8)} (h : TwoS w W g d vr nr xr rs vf nf xf fs) (hM : FieldAt W' g) (hF : Fr (fun i => i = g) W W') : TwoS w W' g d vr nr xr rs vf nf xf fs := by
  have hg := h.gl
  exact ⟨h.gl, hM, h.fr.trans hF, h.lr, h.lf, ownsRow_fr h.ownr hF (fun k hk e => by have := (ownsRow_lt h.ownr hk).1; omega), ownsRow_fr h.ownf hF (fun k hk e => by have := (ownsRow_lt h.ownf hk).1; omega), h.dis, fun j hj => by
    obtain ⟨e0, b, e1, e2, e3⟩ := h.rows j hj
    exact ⟨e0, b, e1, hF.heap e2 e3, e3⟩, h.parts⟩
theorem TwoS.appR {w W W' : World} {g d : Nat} {vr : Value} {nr : Nat} {xr : List Value} {rs : List (List UInt8)} {vf : Value} {nf : Nat} {xf : List Value} {fs : List (List UInt8)} (h : TwoS w W g d vr nr xr rs vf nf xf fs) {g1 c1 b : Nat} {r : List UInt8}
    (hown : W'.ownsRow w.heap.size 33 1 (.slice (some ⟨g1, 0, none⟩) (nr + 1) c1) (nr + 1) (xr ++ [.slice (some ⟨b, 0, none⟩) d d])) (hg : W.grownBy W' vr.ownBlock) (hat : vr.ownBlock = some g1 ∨ g1 = W.heap.size)
    (hb : W.heap[b]? = some (.cells (r.map byteV).toArray 5 (0, 0))) (hbg : b ≠ g) (hrl : r.length = d) : TwoS w W' g d (.slice (some ⟨g1, 0, none⟩) (nr + 1) c1) (nr + 1) (xr ++ [.slice (some ⟨b, 0, none⟩) d d]) (rs ++ [r]) vf nf xf fs := by
  have hF := Fr.of_grown hg
  have hgl := h.gl
  have hxl : xr.length = rs.length := by have := h.ownr.1; rw [h.lr]; omega
  have hny : ∀ y (c : Array Value), W.heap[y]? = some (.cells c 5 (0, 0)) → ¬ vr.ownBlock = some y := fun y c hy e => by
    obtain ⟨cc, hcc⟩ := own_typeR h.ownr e
    rw [hy] at hcc
    have := (Obj.cells.inj (Option.some.inj hcc)).2.1
    exact absurd this (by decide)
  refine ⟨h.gl, h.fd.fr hF (fun e => by have := (ownsRow_lt h.ownr e).1; omega), Fr.grown h.fr hg h.ownr (Nat.le_refl _), by rw [List.length_append, h.lr]; rfl, h.lf, hown, ownsRow_fr h.ownf hF (fun k hk e => h.dis k e hk), fun y hy hy2 => ?_, fun j hj => ?_, h.parts⟩
  · have e : g1 = y := by simpa [Value.ownBlock] using hy
    subst e
    rcases hat with e | e
    · exact h.dis _ e hy2
    · have := (ownsRow_lt h.ownf hy2).2; omega
  · by_cases hlt : j < rs.length
    · obtain ⟨e0, y, e1, e2, e3⟩ := h.rows j hlt
      rw [List.getElem_append_left hlt]
      exact ⟨e0, y, by rw [List.getElem?_append_left (by omega)]; exact e1, hF.heap e2 (hny y _ e2), e3⟩
    · have hj2 : j = rs.length := by rw [List.length_append, List.length_singleton] at hj; omega
      subst hj2
      rw [List.getElem_append_right (by omega)]
      simp only [Nat.sub_self, List.getElem_cons_zero]
      exact ⟨hrl, b, by rw [List.getElem?_append_right (by omega), hxl, Nat.sub_self]; rfl, hF.heap hb (hny b _ hb), hbg⟩
theorem TwoS.appF {w W W' : World} {g d : Nat} {vr : Value} {nr : Nat} {xr : List Value} {rs : List (List UInt8)} {vf : Value} {nf : Nat} {xf : List Value} {fs : List (List UInt8)} (h : TwoS w W g d vr nr xr rs vf nf xf fs) {g1 c1 : Nat} {A : Option Addr} {c : Nat} {r : List UInt8}
    (hown : W'.ownsRow w.heap.size 33 1 (.slice (some ⟨g1, 0, none⟩) (nf + 1) c1) (nf + 1) (xf ++ [.slice A r.length c])) (hg : W.grownBy W' vf.ownBlock) (hat : vf.ownBlock = some g1 ∨ g1 = W.heap.size)
    (h1 : CellsAt w A (r.map byteV)) (h2 : A = none → r.length = 0 ∧ c = 0) (h3 : ∀ b, blkOf A b → 0 < r.length → b ≠ g) : TwoS w W' g d vr nr xr rs (.slice (some ⟨g1, 0, none⟩) (nf + 1) c1) (nf + 1) (xf ++ [.slice A r.length c]) (fs ++ [r]) := by
  have hF := Fr.of_grown hg
  have hgl := h.gl
  have hxl : xf.length = fs.length := by have := h.ownf.1; rw [h.lf]; omega
  have hny : ∀ y (c : Array Value), W.heap[y]? = some (.cells c 5 (0, 0)) → ¬ vf.ownBlock = some y := fun y c hy e => by
    obtain ⟨cc, hcc⟩ := own_typeR h.ownf e
    rw [hy] at hcc
    have := (Obj.cells.inj (Option.some.inj hcc)).2.1
    exact absurd this (by decide)
  refine ⟨h.gl, h.fd.fr hF (fun e => by have := (ownsRow_lt h.ownf e).1; omega), Fr.grown h.fr hg h.ownf (Nat.le_refl _), h.lr, by rw [List.length_append, h.lf]; rfl, ownsRow_fr h.ownr hF (fun k hk e => h.dis k hk e), hown, fun y hy hy2 => ?_, fun j hj => ?_, fun j hj => ?_⟩
  · have e : g1 = y := by simpa [Value.ownBlock] using hy2
    subst e
    rcases hat with e | e
    · exact h.dis _ hy e
    · have := (ownsRow_lt h.ownr hy).2; omega
  · obtain ⟨e0, y, e1, e2, e3⟩ := h.rows j hj
    exact ⟨e0, y, e1, hF.heap e2 (hny y _ e2), e3⟩
  · by_cases hlt : j < fs.length
    · obtain ⟨A0, c0, e1, e2, e3, e4⟩ := h.parts j hlt
      rw [List.getElem_append_left hlt]
      exact ⟨A0, c0, by rw [List.getElem?_append_left (by omega)]; exact e1, e2, e3, e4⟩
    · have hj2 : j = fs.length := by rw [List.length_append, List.length_singleton] at hj; omega
      subst hj2
      rw [List.getElem_append_right (by omega)]
      simp only [Nat.sub_self, List.getElem_cons_zero]
      exact ⟨A, c, by rw [List.getElem?_append_right (by omega), hxl, Nat.sub_self]; rfl, h1, h2, h3⟩
theorem TwoS.rowsV {w W : World} {g d : Nat} {Ar : Option Addr} {nr cr : Nat} {xr : List Value} {rs : List (List UInt8)} {vf : Value} {nf : Nat} {xf : List Value} {fs : List (List UInt8)} (h : TwoS w W g d (.slice Ar nr cr) nr xr rs vf nf xf fs) : RowsV W g Ar rs := by
  have hgl := h.gl
  have hxl : xr.length = rs.length := by have := h.ownr.1; rw [h.lr]; omega
  obtain ⟨A9, c9, e9, g1, g2, g3, g4⟩ := ownsRow_read h.ownr
  cases e9
  exact ⟨⟨xr, hxl, g1, fun j hj => by
    obtain ⟨e0, b, e1, e2, e3⟩ := h.rows j hj
    exact ⟨some ⟨b, 0, none⟩, d, by rw [e0]; exact e1, CellsAt.whole e2, (fun h => by cases h), fun b' hb' _ => by have := blkOf_some hb'; rw [this]; exact e3⟩⟩, fun b hb _ => by have := (g4 b hb).1; omega⟩
theorem TwoS.partsV {w W : World} {g d : Nat} {vr : Value} {nr : Nat} {xr : List Value} {rs : List (List UInt8)} {Af : Option Addr} {nf cf : Nat} {xf : List Value} {fs : List (List UInt8)} (h : TwoS w W g d vr nr xr rs (.slice Af nf cf) nf xf fs) : RowsV W g Af fs := by
  have hgl := h.gl
  have hxl : xf.length = fs.length := by have := h.ownf.1; rw [h.lf]; omega
  obtain ⟨A9, c9, e9, g1, g2, g3, g4⟩ := ownsRow_read h.ownf
  cases e9
  exact ⟨⟨xf, hxl, g1, fun j hj => by
    obtain ⟨A, c, e1, e2, e3, e4⟩ := h.parts j hj
    exact ⟨A, c, e1, e2.frp h.fr (fun b hb hl e => e4 b hb (by rw [List.length_map] at hl; exact hl) e), e3, e4⟩⟩, fun b hb _ => by have := (g4 b hb).1; omega⟩
section
variable {P : Program}
/-- the append of one row's value at a step of a drawn region -/
theorem step_one {w : World} {ops : Array Oper} {o : Oper} {a : Act} {K : Act → World → Prop} {Q : Exit → Act → World → Prop} {E : Prop} (hgd : o.guard = none) (s x : Operand)
    (ho : o.op = .call { callee := .builtin .append, args := #[s, x], argTypes := #[65, 65] }) (base : Nat) (v : Value) (n : Nat) (xs : List Value) (hown : w.ownsRow base 33 1 v n xs) (hs : a.eval s = v) (L : Nat) (hx : a.eval x = .slice (some ⟨L, 0, none⟩) 1 1)
    (u : Value) (hL : w.cell? ⟨L, 0, none⟩ = some u) (hu : u.oneCell' = true) (hn : n ≤ 1000) (hbase : base ≤ w.heap.size)
    (h : ∀ g cap w', w'.ownsRow base 33 1 (.slice (some ⟨g, 0, none⟩) (n + 1) cap) (n + 1) (xs ++ [u]) → w.grownBy w' v.ownBlock → (v.ownBlock = some g ∨ g = w.heap.size) → (∀ b o x, (∀ y, v.ownBlock = some y → y < b) → w.cell? ⟨b, o, none⟩ = some x → w'.cell? ⟨b, o, none⟩ = some x) → K (a.put o.dst (.slice (some ⟨g, 0, none⟩) (n + 1) cap)) w') :
    if Region.wanted o (yielded ops a.tmps) = true then Oper.wp Try.prog o a w K Q else E := by
  obtain ⟨i, hi, hzz⟩ := Option.map_eq_some_iff.1 info_sl8b
  simp only [Prod.mk.injEq] at hzz
  obtain ⟨hz, hs1, hb⟩ := hzz
  refine step_append_lies w hgd s x _ ho base 33 i _ 1 24 Try.underlying65 hi hz hs1 hb rfl (by omega) v n xs hs hown ⟨L, 0, none⟩ 1 1 [u] hx rfl (fun j u' hj => ?_) (fun u' hu' => ?_) (by omega) (by unfold maxLen; omega) (by omega) hbase _ rfl (fun g cap w' h1 h2 h3 h4 => h g cap w' h1 h2 h3 (fun b o x hb hc => (Fr.of_grown h2).cell hc (fun e => by have := hb b e; omega)))
  · cases j with
    | zero => rw [Addr.add_lit]; simp at hj; subst hj; exact hL
    | succ j => simp at hj
  · rw [List.mem_singleton.1 hu']; exact hu
/-- a row of its own is appended -/
theorem step_rows {w W : World} {g d : Nat} {vr : Value} {nr : Nat} {xr : List Value} {rs : List (List UInt8)} {vf : Value} {nf : Nat} {xf : List Value} {fs : List (List UInt8)} (h : TwoS w W g d vr nr xr rs vf nf xf fs)
    {ops : Array Oper} {o : Oper} {a : Act} {K : Act → World → Prop} {Q : Exit → Act → World → Prop} {E : Prop} (hgd : o.guard = none) (s x : Operand)
    (ho : o.op = .call { callee := .builtin .append, args := #[s, x], argTypes := #[65, 65] }) (hs : a.eval s = vr) (L : Nat) (hx : a.eval x = .slice (some ⟨L, 0, none⟩) 1 1)
    (b : Nat) (r : List UInt8) (hL : W.cell? ⟨L, 0, none⟩ = some (.slice (some ⟨b, 0, none⟩) d d)) (hb : W.heap[b]? = some (.cells (r.map byteV).toArray 5 (0, 0))) (hbg : b ≠ g) (hrl : r.length = d) (hn : nr ≤ 1000) (B : Nat) (hB : ∀ y, vr.ownBlock = some y → y < B)
    (hK : ∀ g1 c1 W', TwoS w W' g d (.slice (some ⟨g1, 0, none⟩) (nr + 1) c1) (nr + 1) (xr ++ [.slice (some ⟨b, 0, none⟩) d d]) (rs ++ [r]) vf nf xf fs → (∀ b o x, B ≤ b → W.cell? ⟨b, o, none⟩ = some x → W'.cell? ⟨b, o, none⟩ = some x) → K (a.put o.dst (.slice (some ⟨g1, 0, none⟩) (nr + 1) c1)) W') :
    if Region.wanted o (yielded ops a.tmps) = true then Oper.wp Try.prog o a W K Q else E :=
  step_one hgd s x ho w.heap.size vr nr xr h.ownr hs L hx _ hL rfl hn h.fr.size (fun g1 c1 W' h1 h2 h3 h4 => hK g1 c1 W' (h.appR h1 h2 h3 hb hbg hrl) (fun b o x hb hc => h4 b o x (fun y hy => Nat.lt_of_lt_of_le (hB y hy) hb) hc))
/-- a part that is told is appended -/
theorem step_parts {w W : World} {g d : Nat} {vr : Value} {nr : Nat} {xr : List Value} {rs : List (List UInt8)} {vf : Value} {nf : Nat} {xf : List Value} {fs : List (List UInt8)} (h : TwoS w W g d vr nr xr rs vf nf xf fs)
    {ops : Array Oper} {o : Oper} {a : Act} {K : Act → World → Prop} {Q : Exit → Act → World → Prop} {E : Prop} (hgd : o.guard = none) (s x : Operand)
    (ho : o.op = .call { callee := .builtin .append, args := #[s, x], argTypes := #[65, 65] }) (hs : a.eval s = vf) (L : Nat) (hx : a.eval x = .slice (some ⟨L, 0, none⟩) 1 1)
    (A : Option Addr) (c rl : Nat) (r : List UInt8) (hL : W.cell? ⟨L, 0, none⟩ = some (.slice A rl c)) (hrl : rl = r.length) (h1 : CellsAt w A (r.map byteV)) (h2 : A = none → r.length = 0 ∧ c = 0) (h3 : ∀ b, blkOf A b → 0 < r.length → b ≠ g) (hn : nf ≤ 1000)
    (hK : ∀ g1 c1 W', TwoS w W' g d vr nr xr rs (.slice (some ⟨g1, 0, none⟩) (nf + 1) c1) (nf + 1) (xf ++ [.slice A rl c]) (fs ++ [r]) → K (a.put o.dst (.slice (some ⟨g1, 0, none⟩) (nf + 1) c1)) W') :
    if Region.wanted o (yielded ops a.tmps) = true then Oper.wp Try.prog o a W K Q else E := by
  subst hrl
  exact step_one hgd s x ho w.heap.size vf nf xf h.ownf hs L hx _ hL rfl hn h.fr.size (fun g1 c1 W' k1 k2 k3 k4 => hK g1 c1 W' (h.appF k1 k2 k3 h1 h2 h3))
theorem lit_cell (W : World) (u : Value) (T : TypeId) : (W.alloc (.cells #[u] T)).cell? ⟨W.heap.size, 0, none⟩ = some u := by
  rw [cell_of_blk (heap_alloc_new W (.cells #[u] T))]; rfl
end
end Go.Proofs.Ytdkjmnhblepkaaa

import Derived.Test.YtdkjmnhblepkaaaRead
namespace Go.Proofs.Ytdkjmnhblepkaaa
open Go.RowKit Go.ChangeShapes Go.WideShapes Go.ChangeAt
set_option linter.unusedVariables false
set_option linter.unusedSimpArgs false

/-! What every law's row shares: its arguments as they read, and that they read so behind the call. -/

/-- An argument: its shape, and how it reads. -/
structure RdV (P : Program) (w : World) (t : TypeId) (v : Value) : Prop where
  rd : Rd P w t v.cells.toList
  ok : ∃ r base, Value.okWide P w r base t v

section
variable {P : Program} {w : World} {t e : TypeId} {v : Value}
theorem RdV.int {k : IntKind} (ht : P.underlying t = some (.int k)) (h : RdV P w t v) : ∃ n, v = .int k n ∧ (Lit.int k n).wf = true := by
  obtain ⟨r, base, ho⟩ := h.ok
  obtain ⟨n, rfl⟩ := okWide_int ht ho
  obtain ⟨m, hm, hw⟩ := h.rd.int ht
  simp [Value.cells] at hm
  subst hm
  exact ⟨n, rfl, hw⟩
theorem RdV.bool (ht : P.underlying t = some .bool) (h : RdV P w t v) : ∃ b, v = .bool b := by
  obtain ⟨r, base, ho⟩ := h.ok
  exact okWide_bool ht ho
theorem RdV.string (ht : P.underlying t = some .string) (h : RdV P w t v) : ∃ s : ByteArray, v = .string s ∧ s.size ≤ 140737488351232 := by
  obtain ⟨r, base, ho⟩ := h.ok
  obtain ⟨s, rfl⟩ := okWide_string ht ho
  obtain ⟨m, hm, hw⟩ := h.rd.string ht
  simp [Value.cells] at hm
  subst hm
  exact ⟨s, rfl, hw⟩
theorem RdV.slice (ht : P.underlying t = some (.slice e)) (h : RdV P w t v) :
    v = .slice none 0 0 ∨ ∃ a len cap, v = .slice (some a) len cap ∧ len ≤ cap ∧ cap ≤ maxLen ∧ cap * P.bytesOf e ≤ 140737488351232 ∧
      ∀ i, i < len → ∃ ecs : List Value, ecs.length = P.cellsOf e ∧ (∀ j (h : j < ecs.length), w.cell? ((a.add (i * P.cellsOf e)).add j) = some ecs[j]) ∧ Rd P w e ecs := by
  obtain ⟨r, base, ho⟩ := h.ok
  obtain ⟨a, len, cap, rfl⟩ := okWide_slice ht ho
  rcases h.rd.slice ht with hc | ⟨a', len', cap', hc, hx⟩
  · simp [Value.cells] at hc
    exact .inl (by rw [hc.1, hc.2.1, hc.2.2])
  · simp [Value.cells] at hc
    obtain ⟨rfl, rfl, rfl⟩ := hc
    exact .inr ⟨a', len, cap, rfl, hx⟩
theorem RdV.array {n : Nat} (ht : P.underlying t = some (.array n e)) (h : RdV P w t v) : ∃ cs : Array Value, v = .agg cs ∧ cs.size = P.cellsOf t ∧ ∀ i, i < n → Rd P w e ((cs.toList.drop (i * P.cellsOf e)).take (P.cellsOf e)) := by
  obtain ⟨r, base, ho⟩ := h.ok
  have hv : ∃ cs, v = .agg cs ∧ cs.size = P.cellsOf t := by
    simp only [Value.okWide, ht] at ho
    obtain ⟨cs, h1, h2, _⟩ := ho
    exact ⟨cs, h1, h2⟩
  obtain ⟨cs, rfl, hs⟩ := hv
  exact ⟨cs, rfl, hs, (h.rd.array ht).2⟩
theorem RdV.struct {fs : Array Field} (ht : P.underlying t = some (.struct fs)) (h : RdV P w t v) : ∃ cs : Array Value, v = .agg cs ∧ cs.size = P.cellsOf t ∧ ∀ i (hi : i < fs.size), Rd P w fs[i].type ((cs.toList.drop fs[i].offset).take (P.cellsOf fs[i].type)) := by
  obtain ⟨r, base, ho⟩ := h.ok
  obtain ⟨cs, rfl, hs⟩ := okWide_struct ht ho
  exact ⟨cs, rfl, hs, (h.rd.struct ht).2⟩
end

/-- bounds, out of wf -/
theorem u8_of_wf {n : Int} (h : (Lit.int .u8 n).wf = true) : ∃ x : UInt8, Value.int .u8 n = byteV x := by
  have hb := bounds_u8 h
  refine ⟨UInt8.ofNat n.toNat, ?_⟩
  unfold byteV
  congr 1
  simp
  omega
theorem u32_of_wf {n : Int} (h : (Lit.int .u32 n).wf = true) : ∃ x : Nat, n = (x : Int) ∧ x < 4294967296 := by
  have hb := bounds_u32 h
  exact ⟨n.toNat, by omega, by omega⟩

theorem list_choose {α : Type} (p : Nat → α → Prop) (n : Nat) (h : ∀ i, i < n → ∃ x, p i x) : ∃ l : List α, l.length = n ∧ ∀ i (hi : i < l.length), p i l[i] := by
  induction n with
  | zero => exact ⟨[], rfl, fun i hi => absurd hi (by simp)⟩
  | succ n ih =>
    obtain ⟨l, hl, hp⟩ := ih (fun i hi => h i (by omega))
    obtain ⟨x, hx⟩ := h n (by omega)
    refine ⟨l ++ [x], by simp [hl], fun i hi => ?_⟩
    by_cases hin : i < l.length
    · rw [List.getElem_append_left hin]; exact hp i hin
    · have : i = n := by simp at hi; omega
      subst this
      rw [List.getElem_append_right (by omega)]
      simpa [hl] using hx

theorem add_one_cell {b o : Nat} {sp : Option Nat} {i : Nat} {w : World} {v : Value} (h : w.cell? (((⟨b, o, sp⟩ : Addr).add i).add 0) = some v) : w.cell? ⟨b, o + i, none⟩ = some v := by
  unfold Addr.add at h
  simp only [if_true] at h
  by_cases h0 : i = 0
  · subst h0
    simp only [if_true] at h
    cases sp with
    | none => simpa using h
    | some s =>
      exfalso
      unfold World.cell? at h
      simp at h
      split at h <;> cases h
  · rw [if_neg h0] at h
    exact h
theorem cell_spot {w : World} {a : Addr} {v : Value} (h : w.cell? a = some v) : a.spot = none := by
  unfold World.cell? at h
  cases hs : a.spot with
  | none => rfl
  | some s => simp [hs] at h; split at h <;> cases h

/-- A slice of bytes, as an argument. -/
structure BytesArg (w : World) (v : Value) (A : Option Addr) (n c : Nat) (l : List UInt8) : Prop where
  val : v = .slice A n c
  len : n = l.length
  cap : n ≤ c
  most : c ≤ 140737488351232
  cells : CellsAt w A (l.map byteV)
  nil : A = none → n = 0 ∧ c = 0
theorem RdV.bytes {P : Program} {w : World} {t e : TypeId} {v : Value} (ht : P.underlying t = some (.slice e)) (he : P.underlying e = some (.int .u8)) (hc : P.cellsOf e = 1) (hb : P.bytesOf e = 1) (h : RdV P w t v) : ∃ A n c l, BytesArg w v A n c l := by
  rcases h.slice ht with rfl | ⟨a, len, cap, rfl, hl, hm, hr, hx⟩
  · exact ⟨none, 0, 0, [], rfl, rfl, Nat.le_refl _, by omega, CellsAt.nil _ _, fun _ => ⟨rfl, rfl⟩⟩
  · rw [hb] at hr
    obtain ⟨l, hll, hp⟩ := list_choose (fun i (x : UInt8) => a.spot = none ∧ w.cell? ⟨a.block, a.off + i, none⟩ = some (byteV x)) len (fun i hi => by
      obtain ⟨ecs, h1, h2, h3⟩ := hx i hi
      obtain ⟨n, rfl, hw⟩ := h3.int he
      obtain ⟨x, hx2⟩ := u8_of_wf hw
      have h4 := h2 0 (by simp)
      rw [hc, Nat.mul_one] at h4
      have h5 := add_one_cell (b := a.block) (o := a.off) (sp := a.spot) h4
      refine ⟨x, ?_, by rw [h5]; simp [hx2]⟩
      have h6 := hx 0 (by omega)
      obtain ⟨ecs0, g1, g2, g3⟩ := h6
      have g4 := cell_spot (g2 0 (by omega))
      simpa [Addr.add] using g4)
    refine ⟨some a, len, cap, l, rfl, hll.symm, hl, by omega, fun k hk => ?_, fun h => by cases h⟩
    have hk' : k < l.length := by simpa using hk
    obtain ⟨hsp, hcell⟩ := hp k hk'
    refine ⟨a.block, a.off, ?_, by simpa using hcell⟩
    cases a; simp at hsp; subst hsp; rfl
theorem add_add {a : Addr} {w : World} {i j : Nat} {v : Value} (h : w.cell? ((a.add i).add j) = some v) (hs : a.spot = none) : w.cell? ⟨a.block, a.off + i + j, none⟩ = some v := by
  unfold Addr.add at h
  by_cases h0 : i = 0
  · subst h0
    by_cases h1 : j = 0
    · subst h1; cases a; simp at hs; subst hs; simpa using h
    · simpa [h1] using h
  · by_cases h1 : j = 0
    · subst h1; simpa [h0] using h
    · simpa [h0, h1] using h
/-- A slice whose elements take one cell each. -/
structure OnesArg {α : Type} (f : α → Value) (w : World) (v : Value) (A : Option Addr) (n c : Nat) (l : List α) : Prop where
  val : v = .slice A n c
  len : n = l.length
  cap : n ≤ c
  most : c ≤ 140737488351232
  cells : CellsAt w A (l.map f)
  nil : A = none → n = 0 ∧ c = 0
def SliceRd (P : Program) (w : World) (e : TypeId) (v : Value) : Prop :=
  v = .slice none 0 0 ∨ ∃ a len cap, v = .slice (some a) len cap ∧ len ≤ cap ∧ cap ≤ maxLen ∧ cap * P.bytesOf e ≤ 140737488351232 ∧
      ∀ i, i < len → ∃ ecs : List Value, ecs.length = P.cellsOf e ∧ (∀ j (h : j < ecs.length), w.cell? ((a.add (i * P.cellsOf e)).add j) = some ecs[j]) ∧ Rd P w e ecs
theorem RdV.sl {P : Program} {w : World} {t e : TypeId} {v : Value} (ht : P.underlying t = some (.slice e)) (h : RdV P w t v) : SliceRd P w e v := h.slice ht
theorem Rd.sl {P : Program} {w : World} {t e : TypeId} {v : Value} (ht : P.underlying t = some (.slice e)) (h : Rd P w t [v]) : SliceRd P w e v := by
  rcases h.slice ht with hc | ⟨a, len, cap, hc, hx⟩
  · simp at hc; exact .inl hc
  · simp at hc; exact .inr ⟨a, len, cap, hc, hx⟩
/-- The rows of a slice whose elements take k cells each. -/
def RowsAt (w : World) (A : Option Addr) (k : Nat) (rows : List (List Value)) : Prop := ∀ i (hi : i < rows.length), ∃ b o, A = some ⟨b, o, none⟩ ∧ ∀ j (u : Value), rows[i][j]? = some u → w.cell? ⟨b, o + i * k + j, none⟩ = some u
theorem RowsAt.fr0 {w w' : World} {A : Option Addr} {k : Nat} {rows : List (List Value)} (h : RowsAt w A k rows) (hf : Fr none_ w w') : RowsAt w' A k rows := fun i hi => by
  obtain ⟨b, o, hA, h2⟩ := h i hi
  exact ⟨b, o, hA, fun j u hu => hf.cell0 (h2 j u hu)⟩
structure RowsArg (P : Program) (w : World) (e : TypeId) (v : Value) (A : Option Addr) (n c k : Nat) (rows : List (List Value)) : Prop where
  val : v = .slice A n c
  len : n = rows.length
  cap : n ≤ c
  most : c * P.bytesOf e ≤ 140737488351232
  rd : ∀ r, r ∈ rows → r.length = k ∧ Rd P w e r
  cells : RowsAt w A k rows
  nil : A = none → n = 0 ∧ c = 0
theorem SliceRd.rows {P : Program} {w : World} {e : TypeId} {v : Value} {k : Nat} (hc : P.cellsOf e = k) (hk : 0 < k) (h : SliceRd P w e v) : ∃ A n c rows, RowsArg P w e v A n c k rows := by
  rcases h with rfl | ⟨a, len, cap, rfl, hl, hm, hr, hx⟩
  · exact ⟨none, 0, 0, [], rfl, rfl, Nat.le_refl _, by omega, fun r hr => by simp at hr, fun i hi => absurd hi (by simp), fun _ => ⟨rfl, rfl⟩⟩
  · rw [hc] at hx
    obtain ⟨l, hll, hp⟩ := list_choose (fun i (x : List Value) => x.length = k ∧ Rd P w e x ∧ ∀ j u, x[j]? = some u → w.cell? ⟨a.block, a.off + i * k + j, none⟩ = some u) len (fun i hi => by
      obtain ⟨ecs, h1, h2, h3⟩ := hx i hi
      refine ⟨ecs, h1, h3, fun j u hu => ?_⟩
      obtain ⟨hj, rfl⟩ := List.getElem?_eq_some_iff.1 hu
      obtain ⟨ecs0, g1, g2, g3⟩ := hx 0 (by omega)
      have g4 := cell_spot (g2 0 (by omega))
      exact add_add (h2 j hj) (by simpa [Addr.add] using g4))
    refine ⟨some a, len, cap, l, rfl, hll.symm, hl, hr, fun r hr => ?_, fun i hi => ?_, fun h => by cases h⟩
    · obtain ⟨i, hi, rfl⟩ := List.getElem_of_mem hr
      exact ⟨(hp i hi).1, (hp i hi).2.1⟩
    · obtain ⟨ecs0, g1, g2, g3⟩ := hx i (by omega)
      have g4 : a.spot = none := by
        obtain ⟨e1, f1, f2, f3⟩ := hx 0 (by omega)
        have := cell_spot (f2 0 (by omega))
        simpa [Addr.add] using this
      refine ⟨a.block, a.off, ?_, (hp i hi).2.2⟩
      cases a; simp at g4; subst g4; rfl
theorem SliceRd.ones {α : Type} (f : α → Value) {P : Program} {w : World} {e : TypeId} {v : Value} (hc : P.cellsOf e = 1) (hb : 1 ≤ P.bytesOf e) (hf : ∀ u, Rd P w e [u] → ∃ x, u = f x) (h : SliceRd P w e v) : ∃ A n c l, OnesArg f w v A n c l := by
  obtain ⟨A, n, c, rows, hR⟩ := h.rows hc (by omega)
  obtain ⟨l, hll, hp⟩ := list_choose (fun i (x : α) => rows[i]? = some [f x]) rows.length (fun i hi => by
    obtain ⟨h1, h2⟩ := hR.rd rows[i] (List.getElem_mem _)
    obtain ⟨u, hu⟩ := List.length_eq_one_iff.1 h1
    rw [hu] at h2
    obtain ⟨x, rfl⟩ := hf u h2
    exact ⟨x, by simp [hi, hu]⟩)
  refine ⟨A, n, c, l, hR.val, hR.len.trans hll.symm, hR.cap, Nat.le_trans (Nat.le_mul_of_pos_right c hb) hR.most, fun k hk => ?_, hR.nil⟩
  have hk' : k < l.length := by simpa using hk
  obtain ⟨b, o, hA, hx⟩ := hR.cells k (by omega)
  have hq := hp k hk'
  rw [List.getElem?_eq_getElem (by omega)] at hq
  have hq2 : rows[k]'(by omega) = [f l[k]] := by simpa using hq
  refine ⟨b, o, hA, ?_⟩
  have := hx 0 (f l[k]) (by rw [hq2]; rfl)
  simpa using this
theorem RdV.ones {α : Type} (f : α → Value) {P : Program} {w : World} {t e : TypeId} {v : Value} (ht : P.underlying t = some (.slice e)) (hc : P.cellsOf e = 1) (hb : 1 ≤ P.bytesOf e) (hf : ∀ u, Rd P w e [u] → ∃ x, u = f x) (h : RdV P w t v) : ∃ A n c l, OnesArg f w v A n c l := (h.sl ht).ones f hc hb hf
theorem rd_bool {P : Program} {w : World} {e : TypeId} (he : P.underlying e = some .bool) (u : Value) (h : Rd P w e [u]) : ∃ x : Bool, u = .bool x := by
  obtain ⟨m, hm⟩ := h.bool he
  simp at hm
  exact ⟨m, hm⟩
theorem rd_int {P : Program} {w : World} {e : TypeId} {k : IntKind} (he : P.underlying e = some (.int k)) (u : Value) (h : Rd P w e [u]) : ∃ x : Int, u = .int k x := by
  obtain ⟨m, hm, _⟩ := h.int he
  simp at hm
  exact ⟨m, hm⟩
theorem RdV.block {P : Program} {w : World} {t e : TypeId} {v : Value} {n : Nat} (ht : P.underlying t = some (.array n e)) (he : P.underlying e = some (.int .u8)) (hc : P.cellsOf e = 1) (hn : P.cellsOf t = n) (h : RdV P w t v) : ∃ l : List UInt8, v = .agg (l.map byteV).toArray ∧ l.length = n := by
  obtain ⟨cs, rfl, hs, hx⟩ := h.array ht
  rw [hn] at hs
  rw [hc] at hx
  obtain ⟨l, hll, hp⟩ := list_choose (fun i (x : UInt8) => cs[i]? = some (byteV x)) n (fun i hi => by
    obtain ⟨m, hm, hw⟩ := (hx i hi).int he
    obtain ⟨x, hx2⟩ := u8_of_wf hw
    refine ⟨x, ?_⟩
    have h0 : ((cs.toList.drop (i * 1)).take 1)[0]? = some (Value.int .u8 m) := by rw [hm]; rfl
    rw [hx2] at h0
    rw [List.getElem?_take_of_lt (by omega), List.getElem?_drop] at h0
    simpa using h0)
  refine ⟨l, ?_, hll⟩
  congr 1
  apply Array.ext (by simp [hs, hll])
  intro i h1 h2
  have := hp i (by omega)
  have h3 : cs[i]? = some cs[i] := by simp [h1]
  rw [h3] at this
  simpa using this
theorem RdV.words4 {P : Program} {w : World} {t e : TypeId} {v : Value} (ht : P.underlying t = some (.array 4 e)) (he : P.underlying e = some (.int .u32)) (hc : P.cellsOf e = 1) (hn : P.cellsOf t = 4) (h : RdV P w t v) :
    ∃ a b c d : Nat, v = .agg #[.int .u32 (a : Int), .int .u32 (b : Int), .int .u32 (c : Int), .int .u32 (d : Int)] ∧ a < 4294967296 ∧ b < 4294967296 ∧ c < 4294967296 ∧ d < 4294967296 := by
  obtain ⟨cs, rfl, hs, hx⟩ := h.array ht
  rw [hn] at hs
  rw [hc] at hx
  rcases cs with ⟨cs⟩
  match cs, hs with
  | [p0, p1, p2, p3], _ =>
    obtain ⟨m0, e0, w0⟩ := (hx 0 (by omega)).int he
    obtain ⟨m1, e1, w1⟩ := (hx 1 (by omega)).int he
    obtain ⟨m2, e2, w2⟩ := (hx 2 (by omega)).int he
    obtain ⟨m3, e3, w3⟩ := (hx 3 (by omega)).int he
    simp at e0 e1 e2 e3
    subst e0 e1 e2 e3
    obtain ⟨x0, rfl, l0⟩ := u32_of_wf w0
    obtain ⟨x1, rfl, l1⟩ := u32_of_wf w1
    obtain ⟨x2, rfl, l2⟩ := u32_of_wf w2
    obtain ⟨x3, rfl, l3⟩ := u32_of_wf w3
    exact ⟨x0, x1, x2, x3, rfl, l0, l1, l2, l3⟩

theorem Rd.words4 {P : Program} {w : World} {t e : TypeId} {cs : List Value} (ht : P.underlying t = some (.array 4 e)) (he : P.underlying e = some (.int .u32)) (hc : P.cellsOf e = 1) (hn : P.cellsOf t = 4) (h : Rd P w t cs) :
    ∃ a b c d : Nat, cs = [.int .u32 (a : Int), .int .u32 (b : Int), .int .u32 (c : Int), .int .u32 (d : Int)] ∧ a < 4294967296 ∧ b < 4294967296 ∧ c < 4294967296 ∧ d < 4294967296 := by
  obtain ⟨hs, hx⟩ := h.array ht
  rw [hn] at hs
  rw [hc] at hx
  match cs, hs with
  | [p0, p1, p2, p3], _ =>
    obtain ⟨m0, e0, w0⟩ := (hx 0 (by omega)).int he
    obtain ⟨m1, e1, w1⟩ := (hx 1 (by omega)).int he
    obtain ⟨m2, e2, w2⟩ := (hx 2 (by omega)).int he
    obtain ⟨m3, e3, w3⟩ := (hx 3 (by omega)).int he
    simp at e0 e1 e2 e3
    subst e0 e1 e2 e3
    obtain ⟨x0, rfl, l0⟩ := u32_of_wf w0
    obtain ⟨x1, rfl, l1⟩ := u32_of_wf w1
    obtain ⟨x2, rfl, l2⟩ := u32_of_wf w2
    obtain ⟨x3, rfl, l3⟩ := u32_of_wf w3
    exact ⟨x0, x1, x2, x3, rfl, l0, l1, l2, l3⟩
/-- The arguments of a call, each as it reads. -/
theorem rdAll {H : Type} {enc : TypeId × Value → H} {P : Program} {W : World} {ts : List TypeId} {vs : List Value} {ds : List (DataW H)} {p : List MemPlace}
    (hA : DataW.TrodAll enc P W 0 (fun _ => true) true ts vs ds p) (hw : ∀ n ∈ DataW.weightsEach P ts ds, n ≤ reachBytes) :
    vs.length = ts.length ∧ ds.length = ts.length ∧ ∀ (i : Nat) (t : TypeId) (v : Value), ts[i]? = some t → vs[i]? = some v → Rd P W t v.cells.toList := by
  induction ts generalizing vs ds p with
  | nil =>
    obtain ⟨rfl, rfl, rfl⟩ := trodAll_nil hA
    exact ⟨rfl, rfl, fun i t v h => by simp at h⟩
  | cons t ts ih =>
    obtain ⟨v, vs', d, ds', p', q, rfl, rfl, rfl, h, hr⟩ := trodAll_cons hA
    obtain ⟨h1, h2, h3⟩ := ih hr (fun n hn => hw n (by rw [DataW.weightsEach, List.mem_append]; exact .inr hn))
    refine ⟨by simp [h1], by simp [h2], fun i t' v' ht hv => ?_⟩
    cases i with
    | zero =>
      simp at ht hv
      subst ht; subst hv
      obtain ⟨fuel, hf⟩ := h
      exact ⟨H, enc, 0, fuel, (d, p'), hf, fun n hn => hw n (by rw [DataW.weightsEach, List.mem_append]; exact .inl hn)⟩
    | succ i => exact h3 i t' v' (by simpa using ht) (by simpa using hv)

theorem trodAll_stays {H : Type} {enc : TypeId × Value → H} {P : Program} {W W' : World} (hl : laidOutB P = true) (hb : Below W.heap.size W W') {ts : List TypeId} (hts : ts.all (fun t => P.readableRec t && decide (t < P.types.size)) = true)
    {vs : List Value} {ds : List (DataW H)} {p : List MemPlace} (hA : DataW.TrodAll enc P W 0 (fun _ => true) true ts vs ds p) (hlt : ∀ x ∈ p, x.block < W.heap.size) :
    DataW.TrodAll enc P W' 0 (fun b => decide (b < W.heap.size)) true ts vs ds p := by
  induction ts generalizing vs ds p with
  | nil =>
    obtain ⟨rfl, rfl, rfl⟩ := trodAll_nil hA
    exact trodAll_mk0
  | cons t ts ih =>
    obtain ⟨v, vs', d, ds', p', q, rfl, rfl, rfl, h, hr⟩ := trodAll_cons hA
    simp only [List.all_cons, Bool.and_eq_true, decide_eq_true_eq] at hts
    exact trodAll_cons_mk (Below.trod hl hts.1.1 hts.1.2 h hb (fun x hx => hlt x (List.mem_append.2 (.inl hx)))) (ih hts.2 hr (fun x hx => hlt x (List.mem_append.2 (.inr hx))))

/-- The contract of a law, whole, out of its walk. -/
theorem law_contract {P : Program} (hl : laidOutB P = true) {k : FuncId} {f : Func} {s : ChangeSpec} {tb : TypeId} (hts : f.params.toList.all (fun t => P.readableRec t && decide (t < P.types.size)) = true)
    (hres : f.resultTypes = #[tb]) (hb : P.underlying tb = some .bool) (hvars : s.vars = [])
    (hfn : ∀ (H : Type) (ds : List (DataW H)), ds.length = f.params.toList.length → s.fn H ds = { results := [.lit (.bool true)], args := ds })
    (walk : ∀ (W : World) (vs : List Value), vs.length = f.params.toList.length → (∀ (i : Nat) (t : TypeId) (v : Value), f.params.toList[i]? = some t → vs[i]? = some v → RdV P W t v) →
      Calls P k vs.toArray W fun e W' => e = .returned (.bool true) ∧ Fr none_ W W')
    {H : Type} {enc : TypeId × Value → H} (W : World) (base : Nat) (args : Array Value) (ds gs : List (DataW H)) (before : List MemPlace)
    (hval : ∀ (j : Nat) t v, f.params[j]? = some t → args[j]? = some v → Value.okWide P W .any base t v)
    (hW : DataW.Whole enc P f.params.toList s.vars false W args.toList ds gs before)
    (hsz : (DataW.weightsEach P (f.params.toList ++ s.plain.varTypes P) (ds ++ gs)).all (· ≤ reachBytes) = true) :
    Calls P k args W fun e W' => ∃ v, e = .returned v ∧ s.post enc P f false true false false W args v W' := by
  have hW' := hW
  obtain ⟨p, q, hA, hV, rfl, hfz, hnd⟩ := hW
  rw [hvars] at hV
  obtain ⟨rfl, rfl⟩ := trodVars_none hV
  have hvt : s.plain.varTypes P = [] := by
    have : s.plain.vars = [] := hvars
    simp [DataSpec.varTypes, this]
  rw [hvt, List.append_nil, List.append_nil] at hsz
  have hsz2 : ∀ n ∈ DataW.weightsEach P f.params.toList ds, n ≤ reachBytes := by simpa [List.all_eq_true] using hsz
  obtain ⟨h1, h2, h3⟩ := rdAll hA hsz2
  refine (walk W args.toList h1 (fun i t v ht hv => ⟨h3 i t v ht hv, _, base, hval i t v (by simpa using ht) (by simpa using hv)⟩)).mono fun e W' ⟨he, hf⟩ => ?_
  have bel := hf.below
  refine ⟨_, he, ds, [], _, [], p, [], hW', ?_, ?_, ?_, bel.frame _, fun h => by cases h⟩
  · rw [hres, List.append_nil, hfn H ds h2]
    exact trodAll_mk1 (shut_bool hb _)
  · rw [List.append_nil, hfn H ds h2]
    exact trodAll_stays hl bel hts hA (fun x hx => by simpa using hW'.lt x (by simpa using hx))
  · rw [hvars, List.append_nil, hfn H ds h2]; rfl
end Go.Proofs.Ytdkjmnhblepkaaa

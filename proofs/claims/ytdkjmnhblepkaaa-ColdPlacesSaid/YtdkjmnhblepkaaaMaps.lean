import Derived.Test.YtdkjmnhblepkaaaKit
import Derived.Maps.Own
import Derived.Maps.OwnOps
namespace Go.Proofs.Ytdkjmnhblepkaaa
open Go.RowKit
set_option linter.unusedVariables false
set_option linter.unusedSimpArgs false

/-! Maps keyed by int: a block that is a map, told as the list of its keys and values in the order in which they came. -/
abbrev IM := List (Int × Value)
def mget {α : Type} (m : List (Int × α)) (k : Int) : Option α := (m.find? (fun x => x.1 == k)).map (·.2)
def mset {α : Type} (m : List (Int × α)) (k : Int) (v : α) : List (Int × α) := if (m.any (fun x => x.1 == k)) then m.map (fun x => if x.1 == k then (k, v) else x) else m ++ [(k, v)]
/-- Block b of w is the map m. -/
structure IMap (w : World) (b : Nat) (m : IM) : Prop where
  has : ∃ es clock, w.heap[b]? = some (.map es clock) ∧ es.toList.map (fun e => (e.key, e.val)) = m.map (fun x => (Value.int .i64 x.1, x.2)) ∧ (∀ e ∈ es, e.born < clock) ∧ (es.toList.map (·.born)).Nodup
  nodup : (m.map (·.1)).Nodup

theorem IMap.fr {S : Nat → Prop} {w w' : World} {b : Nat} {m : IM} (h : IMap w b m) (hf : Fr S w w') (hn : ¬ S b) : IMap w' b m := by
  obtain ⟨⟨es, clock, hb, h1, h2, h3⟩, h4⟩ := h
  exact ⟨⟨es, clock, hf.heap hb hn, h1, h2, h3⟩, h4⟩
theorem IMap.fr0 {w w' : World} {b : Nat} {m : IM} (h : IMap w b m) (hf : Fr none_ w w') : IMap w' b m := h.fr hf (fun h => h)
theorem IMap.lt {w : World} {b : Nat} {m : IM} (h : IMap w b m) : b < w.heap.size := by
  obtain ⟨⟨es, clock, hb, _⟩, _⟩ := h
  exact blk_lt hb
theorem IMap.made (w : World) : IMap (w.alloc (.map #[] 0)) w.heap.size [] :=
  ⟨⟨#[], 0, heap_alloc_new _ _, rfl, by simp, by simp⟩, by simp⟩

theorem IMap.made_at {w : World} {b : Nat} (h : w.heap.size = b) : IMap (w.alloc (.map #[] 0)) b [] := h ▸ IMap.made w

theorem find_now (k : Int) : ∀ (es : List MapEntry) (m : IM) (i : Nat), es.map (fun e => (e.key, e.val)) = m.map (fun x => (Value.int .i64 x.1, x.2)) →
    Instr.findNow (.int .i64) (.int .i64 k) es i = some ((m.zipIdx i).find? (fun x => x.1.1 == k) |>.map (fun x => (x.2, x.1.2))) := by
  intro es
  induction es with
  | nil => intro m i h; cases m with | nil => rfl | cons x m => simp at h
  | cons e es ih =>
    intro m i h
    cases m with
    | nil => simp at h
    | cons x m =>
      simp only [List.map_cons, List.cons.injEq, Prod.mk.injEq] at h
      obtain ⟨⟨hk, hv⟩, hr⟩ := h
      unfold Instr.findNow
      rw [hk]
      simp only [Instr.sameNow, if_true, List.zipIdx_cons]
      by_cases hx : k = x.1
      · subst hx
        simp [hv]
      · have h1 : (k == x.1) = false := by simpa using hx
        have h2 : (x.1 == k) = false := by simpa using fun h => hx h.symm
        rw [h1]
        simp only [List.find?_cons, h2]
        exact ih m (i + 1) hr
theorem find_zip (m : IM) (k : Int) (i : Nat) : ((m.zipIdx i).find? (fun x => x.1.1 == k)).map (fun x => x.1.2) = mget m k := by
  unfold mget
  induction m generalizing i with
  | nil => rfl
  | cons x m ih =>
    simp only [List.zipIdx_cons, List.find?_cons]
    by_cases h : (x.1 == k) = true
    · simp [h]
    · simp only [Bool.not_eq_true] at h
      simp only [h]
      exact ih (i + 1)

section
variable {P : Program} {T kt et : TypeId}
theorem run_findKey {w : World} (hk : P.underlying kt = some (.int .i64)) {es : List MapEntry} {m : IM} (h : es.map (fun e => (e.key, e.val)) = m.map (fun x => (Value.int .i64 x.1, x.2))) (k : Int) :
    (Instr.findKey kt (.int .i64 k) es).run P w = .ok ((m.zipIdx 0).find? (fun x => x.1.1 == k) |>.map (fun x => (x.2, x.1.2))) w := by
  simp only [Instr.findKey, Sem.run_bind, run_underlying hk, Result.andThen, find_now k es m 0 h, Sem.run_pure]
theorem run_checkKey_int {w : World} (hk : P.underlying kt = some (.int .i64)) (b : Bool) (k : Int) : (Instr.checkKey b 10000 kt (.int .i64 k)).run P w = .ok () w := by
  unfold Instr.checkKey
  simp only [Sem.run_bind, run_underlying hk, Result.andThen]
  rfl
/-- v, ok := m[k] -/
theorem run_lookup_ok {w : World} (ht : P.underlying T = some (.map kt et)) (hk : P.underlying kt = some (.int .i64)) {z : Value} (hz : ∀ w, (zeroValue et).run P w = .ok z w) {b : Nat} {m : IM} (h : IMap w b m) (k : Int) :
    (Instr.lookup T (.map (some b)) (.int .i64 k) true).run P w = .ok (.tuple #[(mget m k).getD z, .bool (mget m k).isSome]) w := by
  obtain ⟨⟨es, clock, hb, h1, h2, h3⟩, h4⟩ := h
  have hf := find_zip m k 0
  simp only [Instr.lookup, Sem.run_bind, run_underlying ht, Result.andThen, getObj, Sem.run, hb, run_checkKey_int hk, run_findKey hk h1]
  cases hc : (m.zipIdx 0).find? (fun x => x.1.1 == k) with
  | none => rw [hc] at hf; simp at hf; simp [hf.symm, run_findKey hk h1, hc, Sem.run_bind, hz, Result.andThen, Sem.run_pure]
  | some x => rw [hc] at hf; simp at hf; simp [hf.symm, run_findKey hk h1, hc, Sem.run_bind, Result.andThen, Sem.run_pure]
theorem run_lookup_plain {w : World} (ht : P.underlying T = some (.map kt et)) (hk : P.underlying kt = some (.int .i64)) {z : Value} (hz : ∀ w, (zeroValue et).run P w = .ok z w) {b : Nat} {m : IM} (h : IMap w b m) (k : Int) :
    (Instr.lookup T (.map (some b)) (.int .i64 k) false).run P w = .ok ((mget m k).getD z) w := by
  obtain ⟨⟨es, clock, hb, h1, h2, h3⟩, h4⟩ := h
  have hf := find_zip m k 0
  simp only [Instr.lookup, Sem.run_bind, run_underlying ht, Result.andThen, getObj, Sem.run, hb, run_checkKey_int hk, run_findKey hk h1]
  cases hc : (m.zipIdx 0).find? (fun x => x.1.1 == k) with
  | none => rw [hc] at hf; simp at hf; simp [hf.symm, run_findKey hk h1, hc, Sem.run_bind, hz, Result.andThen, Sem.run_pure]
  | some x => rw [hc] at hf; simp at hf; simp [hf.symm, run_findKey hk h1, hc, Sem.run_bind, Result.andThen, Sem.run_pure]
def setObjW (w : World) (b : Nat) (o : Obj) : World := { w with heap := w.heap.setIfInBounds b o }
theorem fr_setObjW (w : World) (b : Nat) (o : Obj) : Fr (fun i => i = b) w (setObjW w b o) :=
  ⟨rfl, rfl, rfl, by simp [setObjW], fun k hk hn => by simp [setObjW, Array.getElem?_setIfInBounds, Ne.symm hn]⟩
theorem heap_setObjW {w : World} {b : Nat} (h : b < w.heap.size) (o : Obj) : (setObjW w b o).heap[b]? = some o := by
  simp [setObjW, Array.getElem?_setIfInBounds, h]
theorem mset_keys (m : IM) (k : Int) (v : Value) : (mset m k v).map (·.1) = if (m.any (fun x => x.1 == k)) then m.map (·.1) else m.map (·.1) ++ [k] := by
  unfold mset
  split
  · rw [List.map_map]
    apply List.map_congr_left
    intro x _
    simp only [Function.comp]
    split
    · rename_i h; simp at h; exact h.symm
    · rfl
  · simp
theorem find_any (m : IM) (k : Int) (i : Nat) : ((m.zipIdx i).find? (fun x => x.1.1 == k)).isSome = m.any (fun x => x.1 == k) := by
  induction m generalizing i with
  | nil => rfl
  | cons x m ih =>
    simp only [List.zipIdx_cons, List.find?_cons, List.any_cons]
    by_cases h : (x.1 == k) = true
    · simp [h]
    · simp only [Bool.not_eq_true] at h
      simp only [h, Bool.false_or]
      exact ih (i + 1)
theorem find_idx (m : IM) (k : Int) (hn : (m.map (·.1)).Nodup) (x : (Int × Value) × Nat) (h : (m.zipIdx 0).find? (fun x => x.1.1 == k) = some x) : ∃ hi : x.2 < m.length, m[x.2] = x.1 ∧ x.1.1 = k ∧ ∀ j (hj : j < m.length), (m[j].1 == k) = true ↔ j = x.2 := by
  have h1 := List.mem_of_find?_eq_some h
  have h2 := List.find?_some h
  rw [List.mem_zipIdx_iff_getElem?] at h1
  simp at h1 h2
  obtain ⟨hi, he⟩ := List.getElem?_eq_some_iff.1 h1
  refine ⟨hi, he, h2, fun j hj => ⟨fun hjk => ?_, fun e => by subst e; rw [he]; simpa using h2⟩⟩
  have hjk2 : m[j].1 = k := by simpa using hjk
  have e1 : (m.map (·.1))[j]'(by simpa using hj) = (m.map (·.1))[x.2]'(by simpa using hi) := by simp [hjk2, he, h2]
  exact (List.getElem_inj hn).1 e1
/-- m[k] = v -/
theorem run_mapUpdate_i {w : World} (ht : P.underlying T = some (.map kt et)) (hk : P.underlying kt = some (.int .i64)) {b : Nat} {m : IM} (h : IMap w b m) (k : Int) (v : Value) :
    ∃ o, (Instr.mapUpdate T (.map (some b)) (.int .i64 k) v).run P w = .ok () (setObjW w b o) ∧ IMap (setObjW w b o) b (mset m k v) := by
  have hlt := h.lt
  obtain ⟨⟨es, clock, hb, h1, h2, h3⟩, h4⟩ := h
  have hlen : es.size = m.length := by have := congrArg List.length h1; simpa using this
  cases hc : (m.zipIdx 0).find? (fun x => x.1.1 == k) with
  | none =>
    refine ⟨.map (es.push { key := .int .i64 k, val := v, born := clock }) (clock + 1), ?_, ⟨⟨_, _, heap_setObjW hlt _, ?_, ?_, ?_⟩, ?_⟩⟩
    · simp only [Instr.mapUpdate, Sem.run_bind, run_underlying ht, Result.andThen, getObj, Sem.run, hb, run_checkKey_int hk]
      simp [run_findKey hk h1, hc, setObj, Sem.run, Sem.run_bind, Result.andThen, hb, setObjW]
    · have ha : m.any (fun x => x.1 == k) = false := by rw [← find_any m k 0, hc]; rfl
      simp [mset, ha, h1]
    · intro e he
      rcases Array.mem_push.1 he with h | rfl
      · have := h2 e h; omega
      · simp
    · simp only [Array.toList_push, List.map_append, List.map_cons, List.map_nil]
      rw [List.nodup_append]
      refine ⟨h3, by simp, fun a ha c hcc => ?_⟩
      simp at hcc; subst hcc
      obtain ⟨e, he, rfl⟩ := List.mem_map.1 ha
      have := h2 e (by simpa using he)
      omega
    · have ha : m.any (fun x => x.1 == k) = false := by rw [← find_any m k 0, hc]; rfl
      rw [mset_keys, ha]
      simp only [Bool.false_eq_true, if_false]
      rw [List.nodup_append]
      refine ⟨h4, by simp, fun a ha2 c hcc => ?_⟩
      simp at hcc; subst hcc
      intro e
      subst e
      obtain ⟨x, hx, he⟩ := List.mem_map.1 ha2
      have := List.any_eq_false.1 ha x hx
      simp [he] at this
  | some x =>
    obtain ⟨hi, hx, hxk, hall⟩ := find_idx m k h4 x hc
    have ha : m.any (fun x => x.1 == k) = true := by rw [← find_any m k 0, hc]; rfl
    have hkey : ((es[x.2]?).map (·.key)).getD (.int .i64 k) = .int .i64 k := by
      have h5 := congrArg (fun l => l[x.2]?) h1
      simp [hi, hlen ▸ hi, hx, hxk] at h5
      simp [hlen ▸ hi, h5.1]
    refine ⟨.map (es.modify x.2 fun e => { e with key := .int .i64 k, val := v }) clock, ?_, ⟨⟨_, _, heap_setObjW hlt _, ?_, ?_, ?_⟩, ?_⟩⟩
    · simp only [Instr.mapUpdate, Sem.run_bind, run_underlying ht, Result.andThen, getObj, Sem.run, hb, run_checkKey_int hk]
      simp [run_findKey hk h1, hc, hkey, Instr.keyThatStays, Instr.sameBits, setObj, Sem.run, Sem.run_bind, Result.andThen, hb, setObjW]
    · apply List.ext_getElem (by simp [mset, ha, hlen])
      intro j j1 j2
      have hj : j < es.size := by simpa using j1
      have h5 := congrArg (fun l => l[j]?) h1
      simp [hj, hlen ▸ hj] at h5
      simp only [List.getElem_map, Array.toList_modify, List.getElem_modify, mset, ha, if_true]
      by_cases hjx : x.2 = j
      · subst hjx
        simp [(hall x.2 hi).2 rfl]
      · have hne : (m[j]'(hlen ▸ hj)).1 ≠ k := fun e => hjx ((hall j (hlen ▸ hj)).1 (by simpa using e)).symm
        simp [hjx, hne, h5]
    · intro e he
      obtain ⟨j, hj, rfl⟩ := Array.mem_iff_getElem.1 he
      simp at hj
      rw [Array.getElem_modify]
      split
      · exact h2 es[j] (by simp)
      · exact h2 es[j] (by simp)
    · have : ((es.modify x.2 fun e => { e with key := Value.int .i64 k, val := v }).toList.map (·.born)) = es.toList.map (·.born) := by
        apply List.ext_getElem (by simp)
        intro j j1 j2
        simp only [List.getElem_map, Array.toList_modify, List.getElem_modify]
        split <;> rfl
      rw [this]; exact h3
    · rw [mset_keys, ha]; exact h4
theorem wpList_mapUpdate_i {w : World} {ops : Array Oper} {rest : List Oper} {o : Oper} {a : Act} {Q : Exit → Act → World → Prop} (hgd : o.guard = none) (M K V : Operand) (hop : o.op = Op.mapUpdate T M K V)
    (ht : P.underlying T = some (.map kt et)) (hk : P.underlying kt = some (.int .i64)) {b : Nat} {m : IM} (h : IMap w b m) (k : Int) (v : Value) (hM : a.eval M = .map (some b)) (hK : a.eval K = .int .i64 k) (hV : a.eval V = v)
    (hn : ∀ w', Fr (fun i => i = b) w w' → IMap w' b (mset m k v) → wpList P ops Q rest (a.put o.dst undef) w') : wpList P ops Q (o :: rest) a w := by
  refine wpList_plain hgd fun K' hK' => ?_
  obtain ⟨ob, hrun, hm⟩ := run_mapUpdate_i ht hk h k v
  unfold Oper.wp
  simp [execOp, hop, hM, hK, hV, hrun, Result.andThen]
  exact hK' _ _ (hn _ (fr_setObjW _ _ _) hm)
/-- clear(m) -/
theorem wpList_clear_i {w : World} {ops : Array Oper} {rest : List Oper} {o : Oper} {a : Act} {Q : Exit → Act → World → Prop} (hgd : o.guard = none) (M : Operand) (hop : o.op = .call { callee := .builtin .clear, args := #[M], argTypes := #[T] })
    (ht : P.underlying T = some (.map kt et)) {b : Nat} {m : IM} (h : IMap w b m) (hM : a.eval M = .map (some b))
    (hn : ∀ w', Fr (fun i => i = b) w w' → IMap w' b [] → wpList P ops Q rest (a.put o.dst (.tuple #[])) w') : wpList P ops Q (o :: rest) a w := by
  refine wpList_plain hgd fun K' hK' => ?_
  have hlt := h.lt
  obtain ⟨⟨es, clock, hb, h1, h2, h3⟩, h4⟩ := h
  have hrun : (Builtin.clear_ #[T] o.type #[.map (some b)]).run P w = .ok (.tuple #[]) (setObjW w b (.map #[] clock)) := by
    simp [Builtin.clear_, Sem.run_bind, run_underlying ht, Result.andThen, getObj, setObj, Sem.run, hb, setObjW]
  unfold Oper.wp
  simp [execOp, hop, resolve, invoke, builtin, hM, hrun, Result.andThen]
  exact hK' _ _ (hn _ (fr_setObjW _ _ _) ⟨⟨#[], clock, heap_setObjW hlt _, rfl, by simp, by simp⟩, by simp⟩)
end
def mapV {α : Type} (f : α → Value) (m : List (Int × α)) : IM := m.map (fun x => (x.1, f x.2))
theorem mget_mapV {α : Type} (f : α → Value) (m : List (Int × α)) (k : Int) : mget (mapV f m) k = (mget m k).map f := by
  unfold mget mapV
  induction m with
  | nil => rfl
  | cons x m ih =>
    simp only [List.map_cons, List.find?_cons]
    by_cases h : (x.1 == k) = true
    · simp [h]
    · simp only [Bool.not_eq_true] at h
      simp only [h]; exact ih
theorem mset_mapV {α : Type} (f : α → Value) (m : List (Int × α)) (k : Int) (v : α) : mset (mapV f m) k (f v) = mapV f (mset m k v) := by
  unfold mset mapV
  have h : (m.map (fun x => (x.1, f x.2))).any (fun x => x.1 == k) = m.any (fun x => x.1 == k) := by
    rw [List.any_map]; rfl
  rw [h]
  split
  · rw [List.map_map, List.map_map]
    apply List.map_congr_left
    intro x _
    simp only [Function.comp]
    split <;> rfl
  · simp
theorem mapV_keys {α : Type} (f : α → Value) (m : List (Int × α)) : (mapV f m).map (·.1) = m.map (·.1) := by
  unfold mapV; rw [List.map_map]; rfl
theorem mget_mset {α : Type} (m : List (Int × α)) (k j : Int) (v : α) : mget (mset m k v) j = if j = k then some v else mget m j := by
  unfold mget mset
  by_cases ha : m.any (fun x => x.1 == k) = true
  · rw [if_pos ha]
    induction m with
    | nil => simp at ha
    | cons x m ih =>
      simp only [List.map_cons, List.find?_cons]
      by_cases hx : x.1 = k
      · subst hx
        by_cases hj : j = x.1
        · subst hj; simp
        · have h1 : (x.1 == j) = false := by simpa using fun h => hj h.symm
          simp only [beq_self_eq_true, if_true, h1, if_neg hj]
          by_cases ha2 : m.any (fun y => y.1 == x.1) = true
          · have := ih ha2; rw [if_neg hj] at this; exact this
          · have e : m.map (fun y => if (y.1 == x.1) = true then (x.1, v) else y) = m := by
              refine (List.map_congr_left (g := id) (fun y hy => ?_)).trans (List.map_id m)
              have this := List.any_eq_false.1 (Bool.eq_false_iff.2 ha2) y hy
              simp at this
              simp [this]
            rw [e]
      · have h1 : (x.1 == k) = false := by simpa using hx
        simp only [h1]
        by_cases hj : (x.1 == j) = true
        · have hjx : x.1 = j := by simpa using hj
          have : ¬ j = k := fun e => hx (hjx.trans e)
          simp [hj, this]
        · simp only [Bool.not_eq_true] at hj
          have ha2 : m.any (fun y => y.1 == k) = true := by simpa [h1] using ha
          simp only [Bool.false_eq_true, if_false, hj]
          exact ih ha2
  · rw [if_neg ha]
    rw [List.find?_append]
    simp only [Bool.not_eq_true] at ha
    by_cases hj : j = k
    · subst hj
      have : m.find? (fun x => x.1 == j) = none := by
        rw [List.find?_eq_none]
        intro x hx
        have := List.any_eq_false.1 ha x hx
        simpa using this
      simp [this]
    · have h1 : (k == j) = false := by simpa using fun h => hj h.symm
      simp [hj, h1]
theorem at_mapset {P : Program} {T kt et : TypeId} {w : World} {ops : Array Oper} {rest : List Oper} {a : Act} {Q : Exit → Act → World → Prop} {dst : Option Tmp} {tt : TypeId} {ps : String} {af : Array Edge} (M K V : Operand)
    (ht : P.underlying T = some (.map kt et)) (hk : P.underlying kt = some (.int .i64)) {b : Nat} {m : IM} {k : Int} {v : Value} (hM : a.eval M = .map (some b)) (hK : a.eval K = .int .i64 k) (hV : a.eval V = v) (h : IMap w b m)
    (hn : ∀ w', Fr (fun i => i = b) w w' → IMap w' b (mset m k v) → wpList P ops Q rest (a.put dst undef) w') : wpList P ops Q ({ dst := dst, op := .mapUpdate T M K V, type := tt, pos := ps, after := af, guard := none } :: rest) a w :=
  wpList_mapUpdate_i rfl M K V rfl ht hk h k v hM hK hV hn
theorem at_clear {P : Program} {T kt et : TypeId} {w : World} {ops : Array Oper} {rest : List Oper} {a : Act} {Q : Exit → Act → World → Prop} {dst : Option Tmp} {tt : TypeId} {ps : String} {af : Array Edge} (M : Operand)
    (ht : P.underlying T = some (.map kt et)) {b : Nat} {m : IM} (hM : a.eval M = .map (some b)) (h : IMap w b m)
    (hn : ∀ w', Fr (fun i => i = b) w w' → IMap w' b [] → wpList P ops Q rest (a.put dst (.tuple #[])) w') : wpList P ops Q ({ dst := dst, op := .call { callee := .builtin .clear, args := #[M], argTypes := #[T] }, type := tt, pos := ps, after := af, guard := none } :: rest) a w :=
  wpList_clear_i rfl M rfl ht h hM hn
end Go.Proofs.Ytdkjmnhblepkaaa

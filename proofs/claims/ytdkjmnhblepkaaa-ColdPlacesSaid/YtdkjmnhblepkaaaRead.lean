import Derived.Test.YtdkjmnhblepkaaaKit
import Derived.ProofKit
import Derived.OpenShut
import Derived.SizedLaws
import Derived.Carry
namespace Go.Proofs.Ytdkjmnhblepkaaa
open Go.RowKit Go.ChangeShapes Go.WideShapes Go.ChangeAt
set_option linter.unusedVariables false
set_option linter.unusedSimpArgs false

/-! How an argument reads: `Rd P w t cs`: the cells cs read as a datum of type t in w, each part no heavier than the form's reach. -/

theorem mapM_some {α β : Type} (f : α → Option β) (l : List α) (r : List β) (h : l.mapM f = some r) : r.length = l.length ∧ ∀ i (h1 : i < l.length) (h2 : i < r.length), f l[i] = some r[i] := by
  induction l generalizing r with
  | nil => simp at h; subst h; simp
  | cons x l ih =>
    simp only [List.mapM_cons, Option.pure_def, Option.bind_eq_bind, Option.bind_eq_some_iff] at h
    obtain ⟨y, hy, ys, hys, h⟩ := h
    cases h
    obtain ⟨h1, h2⟩ := ih ys hys
    refine ⟨by simp [h1], fun i hi1 hi2 => ?_⟩
    cases i with
    | zero => simpa using hy
    | succ i => simpa using h2 i (by simpa using hi1) (by simpa using hi2)

/-- what is read weighs no more than the reach -/
def Light {H : Type} (P : Program) (t : TypeId) (d : DataW H) : Prop := ∀ n ∈ d.weights P t, n ≤ reachBytes
def Rd (P : Program) (w : World) (t : TypeId) (cs : List Value) : Prop :=
  ∃ (H : Type) (enc : TypeId × Value → H) (base fuel : Nat) (x : DataW H × List MemPlace), DataW.trod enc P w base (fun _ => true) true fuel t cs = some x ∧ Light P t x.1

theorem cells?_some {w : World} {base : Nat} {a : Addr} {n : Nat} {l : List Value} (h : w.cells? base a n = some l) : l.length = n ∧ ∀ j (h : j < l.length), w.cell? (a.add j) = some l[j] := by
  unfold World.cells? at h
  split at h
  · obtain ⟨h1, h2⟩ := mapM_some _ _ _ h
    simp at h1
    refine ⟨h1, fun j hj => ?_⟩
    have h3 := h2 j (by simpa [h1] using hj) hj
    rw [List.getElem_range] at h3
    exact h3
  · cases h

theorem weightsAll_mem {H : Type} {P : Program} {e : TypeId} {l : List (DataW H)} {d : DataW H} (h : d ∈ l) {n : Nat} (hn : n ∈ d.weights P e) : n ∈ DataW.weightsAll P e l := by
  induction l with
  | nil => cases h
  | cons x r ih =>
    rw [DataW.weightsAll, List.mem_append]
    cases List.mem_cons.1 h with
    | inl e => subst e; exact .inl hn
    | inr e => exact .inr (ih e)
theorem weightsEach_mem {H : Type} {P : Program} {ts : List TypeId} {l : List (DataW H)} {i : Nat} {t : TypeId} {d : DataW H} (ht : ts[i]? = some t) (hd : l[i]? = some d) {n : Nat} (hn : n ∈ d.weights P t) : n ∈ DataW.weightsEach P ts l := by
  induction ts generalizing l i with
  | nil => simp at ht
  | cons t0 ts ih =>
    cases l with
    | nil => simp at hd
    | cons d0 l =>
      rw [DataW.weightsEach, List.mem_append]
      cases i with
      | zero => simp at ht hd; subst ht; subst hd; exact .inl hn
      | succ i => exact .inr (ih (by simpa using ht) (by simpa using hd))

theorem Rd.int {P : Program} {w : World} {t : TypeId} {cs : List Value} {k : IntKind} (ht : P.underlying t = some (.int k)) (h : Rd P w t cs) : ∃ n, cs = [.int k n] ∧ (Lit.int k n).wf = true := by
  obtain ⟨H, enc, base, fuel, x, h, _⟩ := h
  obtain ⟨n', h, hx, hw⟩ := DataW.trod_int ht h
  exact ⟨n', h, hw⟩
theorem Rd.bool {P : Program} {w : World} {t : TypeId} {cs : List Value} (ht : P.underlying t = some .bool) (h : Rd P w t cs) : ∃ b, cs = [.bool b] := by
  obtain ⟨H, enc, base, fuel, x, h, _⟩ := h
  cases fuel with
  | zero => simp [DataW.trod] at h
  | succ fuel =>
    unfold DataW.trod at h
    rw [ht] at h
    split at h <;> simp_all
theorem Rd.array {P : Program} {w : World} {t e : TypeId} {n : Nat} {cs : List Value} (ht : P.underlying t = some (.array n e)) (h : Rd P w t cs) : cs.length = P.cellsOf t ∧ ∀ i, i < n → Rd P w e ((cs.drop (i * P.cellsOf e)).take (P.cellsOf e)) := by
  obtain ⟨H, enc, base, fuel, x, h, hl⟩ := h
  cases fuel with
  | zero => simp [DataW.trod] at h
  | succ fuel =>
    unfold DataW.trod at h
    rw [ht] at h
    simp only at h
    split at h
    · rename_i hc
      refine ⟨hc, fun i hi => ?_⟩
      simp only [Option.map_eq_some_iff] at h
      obtain ⟨xs, hxs, rfl⟩ := h
      obtain ⟨h1, h2⟩ := mapM_some _ _ _ hxs
      simp at h1
      have h3 := h2 i (by simpa using hi) (by omega)
      simp only [List.getElem_range] at h3
      refine ⟨H, enc, base, fuel, xs[i], h3, fun m hm => hl m ?_⟩
      simp only [DataW.weights, ht]
      exact weightsAll_mem (d := xs[i].1) (List.mem_map.2 ⟨xs[i], List.getElem_mem _, rfl⟩) hm
    · cases h
theorem Rd.struct {P : Program} {w : World} {t : TypeId} {fs : Array Field} {cs : List Value} (ht : P.underlying t = some (.struct fs)) (h : Rd P w t cs) : cs.length = P.cellsOf t ∧ ∀ i (hi : i < fs.size), Rd P w fs[i].type ((cs.drop fs[i].offset).take (P.cellsOf fs[i].type)) := by
  obtain ⟨H, enc, base, fuel, x, h, hl⟩ := h
  cases fuel with
  | zero => simp [DataW.trod] at h
  | succ fuel =>
    unfold DataW.trod at h
    rw [ht] at h
    simp only at h
    split at h
    · rename_i hc
      refine ⟨hc, fun i hi => ?_⟩
      simp only [Option.map_eq_some_iff] at h
      obtain ⟨xs, hxs, rfl⟩ := h
      obtain ⟨h1, h2⟩ := mapM_some _ _ _ hxs
      simp at h1
      have h3 := h2 i (by simpa using hi) (by omega)
      simp only [Array.getElem_toList] at h3
      refine ⟨H, enc, base, fuel, xs[i], h3, fun m hm => hl m ?_⟩
      simp only [DataW.weights, ht]
      exact weightsEach_mem (i := i) (t := fs[i].type) (d := xs[i].1) (by simp [hi]) (by simp [h1, hi]) hm
    · cases h
theorem Rd.slice {P : Program} {w : World} {t e : TypeId} {cs : List Value} (ht : P.underlying t = some (.slice e)) (h : Rd P w t cs) :
    cs = [.slice none 0 0] ∨ ∃ a len cap, cs = [.slice (some a) len cap] ∧ len ≤ cap ∧ cap ≤ maxLen ∧ cap * P.bytesOf e ≤ 140737488351232 ∧
      ∀ i, i < len → ∃ ecs : List Value, ecs.length = P.cellsOf e ∧ (∀ j (h : j < ecs.length), w.cell? ((a.add (i * P.cellsOf e)).add j) = some ecs[j]) ∧ Rd P w e ecs := by
  obtain ⟨H, enc, base, fuel, x, h, hl⟩ := h
  cases fuel with
  | zero => simp [DataW.trod] at h
  | succ fuel =>
    unfold DataW.trod at h
    rw [ht] at h
    split at h <;> simp_all
    rename_i e2 a len cap heq
    subst heq
    obtain ⟨⟨hb, hlc, hm⟩, h⟩ := h
    obtain ⟨elems, he, h⟩ := Option.bind_eq_some_iff.1 h
    obtain ⟨rest, hr, h⟩ := Option.map_eq_some_iff.1 h
    subst h
    obtain ⟨h1, h2⟩ := mapM_some _ _ _ he
    obtain ⟨r1, r2⟩ := mapM_some _ _ _ hr
    simp at h1 r1
    refine ⟨a, len, cap, ⟨rfl, rfl, rfl⟩, hlc, hm, ?_, fun i hi => ?_⟩
    · have := hl ((elems.length + rest.length) * P.bytesOf e) (by simp [DataW.weights, ht])
      rw [h1, r1] at this
      unfold reachBytes at this
      have e1 : len + (cap - len) = cap := by omega
      rw [e1] at this
      exact this
    · have h3 := h2 i (by simpa using hi) (by omega)
      simp only [List.getElem_range, Option.bind_eq_some_iff] at h3
      obtain ⟨ecs, hc, ht2⟩ := h3
      obtain ⟨c1, c2⟩ := cells?_some hc
      refine ⟨ecs, c1, c2, H, enc, base, fuel, elems[i], ht2, fun m hm => hl m ?_⟩
      simp only [DataW.weights, ht, List.mem_cons, List.mem_append]
      exact .inr (.inl (weightsAll_mem (d := elems[i].1) (List.mem_map.2 ⟨elems[i], List.getElem_mem _, rfl⟩) hm))
theorem Rd.string {P : Program} {w : World} {t : TypeId} {cs : List Value} (ht : P.underlying t = some .string) (h : Rd P w t cs) : ∃ s : ByteArray, cs = [.string s] ∧ s.size ≤ 140737488351232 := by
  obtain ⟨H, enc, base, fuel, x, h, hl⟩ := h
  cases fuel with
  | zero => simp [DataW.trod] at h
  | succ fuel =>
    unfold DataW.trod at h
    rw [ht] at h
    split at h <;> simp_all
    rename_i s
    obtain ⟨hs, rfl⟩ := h
    have := hl s.data.toList.length (by simp [DataW.weights])
    unfold reachBytes at this
    simpa using this
end Go.Proofs.Ytdkjmnhblepkaaa

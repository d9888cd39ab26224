import Derived.Test.YtjfeibbghhjjeaaDoorKit
import Derived.ChangeKeysEq
namespace Go.Proofs.YtjfeibbghhjjeaaDoor
open Go.RowKit
set_option linter.unusedVariables false
set_option linter.unusedSimpArgs false

/-! == on arrays of numbers. -/
section
variable {P : Program}
theorem part_int {w : World} {e : TypeId} {k : IntKind} (he : P.underlying e = some (.int k)) (xs : List Value) (i : Nat) (v : Value) (h : xs[i]? = some v) : (part e xs.toArray i).run P w = .ok v w := by
  simp [part, isAgg, run_underlying he, h]
theorem eqItems_int (d : Nat) {w : World} {e : TypeId} {k : IntKind} (he : P.underlying e = some (.int k)) (xs ys : List Value) (f g : Nat → Int) : ∀ is : List Nat, (∀ i ∈ is, xs[i]? = some (.int k (f i)) ∧ ys[i]? = some (.int k (g i))) →
    (Op.eqItems (d + 1) e 1 xs.toArray ys.toArray is).run P w = .ok (is.all fun i => f i == g i) w
  | [], _ => by simp [Op.eqItems]
  | i :: is, h => by
    obtain ⟨h1, h2⟩ := h i (by simp)
    have ih := eqItems_int d (w := w) he xs ys f g is (fun j hj => h j (by simp [hj]))
    have p1 := part_int (P := P) (w := w) he xs (i * 1) _ (by rw [Nat.mul_one]; exact h1)
    have p2 := part_int (P := P) (w := w) he ys (i * 1) _ (by rw [Nat.mul_one]; exact h2)
    have p3 := run_equalIn_int (P := P) w d e k k (f i) (g i) he
    simp only [Op.eqItems, Sem.run_bind, p1, p2, p3, Result.andThen_ok]
    cases hq : (f i == g i)
    · simp [hq]
    · simp only [Bool.not_true, Bool.false_eq_true, if_false, List.all_cons, hq, Bool.true_and]
      exact ih
theorem eq_ints {w : World} {t e : TypeId} {n : Nat} {k : IntKind} {i : TypeInfo} (hu : P.underlying t = some (.array n e)) (hi : P.info? e = some i) (hc : P.cellsOf e = 1) (he : P.underlying e = some (.int k)) (l m : List Int) (hl : l.length = n) (hm : m.length = n) :
    (Op.equalIn 10000 t (.agg (l.map (Value.int k)).toArray) (.agg (m.map (Value.int k)).toArray)).run P w = .ok (decide (l = m)) w := by
  rw [run_equalIn_array w 9999 _ _ hu hi, hc, eqItems_int 9998 he _ _ (fun i => l.getD i 0) (fun i => m.getD i 0)]
  · congr 1
    rw [Bool.eq_iff_iff, List.all_eq_true, decide_eq_true_eq]
    constructor
    · intro h
      apply List.ext_getElem (by omega)
      intro i h1 h2
      have := h i (by simp; omega)
      simpa [h1, h2] using this
    · rintro rfl i _
      simp
  · intro i hi2
    have hi3 : i < n := by simpa using hi2
    constructor
    · rw [List.getElem?_map, List.getElem?_eq_getElem (by omega)]; simp [hl, hi3]
    · rw [List.getElem?_map, List.getElem?_eq_getElem (by omega)]; simp [hm, hi3]
theorem eq_blocks {w : World} {t e : TypeId} {n : Nat} {i : TypeInfo} (hu : P.underlying t = some (.array n e)) (hi : P.info? e = some i) (hc : P.cellsOf e = 1) (he : P.underlying e = some (.int .u8)) (l m : List UInt8) (hl : l.length = n) (hm : m.length = n) :
    (Op.equalIn 10000 t (.agg (l.map byteV).toArray) (.agg (m.map byteV).toArray)).run P w = .ok (decide (l = m)) w := by
  have h := eq_ints (w := w) hu hi hc he (l.map (fun x => (x.toNat : Int))) (m.map (fun x => (x.toNat : Int))) (by simpa using hl) (by simpa using hm)
  rw [List.map_map, List.map_map] at h
  have e1 : ∀ l : List UInt8, l.map (Value.int .u8 ∘ fun x => (x.toNat : Int)) = l.map byteV := fun l => rfl
  rw [e1, e1] at h
  rw [h]
  congr 1
  rw [Bool.eq_iff_iff, decide_eq_true_eq, decide_eq_true_eq]
  constructor
  · intro h2
    exact (List.map_inj_right (fun x y hxy => UInt8.toNat_inj.1 (Int.ofNat.inj hxy))).1 h2
  · rintro rfl; rfl
end
end Go.Proofs.YtjfeibbghhjjeaaDoor

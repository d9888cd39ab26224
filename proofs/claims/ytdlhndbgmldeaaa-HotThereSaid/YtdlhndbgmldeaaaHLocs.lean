import Derived.Test.YtdlhndbgmldeaaaHActs
namespace Go.Proofs.Ytdlhndbgmldeaaa
open Go.RowKit
set_option linter.unusedVariables false
set_option linter.unusedSimpArgs false

/-! The places that a law keeps in a slice of its own, beside boxes. -/
theorem info_loc : (Try.prog.info? 43).map (fun i => (i.zero, i.size, i.bytes)) = some (some (.agg #[.int .i64 0, .int .i64 0, .int .i64 0, .int .u32 0]), 4, 32) := by kernel_rfl
theorem locC_one (ls : List LocS) : ∀ u ∈ ls.flatMap locC, u.oneCell' = true := by
  intro u hu
  obtain ⟨x, _, hx⟩ := List.mem_flatMap.1 hu
  simp [locC] at hx
  rcases hx with rfl | rfl | rfl | rfl <;> rfl
theorem locC_one1 (x : LocS) : ∀ u ∈ locC x, u.oneCell' = true := by
  intro u hu
  simp [locC] at hu
  rcases hu with rfl | rfl | rfl | rfl <;> rfl
theorem loc_cells {w : World} {g o : Nat} {ls : List LocS} (h : CellsAt w (some ⟨g, o, none⟩) (ls.flatMap locC)) (k : Nat) (hk : k < ls.length) :
    w.cell? ⟨g, o + k * 4, none⟩ = some (.int .i64 (ls[k].box : Int)) ∧ w.cell? ⟨g, o + k * 4 + 1, none⟩ = some (.int .i64 (ls[k].fr : Int)) ∧ w.cell? ⟨g, o + k * 4 + 2, none⟩ = some (.int .i64 (ls[k].n : Int)) ∧ w.cell? ⟨g, o + k * 4 + 3, none⟩ = some (.int .u32 (ls[k].sum : Int)) := by
  have hl : (ls.flatMap locC).length = ls.length * 4 := flatMap_len _ 4 (fun _ => rfl) _
  have hg := fun i hi => flatMap_get locC 4 (fun _ => rfl) ls k i hk hi
  have key : ∀ i, i < 4 → ∀ v, (locC ls[k])[i]? = some v → w.cell? ⟨g, o + k * 4 + i, none⟩ = some v := fun i hi v hv => by
    have h1 := hg i hi
    rw [hv] at h1
    obtain ⟨hlt, he⟩ := List.getElem?_eq_some_iff.1 h1
    have := h.get (k * 4 + i) hlt
    rw [he] at this
    rw [Nat.add_assoc]
    exact this
  exact ⟨key 0 (by omega) _ rfl, key 1 (by omega) _ rfl, key 2 (by omega) _ rfl, key 3 (by omega) _ rfl⟩
/-- A write elsewhere leaves the boxes. -/
theorem HS.far {w0 w w' : World} {h bx p m1 m2 : Nat} {H : HotS} {D : DevS} {B : Nat} (S : HS w0 w h bx p m1 m2 H D) {T : Nat → Prop} (hF : Fr T w w') (hT : ∀ k, T k → B ≤ k) (h1 : h < B) (h2 : bx < B) (h3 : ∀ i, devBlks p m1 m2 i → i < B) (h4 : w0.heap.size ≤ B) : HS w0 w' h bx p m1 m2 H D := by
  refine ⟨⟨S.hd.hot.fr hF (fun e => by have := hT _ e; omega) (fun e => by have := hT _ e; omega), S.hd.dev.fr hF (fun i hi e => by have := hT _ e; have := h3 i hi; omega), S.hd.hd, S.hd.bd, S.hd.up, S.hd.fit⟩, S.ok, S.calm, S.fr.trans' hF (fun k hk e => by have := hT _ e; omega), S.nh, S.nb, S.nd⟩
theorem ownsRow_far {w w' : World} {B : Nat} {e : TypeId} {size : Nat} {v : Value} {n : Nat} {xs : List Value} (h : w.ownsRow B e size v n xs) {S : Nat → Prop} (hF : Fr S w w') (hn : ∀ k, S k → k < B) : w'.ownsRow B e size v n xs :=
  ownsRow_fr h hF (fun k hk hs => by have := hn k hs; have := (ownsRow_lt h hk).1; omega)
end Go.Proofs.Ytdlhndbgmldeaaa

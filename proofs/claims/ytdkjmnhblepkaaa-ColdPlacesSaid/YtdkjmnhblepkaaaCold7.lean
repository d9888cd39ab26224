import Derived.Test.YtdkjmnhblepkaaaCold6
import Derived.Lib.SliceRun
namespace Go.Proofs.Ytdkjmnhblepkaaa
open Go.RowKit
set_option linter.unusedVariables false
set_option linter.unusedSimpArgs false
set_option maxRecDepth 100000

/-! cold.New. -/
theorem info_pdev : (Try.prog.info? 46).map (fun i => (i.zero, i.size, i.bytes)) = some (some (.pointer none), 1, 8) := by kernel_rfl
theorem ptr_one (l : List Nat) : ∀ v ∈ l.map ptr, v.oneCell' = true := by
  intro v hv
  obtain ⟨x, _, rfl⟩ := List.mem_map.1 hv
  rfl
structure CloneP (w : World) (ds : List Nat) (e : Ending) (w' : World) : Prop where
  ret : ∃ lb cl rest, e = .returned (.slice (some ⟨lb, 0, none⟩) ds.length cl) ∧ w'.heap[lb]? = some (.cells (ds.map ptr ++ rest).toArray 46 (0, 0)) ∧ w.heap.size ≤ lb
  fr : Fr none_ w w'
set_option maxHeartbeats 4000000 in
theorem clone_any {w : World} (A : Option Addr) (ca : Nat) (ds : List Nat) (hA : CellsAt w A (ds.map ptr)) (hpos : 0 < ds.length) (hl : ds.length ≤ 1000) :
    Calls Try.prog 17 #[.slice A ds.length ca] w fun e w' => CloneP w ds e w' := by
  obtain ⟨a, o, hAe⟩ := hA.addr (by rw [List.length_map]; exact hpos)
  subst hAe
  have hlit := ownsRow_lit (w := w) (base := w.heap.size) 46 1 0 [] (Nat.le_refl _) (by unfold maxLen; omega) rfl
  have hF0 : Fr none_ w (w.alloc (.cells ([] : List Value).toArray 46)) := (Fr.refl _ _).alloc _
  have HA := Lib.hid (hA.fr0 hF0)
  have HLIT := Lib.hid hlit
  have qT : ∀ (w : World) (a : Option Addr) (n c n' c' : Nat), (binOp .eql 23 (.slice a n c) (.slice none n' c')).run Try.prog w = .ok (.bool a.isNone) w := fun w a n c n' c' => Lib.run_eql_slice_nil w _ _ a n c n' c' Try.underlying23
  clear hA hlit
  go_enter Try.func17, Try.ntmps17
  go_wp2_with ((with_reducible refine at_append (.tmp 5) (.tmp 6) 23 w.heap.size 46 (.pointer none) 1 8 (n := 0) (A := some ⟨a, o, none⟩) (m := ds.length) (c := ca) (news := ds.map ptr) Try.underlying23 info_pdev ?_ ?_ ?_ ?_ HLIT.out HA.out ?_ ?_ ?_ ?_ ?_ ?_ ?_); (focus rfl); (focus decide); (focus rfl); (focus rfl); (focus (intro h; cases h)); (focus (rw [List.length_map, Nat.mul_one])); (focus exact ptr_one _); (focus (unfold maxLen; omega)); (focus omega); (focus (rw [World.size_alloc]; omega)); intro v' w4 hown4 hg4; have hF4 := Fr.grown hF0 hg4 HLIT.out (Nat.le_refl _); have H4 := Lib.hid (And.intro hown4 hF4); clear hown4 hg4 hF4)
  obtain ⟨ho, hF4⟩ := H4.out
  obtain ⟨h1, h2⟩ := ho
  go_ret
  rcases h2 with ⟨h0, hx⟩ | ⟨gb, cap, cur, hv, y1, y2, y3, y4, y5, y6⟩
  · exfalso
    omega
  · refine ⟨⟨gb, cap, cur.toList.drop ds.length, ?_, ?_, y1⟩, hF4⟩
    · rw [hv]; simp
    · rw [y2]
      have hc : cur = (ds.map ptr ++ cur.toList.drop ds.length).toArray := by
        apply Array.toList_inj.1
        have := List.take_append_drop ((0 + ds.length) * 1) cur.toList
        rw [y6, List.nil_append] at this
        simp only [Nat.zero_add, Nat.mul_one] at this
        simpa using this.symm
      rw [← hc]
end Go.Proofs.Ytdkjmnhblepkaaa

import Derived.Test.YtniiokhkmdknaaaDoorDev4
import Derived.Test.YtniiokhkmdknaaaDoorIter
namespace Go.Proofs.YtniiokhkmdknaaaDoor
open Go.RowKit Go.Maps Go.Sort Go.Shelf
set_option linter.unusedVariables false
set_option linter.unusedSimpArgs false

/-! dev.Loose: slices.Sorted(maps.Keys(d.loose)), by the shelf's contracts. -/
def noR {H : Type} : Value → Option (DataW H × List MemPlace) := fun _ => some (.nil, [])
abbrev leZ : Int → Int → Bool := fun x y => decide (x ≤ y)
def sortedKeys {α : Type} (m : List (Int × α)) : List Int := (m.map (·.1)).mergeSort leZ
theorem nodup_len : ∀ (n : Nat) (l : List Int), l.Nodup → (∀ x ∈ l, 0 ≤ x ∧ x < (n : Int)) → l.length ≤ n := by
  intro n
  induction n with
  | zero =>
    intro l _ h
    cases l with
    | nil => simp
    | cons x l => have := h x (by simp); omega
  | succ n ih =>
    intro l hn h
    have h1 := ih (l.erase (n : Int)) (hn.erase _) (fun x hx => by
      have hx1 := List.mem_of_mem_erase hx
      have := h x hx1
      have hne : x ≠ (n : Int) := fun e => by subst e; exact absurd hx (hn.not_mem_erase)
      omega)
    have h2 := List.length_erase_le (a := (n : Int)) (l := l)
    by_cases hm : (n : Int) ∈ l
    · rw [List.length_erase_of_mem hm] at h1; omega
    · rw [List.erase_of_not_mem hm] at h1; omega
theorem sort_perm {a b : List Int} (h : a.Perm b) : a.mergeSort leZ = b.mergeSort leZ := by
  have tr : ∀ x y z : Int, leZ x y = true → leZ y z = true → leZ x z = true := fun x y z h1 h2 => by simp at *; omega
  have tot : ∀ x y : Int, (leZ x y || leZ y x) = true := fun x y => by simp; omega
  refine List.Perm.eq_of_pairwise (le := fun x y => leZ x y = true) (fun x y _ _ h1 h2 => by simp at h1 h2; omega) ?_ ?_ (((List.mergeSort_perm a leZ).trans h).trans (List.mergeSort_perm b leZ).symm)
  · exact List.pairwise_mergeSort tr tot a
  · exact List.pairwise_mergeSort tr tot b
theorem imap_owns {P : Program} {k : TypeId} (hk : P.underlying k = some (.int .i64)) {w : World} {b : Nat} {m : IM} (h : IMap w b m) (hwf : ∀ x ∈ m, (Lit.int .i64 x.1).wf = true) (hsz : m.length ≤ maxLen) :
    ∃ D : DataW Unit, w.ownsMap P k (noR (H := Unit)) b m.length D ∧ (intKeys D).Perm (m.map (·.1)) ∧ Maps.size D = m.length := by
  obtain ⟨⟨es, clock, hb, h1, h2, h3⟩, h4⟩ := h
  have hlen : es.size = m.length := by have := congrArg List.length h1; simpa using this
  have hkeys : es.toList.map (·.key) = m.map (fun x => Value.int .i64 x.1) := by
    have := congrArg (List.map (·.1)) h1
    simpa [Function.comp_def] using this
  have hrd : ∀ e ∈ es.toList, ∃ x, (x ∈ m.map (·.1)) ∧ e.key = .int .i64 x ∧ keyOf P k e.key = some (.int .i64 x) := by
    intro e he
    have : e.key ∈ es.toList.map (·.key) := List.mem_map.2 ⟨e, he, rfl⟩
    rw [hkeys] at this
    obtain ⟨x, hx, hxe⟩ := List.mem_map.1 this
    exact ⟨x.1, List.mem_map.2 ⟨x, hx, rfl⟩, hxe.symm, by rw [← hxe]; exact keyOf_int_mk hk (hwf x hx)⟩
  have hstamp : MapKept.Stamped es clock := by
    refine ⟨fun x hx => h2 x (by simpa using hx), h3, ?_⟩
    rw [hkeys]
    have : m.map (fun x => Value.int .i64 x.1) = (m.map (·.1)).map (Value.int .i64) := by rw [List.map_map]; rfl
    rw [this]
    exact (List.pairwise_map.2 (h4.imp (fun hne e => hne (by cases e; rfl))))
  refine ⟨.map ((es.toList.map (WideElems.rg P k noR)).foldr DataW.insert []), ⟨es, clock, hb, ⟨by omega, hstamp, fun x hx => ?_⟩, by omega, rfl⟩, ?_, ?_⟩
  · obtain ⟨y, _, _, hy⟩ := hrd x hx
    exact ⟨_, by simp [WideElems.rd, hy, noR]; rfl⟩
  · show (List.map _ _).Perm _
    refine ((WideShapes.sorted_perm _).map _).trans ?_
    rw [List.map_map]
    have : es.toList.map ((fun p : Lit × DataW Unit => Go.intOf p.1) ∘ WideElems.rg P k (noR (H := Unit))) = m.map (·.1) := by
      have e2 : m.map (·.1) = (es.toList.map (·.key)).map RowKit.intOf := by rw [hkeys, List.map_map]; rfl
      rw [e2, List.map_map]
      apply List.map_congr_left
      intro e he
      obtain ⟨y, _, hy1, hy⟩ := hrd e he
      simp only [Function.comp, WideElems.rg, WideElems.rd, hy, noR]
      rw [hy1]
      rfl
    rw [this]
  · rw [Maps.size_eq, (WideShapes.sorted_perm _).length_eq, List.length_map, Array.length_toList, hlen]
theorem wf_small {n : Int} (h0 : 0 ≤ n) (h1 : n < 16384) : (Lit.int .i64 n).wf = true := WalkArith.wf_i64 (by omega)
theorem sortsA (m : Nat) : AnyZI.SortsIn Tryd.prog Tryd.sortedA_ren Fence.wide m :=
  ⟨fun blk off cap ss W hH hblk hsz => callsIn_wide.2 (AnyM.slices_Sort_int Tryd.sortA blk off cap ss W hH hblk hsz),
   fun p cap W => callsIn_wide.2 (AnyM.slices_Sort_int_none Tryd.sortA p cap W)⟩
structure SortedPost (w : World) (ks : List Int) (e : Ending) (w' : World) : Prop where
  val : ∃ v, e = .returned v ∧ w'.ownsRow w.heap.size 3 1 v ks.length (ks.map intV)
  fr : Fr none_ w w'
theorem sortedKeys_len {α : Type} (m : List (Int × α)) : (sortedKeys m).length = m.length := by simp [sortedKeys]
set_option maxHeartbeats 1000000 in
set_option maxRecDepth 100000 in
theorem loose_any {w : World} {p m1 m2 : Nat} {D : DevS} (h : DevAt w p m1 m2 D) : Calls Tryd.prog 35 #[ptr p] w fun e w' => SortedPost w (sortedKeys D.loose) e w' := by
  obtain ⟨c0, c1, c2, c3, c4, c5, c6, c7⟩ := h.cellsAll
  have hlen : D.loose.length ≤ 16384 := by
    have hn := h.loose.nodup
    rw [mapV_keys] at hn
    have h1 := nodup_len D.sectors.toNat (D.loose.map (·.1)) hn (fun x hx => by
      obtain ⟨y, hy, rfl⟩ := List.mem_map.1 hx
      have := h.keys y hy
      omega)
    have := h.most
    simp at h1
    omega
  obtain ⟨D0, hown, hperm, hsize⟩ := imap_owns (P := Tryd.prog) (k := 3) Tryd.underlying3 h.loose (fun x hx => by
    obtain ⟨y, hy, rfl⟩ := List.mem_map.1 hx
    have := h.keys y hy
    have h2 := h.most
    exact wf_small (show 0 ≤ y.1 from this.1) (by omega)) (by simp [mapV]; unfold maxLen; omega)
  rw [mapV_keys] at hperm
  have hsz2 : Maps.size D0 = D.loose.length := by rw [hsize]; simp [mapV]
  have hmax : Maps.size D0 ≤ maxLen := by rw [hsz2]; unfold maxLen; omega
  have hbytes : Maps.size D0 * 8 ≤ 140737488355328 := by rw [hsz2]; omega
  refine (callsIn_wide (n := 6)).1 ?_
  have hbl := hown.lt
  have hseq : SeqGives Fence.wide 2 Tryd.prog 62 #[.pointer (some ⟨w.heap.size, 0, none⟩)] encZ (fun ss => ss.Perm (intKeys D0)) (Maps.size D0) (w.alloc (.cells #[.map (some m2)] 52)) :=
    AnyZI.keys_gives (ρ := Tryd.keysA_ren) { Tryd.keysA with } Fence.wide _ trivial rfl (by omega) w.heap.size m2 _ D0 _ (by simp) (by simp) (by
      obtain ⟨es, clock, hb, Ft, hs, hD⟩ := hown
      exact ⟨es, clock, (Below.heap_alloc _ _ m2 hbl).trans hb, Ft, hs, hD⟩)
  have cK : ∀ mb W, CallsIn Fence.wide 5 Tryd.prog 53 #[.map mb] W fun e w' => e = .returned (.func (.func 62) #[] #[.pointer (some ⟨W.heap.size, 0, none⟩)]) ∧ w' = W.alloc (.cells #[.map mb] 52) := fun mb W => AnyZI.keys_in Tryd.keysA Fence.wide 5 trivial rfl mb W
  have cS := AnyZI.sorted_in Tryd.sortedA Fence.wide 5 trivial trivial trivial trivial rfl (by omega) (sortsA _) (enters_of Tryd.func61 (by kernel_rfl) rfl) 62 #[.pointer (some ⟨w.heap.size, 0, none⟩)] trivial (enters_of Tryd.func62 (by kernel_rfl) rfl) _ _ hmax hbytes _ hseq
  change CallsIn _ _ Tryd.prog 52 _ _ _ at cS
  have hfK : Fence.wide.fn 53 := trivial
  have hfS : Fence.wide.fn 52 := trivial
  have HP := Lib.hid hperm
  have HZ := Lib.hid hsz2
  clear hperm hsz2 hsize
  refine callsIn_of_wp Tryd.func35 rfl trivial ?_ rfl
  simp only [Tryd.ntmps35, List.size_toArray, List.length_cons, List.length_nil, Nat.reduceAdd, Nat.reduceSub, Array.replicate_succ, Array.replicate_zero, List.push_toArray, List.append_toArray, List.nil_append, List.cons_append]
  gi_wp2_with (first
    | (gi_at_call 53; refine (cK _ _).mono ?_; rintro e w' ⟨rfl, rfl⟩)
    | (gi_at_call 52; refine cS.mono ?_; rintro e w' ⟨v, ss, rfl, hS, hrow, hnil, hb⟩))
  go_ret
  have hss : ss.mergeSort leZ = sortedKeys D.loose := sort_perm (hS.trans HP.out)
  have hsl : ss.length = (sortedKeys D.loose).length := by rw [← hss]; simp
  refine ⟨⟨v, rfl, ?_⟩, ?_⟩
  · have h5 := ownsRow_base_a hrow (Nat.le_of_lt (by simp : w.heap.size < (w.alloc (.cells #[.map (some m2)] 52)).heap.size))
    rw [show (fun x y => decide (x ≤ y)) = leZ from rfl, hss, hsl] at h5
    exact h5
  · exact ((Fr.refl none_ w).alloc _).trans (Fr.of_below (hb.mono (by simp)))
end Go.Proofs.YtniiokhkmdknaaaDoor

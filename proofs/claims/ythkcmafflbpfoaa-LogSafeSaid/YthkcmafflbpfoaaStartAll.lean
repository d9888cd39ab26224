import Derived.Test.YthkcmafflbpfoaaDev4
import Derived.Test.YthkcmafflbpfoaaIter
import Derived.Test.YthkcmafflbpfoaaDevAll
import Derived.Test.YthkcmafflbpfoaaWrN
namespace Go.Proofs.Ythkcmafflbpfoaa
open Go.RowKit
set_option linter.unusedVariables false
set_option linter.unusedSimpArgs false
/-! Arm, Lose. -/
theorem arm_bad {w : World} {p m1 m2 : Nat} {D : DevS} (h : DevAt w p m1 m2 D) (n : Int) (hn : n < 0) : Calls Try.prog 9 #[ptr p, .int .i64 n] w fun e w' => e = .returned (errV 1) ∧ w = w' := by
  go_enter Try.func9, Try.ntmps9
  go_wp2_with fail
  go_ret
  exact ⟨rfl, rfl⟩
theorem arm_down {w : World} {p m1 m2 : Nat} {D : DevS} (h : DevAt w p m1 m2 D) (n : Int) (hn : 0 ≤ n) (hd : D.down = true) : Calls Try.prog 9 #[ptr p, .int .i64 n] w fun e w' => e = .returned (errV 13) ∧ w = w' := by
  have hE : D.readyE = 13 := by simp [DevS.readyE, hd]
  have hn2 : ¬ n < 0 := by omega
  go_enter Try.func9, Try.ntmps9
  go_wp2_with fail
  (with_reducible refine (ready_any h).mono ?_)
  rintro e w' ⟨rfl, rfl⟩
  rw [hE, errV_n (by decide)]
  go_wp2_with fail
  go_ret
  exact ⟨rfl, rfl⟩
theorem arm_ok {w : World} {p m1 m2 : Nat} {D : DevS} (h : DevAt w p m1 m2 D) (n : Int) (hn : 0 ≤ n) (hd : D.down = false) : Calls Try.prog 9 #[ptr p, .int .i64 n] w fun e w' => e = .returned (errV 0) ∧ Fr (devBlks p m1 m2) w w' ∧ DevAt w' p m1 m2 { D with armed := true, left := n } := by
  have hE : D.readyE = 0 := by simp [DevS.readyE, hd]
  have hn2 : ¬ n < 0 := by omega
  obtain ⟨c0, c1, c2, c3, c4, c5, c6, c7⟩ := h.cellsAll
  have f4 := h.frozen 4
  have f5 := h.frozen 5
  go_enter Try.func9, Try.ntmps9
  go_wp2_with fail
  (with_reducible refine (ready_any h).mono ?_)
  rintro e w' ⟨rfl, rfl⟩
  rw [hE, errV_0]
  go_wp2_with fail
  go_ret
  exact ⟨rfl, ((Fr.set w p 4 _).trans (Fr.set _ p 5 _)).mono (fun i _ e => .inl e), (h.setCell (D' := { D with armed := true }) 4 (.bool true) rfl rfl rfl rfl).setCell 5 (.int .i64 n) rfl rfl rfl rfl⟩
end Go.Proofs.Ythkcmafflbpfoaa
namespace Go.Proofs.Ythkcmafflbpfoaa
open Go.RowKit Go.Maps Go.Sort Go.Shelf
set_option linter.unusedVariables false
set_option linter.unusedSimpArgs false

/-! dev.Loose: slices.Sorted(maps.Keys(d.loose)), by the shelf's contracts. -/
def noR {H : Type} : Value → Option (DataW H × List MemPlace) := fun _ => some (.nil, [])
abbrev leZ : Int → Int → Bool := fun x y => decide (x ≤ y)
def sortedKeys {α : Type} (m : List (Int × α)) : List Int := (m.map (·.1)).mergeSort leZ
theorem nodup_len : ∀ (n : Nat) (l : List Int), l.Nodup → (∀ x ∈ l, 0 ≤ x ∧ x < (n : Int)) → l.length ≤ n := by
  intro n
  induction n with
  | zero =>
    intro l _ h
    cases l with
    | nil => simp
    | cons x l => have := h x (by simp); omega
  | succ n ih =>
    intro l hn h
    have h1 := ih (l.erase (n : Int)) (hn.erase _) (fun x hx => by
      have hx1 := List.mem_of_mem_erase hx
      have := h x hx1
      have hne : x ≠ (n : Int) := fun e => by subst e; exact absurd hx (hn.not_mem_erase)
      omega)
    have h2 := List.length_erase_le (a := (n : Int)) (l := l)
    by_cases hm : (n : Int) ∈ l
    · rw [List.length_erase_of_mem hm] at h1; omega
    · rw [List.erase_of_not_mem hm] at h1; omega
theorem sort_perm {a b : List Int} (h : a.Perm b) : a.mergeSort leZ = b.mergeSort leZ := by
  have tr : ∀ x y z : Int, leZ x y = true → leZ y z = true → leZ x z = true := fun x y z h1 h2 => by simp at *; omega
  have tot : ∀ x y : Int, (leZ x y || leZ y x) = true := fun x y => by simp; omega
  refine List.Perm.eq_of_pairwise (le := fun x y => leZ x y = true) (fun x y _ _ h1 h2 => by simp at h1 h2; omega) ?_ ?_ (((List.mergeSort_perm a leZ).trans h).trans (List.mergeSort_perm b leZ).symm)
  · exact List.pairwise_mergeSort tr tot a
  · exact List.pairwise_mergeSort tr tot b
theorem imap_owns {P : Program} {k : TypeId} (hk : P.underlying k = some (.int .i64)) {w : World} {b : Nat} {m : IM} (h : IMap w b m) (hwf : ∀ x ∈ m, (Lit.int .i64 x.1).wf = true) (hsz : m.length ≤ maxLen) :
    ∃ D : DataW Unit, w.ownsMap P k (noR (H := Unit)) b m.length D ∧ (intKeys D).Perm (m.map (·.1)) ∧ Maps.size D = m.length := by
  obtain ⟨⟨es, clock, hb, h1, h2, h3⟩, h4⟩ := h
  have hlen : es.size = m.length := by have := congrArg List.length h1; simpa using this
  have hkeys : es.toList.map (·.key) = m.map (fun x => Value.int .i64 x.1) := by
    have := congrArg (List.map (·.1)) h1
    simpa [Function.comp_def] using this
  have hrd : ∀ e ∈ es.toList, ∃ x, (x ∈ m.map (·.1)) ∧ e.key = .int .i64 x ∧ keyOf P k e.key = some (.int .i64 x) := by
    intro e he
    have : e.key ∈ es.toList.map (·.key) := List.mem_map.2 ⟨e, he, rfl⟩
    rw [hkeys] at this
    obtain ⟨x, hx, hxe⟩ := List.mem_map.1 this
    exact ⟨x.1, List.mem_map.2 ⟨x, hx, rfl⟩, hxe.symm, by rw [← hxe]; exact keyOf_int_mk hk (hwf x hx)⟩
  have hstamp : MapKept.Stamped es clock := by
    refine ⟨fun x hx => h2 x (by simpa using hx), h3, ?_⟩
    rw [hkeys]
    have : m.map (fun x => Value.int .i64 x.1) = (m.map (·.1)).map (Value.int .i64) := by rw [List.map_map]; rfl
    rw [this]
    exact (List.pairwise_map.2 (h4.imp (fun hne e => hne (by cases e; rfl))))
  refine ⟨.map ((es.toList.map (WideElems.rg P k noR)).foldr DataW.insert []), ⟨es, clock, hb, ⟨by omega, hstamp, fun x hx => ?_⟩, by omega, rfl⟩, ?_, ?_⟩
  · obtain ⟨y, _, _, hy⟩ := hrd x hx
    exact ⟨_, by simp [WideElems.rd, hy, noR]; rfl⟩
  · show (List.map _ _).Perm _
    refine ((WideShapes.sorted_perm _).map _).trans ?_
    rw [List.map_map]
    have : es.toList.map ((fun p : Lit × DataW Unit => Go.intOf p.1) ∘ WideElems.rg P k (noR (H := Unit))) = m.map (·.1) := by
      have e2 : m.map (·.1) = (es.toList.map (·.key)).map RowKit.intOf := by rw [hkeys, List.map_map]; rfl
      rw [e2, List.map_map]
      apply List.map_congr_left
      intro e he
      obtain ⟨y, _, hy1, hy⟩ := hrd e he
      simp only [Function.comp, WideElems.rg, WideElems.rd, hy, noR]
      rw [hy1]
      rfl
    rw [this]
  · rw [Maps.size_eq, (WideShapes.sorted_perm _).length_eq, List.length_map, Array.length_toList, hlen]
theorem wf_small {n : Int} (h0 : 0 ≤ n) (h1 : n < 16384) : (Lit.int .i64 n).wf = true := WalkArith.wf_i64 (by omega)
theorem sortsA (m : Nat) : AnyZI.SortsIn Try.prog Try.sortedA_ren Fence.wide m :=
  ⟨fun blk off cap ss W hH hblk hsz => callsIn_wide.2 (AnyM.slices_Sort_int Try.sortA blk off cap ss W hH hblk hsz),
   fun p cap W => callsIn_wide.2 (AnyM.slices_Sort_int_none Try.sortA p cap W)⟩
structure SortedPost (w : World) (ks : List Int) (e : Ending) (w' : World) : Prop where
  val : ∃ v, e = .returned v ∧ w'.ownsRow w.heap.size 3 1 v ks.length (ks.map intV)
  fr : Fr none_ w w'
theorem sortedKeys_len {α : Type} (m : List (Int × α)) : (sortedKeys m).length = m.length := by simp [sortedKeys]
set_option maxHeartbeats 1000000 in
set_option maxRecDepth 100000 in
theorem loose_any {w : World} {p m1 m2 : Nat} {D : DevS} (h : DevAt w p m1 m2 D) : Calls Try.prog 22 #[ptr p] w fun e w' => SortedPost w (sortedKeys D.loose) e w' := by
  obtain ⟨c0, c1, c2, c3, c4, c5, c6, c7⟩ := h.cellsAll
  have hlen : D.loose.length ≤ 16384 := by
    have hn := h.loose.nodup
    rw [mapV_keys] at hn
    have h1 := nodup_len D.sectors.toNat (D.loose.map (·.1)) hn (fun x hx => by
      obtain ⟨y, hy, rfl⟩ := List.mem_map.1 hx
      have := h.keys y hy
      omega)
    have := h.most
    simp at h1
    omega
  obtain ⟨D0, hown, hperm, hsize⟩ := imap_owns (P := Try.prog) (k := 3) Try.underlying3 h.loose (fun x hx => by
    obtain ⟨y, hy, rfl⟩ := List.mem_map.1 hx
    have := h.keys y hy
    have h2 := h.most
    exact wf_small (show 0 ≤ y.1 from this.1) (by omega)) (by simp [mapV]; unfold maxLen; omega)
  rw [mapV_keys] at hperm
  have hsz2 : Maps.size D0 = D.loose.length := by rw [hsize]; simp [mapV]
  have hmax : Maps.size D0 ≤ maxLen := by rw [hsz2]; unfold maxLen; omega
  have hbytes : Maps.size D0 * 8 ≤ 140737488355328 := by rw [hsz2]; omega
  refine (callsIn_wide (n := 6)).1 ?_
  have hbl := hown.lt
  have hseq : SeqGives Fence.wide 2 Try.prog 56 #[.pointer (some ⟨w.heap.size, 0, none⟩)] encZ (fun ss => ss.Perm (intKeys D0)) (Maps.size D0) (w.alloc (.cells #[.map (some m2)] 52)) :=
    AnyZI.keys_gives (ρ := Try.keysA_ren) { Try.keysA with } Fence.wide _ trivial rfl (by omega) w.heap.size m2 _ D0 _ (by simp) (by simp) (by
      obtain ⟨es, clock, hb, Ft, hs, hD⟩ := hown
      exact ⟨es, clock, (Below.heap_alloc _ _ m2 hbl).trans hb, Ft, hs, hD⟩)
  have cK : ∀ mb W, CallsIn Fence.wide 5 Try.prog 41 #[.map mb] W fun e w' => e = .returned (.func (.func 56) #[] #[.pointer (some ⟨W.heap.size, 0, none⟩)]) ∧ w' = W.alloc (.cells #[.map mb] 52) := fun mb W => AnyZI.keys_in Try.keysA Fence.wide 5 trivial rfl mb W
  have cS := AnyZI.sorted_in Try.sortedA Fence.wide 5 trivial trivial trivial trivial rfl (by omega) (sortsA _) (enters_of Try.func55 (by kernel_rfl) rfl) 56 #[.pointer (some ⟨w.heap.size, 0, none⟩)] trivial (enters_of Try.func56 (by kernel_rfl) rfl) _ _ hmax hbytes _ hseq
  change CallsIn _ _ Try.prog 40 _ _ _ at cS
  have hfK : Fence.wide.fn 41 := trivial
  have hfS : Fence.wide.fn 40 := trivial
  have HP := Lib.hid hperm
  have HZ := Lib.hid hsz2
  clear hperm hsz2 hsize
  refine callsIn_of_wp Try.func22 rfl trivial ?_ rfl
  simp only [Try.ntmps22, List.size_toArray, List.length_cons, List.length_nil, Nat.reduceAdd, Nat.reduceSub, Array.replicate_succ, Array.replicate_zero, List.push_toArray, List.append_toArray, List.nil_append, List.cons_append]
  gi_wp2_with (first
    | (gi_at_call 41; refine (cK _ _).mono ?_; rintro e w' ⟨rfl, rfl⟩)
    | (gi_at_call 40; refine cS.mono ?_; rintro e w' ⟨v, ss, rfl, hS, hrow, hnil, hb⟩))
  go_ret
  have hss : ss.mergeSort leZ = sortedKeys D.loose := sort_perm (hS.trans HP.out)
  have hsl : ss.length = (sortedKeys D.loose).length := by rw [← hss]; simp
  refine ⟨⟨v, rfl, ?_⟩, ?_⟩
  · have h5 := ownsRow_base_a hrow (Nat.le_of_lt (by simp : w.heap.size < (w.alloc (.cells #[.map (some m2)] 52)).heap.size))
    rw [show (fun x y => decide (x ≤ y)) = leZ from rfl, hss, hsl] at h5
    exact h5
  · exact ((Fr.refl none_ w).alloc _).trans (Fr.of_below (hb.mono (by simp)))
end Go.Proofs.Ythkcmafflbpfoaa
namespace Go.Proofs.Ythkcmafflbpfoaa
open Go.RowKit
set_option linter.unusedVariables false
set_option linter.unusedSimpArgs false

/-! dev.Start -/
/-- the sectors' contents behind i of the loose sectors -/
def startTo (D : DevS) (kept : List Bool) (ks : List Int) : Nat → List (Int × Blk)
  | 0 => D.now
  | i + 1 => if kept[i]? = some true then startTo D kept ks i else mset (startTo D kept ks i) (ks.getD i 0) ((mget D.loose (ks.getD i 0)).getD zeroB)
def DevS.start (D : DevS) (kept : List Bool) : DevS :=
  if D.lost then D else { D with now := startTo D kept (sortedKeys D.loose) (sortedKeys D.loose).length, loose := [], crashed := false, armed := false }
theorem start_lost {w : World} {p m1 m2 : Nat} {D : DevS} (h : DevAt w p m1 m2 D) (A : Option Addr) (n c : Nat) (hl : D.lost = true) : Calls Try.prog 10 #[ptr p, .slice A n c] w fun e w' => e = .returned (.tuple #[]) ∧ w = w' := by
  obtain ⟨c0, c1, c2, c3, c4, c5, c6, c7⟩ := h.cellsAll
  rw [hl] at c7
  go_enter Try.func10, Try.ntmps10
  go_wp2_with fail
  first
    | (go_end0; exact ⟨rfl, rfl⟩)
    | exact bodyPost_ret (results_none rfl _ _ _) rfl ⟨rfl, rfl⟩
structure StartIn (w : World) (p m1 m2 : Nat) (D : DevS) (now : List (Int × Blk)) (A1 : Option Addr) (ks : List Int) (wr : World) : Prop where
  fr : Fr (devBlks p m1 m2) w wr
  dev : DevAt wr p m1 m2 { D with now := now }
  keys : CellsAt wr A1 (ks.map intV)
  apart : ∀ b, blkOf A1 b → ¬ devBlks p m1 m2 b
theorem StartIn.step {w wr w' : World} {p m1 m2 : Nat} {D : DevS} {now : List (Int × Blk)} {A1 : Option Addr} {ks : List Int} (h : StartIn w p m1 m2 D now A1 ks wr) {s : Int} {b : Blk} (hb : b.length = 64) (hF : Fr (fun i => i = m1) wr w') (hM : IMap w' m1 (mset (mapV blkV now) s (blkV b))) :
    StartIn w p m1 m2 D (mset now s b) A1 ks w' := by
  have hF2 := hF.mono (S2 := devBlks p m1 m2) (fun i _ e => .inr (.inl e))
  refine ⟨h.fr.trans hF2, ⟨hF.heap h.dev.blk h.dev.pne.1, ?_, h.dev.loose.fr hF (fun e => h.dev.ne e.symm), h.dev.ne, ?_, h.dev.len2, h.dev.keys, h.dev.most⟩, h.keys.fr hF2 h.apart, h.apart⟩
  · rw [mset_mapV] at hM; exact hM
  · intro x hx
    rcases mem_mset hx with rfl | hx
    · exact hb
    · exact h.dev.len x hx
theorem StartIn.drew {w wr : World} {p m1 m2 : Nat} {D : DevS} {now : List (Int × Blk)} {A1 : Option Addr} {ks : List Int} (h : StartIn w p m1 m2 D now A1 ks wr) : StartIn w p m1 m2 D now A1 ks wr.drew :=
  ⟨h.fr.trans0 ((Fr.refl _ _).drew), h.dev.fr0 ((Fr.refl _ _).drew), h.keys.drew, h.apart⟩
theorem loose_get_len {w : World} {p m1 m2 : Nat} {D : DevS} (h : DevAt w p m1 m2 D) (s : Int) : ((mget D.loose s).getD zeroB).length = 64 := by
  cases hm : mget D.loose s with
  | none => simp [zeroB]
  | some b => exact h.len2 _ (mget_mem hm)
theorem looseLk0 {w : World} {p m1 m2 : Nat} {D : DevS} (h : DevAt w p m1 m2 D) (s : Int) : (Instr.lookup 52 (.map (some m2)) (.int .i64 s) false).run Try.prog w = .ok (blkV ((mget D.loose s).getD zeroB)) w := by
  have hlk := run_lookup_plain (P := Try.prog) (T := 52) Try.underlying52 Try.underlying3 zero_blk h.loose s
  rw [mget_mapV] at hlk
  rw [hlk]
  cases mget D.loose s <;> rfl
set_option maxHeartbeats 2000000 in
set_option maxRecDepth 100000 in
theorem start_ok {w : World} {p m1 m2 : Nat} {D : DevS} (h : DevAt w p m1 m2 D) (A : Option Addr) (n c : Nat) (kept : List Bool) (hn : n = kept.length) (hA : CellsAt w A (kept.map Value.bool)) (hap : ∀ b, blkOf A b → 0 < kept.length → ¬ devBlks p m1 m2 b) (hm : kept.length ≤ 140737488351232) (hl : D.lost = false) :
    Calls Try.prog 10 #[ptr p, .slice A n c] w fun e w' => e = .returned (.tuple #[]) ∧ Fr (devBlks p m1 m2) w w' ∧ DevAt w' p m1 m2 (D.start kept) := by
  subst hn
  obtain ⟨c0, c1, c2, c3, c4, c5, c6, c7⟩ := h.cellsAll
  rw [hl] at c7
  go_enter Try.func10, Try.ntmps10
  go_wp2_with fail
  (with_reducible refine (loose_any h).mono ?_)
  rintro e w1 ⟨⟨v, rfl, hown⟩, hF1⟩
  obtain ⟨ks, hks⟩ : ∃ ks, ks = sortedKeys D.loose := ⟨_, rfl⟩
  rw [← hks] at hown
  obtain ⟨A1, cc, rfl, hA1, _, _, hbl⟩ := ownsRow_read hown
  have hlen : ks.length ≤ 16384 := by
    rw [hks, sortedKeys_len]
    have hn := h.loose.nodup
    rw [mapV_keys] at hn
    have h1 := nodup_len D.sectors.toNat (D.loose.map (·.1)) hn (fun x hx => by
      obtain ⟨y, hy, rfl⟩ := List.mem_map.1 hx
      have := h.keys y hy
      omega)
    have := h.most
    simp at h1
    omega
  have hI : StartIn w p m1 m2 D D.now A1 ks w1 := ⟨Fr.of0 hF1, h.fr0 hF1, hA1, fun b hb hd => by have := (hbl b hb).1; have := h.lt b hd; omega⟩
  have HK := Lib.hid hks
  clear hks c0 c1 c2 c3 c4 c5 c6 c7
  go_wp2_with fail
  go_loopw [17] (fun i wr => ∃ j : Nat, j ≤ ks.length ∧ i = .int .i64 j ∧ StartIn w p m1 m2 D (startTo D kept ks j) A1 ks wr) (fun i _ => ks.length - (intOf i).toNat)
  case atStart => exact ⟨0, by omega, rfl, hI⟩
  case round =>
    obtain ⟨j, hj, rfl, hJ⟩ := hrel
    by_cases hlt : j < ks.length
    · obtain ⟨kb, ko, rfl, hkc⟩ := hJ.keys j (by simpa using hlt)
      have hkc2 : wr.cell? ⟨kb, ko + j, none⟩ = some (.int .i64 ks[j]) := by simpa [intV] using hkc
      obtain ⟨d0, d1, d2, d3, d4, d5, d6, d7⟩ := hJ.dev.cellsAll
      have hgd : ks.getD j 0 = ks[j] := by simp [hlt]
      have HG := Lib.hid hgd
      have hlk := looseLk0 hJ.drew.dev ks[j]
      have hob := loose_get_len hJ.dev ks[j]
      generalize hob2 : (mget D.loose ks[j]).getD zeroB = ob at hlk hob
      have hst : ∀ (hk : kept[j]? ≠ some true), startTo D kept ks (j + 1) = mset (startTo D kept ks j) ks[j] ob := fun hk => by
        rw [startTo, if_neg hk, hgd, hob2]
      have hst2 : ∀ (hk : kept[j]? = some true), startTo D kept ks (j + 1) = startTo D kept ks j := fun hk => by rw [startTo, if_pos hk]
      have HST := Lib.hid hst
      have HST2 := Lib.hid hst2
      clear hst hst2
      have HOB := Lib.hid hob2
      have HJ := Lib.hid hJ
      clear hgd hob2 hkc hJ
      have hA4 := hA.frp HJ.out.fr (fun b hb hv => hap b hb (by simpa using hv))
      by_cases hk1 : j < kept.length
      · obtain ⟨b2, o2, rfl, hkb⟩ := hA4 j (by simpa using hk1)
        have hkb2 : wr.cell? ⟨b2, o2 + j, none⟩ = some (.bool kept[j]) := by simpa using hkb
        clear hkb
        cases hkj : kept[j]
        all_goals
          rw [hkj] at hkb2
          have HKJ := Lib.hid hkj
          clear hkj
          go_wp2_with fail
        ·
          go_still_tail 11, (by kernel_rfl)
          change wpList _ _ _ _ _ wr.drew
          go_wp2_with ((with_reducible refine at_mapset (.tmp 36) (.tmp 37) (.tmp 43) (b := m1) (m := mapV blkV (startTo D kept ks j)) (k := ks[j]) (v := blkV ob) Try.underlying52 Try.underlying3 ?_ ?_ ?_ ?_ ?_); (focus rfl); (focus rfl); (focus rfl); (focus exact HJ.out.drew.dev.now); intro w4 hF4 hM4)
          go_roundw
          case rel => exact ⟨j + 1, by omega, by go_num, by rw [HST.out (by rw [List.getElem?_eq_getElem hk1, HKJ.out]; simp)]; exact HJ.out.drew.step hob hF4 hM4⟩
          case measure => simp [intOf]; omega
        · go_roundw
          case rel => exact ⟨j + 1, by omega, by go_num, by rw [HST2.out (by rw [List.getElem?_eq_getElem hk1, HKJ.out])]; exact HJ.out⟩
          case measure => simp [intOf]; omega
      · go_wp2_with fail
        go_still_tail 11, (by kernel_rfl)
        change wpList _ _ _ _ _ wr.drew
        go_wp2_with ((with_reducible refine at_mapset (.tmp 36) (.tmp 37) (.tmp 43) (b := m1) (m := mapV blkV (startTo D kept ks j)) (k := ks[j]) (v := blkV ob) Try.underlying52 Try.underlying3 ?_ ?_ ?_ ?_ ?_); (focus rfl); (focus rfl); (focus rfl); (focus exact HJ.out.drew.dev.now); intro w4 hF4 hM4)
        go_roundw
        case rel => exact ⟨j + 1, by omega, by go_num, by rw [HST.out (by rw [List.getElem?_eq_none (by omega)]; simp)]; exact HJ.out.drew.step hob hF4 hM4⟩
        case measure => simp [intOf]; omega
    · have hjk : j = ks.length := by omega
      subst hjk
      obtain ⟨d0, d1, d2, d3, d4, d5, d6, d7⟩ := hJ.dev.cellsAll
      have f4 := hJ.dev.frozen 4
      have f6 := hJ.dev.frozen 6
      have HJ := Lib.hid hJ
      clear hJ
      go_wp2_with ((with_reducible refine at_clear (.tmp 48) (b := m2) (m := mapV blkV D.loose) Try.underlying52 ?_ ?_ ?_); (focus rfl); (focus exact HJ.out.dev.loose); intro w5 hF5 hM5; have h5 := HJ.out.dev.cleared (D' := { D with now := startTo D kept ks ks.length, loose := [] }) hF5 hM5 rfl rfl rfl rfl; obtain ⟨e0, e1, e2, e3, e4, e5, e6, e7⟩ := h5.2.cellsAll; have g4 := h5.2.frozen 4; have g6 := h5.2.frozen 6; clear d0 d1 d2 d3 d4 d5 d6 d7 f4 f6)
      have h6 := h5.2.setCell (D' := { D with now := startTo D kept ks ks.length, loose := [], crashed := false }) 6 (.bool false) rfl rfl rfl rfl
      have h7 := h6.setCell (D' := { D with now := startTo D kept ks ks.length, loose := [], crashed := false, armed := false }) 4 (.bool false) rfl rfl rfl rfl
      have hfr := (HJ.out.fr.trans h5.1).trans (((Fr.set w5 p 6 (.bool false)).trans (Fr.set _ p 4 (.bool false))).mono (S2 := devBlks p m1 m2) (fun i _ e => .inl e))
      have hd : D.start kept = { D with now := startTo D kept ks ks.length, loose := [], crashed := false, armed := false } := by
        unfold DevS.start; rw [hl, ← HK.out]; rfl
      first
        | (go_end0; rw [hd]; exact ⟨rfl, hfr, h7⟩)
        | (rw [hd]; exact bodyPost_end (results_none rfl _ _ _) rfl ⟨rfl, hfr, h7⟩)
end Go.Proofs.Ythkcmafflbpfoaa
namespace Go.Proofs.Ythkcmafflbpfoaa
open Go.RowKit
set_option linter.unusedVariables false
set_option linter.unusedSimpArgs false

/-! Arm, Start. -/
def DevS.armE (D : DevS) (n : Int) : Int := if n < 0 then 1 else if D.down then 13 else 0
def DevS.arm (D : DevS) (n : Int) : DevS := if n < 0 ∨ D.down = true then D else { D with armed := true, left := n }
theorem arm_any {w : World} {p m1 m2 : Nat} {D : DevS} (h : DevAt w p m1 m2 D) (n : Int) : Calls Try.prog 9 #[ptr p, .int .i64 n] w fun e w' => e = .returned (errV (D.armE n)) ∧ Fr (devBlks p m1 m2) w w' ∧ DevAt w' p m1 m2 (D.arm n) := by
  by_cases hn : n < 0
  · refine (arm_bad h n hn).mono ?_
    rintro e w' ⟨rfl, rfl⟩
    exact ⟨by simp [DevS.armE, hn], Fr.refl _ _, by simpa [DevS.arm, hn] using h⟩
  · cases hd : D.down
    · refine (arm_ok h n (by omega) hd).mono ?_
      rintro e w' ⟨rfl, hF, hD⟩
      exact ⟨by simp [DevS.armE, hd, hn], hF, by simpa [DevS.arm, hd, hn] using hD⟩
    · refine (arm_down h n (by omega) hd).mono ?_
      rintro e w' ⟨rfl, rfl⟩
      exact ⟨by simp [DevS.armE, hd, hn], Fr.refl _ _, by simpa [DevS.arm, hd] using h⟩
theorem start_any {w : World} {p m1 m2 : Nat} {D : DevS} (h : DevAt w p m1 m2 D) (A : Option Addr) (n c : Nat) (kept : List Bool) (hn : n = kept.length) (hA : CellsAt w A (kept.map Value.bool)) (hap : ∀ b, blkOf A b → 0 < kept.length → ¬ devBlks p m1 m2 b) (hm : kept.length ≤ 140737488351232) :
    Calls Try.prog 10 #[ptr p, .slice A n c] w fun e w' => e = .returned (.tuple #[]) ∧ Fr (devBlks p m1 m2) w w' ∧ DevAt w' p m1 m2 (D.start kept) := by
  cases hl : D.lost
  · exact start_ok h A n c kept hn hA hap hm hl
  · refine (start_lost h A n c hl).mono ?_
    rintro e w' ⟨rfl, rfl⟩
    exact ⟨rfl, Fr.refl _ _, by simpa [DevS.start, hl] using h⟩
end Go.Proofs.Ythkcmafflbpfoaa
namespace Go.Proofs.Ythkcmafflbpfoaa
open Go.RowKit
set_option linter.unusedVariables false
set_option linter.unusedSimpArgs false

/-! DevKept, the plain part: what four sectors hold behind a start. -/
def zf {α : Type} (a b c d : α) : Nat → α := fun | 0 => a | 1 => b | 2 => c | _ => d
/-- the first writes -/
def kA (f : Nat → UInt8) : Nat → DevS
  | 0 => newD 4
  | i + 1 => (kA f i).write i [f i]
/-- the second writes: only where g is not nought -/
def kD (z : Nat → Bool) (f g : Nat → UInt8) : Nat → DevS
  | 0 => (kA f 4).flush
  | i + 1 => if z i then kD z f g i else (kD z f g i).write i [g i]
def kN (z : Nat → Bool) : Nat → Nat
  | 0 => 0
  | i + 1 => if z i then kN z i else kN z i + 1
def kW (z kb : Nat → Bool) (f g : Nat → UInt8) : Nat → Nat → UInt8
  | 0 => fun _ => 0
  | i + 1 => fun j => if j = i then (if z i then f i else if kb (kN z i) then g i else f i) else kW z kb f g i j
def startK (D : DevS) (kb : Nat → Bool) (ks : List Int) : Nat → List (Int × Blk)
  | 0 => D.now
  | i + 1 => if kb i then startK D kb ks i else mset (startK D kb ks i) (ks.getD i 0) ((mget D.loose (ks.getD i 0)).getD zeroB)
theorem startK_eq (D : DevS) (kept : List Bool) (ks : List Int) (i : Nat) : startTo D kept ks i = startK D (fun i : Nat => decide (kept[i]? = some true)) ks i := by
  induction i with
  | zero => rfl
  | succ i ih => simp only [startTo, startK, ih, decide_eq_true_eq]
theorem startK_kb (D : DevS) (kb kb' : Nat → Bool) (ks : List Int) (i : Nat) (h : ∀ j, j < i → kb j = kb' j) : startK D kb ks i = startK D kb' ks i := by
  induction i with
  | zero => rfl
  | succ i ih => simp only [startK, ih (fun j hj => h j (by omega)), h i (by omega)]
theorem kN_le (z : Nat → Bool) (i : Nat) : kN z i ≤ i := by
  induction i with
  | zero => exact Nat.le_refl _
  | succ i ih => simp only [kN]; split <;> omega
theorem kW_kb (z kb kb' : Nat → Bool) (f g : Nat → UInt8) (i : Nat) (h : ∀ j, j < i → kb j = kb' j) : kW z kb f g i = kW z kb' f g i := by
  induction i with
  | zero => rfl
  | succ i ih =>
    have := kN_le z i
    simp only [kW, ih (fun j hj => h j (by omega)), h (kN z i) (by omega)]
/-- A device of four that is neither lost nor crashed nor armed. -/
structure Fit (D : DevS) : Prop where
  sectors : D.sectors = 4
  armed : D.armed = false
  crashed : D.crashed = false
  lost : D.lost = false
theorem Fit.at {D : DevS} (h : Fit D) (i : Nat) (hi : i < 4) : D.atE i = 0 := by
  unfold DevS.atE DevS.down
  rw [h.crashed, h.lost, h.sectors]
  simp
  omega
theorem Fit.writeE {D : DevS} (h : Fit D) (i : Nat) (hi : i < 4) : D.writeE i 1 = 0 := by
  unfold DevS.writeE
  rw [h.at i hi, h.armed]
  simp
theorem Fit.write {D : DevS} (h : Fit D) (s : Int) (b : List UInt8) : Fit (D.write s b) := by
  unfold DevS.write
  split
  · exact h
  · rw [h.armed, if_neg (by simp)]
    exact ⟨h.1, h.2, h.3, h.4⟩
theorem Fit.flush {D : DevS} (h : Fit D) : Fit D.flush := by
  refine ⟨?_, ?_, ?_, ?_⟩ <;> simp [DevS.flush, DevS.down, h.1, h.2, h.3, h.4]
theorem Fit.flushE {D : DevS} (h : Fit D) : D.flushE = 0 := by
  unfold DevS.flushE DevS.down
  rw [h.crashed, h.lost]
  rfl
theorem kA_fit (f : Nat → UInt8) (i : Nat) : Fit (kA f i) := by
  induction i with
  | zero => exact ⟨rfl, rfl, rfl, rfl⟩
  | succ i ih => exact ih.write _ _
theorem kD_fit (z : Nat → Bool) (f g : Nat → UInt8) (i : Nat) : Fit (kD z f g i) := by
  induction i with
  | zero => exact (kA_fit f 4).flush
  | succ i ih =>
    simp only [kD]
    split
    · exact ih
    · exact ih.write _ _
theorem Fit.start {D : DevS} (h : Fit D) (kept : List Bool) : Fit (D.start kept) := by
  refine ⟨?_, ?_, ?_, ?_⟩ <;> simp [DevS.start, h.1, h.2, h.3, h.4]
theorem keys_sorted (z0 z1 z2 z3 : Bool) (f g : Nat → UInt8) : (kD (zf z0 z1 z2 z3) f g 4).loose.map (·.1) = (if z0 then [] else [0]) ++ (if z1 then [] else [1]) ++ (if z2 then [] else [2]) ++ (if z3 then [] else [3]) := by
  cases z0 <;> cases z1 <;> cases z2 <;> cases z3 <;> kernel_rfl
theorem len_n (z0 z1 z2 z3 : Bool) (f g : Nat → UInt8) : (kD (zf z0 z1 z2 z3) f g 4).loose.length = kN (zf z0 z1 z2 z3) 4 := by
  cases z0 <;> cases z1 <;> cases z2 <;> cases z3 <;> kernel_rfl
theorem sort_id (z0 z1 z2 z3 : Bool) (f g : Nat → UInt8) : sortedKeys (kD (zf z0 z1 z2 z3) f g 4).loose = (kD (zf z0 z1 z2 z3) f g 4).loose.map (·.1) := by
  unfold sortedKeys
  apply List.mergeSort_of_pairwise
  rw [keys_sorted]
  cases z0 <;> cases z1 <;> cases z2 <;> cases z3 <;> decide
theorem kept_bits (z0 z1 z2 z3 k0 k1 k2 k3 : Bool) (f g : Nat → UInt8) (j : Nat) (hj : j < 4) :
    ((mget (startK (kD (zf z0 z1 z2 z3) f g 4) (zf k0 k1 k2 k3) ((kD (zf z0 z1 z2 z3) f g 4).loose.map (·.1)) (kN (zf z0 z1 z2 z3) 4)) (j : Int)).getD zeroB)[0]? = some (kW (zf z0 z1 z2 z3) (zf k0 k1 k2 k3) f g 4 j) := by
  obtain rfl | rfl | rfl | rfl : j = 0 ∨ j = 1 ∨ j = 2 ∨ j = 3 := by omega
  all_goals (cases z0 <;> cases z1 <;> cases z2 <;> cases z3 <;> cases k0 <;> cases k1 <;> cases k2 <;> cases k3 <;> kernel_rfl)
theorem kD_z (z : Nat → Bool) (f g : Nat → UInt8) : kD z f g 4 = kD (zf (z 0) (z 1) (z 2) (z 3)) f g 4 := rfl
theorem kN_z (z : Nat → Bool) : kN z 4 = kN (zf (z 0) (z 1) (z 2) (z 3)) 4 := rfl
theorem kW_z (z kb : Nat → Bool) (f g : Nat → UInt8) : kW z kb f g 4 = kW (zf (z 0) (z 1) (z 2) (z 3)) kb f g 4 := rfl
theorem kept_len (z : Nat → Bool) (f g : Nat → UInt8) : (sortedKeys (kD z f g 4).loose).length = kN z 4 := by
  rw [sortedKeys_len, kD_z, kN_z, len_n]
theorem kept_plain (z : Nat → Bool) (f g : Nat → UInt8) (kept : List Bool) (j : Nat) (hj : j < 4) :
    (((kD z f g 4).start kept).get j)[0]? = some (kW z (fun i : Nat => decide (kept[i]? = some true)) f g 4 j) := by
  have hlost := (kD_fit z f g 4).lost
  unfold DevS.get DevS.start
  rw [hlost]
  show ((mget (startTo (kD z f g 4) kept (sortedKeys (kD z f g 4).loose) (sortedKeys (kD z f g 4).loose).length) (j : Int)).getD zeroB)[0]? = _
  rw [startK_eq, kept_len, kD_z, sort_id, kN_z, kW_z]
  generalize (fun i : Nat => decide (kept[i]? = some true)) = kb
  have h : ∀ j, j < 4 → kb j = zf (kb 0) (kb 1) (kb 2) (kb 3) j := fun j hj => by
    obtain rfl | rfl | rfl | rfl : j = 0 ∨ j = 1 ∨ j = 2 ∨ j = 3 := by omega
    all_goals rfl
  rw [startK_kb _ kb (zf (kb 0) (kb 1) (kb 2) (kb 3)) _ _ (fun j hj => h j (by have := kN_le (zf (z 0) (z 1) (z 2) (z 3)) 4; omega)), kW_kb _ kb (zf (kb 0) (kb 1) (kb 2) (kb 3)) _ _ _ h]
  exact kept_bits _ _ _ _ _ _ _ _ f g j hj
end Go.Proofs.Ythkcmafflbpfoaa
namespace Go.Proofs.Ythkcmafflbpfoaa
open Go.RowKit
set_option linter.unusedVariables false
set_option linter.unusedSimpArgs false

/-! DevSafe, the plain part. -/
theorem Fit.write_put {D : DevS} (h : Fit D) (s : Int) (hs : 0 ≤ s ∧ s < 4) (l : List UInt8) (hl : l.length ≤ 64) : D.write s l = D.put s l := by
  have : D.atE s = 0 := by
    have := h.at s.toNat (by omega)
    rwa [Int.toNat_of_nonneg hs.1] at this
  unfold DevS.write
  rw [this, if_neg (by omega), h.armed, if_neg (by simp)]
theorem put_get (D : DevS) (s : Int) (l : List UInt8) (j : Int) : (D.put s l).get j = if j = s then padB l else D.get j := by
  unfold DevS.get DevS.put
  simp only [mget_mset]
  split <;> rfl
theorem put_loose (D : DevS) (s : Int) (l : List UInt8) (j : Int) (hj : j ≠ s) : mget (D.put s l).loose j = mget D.loose j := by
  unfold DevS.put
  simp only
  split
  · rfl
  · rw [mget_mset, if_neg hj]
structure Sf (a b : List UInt8) (D : DevS) : Prop where
  fit : Fit D
  get0 : D.get 0 = padB a
  get1 : D.get 1 = padB a ∨ D.get 1 = padB b
  l0 : mget D.loose 0 = none
  l1 : ∀ x, mget D.loose 1 = some x → x = padB a
theorem Sf.write {a b : List UInt8} {D : DevS} (h : Sf a b D) (s : Int) (hs : s = 2 ∨ s = 3) : Sf a b (D.write s []) := by
  rw [h.fit.write_put s (by omega) [] (by simp)]
  refine ⟨?_, ?_, ?_, ?_, ?_⟩
  · rw [← h.fit.write_put s (by omega) [] (by simp)]; exact h.fit.write _ _
  · rw [put_get, if_neg (by omega)]; exact h.get0
  · rw [put_get, if_neg (by omega)]; exact h.get1
  · rw [put_loose _ _ _ _ (by omega)]; exact h.l0
  · rw [put_loose _ _ _ _ (by omega)]; exact h.l1
theorem startTo_get (D : DevS) (kept : List Bool) (ks : List Int) (j : Int) (i : Nat) : mget (startTo D kept ks i) j = mget D.now j ∨ ∃ n, n < i ∧ ks.getD n 0 = j ∧ mget (startTo D kept ks i) j = some ((mget D.loose j).getD zeroB) := by
  induction i with
  | zero => exact .inl rfl
  | succ i ih =>
    simp only [startTo]
    split
    · rcases ih with ih | ⟨n, h1, h2, h3⟩
      · exact .inl ih
      · exact .inr ⟨n, by omega, h2, h3⟩
    · rw [mget_mset]
      split
      · rename_i he
        subst he
        exact .inr ⟨i, by omega, rfl, rfl⟩
      · rcases ih with ih | ⟨n, h1, h2, h3⟩
        · exact .inl ih
        · exact .inr ⟨n, by omega, h2, h3⟩
theorem mget_of_key {α : Type} {m : List (Int × α)} {j : Int} (h : j ∈ m.map (·.1)) : ∃ x, mget m j = some x := by
  obtain ⟨y, hy, rfl⟩ := List.mem_map.1 h
  have : (m.find? (fun x => x.1 == y.1)).isSome := List.find?_isSome.2 ⟨y, hy, by simp⟩
  obtain ⟨z, hz⟩ := Option.isSome_iff_exists.1 this
  exact ⟨z.2, by simp [mget, hz]⟩
theorem start_get (D : DevS) (hl : D.lost = false) (kept : List Bool) (j : Int) : (D.start kept).get j = D.get j ∨ ∃ x, mget D.loose j = some x ∧ (D.start kept).get j = x := by
  have e : (D.start kept).get j = (mget (startTo D kept (sortedKeys D.loose) (sortedKeys D.loose).length) j).getD zeroB := by
    unfold DevS.get DevS.start
    rw [hl]; rfl
  rw [e]
  rcases startTo_get D kept (sortedKeys D.loose) j (sortedKeys D.loose).length with h | ⟨n, h1, h2, h3⟩
  · left; rw [h]; rfl
  · right
    have hm : j ∈ D.loose.map (·.1) := by
      have : j ∈ sortedKeys D.loose := by
        rw [← h2, List.getD_eq_getElem?_getD, List.getElem?_eq_getElem h1]
        exact List.getElem_mem _
      exact (List.mergeSort_perm _ _).mem_iff.1 this
    obtain ⟨x, hx⟩ := mget_of_key hm
    exact ⟨x, hx, by rw [h3, hx]; rfl⟩
theorem start_loose {D : DevS} (hl : D.lost = false) (kept : List Bool) : (D.start kept).loose = [] := by
  unfold DevS.start; rw [hl]; rfl
theorem Sf.start {a b : List UInt8} {D : DevS} (h : Sf a b D) (kept : List Bool) : Sf a b (D.start kept) := by
  have hl := start_loose h.fit.lost kept
  refine ⟨h.fit.start kept, ?_, ?_, by rw [hl]; rfl, by rw [hl]; intro x hx; cases hx⟩
  · rcases start_get D h.fit.lost kept 0 with e | ⟨x, hx, e⟩
    · rw [e]; exact h.get0
    · rw [h.l0] at hx; cases hx
  · rcases start_get D h.fit.lost kept 1 with e | ⟨x, hx, e⟩
    · rw [e]; exact h.get1
    · rw [e]; exact .inl (h.l1 x hx)
def safeD (a b : List UInt8) : DevS := (((((newD 4).write 0 a).flush).write 1 a).flush).write 1 b
theorem flush_get {D : DevS} (h : Fit D) (j : Int) : D.flush.get j = D.get j := by
  unfold DevS.flush DevS.down
  rw [h.crashed, h.lost]; rfl
theorem flush_loose {D : DevS} (h : Fit D) : D.flush.loose = [] := by
  unfold DevS.flush DevS.down
  rw [h.crashed, h.lost]; rfl
theorem newD_fit : Fit (newD 4) := ⟨rfl, rfl, rfl, rfl⟩
theorem safe_sf (a b : List UInt8) (ha : a.length ≤ 64) (hb : b.length ≤ 64) : Sf a b (safeD a b) ∧ (safeD a b).get 1 = padB b := by
  have f0 := newD_fit
  have f1 := f0.write 0 a
  have f2 := f1.flush
  have f3 := f2.write 1 a
  have f4 := f3.flush
  have f5 := f4.write 1 b
  have g4 : ((((newD 4).write 0 a).flush).write 1 a).flush.get 0 = padB a ∧ ((((newD 4).write 0 a).flush).write 1 a).flush.get 1 = padB a := by
    constructor
    · rw [flush_get f3, f2.write_put 1 (by omega) a ha, put_get, if_neg (by omega), flush_get f1, f0.write_put 0 (by omega) a ha, put_get, if_pos rfl]
    · rw [flush_get f3, f2.write_put 1 (by omega) a ha, put_get, if_pos rfl]
  have g5 : (safeD a b).get 1 = padB b := by
    unfold safeD
    rw [f4.write_put 1 (by omega) b hb, put_get, if_pos rfl]
  refine ⟨⟨f5, ?_, .inr g5, ?_, ?_⟩, g5⟩
  · unfold safeD
    rw [f4.write_put 1 (by omega) b hb, put_get, if_neg (by omega)]
    exact g4.1
  · unfold safeD
    rw [f4.write_put 1 (by omega) b hb, put_loose _ _ _ _ (by omega), flush_loose f3]; rfl
  · unfold safeD
    rw [f4.write_put 1 (by omega) b hb]
    intro x hx
    unfold DevS.put at hx
    rw [flush_loose f3] at hx
    simp only [show (mget ([] : List (Int × Blk)) 1).isSome = false from rfl, Bool.false_eq_true, if_false, mget_mset, if_true] at hx
    rw [← g4.2]
    simpa using hx.symm
end Go.Proofs.Ythkcmafflbpfoaa
namespace Go.Proofs.Ythkcmafflbpfoaa
open Go.RowKit
set_option linter.unusedVariables false
set_option linter.unusedSimpArgs false

/-! Start, plain: what the sectors hold behind it (lines of the text of ToggleWhole). -/
theorem mget_key {α : Type} {m : List (Int × α)} {j : Int} (h : j ∈ m.map (·.1)) : mget m j ≠ none := by
  obtain ⟨y, hy, rfl⟩ := List.mem_map.1 h
  have : (m.find? (fun x => x.1 == y.1)).isSome := List.find?_isSome.2 ⟨y, hy, by simp⟩
  obtain ⟨z, hz⟩ := Option.isSome_iff_exists.1 this
  simp [mget, hz]
theorem startTo_keep (D : DevS) (kept : List Bool) (ks : List Int) (j : Int) (i : Nat) (h : ∀ n, n < i → ks.getD n 0 ≠ j) : mget (startTo D kept ks i) j = mget D.now j := by
  induction i with
  | zero => rfl
  | succ i ih =>
    simp only [startTo]
    split
    · exact ih (fun n hn => h n (by omega))
    · rw [mget_mset, if_neg (fun e => h i (by omega) e.symm), ih (fun n hn => h n (by omega))]
theorem start_keep (D : DevS) (hl : D.lost = false) (kept : List Bool) (j : Int) (hj : mget D.loose j = none) : (D.start kept).get j = D.get j := by
  unfold DevS.start
  rw [hl, if_neg (by simp)]
  unfold DevS.get
  simp only
  rw [startTo_keep D kept _ j]
  intro n hn he
  have hm : j ∈ sortedKeys D.loose := by
    rw [← he, List.getD_eq_getElem?_getD, List.getElem?_eq_getElem hn]
    exact List.getElem_mem _
  have hm2 : j ∈ D.loose.map (·.1) := by
    unfold sortedKeys at hm
    exact (List.mergeSort_perm _ _).mem_iff.1 hm
  exact mget_key hm2 hj
theorem start_up (D : DevS) (hl : D.lost = false) (kept : List Bool) : (D.start kept).down = false ∧ (D.start kept).loose = [] ∧ (D.start kept).sectors = D.sectors := by
  unfold DevS.start
  rw [hl, if_neg (by simp)]
  exact ⟨rfl, rfl, rfl⟩
theorem write_keep (D : DevS) (s : Int) (l : List UInt8) (j : Int) (hj : j ≠ s) : (D.write s l).get j = D.get j ∧ mget (D.write s l).loose j = mget D.loose j := by
  unfold DevS.write
  split
  · exact ⟨rfl, rfl⟩
  · split
    · exact ⟨rfl, rfl⟩
    · refine ⟨by rw [get_put, if_neg hj], ?_⟩
      unfold DevS.put
      simp only
      split
      · rfl
      · rw [mget_mset, if_neg hj]
theorem write_lost (D : DevS) (s : Int) (l : List UInt8) : (D.write s l).lost = D.lost := by unfold DevS.write; (repeat' split) <;> rfl
theorem flush_lost (D : DevS) : D.flush.lost = D.lost := by unfold DevS.flush; split <;> rfl
theorem up_lost {D : DevS} (h : D.down = false) : D.lost = false := by
  unfold DevS.down at h
  cases hl : D.lost
  · rfl
  · rw [hl] at h; simp at h
end Go.Proofs.Ythkcmafflbpfoaa

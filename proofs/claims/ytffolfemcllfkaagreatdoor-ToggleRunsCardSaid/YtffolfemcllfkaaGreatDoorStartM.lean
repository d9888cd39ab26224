import Derived.Test.YtffolfemcllfkaaGreatDoorDev4
import Derived.Test.YtffolfemcllfkaaGreatDoorIter
import Derived.Test.YtffolfemcllfkaaGreatDoorDevAll
namespace Go.Proofs.YtffolfemcllfkaaGreatDoor
open Go.RowKit
set_option linter.unusedVariables false
set_option linter.unusedSimpArgs false
/-! Arm, Lose. -/
theorem arm_bad {w : World} {p m1 m2 : Nat} {D : DevS} (h : DevAt w p m1 m2 D) (n : Int) (hn : n < 0) : Calls Tryz.prog 10 #[ptr p, .int .i64 n] w fun e w' => e = .returned (errV 1) ∧ w = w' := by
  go_enter Tryz.func10, Tryz.ntmps10
  go_wp2_with fail
  go_ret
  exact ⟨rfl, rfl⟩
theorem arm_down {w : World} {p m1 m2 : Nat} {D : DevS} (h : DevAt w p m1 m2 D) (n : Int) (hn : 0 ≤ n) (hd : D.down = true) : Calls Tryz.prog 10 #[ptr p, .int .i64 n] w fun e w' => e = .returned (errV 13) ∧ w = w' := by
  have hE : D.readyE = 13 := by simp [DevS.readyE, hd]
  have hn2 : ¬ n < 0 := by omega
  go_enter Tryz.func10, Tryz.ntmps10
  go_wp2_with fail
  (with_reducible refine (ready_any h).mono ?_)
  rintro e w' ⟨rfl, rfl⟩
  rw [hE, errV_n (by decide)]
  go_wp2_with fail
  go_ret
  exact ⟨rfl, rfl⟩
theorem arm_ok {w : World} {p m1 m2 : Nat} {D : DevS} (h : DevAt w p m1 m2 D) (n : Int) (hn : 0 ≤ n) (hd : D.down = false) : Calls Tryz.prog 10 #[ptr p, .int .i64 n] w fun e w' => e = .returned (errV 0) ∧ Fr (devBlks p m1 m2) w w' ∧ DevAt w' p m1 m2 { D with armed := true, left := n } := by
  have hE : D.readyE = 0 := by simp [DevS.readyE, hd]
  have hn2 : ¬ n < 0 := by omega
  obtain ⟨c0, c1, c2, c3, c4, c5, c6, c7⟩ := h.cellsAll
  have f4 := h.frozen 4
  have f5 := h.frozen 5
  go_enter Tryz.func10, Tryz.ntmps10
  go_wp2_with fail
  (with_reducible refine (ready_any h).mono ?_)
  rintro e w' ⟨rfl, rfl⟩
  rw [hE, errV_0]
  go_wp2_with fail
  go_ret
  exact ⟨rfl, ((Fr.set w p 4 _).trans (Fr.set _ p 5 _)).mono (fun i _ e => .inl e), (h.setCell (D' := { D with armed := true }) 4 (.bool true) rfl rfl rfl rfl).setCell 5 (.int .i64 n) rfl rfl rfl rfl⟩
end Go.Proofs.YtffolfemcllfkaaGreatDoor
namespace Go.Proofs.YtffolfemcllfkaaGreatDoor
open Go.RowKit Go.Maps Go.Sort Go.Shelf
set_option linter.unusedVariables false
set_option linter.unusedSimpArgs false

/-! dev.Loose: slices.Sorted(maps.Keys(d.loose)), by the shelf's contracts. -/
def noR {H : Type} : Value → Option (DataW H × List MemPlace) := fun _ => some (.nil, [])
abbrev leZ : Int → Int → Bool := fun x y => decide (x ≤ y)
def sortedKeys {α : Type} (m : List (Int × α)) : List Int := (m.map (·.1)).mergeSort leZ
theorem nodup_len : ∀ (n : Nat) (l : List Int), l.Nodup → (∀ x ∈ l, 0 ≤ x ∧ x < (n : Int)) → l.length ≤ n := by
  intro n
  induction n with
  | zero =>
    intro l _ h
    cases l with
    | nil => simp
    | cons x l => have := h x (by simp); omega
  | succ n ih =>
    intro l hn h
    have h1 := ih (l.erase (n : Int)) (hn.erase _) (fun x hx => by
      have hx1 := List.mem_of_mem_erase hx
      have := h x hx1
      have hne : x ≠ (n : Int) := fun e => by subst e; exact absurd hx (hn.not_mem_erase)
      omega)
    have h2 := List.length_erase_le (a := (n : Int)) (l := l)
    by_cases hm : (n : Int) ∈ l
    · rw [List.length_erase_of_mem hm] at h1; omega
    · rw [List.erase_of_not_mem hm] at h1; omega
theorem sort_perm {a b : List Int} (h : a.Perm b) : a.mergeSort leZ = b.mergeSort leZ := by
  have tr : ∀ x y z : Int, leZ x y = true → leZ y z = true → leZ x z = true := fun x y z h1 h2 => by simp at *; omega
  have tot : ∀ x y : Int, (leZ x y || leZ y x) = true := fun x y => by simp; omega
  refine List.Perm.eq_of_pairwise (le := fun x y => leZ x y = true) (fun x y _ _ h1 h2 => by simp at h1 h2; omega) ?_ ?_ (((List.mergeSort_perm a leZ).trans h).trans (List.mergeSort_perm b leZ).symm)
  · exact List.pairwise_mergeSort tr tot a
  · exact List.pairwise_mergeSort tr tot b
theorem imap_owns {P : Program} {k : TypeId} (hk : P.underlying k = some (.int .i64)) {w : World} {b : Nat} {m : IM} (h : IMap w b m) (hwf : ∀ x ∈ m, (Lit.int .i64 x.1).wf = true) (hsz : m.length ≤ maxLen) :
    ∃ D : DataW Unit, w.ownsMap P k (noR (H := Unit)) b m.length D ∧ (intKeys D).Perm (m.map (·.1)) ∧ Maps.size D = m.length := by
  obtain ⟨⟨es, clock, hb, h1, h2, h3⟩, h4⟩ := h
  have hlen : es.size = m.length := by have := congrArg List.length h1; simpa using this
  have hkeys : es.toList.map (·.key) = m.map (fun x => Value.int .i64 x.1) := by
    have := congrArg (List.map (·.1)) h1
    simpa [Function.comp_def] using this
  have hrd : ∀ e ∈ es.toList, ∃ x, (x ∈ m.map (·.1)) ∧ e.key = .int .i64 x ∧ keyOf P k e.key = some (.int .i64 x) := by
    intro e he
    have : e.key ∈ es.toList.map (·.key) := List.mem_map.2 ⟨e, he, rfl⟩
    rw [hkeys] at this
    obtain ⟨x, hx, hxe⟩ := List.mem_map.1 this
    exact ⟨x.1, List.mem_map.2 ⟨x, hx, rfl⟩, hxe.symm, by rw [← hxe]; exact keyOf_int_mk hk (hwf x hx)⟩
  have hstamp : MapKept.Stamped es clock := by
    refine ⟨fun x hx => h2 x (by simpa using hx), h3, ?_⟩
    rw [hkeys]
    have : m.map (fun x => Value.int .i64 x.1) = (m.map (·.1)).map (Value.int .i64) := by rw [List.map_map]; rfl
    rw [this]
    exact (List.pairwise_map.2 (h4.imp (fun hne e => hne (by cases e; rfl))))
  refine ⟨.map ((es.toList.map (WideElems.rg P k noR)).foldr DataW.insert []), ⟨es, clock, hb, ⟨by omega, hstamp, fun x hx => ?_⟩, by omega, rfl⟩, ?_, ?_⟩
  · obtain ⟨y, _, _, hy⟩ := hrd x hx
    exact ⟨_, by simp [WideElems.rd, hy, noR]; rfl⟩
  · show (List.map _ _).Perm _
    refine ((WideShapes.sorted_perm _).map _).trans ?_
    rw [List.map_map]
    have : es.toList.map ((fun p : Lit × DataW Unit => Go.intOf p.1) ∘ WideElems.rg P k (noR (H := Unit))) = m.map (·.1) := by
      have e2 : m.map (·.1) = (es.toList.map (·.key)).map RowKit.intOf := by rw [hkeys, List.map_map]; rfl
      rw [e2, List.map_map]
      apply List.map_congr_left
      intro e he
      obtain ⟨y, _, hy1, hy⟩ := hrd e he
      simp only [Function.comp, WideElems.rg, WideElems.rd, hy, noR]
      rw [hy1]
      rfl
    rw [this]
  · rw [Maps.size_eq, (WideShapes.sorted_perm _).length_eq, List.length_map, Array.length_toList, hlen]
theorem wf_small {n : Int} (h0 : 0 ≤ n) (h1 : n < 16384) : (Lit.int .i64 n).wf = true := WalkArith.wf_i64 (by omega)
theorem sortsA (m : Nat) : AnyZI.SortsIn Tryz.prog Tryz.sortedA_ren Fence.wide m :=
  ⟨fun blk off cap ss W hH hblk hsz => callsIn_wide.2 (AnyM.slices_Sort_int Tryz.sortA blk off cap ss W hH hblk hsz),
   fun p cap W => callsIn_wide.2 (AnyM.slices_Sort_int_none Tryz.sortA p cap W)⟩
structure SortedPost (w : World) (ks : List Int) (e : Ending) (w' : World) : Prop where
  val : ∃ v, e = .returned v ∧ w'.ownsRow w.heap.size 3 1 v ks.length (ks.map intV)
  fr : Fr none_ w w'
theorem sortedKeys_len {α : Type} (m : List (Int × α)) : (sortedKeys m).length = m.length := by simp [sortedKeys]
set_option maxHeartbeats 1000000 in
set_option maxRecDepth 100000 in
theorem loose_any {w : World} {p m1 m2 : Nat} {D : DevS} (h : DevAt w p m1 m2 D) : Calls Tryz.prog 51 #[ptr p] w fun e w' => SortedPost w (sortedKeys D.loose) e w' := by
  obtain ⟨c0, c1, c2, c3, c4, c5, c6, c7⟩ := h.cellsAll
  have hlen : D.loose.length ≤ 16384 := by
    have hn := h.loose.nodup
    rw [mapV_keys] at hn
    have h1 := nodup_len D.sectors.toNat (D.loose.map (·.1)) hn (fun x hx => by
      obtain ⟨y, hy, rfl⟩ := List.mem_map.1 hx
      have := h.keys y hy
      omega)
    have := h.most
    simp at h1
    omega
  obtain ⟨D0, hown, hperm, hsize⟩ := imap_owns (P := Tryz.prog) (k := 3) Tryz.underlying3 h.loose (fun x hx => by
    obtain ⟨y, hy, rfl⟩ := List.mem_map.1 hx
    have := h.keys y hy
    have h2 := h.most
    exact wf_small (show 0 ≤ y.1 from this.1) (by omega)) (by simp [mapV]; unfold maxLen; omega)
  rw [mapV_keys] at hperm
  have hsz2 : Maps.size D0 = D.loose.length := by rw [hsize]; simp [mapV]
  have hmax : Maps.size D0 ≤ maxLen := by rw [hsz2]; unfold maxLen; omega
  have hbytes : Maps.size D0 * 8 ≤ 140737488355328 := by rw [hsz2]; omega
  refine (callsIn_wide (n := 6)).1 ?_
  have hbl := hown.lt
  have hseq : SeqGives Fence.wide 2 Tryz.prog 155 #[.pointer (some ⟨w.heap.size, 0, none⟩)] encZ (fun ss => ss.Perm (intKeys D0)) (Maps.size D0) (w.alloc (.cells #[.map (some m2)] 107)) :=
    AnyZI.keys_gives (ρ := Tryz.keysA_ren) { Tryz.keysA with } Fence.wide _ trivial rfl (by omega) w.heap.size m2 _ D0 _ (by simp) (by simp) (by
      obtain ⟨es, clock, hb, Ft, hs, hD⟩ := hown
      exact ⟨es, clock, (Below.heap_alloc _ _ m2 hbl).trans hb, Ft, hs, hD⟩)
  have cK : ∀ mb W, CallsIn Fence.wide 5 Tryz.prog 102 #[.map mb] W fun e w' => e = .returned (.func (.func 155) #[] #[.pointer (some ⟨W.heap.size, 0, none⟩)]) ∧ w' = W.alloc (.cells #[.map mb] 107) := fun mb W => AnyZI.keys_in Tryz.keysA Fence.wide 5 trivial rfl mb W
  have cS := AnyZI.sorted_in Tryz.sortedA Fence.wide 5 trivial trivial trivial trivial rfl (by omega) (sortsA _) (enters_of Tryz.func154 (by kernel_rfl) rfl) 155 #[.pointer (some ⟨w.heap.size, 0, none⟩)] trivial (enters_of Tryz.func155 (by kernel_rfl) rfl) _ _ hmax hbytes _ hseq
  change CallsIn _ _ Tryz.prog 101 _ _ _ at cS
  have hfK : Fence.wide.fn 102 := trivial
  have hfS : Fence.wide.fn 101 := trivial
  have HP := Lib.hid hperm
  have HZ := Lib.hid hsz2
  clear hperm hsz2 hsize
  refine callsIn_of_wp Tryz.func51 rfl trivial ?_ rfl
  simp only [Tryz.ntmps51, List.size_toArray, List.length_cons, List.length_nil, Nat.reduceAdd, Nat.reduceSub, Array.replicate_succ, Array.replicate_zero, List.push_toArray, List.append_toArray, List.nil_append, List.cons_append]
  gi_wp2_with (first
    | (gi_at_call 102; refine (cK _ _).mono ?_; rintro e w' ⟨rfl, rfl⟩)
    | (gi_at_call 101; refine cS.mono ?_; rintro e w' ⟨v, ss, rfl, hS, hrow, hnil, hb⟩))
  go_ret
  have hss : ss.mergeSort leZ = sortedKeys D.loose := sort_perm (hS.trans HP.out)
  have hsl : ss.length = (sortedKeys D.loose).length := by rw [← hss]; simp
  refine ⟨⟨v, rfl, ?_⟩, ?_⟩
  · have h5 := ownsRow_base_a hrow (Nat.le_of_lt (by simp : w.heap.size < (w.alloc (.cells #[.map (some m2)] 107)).heap.size))
    rw [show (fun x y => decide (x ≤ y)) = leZ from rfl, hss, hsl] at h5
    exact h5
  · exact ((Fr.refl none_ w).alloc _).trans (Fr.of_below (hb.mono (by simp)))
end Go.Proofs.YtffolfemcllfkaaGreatDoor
namespace Go.Proofs.YtffolfemcllfkaaGreatDoor
open Go.RowKit
set_option linter.unusedVariables false
set_option linter.unusedSimpArgs false

/-! dev.Start -/
/-- the sectors' contents behind i of the loose sectors -/
def startTo (D : DevS) (kept : List Bool) (ks : List Int) : Nat → List (Int × Blk)
  | 0 => D.now
  | i + 1 => if kept[i]? = some true then startTo D kept ks i else mset (startTo D kept ks i) (ks.getD i 0) ((mget D.loose (ks.getD i 0)).getD zeroB)
def DevS.start (D : DevS) (kept : List Bool) : DevS :=
  if D.lost then D else { D with now := startTo D kept (sortedKeys D.loose) (sortedKeys D.loose).length, loose := [], crashed := false, armed := false }
theorem start_lost {w : World} {p m1 m2 : Nat} {D : DevS} (h : DevAt w p m1 m2 D) (A : Option Addr) (n c : Nat) (hl : D.lost = true) : Calls Tryz.prog 11 #[ptr p, .slice A n c] w fun e w' => e = .returned (.tuple #[]) ∧ w = w' := by
  obtain ⟨c0, c1, c2, c3, c4, c5, c6, c7⟩ := h.cellsAll
  rw [hl] at c7
  go_enter Tryz.func11, Tryz.ntmps11
  go_wp2_with fail
  first
    | (go_end0; exact ⟨rfl, rfl⟩)
    | exact bodyPost_ret (results_none rfl _ _ _) rfl ⟨rfl, rfl⟩
structure StartIn (w : World) (p m1 m2 : Nat) (D : DevS) (now : List (Int × Blk)) (A1 : Option Addr) (ks : List Int) (wr : World) : Prop where
  fr : Fr (devBlks p m1 m2) w wr
  dev : DevAt wr p m1 m2 { D with now := now }
  keys : CellsAt wr A1 (ks.map intV)
  apart : ∀ b, blkOf A1 b → ¬ devBlks p m1 m2 b
theorem StartIn.step {w wr w' : World} {p m1 m2 : Nat} {D : DevS} {now : List (Int × Blk)} {A1 : Option Addr} {ks : List Int} (h : StartIn w p m1 m2 D now A1 ks wr) {s : Int} {b : Blk} (hb : b.length = 64) (hF : Fr (fun i => i = m1) wr w') (hM : IMap w' m1 (mset (mapV blkV now) s (blkV b))) :
    StartIn w p m1 m2 D (mset now s b) A1 ks w' := by
  have hF2 := hF.mono (S2 := devBlks p m1 m2) (fun i _ e => .inr (.inl e))
  refine ⟨h.fr.trans hF2, ⟨hF.heap h.dev.blk h.dev.pne.1, ?_, h.dev.loose.fr hF (fun e => h.dev.ne e.symm), h.dev.ne, ?_, h.dev.len2, h.dev.keys, h.dev.most⟩, h.keys.fr hF2 h.apart, h.apart⟩
  · rw [mset_mapV] at hM; exact hM
  · intro x hx
    rcases mem_mset hx with rfl | hx
    · exact hb
    · exact h.dev.len x hx
theorem StartIn.drew {w wr : World} {p m1 m2 : Nat} {D : DevS} {now : List (Int × Blk)} {A1 : Option Addr} {ks : List Int} (h : StartIn w p m1 m2 D now A1 ks wr) : StartIn w p m1 m2 D now A1 ks wr.drew :=
  ⟨h.fr.trans0 ((Fr.refl _ _).drew), h.dev.fr0 ((Fr.refl _ _).drew), h.keys.drew, h.apart⟩
theorem loose_get_len {w : World} {p m1 m2 : Nat} {D : DevS} (h : DevAt w p m1 m2 D) (s : Int) : ((mget D.loose s).getD zeroB).length = 64 := by
  cases hm : mget D.loose s with
  | none => simp [zeroB]
  | some b => exact h.len2 _ (mget_mem hm)
theorem looseLk0 {w : World} {p m1 m2 : Nat} {D : DevS} (h : DevAt w p m1 m2 D) (s : Int) : (Instr.lookup 107 (.map (some m2)) (.int .i64 s) false).run Tryz.prog w = .ok (blkV ((mget D.loose s).getD zeroB)) w := by
  have hlk := run_lookup_plain (P := Tryz.prog) (T := 107) Tryz.underlying107 Tryz.underlying3 zero_blk h.loose s
  rw [mget_mapV] at hlk
  rw [hlk]
  cases mget D.loose s <;> rfl
set_option maxHeartbeats 2000000 in
set_option maxRecDepth 100000 in
theorem start_ok {w : World} {p m1 m2 : Nat} {D : DevS} (h : DevAt w p m1 m2 D) (A : Option Addr) (n c : Nat) (kept : List Bool) (hn : n = kept.length) (hA : CellsAt w A (kept.map Value.bool)) (hap : ∀ b, blkOf A b → 0 < kept.length → ¬ devBlks p m1 m2 b) (hm : kept.length ≤ 140737488351232) (hl : D.lost = false) :
    Calls Tryz.prog 11 #[ptr p, .slice A n c] w fun e w' => e = .returned (.tuple #[]) ∧ Fr (devBlks p m1 m2) w w' ∧ DevAt w' p m1 m2 (D.start kept) := by
  subst hn
  obtain ⟨c0, c1, c2, c3, c4, c5, c6, c7⟩ := h.cellsAll
  rw [hl] at c7
  go_enter Tryz.func11, Tryz.ntmps11
  go_wp2_with fail
  (with_reducible refine (loose_any h).mono ?_)
  rintro e w1 ⟨⟨v, rfl, hown⟩, hF1⟩
  obtain ⟨ks, hks⟩ : ∃ ks, ks = sortedKeys D.loose := ⟨_, rfl⟩
  rw [← hks] at hown
  obtain ⟨A1, cc, rfl, hA1, _, _, hbl⟩ := ownsRow_read hown
  have hlen : ks.length ≤ 16384 := by
    rw [hks, sortedKeys_len]
    have hn := h.loose.nodup
    rw [mapV_keys] at hn
    have h1 := nodup_len D.sectors.toNat (D.loose.map (·.1)) hn (fun x hx => by
      obtain ⟨y, hy, rfl⟩ := List.mem_map.1 hx
      have := h.keys y hy
      omega)
    have := h.most
    simp at h1
    omega
  have hI : StartIn w p m1 m2 D D.now A1 ks w1 := ⟨Fr.of0 hF1, h.fr0 hF1, hA1, fun b hb hd => by have := (hbl b hb).1; have := h.lt b hd; omega⟩
  have HK := Lib.hid hks
  clear hks c0 c1 c2 c3 c4 c5 c6 c7
  go_wp2_with fail
  go_loopw [17] (fun i wr => ∃ j : Nat, j ≤ ks.length ∧ i = .int .i64 j ∧ StartIn w p m1 m2 D (startTo D kept ks j) A1 ks wr) (fun i _ => ks.length - (intOf i).toNat)
  case atStart => exact ⟨0, by omega, rfl, hI⟩
  case round =>
    obtain ⟨j, hj, rfl, hJ⟩ := hrel
    by_cases hlt : j < ks.length
    · obtain ⟨kb, ko, rfl, hkc⟩ := hJ.keys j (by simpa using hlt)
      have hkc2 : wr.cell? ⟨kb, ko + j, none⟩ = some (.int .i64 ks[j]) := by simpa [intV] using hkc
      obtain ⟨d0, d1, d2, d3, d4, d5, d6, d7⟩ := hJ.dev.cellsAll
      have hgd : ks.getD j 0 = ks[j] := by simp [hlt]
      have HG := Lib.hid hgd
      have hlk := looseLk0 hJ.drew.dev ks[j]
      have hob := loose_get_len hJ.dev ks[j]
      generalize hob2 : (mget D.loose ks[j]).getD zeroB = ob at hlk hob
      have hst : ∀ (hk : kept[j]? ≠ some true), startTo D kept ks (j + 1) = mset (startTo D kept ks j) ks[j] ob := fun hk => by
        rw [startTo, if_neg hk, hgd, hob2]
      have hst2 : ∀ (hk : kept[j]? = some true), startTo D kept ks (j + 1) = startTo D kept ks j := fun hk => by rw [startTo, if_pos hk]
      have HST := Lib.hid hst
      have HST2 := Lib.hid hst2
      clear hst hst2
      have HOB := Lib.hid hob2
      have HJ := Lib.hid hJ
      clear hgd hob2 hkc hJ
      have hA4 := hA.frp HJ.out.fr (fun b hb hv => hap b hb (by simpa using hv))
      by_cases hk1 : j < kept.length
      · obtain ⟨b2, o2, rfl, hkb⟩ := hA4 j (by simpa using hk1)
        have hkb2 : wr.cell? ⟨b2, o2 + j, none⟩ = some (.bool kept[j]) := by simpa using hkb
        clear hkb
        cases hkj : kept[j]
        all_goals
          rw [hkj] at hkb2
          have HKJ := Lib.hid hkj
          clear hkj
          go_wp2_with fail
        ·
          go_still_tail 11, (by kernel_rfl)
          change wpList _ _ _ _ _ wr.drew
          go_wp2_with ((with_reducible refine at_mapset (.tmp 36) (.tmp 37) (.tmp 43) (b := m1) (m := mapV blkV (startTo D kept ks j)) (k := ks[j]) (v := blkV ob) Tryz.underlying107 Tryz.underlying3 ?_ ?_ ?_ ?_ ?_); (focus rfl); (focus rfl); (focus rfl); (focus exact HJ.out.drew.dev.now); intro w4 hF4 hM4)
          go_roundw
          case rel => exact ⟨j + 1, by omega, by go_num, by rw [HST.out (by rw [List.getElem?_eq_getElem hk1, HKJ.out]; simp)]; exact HJ.out.drew.step hob hF4 hM4⟩
          case measure => simp [intOf]; omega
        · go_roundw
          case rel => exact ⟨j + 1, by omega, by go_num, by rw [HST2.out (by rw [List.getElem?_eq_getElem hk1, HKJ.out])]; exact HJ.out⟩
          case measure => simp [intOf]; omega
      · go_wp2_with fail
        go_still_tail 11, (by kernel_rfl)
        change wpList _ _ _ _ _ wr.drew
        go_wp2_with ((with_reducible refine at_mapset (.tmp 36) (.tmp 37) (.tmp 43) (b := m1) (m := mapV blkV (startTo D kept ks j)) (k := ks[j]) (v := blkV ob) Tryz.underlying107 Tryz.underlying3 ?_ ?_ ?_ ?_ ?_); (focus rfl); (focus rfl); (focus rfl); (focus exact HJ.out.drew.dev.now); intro w4 hF4 hM4)
        go_roundw
        case rel => exact ⟨j + 1, by omega, by go_num, by rw [HST.out (by rw [List.getElem?_eq_none (by omega)]; simp)]; exact HJ.out.drew.step hob hF4 hM4⟩
        case measure => simp [intOf]; omega
    · have hjk : j = ks.length := by omega
      subst hjk
      obtain ⟨d0, d1, d2, d3, d4, d5, d6, d7⟩ := hJ.dev.cellsAll
      have f4 := hJ.dev.frozen 4
      have f6 := hJ.dev.frozen 6
      have HJ := Lib.hid hJ
      clear hJ
      go_wp2_with ((with_reducible refine at_clear (.tmp 48) (b := m2) (m := mapV blkV D.loose) Tryz.underlying107 ?_ ?_ ?_); (focus rfl); (focus exact HJ.out.dev.loose); intro w5 hF5 hM5; have h5 := HJ.out.dev.cleared (D' := { D with now := startTo D kept ks ks.length, loose := [] }) hF5 hM5 rfl rfl rfl rfl; obtain ⟨e0, e1, e2, e3, e4, e5, e6, e7⟩ := h5.2.cellsAll; have g4 := h5.2.frozen 4; have g6 := h5.2.frozen 6; clear d0 d1 d2 d3 d4 d5 d6 d7 f4 f6)
      have h6 := h5.2.setCell (D' := { D with now := startTo D kept ks ks.length, loose := [], crashed := false }) 6 (.bool false) rfl rfl rfl rfl
      have h7 := h6.setCell (D' := { D with now := startTo D kept ks ks.length, loose := [], crashed := false, armed := false }) 4 (.bool false) rfl rfl rfl rfl
      have hfr := (HJ.out.fr.trans h5.1).trans (((Fr.set w5 p 6 (.bool false)).trans (Fr.set _ p 4 (.bool false))).mono (S2 := devBlks p m1 m2) (fun i _ e => .inl e))
      have hd : D.start kept = { D with now := startTo D kept ks ks.length, loose := [], crashed := false, armed := false } := by
        unfold DevS.start; rw [hl, ← HK.out]; rfl
      first
        | (go_end0; rw [hd]; exact ⟨rfl, hfr, h7⟩)
        | (rw [hd]; exact bodyPost_end (results_none rfl _ _ _) rfl ⟨rfl, hfr, h7⟩)
end Go.Proofs.YtffolfemcllfkaaGreatDoor
namespace Go.Proofs.YtffolfemcllfkaaGreatDoor
open Go.RowKit
set_option linter.unusedVariables false
set_option linter.unusedSimpArgs false

/-! Arm, Start. -/
def DevS.armE (D : DevS) (n : Int) : Int := if n < 0 then 1 else if D.down then 13 else 0
def DevS.arm (D : DevS) (n : Int) : DevS := if n < 0 ∨ D.down = true then D else { D with armed := true, left := n }
theorem arm_any {w : World} {p m1 m2 : Nat} {D : DevS} (h : DevAt w p m1 m2 D) (n : Int) : Calls Tryz.prog 10 #[ptr p, .int .i64 n] w fun e w' => e = .returned (errV (D.armE n)) ∧ Fr (devBlks p m1 m2) w w' ∧ DevAt w' p m1 m2 (D.arm n) := by
  by_cases hn : n < 0
  · refine (arm_bad h n hn).mono ?_
    rintro e w' ⟨rfl, rfl⟩
    exact ⟨by simp [DevS.armE, hn], Fr.refl _ _, by simpa [DevS.arm, hn] using h⟩
  · cases hd : D.down
    · refine (arm_ok h n (by omega) hd).mono ?_
      rintro e w' ⟨rfl, hF, hD⟩
      exact ⟨by simp [DevS.armE, hd, hn], hF, by simpa [DevS.arm, hd, hn] using hD⟩
    · refine (arm_down h n (by omega) hd).mono ?_
      rintro e w' ⟨rfl, rfl⟩
      exact ⟨by simp [DevS.armE, hd, hn], Fr.refl _ _, by simpa [DevS.arm, hd] using h⟩
theorem start_any {w : World} {p m1 m2 : Nat} {D : DevS} (h : DevAt w p m1 m2 D) (A : Option Addr) (n c : Nat) (kept : List Bool) (hn : n = kept.length) (hA : CellsAt w A (kept.map Value.bool)) (hap : ∀ b, blkOf A b → 0 < kept.length → ¬ devBlks p m1 m2 b) (hm : kept.length ≤ 140737488351232) :
    Calls Tryz.prog 11 #[ptr p, .slice A n c] w fun e w' => e = .returned (.tuple #[]) ∧ Fr (devBlks p m1 m2) w w' ∧ DevAt w' p m1 m2 (D.start kept) := by
  cases hl : D.lost
  · exact start_ok h A n c kept hn hA hap hm hl
  · refine (start_lost h A n c hl).mono ?_
    rintro e w' ⟨rfl, rfl⟩
    exact ⟨rfl, Fr.refl _ _, by simpa [DevS.start, hl] using h⟩
end Go.Proofs.YtffolfemcllfkaaGreatDoor

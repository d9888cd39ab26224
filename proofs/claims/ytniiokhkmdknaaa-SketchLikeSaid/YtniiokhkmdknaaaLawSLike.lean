import Derived.Test.YtniiokhkmdknaaaTwo
namespace Go.Proofs.Ytniiokhkmdknaaa
open Go.RowKit
set_option linter.unusedVariables false
set_option linter.unusedSimpArgs false

/-! SketchLike -/
theorem info_u8s : (Try.prog.info? 5).isSome = true := by kernel_rfl
theorem one_u8s : Try.prog.cellsOf 5 = 1 := by kernel_rfl
theorem winAt_lt (p : Int) (l : List UInt8) (k : Nat) : winAt p l k < 4294967296 := Nat.lt_trans (by unfold winAt windowF; exact moreF_lt _ _) (show 2147483647 < 4294967296 by decide)
theorem least_le (p : Int) (l : List UInt8) (n k : Nat) (h : k < n) : leastF p l n ≤ winAt p l k := by
  induction n with
  | zero => omega
  | succ n ih =>
    unfold leastF
    by_cases hk : k < n
    · have := ih hk; omega
    · have : k = n := by omega
      subst this; omega
theorem least_at (p : Int) (l : List UInt8) (n : Nat) (h : 0 < n) : ∃ k, k < n ∧ winAt p l k = leastF p l n := by
  induction n with
  | zero => omega
  | succ n ih =>
    unfold leastF
    by_cases hw : winAt p l n ≤ leastF p l n
    · exact ⟨n, by omega, by omega⟩
    · by_cases hn : 0 < n
      · obtain ⟨k, hk, he⟩ := ih hn
        exact ⟨k, by omega, by omega⟩
      · have h0 : n = 0 := by omega
        subst h0
        exfalso
        have := winAt_lt p l 0
        exact hw (by unfold leastF; omega)
def hasB (p : Int) (l : List UInt8) (x : Nat) : Nat → Bool
  | 0 => false
  | k + 1 => hasB p l x k || decide (winAt p l k = x)
theorem hasB_of (p : Int) (l : List UInt8) (x : Nat) (n k : Nat) (hk : k < n) (he : winAt p l k = x) : hasB p l x n = true := by
  induction n with
  | zero => omega
  | succ n ih =>
    unfold hasB
    by_cases h : k < n
    · rw [ih h]; rfl
    · have : k = n := by omega
      subst this
      simp [he]
theorem has_all (p : Int) (l : List UInt8) : hasB p l (leastF p l 57) 57 = true := by
  obtain ⟨k, hk, he⟩ := least_at p l 57 (by decide)
  exact hasB_of p l _ 57 k hk he
theorem eqn_symm (a b : Nat) : eqn a b = eqn b a := by
  unfold eqn
  by_cases h : a = b
  · subst h; rfl
  · rw [if_neg h, if_neg (fun e => h e.symm)]
theorem likeF_symm (a b c d a' b' c' d' : Nat) : likeF a' b' c' d' a b c d 4 = likeF a b c d a' b' c' d' 4 := by
  simp only [likeF, eqn_symm a' a, eqn_symm b' b, eqn_symm c' c, eqn_symm d' d]
set_option maxHeartbeats 16000000 in
set_option maxRecDepth 100000 in
theorem slike_walk (la lb : List UInt8) (w : World) (hla : la.length = 64) (hlb : lb.length = 64) :
    Calls Try.prog 4 #[.agg (la.map byteV).toArray, .agg (lb.map byteV).toArray] w fun e w' => e = .returned (.bool true) ∧ Fr none_ w w' := by
  have hof1 : ∀ wx, Calls Try.prog 7 #[.agg (la.map byteV).toArray] wx fun e w' => e = .returned (sk (ofF la 0) (ofF la 1) (ofF la 2) (ofF la 3)) ∧ Fr none_ wx w' := fun wx => of_any la wx hla
  have hof2 : ∀ wx, Calls Try.prog 7 #[.agg (lb.map byteV).toArray] wx fun e w' => e = .returned (sk (ofF lb 0) (ofF lb 1) (ofF lb 2) (ofF lb 3)) ∧ Fr none_ wx w' := fun wx => of_any lb wx hlb
  have HOF1 := Lib.hid hof1
  have HOF2 := Lib.hid hof2
  have HA := Lib.hid hla
  have HB := Lib.hid hlb
  clear hla hlb hof1 hof2
  go_enter Try.func4, Try.ntmps4
  go_upto_region 1 with fail
  go_cut [5, 6] (fun s5 s6 wx => ∃ g h : Nat, s5 = .pointer (some ⟨g, 0, none⟩) ∧ s6 = .pointer (some ⟨h, 0, none⟩) ∧ Fr none_ w wx ∧ wx.rangeAt w.heap.size 0 (la.map byteV) ∧ wx.rangeAt (w.heap.size + 1) 0 (lb.map byteV) ∧ wx.heap[g]? = some (.cells #[.int .u32 ((ofF la 0 : Nat) : Int), .int .u32 ((ofF la 1 : Nat) : Int), .int .u32 ((ofF la 2 : Nat) : Int), .int .u32 ((ofF la 3 : Nat) : Int)] 27 (0, 0)) ∧ wx.heap[h]? = some (.cells #[.int .u32 ((ofF lb 0 : Nat) : Int), .int .u32 ((ofF lb 1 : Nat) : Int), .int .u32 ((ofF lb 2 : Nat) : Int), .int .u32 ((ofF lb 3 : Nat) : Int)] 27 (0, 0)))
  case first =>
    have hFW : Fr none_ w ((w.alloc (Obj.cells (la.map byteV).toArray 23)).alloc (Obj.cells (lb.map byteV).toArray 23)) := ((Fr.refl _ _).alloc _).alloc _
    have ra : ((w.alloc (Obj.cells (la.map byteV).toArray 23)).alloc (Obj.cells (lb.map byteV).toArray 23)).rangeAt w.heap.size 0 (la.map byteV) := range_of_blk (heap_alloc_old (heap_alloc_new _ _) _)
    have rb : ((w.alloc (Obj.cells (la.map byteV).toArray 23)).alloc (Obj.cells (lb.map byteV).toArray 23)).rangeAt (w.heap.size + 1) 0 (lb.map byteV) := range_of_blk (heap_alloc_at (by simp) _)
    have u23 := Try.underlying23
    have i23 := size_block
    have la1 : (la.map byteV).length = 64 := by simpa using HA.out
    have lb1 : (lb.map byteV).length = 64 := by simpa using HB.out
    obtain ⟨W, hW⟩ : ∃ W, W = ((w.alloc (Obj.cells (la.map byteV).toArray 23)).alloc (Obj.cells (lb.map byteV).toArray 23)) := ⟨_, rfl⟩
    rw [← hW] at hFW ra rb ⊢
    clear hW
    have hst : ∀ wx, Fr none_ W wx → (wx.rangeAt w.heap.size 0 (la.map byteV) ∧ wx.rangeAt (w.heap.size + 1) 0 (lb.map byteV)) := fun wx hF => ⟨hF.rangeAt0 ra, hF.rangeAt0 rb⟩
    have HST := Lib.hid hst
    clear hst
    refine wp_region_held_drew (S := fun w' => (w'.rangeAt w.heap.size 0 (la.map byteV) ∧ w'.rangeAt (w.heap.size + 1) 0 (lb.map byteV))) (by kernel_rfl) ⟨ra, rb⟩ (fun hHeld0 => ?_)
    obtain ⟨V, hV⟩ : ∃ V, V = W.drew := ⟨_, rfl⟩
    rw [← hV] at hHeld0 ⊢
    have hF0 : Fr none_ W V := by rw [hV]; exact (Fr.refl _ _).drew
    clear hV
    refine' wpAnyH_take (i := 0) (oi := _) (v := _) rfl (by kernel_rfl) (by kernel_rfl) (by kernel_rfl) (fun _ _ _ h => h) (yieldsIf_load_mid (by rfl) _ _ rfl _ _ rfl (la.map byteV) _ ?hSa ?hua ?hda ?hia) (by assumption) ?resta
    case hSa => exact fun w' h => h.1
    case hua => exact u23
    case hda => rfl
    case hia => rw [la1]; exact i23
    try simp only [List.getElem_toArray, List.getElem_cons_zero, List.getElem_cons_succ, Act.put, List.setIfInBounds_toArray, List.set_cons_zero, List.set_cons_succ]
    refine' wpAnyH_take (i := 2) (oi := _) (v := _) rfl (by kernel_rfl) (by kernel_rfl) (by kernel_rfl) (fun _ _ _ h => h) (yieldsIf_load_mid (by rfl) _ _ rfl _ _ rfl (lb.map byteV) _ ?hSb ?hub ?hdb ?hib) (by assumption) ?restb
    case hSb => exact fun w' h => h.2
    case hub => exact u23
    case hdb => rfl
    case hib => rw [lb1]; exact i23
    try simp only [List.getElem_toArray, List.getElem_cons_zero, List.getElem_cons_succ, Act.put, List.setIfInBounds_toArray, List.set_cons_zero, List.set_cons_succ]
    refine wpAnyH_ready (rs := [1, 4, 5]) (by kernel_rfl) (by simp) ?_
    refine AllReadyH.cons (o := _) rfl (fun KK hKK => ?_) ?_
    · go_simp
      (go_at_call 7; (with_reducible refine (HOF1.out V).mono ?_); rintro e y1 ⟨rfl, hG1⟩)
      go_wp2_with fail
      have hF1 := hF0.trans hG1
      refine hKK.out _ _ ?hSz1 (fun hHeld1 => ?restz1)
      case hSz1 => exact HST.out _ hF1
      clear hKK KK
      try simp only [List.getElem_toArray, List.getElem_cons_zero, List.getElem_cons_succ, Act.put, List.setIfInBounds_toArray, List.set_cons_zero, List.set_cons_succ]
      refine wpAnyH_ready (rs := [3, 4, 5]) (by kernel_rfl) (by simp) ?_
      refine AllReadyH.cons (o := _) rfl (fun KK hKK => ?_) ?_
      · go_simp
        (go_at_call 7; (with_reducible refine (HOF2.out y1).mono ?_); rintro e y2 ⟨rfl, hG2⟩)
        go_wp2_with fail
        have hF2 := hF1.trans hG2
        refine hKK.out _ _ ?hSz2 (fun hHeld2 => ?restz2)
        case hSz2 => exact HST.out _ hF2
        clear hKK KK
        try simp only [List.getElem_toArray, List.getElem_cons_zero, List.getElem_cons_succ, Act.put, List.setIfInBounds_toArray, List.set_cons_zero, List.set_cons_succ]
        refine wpAnyH_ready (rs := [4, 5]) (by kernel_rfl) (by simp) ?_
        refine AllReadyH.cons (o := _) rfl (fun KK hKK => ?_) ?_
        · go_simp
          refine hKK.out _ _ ?hSz3 (fun hHeld3 => ?restz3)
          case hSz3 => exact HST.out _ (hF2.alloc _)
          clear hKK KK
          try simp only [List.getElem_toArray, List.getElem_cons_zero, List.getElem_cons_succ, Act.put, List.setIfInBounds_toArray, List.set_cons_zero, List.set_cons_succ]
          have hF3' := hF2.alloc (.cells #[.int .u32 0, .int .u32 0, .int .u32 0, .int .u32 0] 27)
          have hnew3' := heap_alloc_new y2 (.cells #[.int .u32 0, .int .u32 0, .int .u32 0, .int .u32 0] 27)
          have hlt3 := hF2.size
          obtain ⟨y3, hy3, hF3, hnew3⟩ : ∃ y3, y3 = World.alloc y2 (.cells #[.int .u32 0, .int .u32 0, .int .u32 0, .int .u32 0] 27) ∧ Fr none_ W y3 ∧ y3.heap[y2.heap.size]? = some (.cells #[.int .u32 0, .int .u32 0, .int .u32 0, .int .u32 0] 27 (0, 0)) := ⟨_, rfl, hF3', hnew3'⟩
          rw [← hy3] at hHeld3 ⊢
          clear hy3 hF3' hnew3'
          refine wpAnyH_ready (rs := [5]) (by kernel_rfl) (by simp) ?_
          refine AllReadyH.cons (o := _) rfl (fun KK hKK => ?_) ?_
          · go_simp
            refine hKK.out _ _ ?hSz4 (fun hHeld4 => ?restz4)
            case hSz4 => exact HST.out _ (hF3.alloc _)
            clear hKK KK
            try simp only [List.getElem_toArray, List.getElem_cons_zero, List.getElem_cons_succ, Act.put, List.setIfInBounds_toArray, List.set_cons_zero, List.set_cons_succ]
            have hF4' := hF3.alloc (.cells #[.int .u32 0, .int .u32 0, .int .u32 0, .int .u32 0] 27)
            have hnew4' := heap_alloc_new y3 (.cells #[.int .u32 0, .int .u32 0, .int .u32 0, .int .u32 0] 27)
            have hg4' := heap_alloc_old hnew3 (.cells #[.int .u32 0, .int .u32 0, .int .u32 0, .int .u32 0] 27)
            have hlt4 := hF3.size
            have hq4 := blk_lt hnew3
            obtain ⟨y4, hy4, hF4, hnew4, hg4⟩ : ∃ y4, y4 = World.alloc y3 (.cells #[.int .u32 0, .int .u32 0, .int .u32 0, .int .u32 0] 27) ∧ Fr none_ W y4 ∧ y4.heap[y3.heap.size]? = some (.cells #[.int .u32 0, .int .u32 0, .int .u32 0, .int .u32 0] 27 (0, 0)) ∧ y4.heap[y2.heap.size]? = some (.cells #[.int .u32 0, .int .u32 0, .int .u32 0, .int .u32 0] 27 (0, 0)) := ⟨_, rfl, hF4', hnew4', hg4'⟩
            rw [← hy4] at hHeld4 ⊢
            clear hy4 hF4' hnew4' hg4'
            have hne5 : y2.heap.size ≠ y3.heap.size := by omega
            obtain ⟨c0, c1, c2, c3, c4⟩ := z4_cells hg4
            refine wpAnyH_ready (rs := [6]) (by kernel_rfl) (by simp) ?_
            refine AllReadyH.cons (o := _) rfl (fun KK hKK => ?_) AllReadyH.nil
            go_simp
            obtain ⟨u5, hu5, hU5, hga5, hhb5⟩ := st4 (.int .u32 ((ofF la 0 : Nat) : Int)) (.int .u32 ((ofF la 1 : Nat) : Int)) (.int .u32 ((ofF la 2 : Nat) : Int)) (.int .u32 ((ofF la 3 : Nat) : Int)) hg4 hnew4 hne5
            have hFu5 := hF4.own hU5 (by omega)
            rw [← hu5]
            clear hu5
            refine hKK.out _ _ ?hSz5 (fun hHeld5 => ?restz5)
            case hSz5 => exact HST.out _ hFu5
            clear hKK KK
            try simp only [List.getElem_toArray, List.getElem_cons_zero, List.getElem_cons_succ, Act.put, List.setIfInBounds_toArray, List.set_cons_zero, List.set_cons_succ]
            clear c0 c1 c2 c3 c4
            obtain ⟨c0, c1, c2, c3, c4⟩ := z4_cells hhb5
            refine wpAnyH_ready (rs := [7]) (by kernel_rfl) (by simp) ?_
            refine AllReadyH.cons (o := _) rfl (fun KK hKK => ?_) AllReadyH.nil
            go_simp
            obtain ⟨u6, hu6, hU6, hha6, hgb6⟩ := st4 (.int .u32 ((ofF lb 0 : Nat) : Int)) (.int .u32 ((ofF lb 1 : Nat) : Int)) (.int .u32 ((ofF lb 2 : Nat) : Int)) (.int .u32 ((ofF lb 3 : Nat) : Int)) hhb5 hga5 (Ne.symm hne5)
            have hFu6 := hFu5.own hU6 (by omega)
            rw [← hu6]
            clear hu6
            refine hKK.out _ _ ?hSz6 (fun hHeld6 => ?restz6)
            case hSz6 => exact HST.out _ hFu6
            clear hKK KK
            try simp only [List.getElem_toArray, List.getElem_cons_zero, List.getElem_cons_succ, Act.put, List.setIfInBounds_toArray, List.set_cons_zero, List.set_cons_succ]
            refine wpAnyH_done (by kernel_rfl) ?_ _
            go_wp2_with fail
            go_meet
            case rel => exact ⟨_, _, rfl, rfl, hFW.trans hFu6, (HST.out _ hFu6).1, (HST.out _ hFu6).2, hgb6, hha6⟩
          exact AllReadyH.nil
        refine AllReadyH.cons (o := _) rfl (fun KK hKK => ?_) ?_
        · go_simp
          refine hKK.out _ _ ?hSz7 (fun hHeld7 => ?restz7)
          case hSz7 => exact HST.out _ (hF2.alloc _)
          clear hKK KK
          try simp only [List.getElem_toArray, List.getElem_cons_zero, List.getElem_cons_succ, Act.put, List.setIfInBounds_toArray, List.set_cons_zero, List.set_cons_succ]
          have hF7' := hF2.alloc (.cells #[.int .u32 0, .int .u32 0, .int .u32 0, .int .u32 0] 27)
          have hnew7' := heap_alloc_new y2 (.cells #[.int .u32 0, .int .u32 0, .int .u32 0, .int .u32 0] 27)
          have hlt7 := hF2.size
          obtain ⟨y7, hy7, hF7, hnew7⟩ : ∃ y7, y7 = World.alloc y2 (.cells #[.int .u32 0, .int .u32 0, .int .u32 0, .int .u32 0] 27) ∧ Fr none_ W y7 ∧ y7.heap[y2.heap.size]? = some (.cells #[.int .u32 0, .int .u32 0, .int .u32 0, .int .u32 0] 27 (0, 0)) := ⟨_, rfl, hF7', hnew7'⟩
          rw [← hy7] at hHeld7 ⊢
          clear hy7 hF7' hnew7'
          refine wpAnyH_ready (rs := [4]) (by kernel_rfl) (by simp) ?_
          refine AllReadyH.cons (o := _) rfl (fun KK hKK => ?_) ?_
          · go_simp
            refine hKK.out _ _ ?hSz8 (fun hHeld8 => ?restz8)
            case hSz8 => exact HST.out _ (hF7.alloc _)
            clear hKK KK
            try simp only [List.getElem_toArray, List.getElem_cons_zero, List.getElem_cons_succ, Act.put, List.setIfInBounds_toArray, List.set_cons_zero, List.set_cons_succ]
            have hF8' := hF7.alloc (.cells #[.int .u32 0, .int .u32 0, .int .u32 0, .int .u32 0] 27)
            have hnew8' := heap_alloc_new y7 (.cells #[.int .u32 0, .int .u32 0, .int .u32 0, .int .u32 0] 27)
            have hh8' := heap_alloc_old hnew7 (.cells #[.int .u32 0, .int .u32 0, .int .u32 0, .int .u32 0] 27)
            have hlt8 := hF7.size
            have hr8 := blk_lt hnew7
            obtain ⟨y8, hy8, hF8, hnew8, hh8⟩ : ∃ y8, y8 = World.alloc y7 (.cells #[.int .u32 0, .int .u32 0, .int .u32 0, .int .u32 0] 27) ∧ Fr none_ W y8 ∧ y8.heap[y7.heap.size]? = some (.cells #[.int .u32 0, .int .u32 0, .int .u32 0, .int .u32 0] 27 (0, 0)) ∧ y8.heap[y2.heap.size]? = some (.cells #[.int .u32 0, .int .u32 0, .int .u32 0, .int .u32 0] 27 (0, 0)) := ⟨_, rfl, hF8', hnew8', hh8'⟩
            rw [← hy8] at hHeld8 ⊢
            clear hy8 hF8' hnew8' hh8'
            have hne9 : y7.heap.size ≠ y2.heap.size := by omega
            obtain ⟨c0, c1, c2, c3, c4⟩ := z4_cells hnew8
            refine wpAnyH_ready (rs := [6]) (by kernel_rfl) (by simp) ?_
            refine AllReadyH.cons (o := _) rfl (fun KK hKK => ?_) AllReadyH.nil
            go_simp
            obtain ⟨u9, hu9, hU9, hga9, hhb9⟩ := st4 (.int .u32 ((ofF la 0 : Nat) : Int)) (.int .u32 ((ofF la 1 : Nat) : Int)) (.int .u32 ((ofF la 2 : Nat) : Int)) (.int .u32 ((ofF la 3 : Nat) : Int)) hnew8 hh8 hne9
            have hFu9 := hF8.own hU9 (by omega)
            rw [← hu9]
            clear hu9
            refine hKK.out _ _ ?hSz9 (fun hHeld9 => ?restz9)
            case hSz9 => exact HST.out _ hFu9
            clear hKK KK
            try simp only [List.getElem_toArray, List.getElem_cons_zero, List.getElem_cons_succ, Act.put, List.setIfInBounds_toArray, List.set_cons_zero, List.set_cons_succ]
            clear c0 c1 c2 c3 c4
            obtain ⟨c0, c1, c2, c3, c4⟩ := z4_cells hhb9
            refine wpAnyH_ready (rs := [7]) (by kernel_rfl) (by simp) ?_
            refine AllReadyH.cons (o := _) rfl (fun KK hKK => ?_) AllReadyH.nil
            go_simp
            obtain ⟨u10, hu10, hU10, hha10, hgb10⟩ := st4 (.int .u32 ((ofF lb 0 : Nat) : Int)) (.int .u32 ((ofF lb 1 : Nat) : Int)) (.int .u32 ((ofF lb 2 : Nat) : Int)) (.int .u32 ((ofF lb 3 : Nat) : Int)) hhb9 hga9 (Ne.symm hne9)
            have hFu10 := hFu9.own hU10 (by omega)
            rw [← hu10]
            clear hu10
            refine hKK.out _ _ ?hSz10 (fun hHeld10 => ?restz10)
            case hSz10 => exact HST.out _ hFu10
            clear hKK KK
            try simp only [List.getElem_toArray, List.getElem_cons_zero, List.getElem_cons_succ, Act.put, List.setIfInBounds_toArray, List.set_cons_zero, List.set_cons_succ]
            refine wpAnyH_done (by kernel_rfl) ?_ _
            go_wp2_with fail
            go_meet
            case rel => exact ⟨_, _, rfl, rfl, hFW.trans hFu10, (HST.out _ hFu10).1, (HST.out _ hFu10).2, hgb10, hha10⟩
          exact AllReadyH.nil
        exact AllReadyH.nil
      refine AllReadyH.cons (o := _) rfl (fun KK hKK => ?_) ?_
      · go_simp
        refine hKK.out _ _ ?hSz11 (fun hHeld11 => ?restz11)
        case hSz11 => exact HST.out _ (hF1.alloc _)
        clear hKK KK
        try simp only [List.getElem_toArray, List.getElem_cons_zero, List.getElem_cons_succ, Act.put, List.setIfInBounds_toArray, List.set_cons_zero, List.set_cons_succ]
        have hF11' := hF1.alloc (.cells #[.int .u32 0, .int .u32 0, .int .u32 0, .int .u32 0] 27)
        have hnew11' := heap_alloc_new y1 (.cells #[.int .u32 0, .int .u32 0, .int .u32 0, .int .u32 0] 27)
        have hlt11 := hF1.size
        obtain ⟨y11, hy11, hF11, hnew11⟩ : ∃ y11, y11 = World.alloc y1 (.cells #[.int .u32 0, .int .u32 0, .int .u32 0, .int .u32 0] 27) ∧ Fr none_ W y11 ∧ y11.heap[y1.heap.size]? = some (.cells #[.int .u32 0, .int .u32 0, .int .u32 0, .int .u32 0] 27 (0, 0)) := ⟨_, rfl, hF11', hnew11'⟩
        rw [← hy11] at hHeld11 ⊢
        clear hy11 hF11' hnew11'
        refine wpAnyH_ready (rs := [3, 5]) (by kernel_rfl) (by simp) ?_
        refine AllReadyH.cons (o := _) rfl (fun KK hKK => ?_) ?_
        · go_simp
          (go_at_call 7; (with_reducible refine (HOF2.out y11).mono ?_); rintro e y12 ⟨rfl, hG12⟩)
          go_wp2_with fail
          have hF12 := hF11.trans hG12
          have hg12 := hG12.heap0 hnew11
          refine hKK.out _ _ ?hSz12 (fun hHeld12 => ?restz12)
          case hSz12 => exact HST.out _ hF12
          clear hKK KK
          try simp only [List.getElem_toArray, List.getElem_cons_zero, List.getElem_cons_succ, Act.put, List.setIfInBounds_toArray, List.set_cons_zero, List.set_cons_succ]
          refine wpAnyH_ready (rs := [5]) (by kernel_rfl) (by simp) ?_
          refine AllReadyH.cons (o := _) rfl (fun KK hKK => ?_) ?_
          · go_simp
            refine hKK.out _ _ ?hSz13 (fun hHeld13 => ?restz13)
            case hSz13 => exact HST.out _ (hF12.alloc _)
            clear hKK KK
            try simp only [List.getElem_toArray, List.getElem_cons_zero, List.getElem_cons_succ, Act.put, List.setIfInBounds_toArray, List.set_cons_zero, List.set_cons_succ]
            have hF13' := hF12.alloc (.cells #[.int .u32 0, .int .u32 0, .int .u32 0, .int .u32 0] 27)
            have hnew13' := heap_alloc_new y12 (.cells #[.int .u32 0, .int .u32 0, .int .u32 0, .int .u32 0] 27)
            have hg13' := heap_alloc_old hg12 (.cells #[.int .u32 0, .int .u32 0, .int .u32 0, .int .u32 0] 27)
            have hlt13 := hF12.size
            have hq13 := blk_lt hg12
            obtain ⟨y13, hy13, hF13, hnew13, hg13⟩ : ∃ y13, y13 = World.alloc y12 (.cells #[.int .u32 0, .int .u32 0, .int .u32 0, .int .u32 0] 27) ∧ Fr none_ W y13 ∧ y13.heap[y12.heap.size]? = some (.cells #[.int .u32 0, .int .u32 0, .int .u32 0, .int .u32 0] 27 (0, 0)) ∧ y13.heap[y1.heap.size]? = some (.cells #[.int .u32 0, .int .u32 0, .int .u32 0, .int .u32 0] 27 (0, 0)) := ⟨_, rfl, hF13', hnew13', hg13'⟩
            rw [← hy13] at hHeld13 ⊢
            clear hy13 hF13' hnew13' hg13'
            have hne14 : y1.heap.size ≠ y12.heap.size := by omega
            obtain ⟨c0, c1, c2, c3, c4⟩ := z4_cells hg13
            refine wpAnyH_ready (rs := [6]) (by kernel_rfl) (by simp) ?_
            refine AllReadyH.cons (o := _) rfl (fun KK hKK => ?_) AllReadyH.nil
            go_simp
            obtain ⟨u14, hu14, hU14, hga14, hhb14⟩ := st4 (.int .u32 ((ofF la 0 : Nat) : Int)) (.int .u32 ((ofF la 1 : Nat) : Int)) (.int .u32 ((ofF la 2 : Nat) : Int)) (.int .u32 ((ofF la 3 : Nat) : Int)) hg13 hnew13 hne14
            have hFu14 := hF13.own hU14 (by omega)
            rw [← hu14]
            clear hu14
            refine hKK.out _ _ ?hSz14 (fun hHeld14 => ?restz14)
            case hSz14 => exact HST.out _ hFu14
            clear hKK KK
            try simp only [List.getElem_toArray, List.getElem_cons_zero, List.getElem_cons_succ, Act.put, List.setIfInBounds_toArray, List.set_cons_zero, List.set_cons_succ]
            clear c0 c1 c2 c3 c4
            obtain ⟨c0, c1, c2, c3, c4⟩ := z4_cells hhb14
            refine wpAnyH_ready (rs := [7]) (by kernel_rfl) (by simp) ?_
            refine AllReadyH.cons (o := _) rfl (fun KK hKK => ?_) AllReadyH.nil
            go_simp
            obtain ⟨u15, hu15, hU15, hha15, hgb15⟩ := st4 (.int .u32 ((ofF lb 0 : Nat) : Int)) (.int .u32 ((ofF lb 1 : Nat) : Int)) (.int .u32 ((ofF lb 2 : Nat) : Int)) (.int .u32 ((ofF lb 3 : Nat) : Int)) hhb14 hga14 (Ne.symm hne14)
            have hFu15 := hFu14.own hU15 (by omega)
            rw [← hu15]
            clear hu15
            refine hKK.out _ _ ?hSz15 (fun hHeld15 => ?restz15)
            case hSz15 => exact HST.out _ hFu15
            clear hKK KK
            try simp only [List.getElem_toArray, List.getElem_cons_zero, List.getElem_cons_succ, Act.put, List.setIfInBounds_toArray, List.set_cons_zero, List.set_cons_succ]
            refine wpAnyH_done (by kernel_rfl) ?_ _
            go_wp2_with fail
            go_meet
            case rel => exact ⟨_, _, rfl, rfl, hFW.trans hFu15, (HST.out _ hFu15).1, (HST.out _ hFu15).2, hgb15, hha15⟩
          exact AllReadyH.nil
        refine AllReadyH.cons (o := _) rfl (fun KK hKK => ?_) ?_
        · go_simp
          refine hKK.out _ _ ?hSz16 (fun hHeld16 => ?restz16)
          case hSz16 => exact HST.out _ (hF11.alloc _)
          clear hKK KK
          try simp only [List.getElem_toArray, List.getElem_cons_zero, List.getElem_cons_succ, Act.put, List.setIfInBounds_toArray, List.set_cons_zero, List.set_cons_succ]
          have hF16' := hF11.alloc (.cells #[.int .u32 0, .int .u32 0, .int .u32 0, .int .u32 0] 27)
          have hnew16' := heap_alloc_new y11 (.cells #[.int .u32 0, .int .u32 0, .int .u32 0, .int .u32 0] 27)
          have hg16' := heap_alloc_old hnew11 (.cells #[.int .u32 0, .int .u32 0, .int .u32 0, .int .u32 0] 27)
          have hlt16 := hF11.size
          have hq16 := blk_lt hnew11
          obtain ⟨y16, hy16, hF16, hnew16, hg16⟩ : ∃ y16, y16 = World.alloc y11 (.cells #[.int .u32 0, .int .u32 0, .int .u32 0, .int .u32 0] 27) ∧ Fr none_ W y16 ∧ y16.heap[y11.heap.size]? = some (.cells #[.int .u32 0, .int .u32 0, .int .u32 0, .int .u32 0] 27 (0, 0)) ∧ y16.heap[y1.heap.size]? = some (.cells #[.int .u32 0, .int .u32 0, .int .u32 0, .int .u32 0] 27 (0, 0)) := ⟨_, rfl, hF16', hnew16', hg16'⟩
          rw [← hy16] at hHeld16 ⊢
          clear hy16 hF16' hnew16' hg16'
          refine wpAnyH_ready (rs := [3]) (by kernel_rfl) (by simp) ?_
          refine AllReadyH.cons (o := _) rfl (fun KK hKK => ?_) ?_
          · go_simp
            (go_at_call 7; (with_reducible refine (HOF2.out y16).mono ?_); rintro e y17 ⟨rfl, hG17⟩)
            go_wp2_with fail
            have hF17 := hF16.trans hG17
            have hg17 := hG17.heap0 hg16
            have hh17 := hG17.heap0 hnew16
            refine hKK.out _ _ ?hSz17 (fun hHeld17 => ?restz17)
            case hSz17 => exact HST.out _ hF17
            clear hKK KK
            try simp only [List.getElem_toArray, List.getElem_cons_zero, List.getElem_cons_succ, Act.put, List.setIfInBounds_toArray, List.set_cons_zero, List.set_cons_succ]
            have hne18 : y1.heap.size ≠ y11.heap.size := by omega
            obtain ⟨c0, c1, c2, c3, c4⟩ := z4_cells hg17
            refine wpAnyH_ready (rs := [6]) (by kernel_rfl) (by simp) ?_
            refine AllReadyH.cons (o := _) rfl (fun KK hKK => ?_) AllReadyH.nil
            go_simp
            obtain ⟨u18, hu18, hU18, hga18, hhb18⟩ := st4 (.int .u32 ((ofF la 0 : Nat) : Int)) (.int .u32 ((ofF la 1 : Nat) : Int)) (.int .u32 ((ofF la 2 : Nat) : Int)) (.int .u32 ((ofF la 3 : Nat) : Int)) hg17 hh17 hne18
            have hFu18 := hF17.own hU18 (by omega)
            rw [← hu18]
            clear hu18
            refine hKK.out _ _ ?hSz18 (fun hHeld18 => ?restz18)
            case hSz18 => exact HST.out _ hFu18
            clear hKK KK
            try simp only [List.getElem_toArray, List.getElem_cons_zero, List.getElem_cons_succ, Act.put, List.setIfInBounds_toArray, List.set_cons_zero, List.set_cons_succ]
            clear c0 c1 c2 c3 c4
            obtain ⟨c0, c1, c2, c3, c4⟩ := z4_cells hhb18
            refine wpAnyH_ready (rs := [7]) (by kernel_rfl) (by simp) ?_
            refine AllReadyH.cons (o := _) rfl (fun KK hKK => ?_) AllReadyH.nil
            go_simp
            obtain ⟨u19, hu19, hU19, hha19, hgb19⟩ := st4 (.int .u32 ((ofF lb 0 : Nat) : Int)) (.int .u32 ((ofF lb 1 : Nat) : Int)) (.int .u32 ((ofF lb 2 : Nat) : Int)) (.int .u32 ((ofF lb 3 : Nat) : Int)) hhb18 hga18 (Ne.symm hne18)
            have hFu19 := hFu18.own hU19 (by omega)
            rw [← hu19]
            clear hu19
            refine hKK.out _ _ ?hSz19 (fun hHeld19 => ?restz19)
            case hSz19 => exact HST.out _ hFu19
            clear hKK KK
            try simp only [List.getElem_toArray, List.getElem_cons_zero, List.getElem_cons_succ, Act.put, List.setIfInBounds_toArray, List.set_cons_zero, List.set_cons_succ]
            refine wpAnyH_done (by kernel_rfl) ?_ _
            go_wp2_with fail
            go_meet
            case rel => exact ⟨_, _, rfl, rfl, hFW.trans hFu19, (HST.out _ hFu19).1, (HST.out _ hFu19).2, hgb19, hha19⟩
          exact AllReadyH.nil
        exact AllReadyH.nil
      refine AllReadyH.cons (o := _) rfl (fun KK hKK => ?_) ?_
      · go_simp
        refine hKK.out _ _ ?hSz20 (fun hHeld20 => ?restz20)
        case hSz20 => exact HST.out _ (hF1.alloc _)
        clear hKK KK
        try simp only [List.getElem_toArray, List.getElem_cons_zero, List.getElem_cons_succ, Act.put, List.setIfInBounds_toArray, List.set_cons_zero, List.set_cons_succ]
        have hF20' := hF1.alloc (.cells #[.int .u32 0, .int .u32 0, .int .u32 0, .int .u32 0] 27)
        have hnew20' := heap_alloc_new y1 (.cells #[.int .u32 0, .int .u32 0, .int .u32 0, .int .u32 0] 27)
        have hlt20 := hF1.size
        obtain ⟨y20, hy20, hF20, hnew20⟩ : ∃ y20, y20 = World.alloc y1 (.cells #[.int .u32 0, .int .u32 0, .int .u32 0, .int .u32 0] 27) ∧ Fr none_ W y20 ∧ y20.heap[y1.heap.size]? = some (.cells #[.int .u32 0, .int .u32 0, .int .u32 0, .int .u32 0] 27 (0, 0)) := ⟨_, rfl, hF20', hnew20'⟩
        rw [← hy20] at hHeld20 ⊢
        clear hy20 hF20' hnew20'
        refine wpAnyH_ready (rs := [3, 4]) (by kernel_rfl) (by simp) ?_
        refine AllReadyH.cons (o := _) rfl (fun KK hKK => ?_) ?_
        · go_simp
          (go_at_call 7; (with_reducible refine (HOF2.out y20).mono ?_); rintro e y21 ⟨rfl, hG21⟩)
          go_wp2_with fail
          have hF21 := hF20.trans hG21
          have hh21 := hG21.heap0 hnew20
          refine hKK.out _ _ ?hSz21 (fun hHeld21 => ?restz21)
          case hSz21 => exact HST.out _ hF21
          clear hKK KK
          try simp only [List.getElem_toArray, List.getElem_cons_zero, List.getElem_cons_succ, Act.put, List.setIfInBounds_toArray, List.set_cons_zero, List.set_cons_succ]
          refine wpAnyH_ready (rs := [4]) (by kernel_rfl) (by simp) ?_
          refine AllReadyH.cons (o := _) rfl (fun KK hKK => ?_) ?_
          · go_simp
            refine hKK.out _ _ ?hSz22 (fun hHeld22 => ?restz22)
            case hSz22 => exact HST.out _ (hF21.alloc _)
            clear hKK KK
            try simp only [List.getElem_toArray, List.getElem_cons_zero, List.getElem_cons_succ, Act.put, List.setIfInBounds_toArray, List.set_cons_zero, List.set_cons_succ]
            have hF22' := hF21.alloc (.cells #[.int .u32 0, .int .u32 0, .int .u32 0, .int .u32 0] 27)
            have hnew22' := heap_alloc_new y21 (.cells #[.int .u32 0, .int .u32 0, .int .u32 0, .int .u32 0] 27)
            have hh22' := heap_alloc_old hh21 (.cells #[.int .u32 0, .int .u32 0, .int .u32 0, .int .u32 0] 27)
            have hlt22 := hF21.size
            have hr22 := blk_lt hh21
            obtain ⟨y22, hy22, hF22, hnew22, hh22⟩ : ∃ y22, y22 = World.alloc y21 (.cells #[.int .u32 0, .int .u32 0, .int .u32 0, .int .u32 0] 27) ∧ Fr none_ W y22 ∧ y22.heap[y21.heap.size]? = some (.cells #[.int .u32 0, .int .u32 0, .int .u32 0, .int .u32 0] 27 (0, 0)) ∧ y22.heap[y1.heap.size]? = some (.cells #[.int .u32 0, .int .u32 0, .int .u32 0, .int .u32 0] 27 (0, 0)) := ⟨_, rfl, hF22', hnew22', hh22'⟩
            rw [← hy22] at hHeld22 ⊢
            clear hy22 hF22' hnew22' hh22'
            have hne23 : y21.heap.size ≠ y1.heap.size := by omega
            obtain ⟨c0, c1, c2, c3, c4⟩ := z4_cells hnew22
            refine wpAnyH_ready (rs := [6]) (by kernel_rfl) (by simp) ?_
            refine AllReadyH.cons (o := _) rfl (fun KK hKK => ?_) AllReadyH.nil
            go_simp
            obtain ⟨u23, hu23, hU23, hga23, hhb23⟩ := st4 (.int .u32 ((ofF la 0 : Nat) : Int)) (.int .u32 ((ofF la 1 : Nat) : Int)) (.int .u32 ((ofF la 2 : Nat) : Int)) (.int .u32 ((ofF la 3 : Nat) : Int)) hnew22 hh22 hne23
            have hFu23 := hF22.own hU23 (by omega)
            rw [← hu23]
            clear hu23
            refine hKK.out _ _ ?hSz23 (fun hHeld23 => ?restz23)
            case hSz23 => exact HST.out _ hFu23
            clear hKK KK
            try simp only [List.getElem_toArray, List.getElem_cons_zero, List.getElem_cons_succ, Act.put, List.setIfInBounds_toArray, List.set_cons_zero, List.set_cons_succ]
            clear c0 c1 c2 c3 c4
            obtain ⟨c0, c1, c2, c3, c4⟩ := z4_cells hhb23
            refine wpAnyH_ready (rs := [7]) (by kernel_rfl) (by simp) ?_
            refine AllReadyH.cons (o := _) rfl (fun KK hKK => ?_) AllReadyH.nil
            go_simp
            obtain ⟨u24, hu24, hU24, hha24, hgb24⟩ := st4 (.int .u32 ((ofF lb 0 : Nat) : Int)) (.int .u32 ((ofF lb 1 : Nat) : Int)) (.int .u32 ((ofF lb 2 : Nat) : Int)) (.int .u32 ((ofF lb 3 : Nat) : Int)) hhb23 hga23 (Ne.symm hne23)
            have hFu24 := hFu23.own hU24 (by omega)
            rw [← hu24]
            clear hu24
            refine hKK.out _ _ ?hSz24 (fun hHeld24 => ?restz24)
            case hSz24 => exact HST.out _ hFu24
            clear hKK KK
            try simp only [List.getElem_toArray, List.getElem_cons_zero, List.getElem_cons_succ, Act.put, List.setIfInBounds_toArray, List.set_cons_zero, List.set_cons_succ]
            refine wpAnyH_done (by kernel_rfl) ?_ _
            go_wp2_with fail
            go_meet
            case rel => exact ⟨_, _, rfl, rfl, hFW.trans hFu24, (HST.out _ hFu24).1, (HST.out _ hFu24).2, hgb24, hha24⟩
          exact AllReadyH.nil
        refine AllReadyH.cons (o := _) rfl (fun KK hKK => ?_) ?_
        · go_simp
          refine hKK.out _ _ ?hSz25 (fun hHeld25 => ?restz25)
          case hSz25 => exact HST.out _ (hF20.alloc _)
          clear hKK KK
          try simp only [List.getElem_toArray, List.getElem_cons_zero, List.getElem_cons_succ, Act.put, List.setIfInBounds_toArray, List.set_cons_zero, List.set_cons_succ]
          have hF25' := hF20.alloc (.cells #[.int .u32 0, .int .u32 0, .int .u32 0, .int .u32 0] 27)
          have hnew25' := heap_alloc_new y20 (.cells #[.int .u32 0, .int .u32 0, .int .u32 0, .int .u32 0] 27)
          have hh25' := heap_alloc_old hnew20 (.cells #[.int .u32 0, .int .u32 0, .int .u32 0, .int .u32 0] 27)
          have hlt25 := hF20.size
          have hr25 := blk_lt hnew20
          obtain ⟨y25, hy25, hF25, hnew25, hh25⟩ : ∃ y25, y25 = World.alloc y20 (.cells #[.int .u32 0, .int .u32 0, .int .u32 0, .int .u32 0] 27) ∧ Fr none_ W y25 ∧ y25.heap[y20.heap.size]? = some (.cells #[.int .u32 0, .int .u32 0, .int .u32 0, .int .u32 0] 27 (0, 0)) ∧ y25.heap[y1.heap.size]? = some (.cells #[.int .u32 0, .int .u32 0, .int .u32 0, .int .u32 0] 27 (0, 0)) := ⟨_, rfl, hF25', hnew25', hh25'⟩
          rw [← hy25] at hHeld25 ⊢
          clear hy25 hF25' hnew25' hh25'
          refine wpAnyH_ready (rs := [3]) (by kernel_rfl) (by simp) ?_
          refine AllReadyH.cons (o := _) rfl (fun KK hKK => ?_) ?_
          · go_simp
            (go_at_call 7; (with_reducible refine (HOF2.out y25).mono ?_); rintro e y26 ⟨rfl, hG26⟩)
            go_wp2_with fail
            have hF26 := hF25.trans hG26
            have hg26 := hG26.heap0 hnew25
            have hh26 := hG26.heap0 hh25
            refine hKK.out _ _ ?hSz26 (fun hHeld26 => ?restz26)
            case hSz26 => exact HST.out _ hF26
            clear hKK KK
            try simp only [List.getElem_toArray, List.getElem_cons_zero, List.getElem_cons_succ, Act.put, List.setIfInBounds_toArray, List.set_cons_zero, List.set_cons_succ]
            have hne27 : y20.heap.size ≠ y1.heap.size := by omega
            obtain ⟨c0, c1, c2, c3, c4⟩ := z4_cells hg26
            refine wpAnyH_ready (rs := [6]) (by kernel_rfl) (by simp) ?_
            refine AllReadyH.cons (o := _) rfl (fun KK hKK => ?_) AllReadyH.nil
            go_simp
            obtain ⟨u27, hu27, hU27, hga27, hhb27⟩ := st4 (.int .u32 ((ofF la 0 : Nat) : Int)) (.int .u32 ((ofF la 1 : Nat) : Int)) (.int .u32 ((ofF la 2 : Nat) : Int)) (.int .u32 ((ofF la 3 : Nat) : Int)) hg26 hh26 hne27
            have hFu27 := hF26.own hU27 (by omega)
            rw [← hu27]
            clear hu27
            refine hKK.out _ _ ?hSz27 (fun hHeld27 => ?restz27)
            case hSz27 => exact HST.out _ hFu27
            clear hKK KK
            try simp only [List.getElem_toArray, List.getElem_cons_zero, List.getElem_cons_succ, Act.put, List.setIfInBounds_toArray, List.set_cons_zero, List.set_cons_succ]
            clear c0 c1 c2 c3 c4
            obtain ⟨c0, c1, c2, c3, c4⟩ := z4_cells hhb27
            refine wpAnyH_ready (rs := [7]) (by kernel_rfl) (by simp) ?_
            refine AllReadyH.cons (o := _) rfl (fun KK hKK => ?_) AllReadyH.nil
            go_simp
            obtain ⟨u28, hu28, hU28, hha28, hgb28⟩ := st4 (.int .u32 ((ofF lb 0 : Nat) : Int)) (.int .u32 ((ofF lb 1 : Nat) : Int)) (.int .u32 ((ofF lb 2 : Nat) : Int)) (.int .u32 ((ofF lb 3 : Nat) : Int)) hhb27 hga27 (Ne.symm hne27)
            have hFu28 := hFu27.own hU28 (by omega)
            rw [← hu28]
            clear hu28
            refine hKK.out _ _ ?hSz28 (fun hHeld28 => ?restz28)
            case hSz28 => exact HST.out _ hFu28
            clear hKK KK
            try simp only [List.getElem_toArray, List.getElem_cons_zero, List.getElem_cons_succ, Act.put, List.setIfInBounds_toArray, List.set_cons_zero, List.set_cons_succ]
            refine wpAnyH_done (by kernel_rfl) ?_ _
            go_wp2_with fail
            go_meet
            case rel => exact ⟨_, _, rfl, rfl, hFW.trans hFu28, (HST.out _ hFu28).1, (HST.out _ hFu28).2, hgb28, hha28⟩
          exact AllReadyH.nil
        exact AllReadyH.nil
      exact AllReadyH.nil
    refine AllReadyH.cons (o := _) rfl (fun KK hKK => ?_) ?_
    · go_simp
      refine hKK.out _ _ ?hSz29 (fun hHeld29 => ?restz29)
      case hSz29 => exact HST.out _ (hF0.alloc _)
      clear hKK KK
      try simp only [List.getElem_toArray, List.getElem_cons_zero, List.getElem_cons_succ, Act.put, List.setIfInBounds_toArray, List.set_cons_zero, List.set_cons_succ]
      have hF29' := hF0.alloc (.cells #[.int .u32 0, .int .u32 0, .int .u32 0, .int .u32 0] 27)
      have hnew29' := heap_alloc_new V (.cells #[.int .u32 0, .int .u32 0, .int .u32 0, .int .u32 0] 27)
      have hlt29 := hF0.size
      obtain ⟨y29, hy29, hF29, hnew29⟩ : ∃ y29, y29 = World.alloc V (.cells #[.int .u32 0, .int .u32 0, .int .u32 0, .int .u32 0] 27) ∧ Fr none_ W y29 ∧ y29.heap[V.heap.size]? = some (.cells #[.int .u32 0, .int .u32 0, .int .u32 0, .int .u32 0] 27 (0, 0)) := ⟨_, rfl, hF29', hnew29'⟩
      rw [← hy29] at hHeld29 ⊢
      clear hy29 hF29' hnew29'
      refine wpAnyH_ready (rs := [1, 5]) (by kernel_rfl) (by simp) ?_
      refine AllReadyH.cons (o := _) rfl (fun KK hKK => ?_) ?_
      · go_simp
        (go_at_call 7; (with_reducible refine (HOF1.out y29).mono ?_); rintro e y30 ⟨rfl, hG30⟩)
        go_wp2_with fail
        have hF30 := hF29.trans hG30
        have hg30 := hG30.heap0 hnew29
        refine hKK.out _ _ ?hSz30 (fun hHeld30 => ?restz30)
        case hSz30 => exact HST.out _ hF30
        clear hKK KK
        try simp only [List.getElem_toArray, List.getElem_cons_zero, List.getElem_cons_succ, Act.put, List.setIfInBounds_toArray, List.set_cons_zero, List.set_cons_succ]
        refine wpAnyH_ready (rs := [3, 5]) (by kernel_rfl) (by simp) ?_
        refine AllReadyH.cons (o := _) rfl (fun KK hKK => ?_) ?_
        · go_simp
          (go_at_call 7; (with_reducible refine (HOF2.out y30).mono ?_); rintro e y31 ⟨rfl, hG31⟩)
          go_wp2_with fail
          have hF31 := hF30.trans hG31
          have hg31 := hG31.heap0 hg30
          refine hKK.out _ _ ?hSz31 (fun hHeld31 => ?restz31)
          case hSz31 => exact HST.out _ hF31
          clear hKK KK
          try simp only [List.getElem_toArray, List.getElem_cons_zero, List.getElem_cons_succ, Act.put, List.setIfInBounds_toArray, List.set_cons_zero, List.set_cons_succ]
          refine wpAnyH_ready (rs := [5]) (by kernel_rfl) (by simp) ?_
          refine AllReadyH.cons (o := _) rfl (fun KK hKK => ?_) ?_
          · go_simp
            refine hKK.out _ _ ?hSz32 (fun hHeld32 => ?restz32)
            case hSz32 => exact HST.out _ (hF31.alloc _)
            clear hKK KK
            try simp only [List.getElem_toArray, List.getElem_cons_zero, List.getElem_cons_succ, Act.put, List.setIfInBounds_toArray, List.set_cons_zero, List.set_cons_succ]
            have hF32' := hF31.alloc (.cells #[.int .u32 0, .int .u32 0, .int .u32 0, .int .u32 0] 27)
            have hnew32' := heap_alloc_new y31 (.cells #[.int .u32 0, .int .u32 0, .int .u32 0, .int .u32 0] 27)
            have hg32' := heap_alloc_old hg31 (.cells #[.int .u32 0, .int .u32 0, .int .u32 0, .int .u32 0] 27)
            have hlt32 := hF31.size
            have hq32 := blk_lt hg31
            obtain ⟨y32, hy32, hF32, hnew32, hg32⟩ : ∃ y32, y32 = World.alloc y31 (.cells #[.int .u32 0, .int .u32 0, .int .u32 0, .int .u32 0] 27) ∧ Fr none_ W y32 ∧ y32.heap[y31.heap.size]? = some (.cells #[.int .u32 0, .int .u32 0, .int .u32 0, .int .u32 0] 27 (0, 0)) ∧ y32.heap[V.heap.size]? = some (.cells #[.int .u32 0, .int .u32 0, .int .u32 0, .int .u32 0] 27 (0, 0)) := ⟨_, rfl, hF32', hnew32', hg32'⟩
            rw [← hy32] at hHeld32 ⊢
            clear hy32 hF32' hnew32' hg32'
            have hne33 : V.heap.size ≠ y31.heap.size := by omega
            obtain ⟨c0, c1, c2, c3, c4⟩ := z4_cells hg32
            refine wpAnyH_ready (rs := [6]) (by kernel_rfl) (by simp) ?_
            refine AllReadyH.cons (o := _) rfl (fun KK hKK => ?_) AllReadyH.nil
            go_simp
            obtain ⟨u33, hu33, hU33, hga33, hhb33⟩ := st4 (.int .u32 ((ofF la 0 : Nat) : Int)) (.int .u32 ((ofF la 1 : Nat) : Int)) (.int .u32 ((ofF la 2 : Nat) : Int)) (.int .u32 ((ofF la 3 : Nat) : Int)) hg32 hnew32 hne33
            have hFu33 := hF32.own hU33 (by omega)
            rw [← hu33]
            clear hu33
            refine hKK.out _ _ ?hSz33 (fun hHeld33 => ?restz33)
            case hSz33 => exact HST.out _ hFu33
            clear hKK KK
            try simp only [List.getElem_toArray, List.getElem_cons_zero, List.getElem_cons_succ, Act.put, List.setIfInBounds_toArray, List.set_cons_zero, List.set_cons_succ]
            clear c0 c1 c2 c3 c4
            obtain ⟨c0, c1, c2, c3, c4⟩ := z4_cells hhb33
            refine wpAnyH_ready (rs := [7]) (by kernel_rfl) (by simp) ?_
            refine AllReadyH.cons (o := _) rfl (fun KK hKK => ?_) AllReadyH.nil
            go_simp
            obtain ⟨u34, hu34, hU34, hha34, hgb34⟩ := st4 (.int .u32 ((ofF lb 0 : Nat) : Int)) (.int .u32 ((ofF lb 1 : Nat) : Int)) (.int .u32 ((ofF lb 2 : Nat) : Int)) (.int .u32 ((ofF lb 3 : Nat) : Int)) hhb33 hga33 (Ne.symm hne33)
            have hFu34 := hFu33.own hU34 (by omega)
            rw [← hu34]
            clear hu34
            refine hKK.out _ _ ?hSz34 (fun hHeld34 => ?restz34)
            case hSz34 => exact HST.out _ hFu34
            clear hKK KK
            try simp only [List.getElem_toArray, List.getElem_cons_zero, List.getElem_cons_succ, Act.put, List.setIfInBounds_toArray, List.set_cons_zero, List.set_cons_succ]
            refine wpAnyH_done (by kernel_rfl) ?_ _
            go_wp2_with fail
            go_meet
            case rel => exact ⟨_, _, rfl, rfl, hFW.trans hFu34, (HST.out _ hFu34).1, (HST.out _ hFu34).2, hgb34, hha34⟩
          exact AllReadyH.nil
        refine AllReadyH.cons (o := _) rfl (fun KK hKK => ?_) ?_
        · go_simp
          refine hKK.out _ _ ?hSz35 (fun hHeld35 => ?restz35)
          case hSz35 => exact HST.out _ (hF30.alloc _)
          clear hKK KK
          try simp only [List.getElem_toArray, List.getElem_cons_zero, List.getElem_cons_succ, Act.put, List.setIfInBounds_toArray, List.set_cons_zero, List.set_cons_succ]
          have hF35' := hF30.alloc (.cells #[.int .u32 0, .int .u32 0, .int .u32 0, .int .u32 0] 27)
          have hnew35' := heap_alloc_new y30 (.cells #[.int .u32 0, .int .u32 0, .int .u32 0, .int .u32 0] 27)
          have hg35' := heap_alloc_old hg30 (.cells #[.int .u32 0, .int .u32 0, .int .u32 0, .int .u32 0] 27)
          have hlt35 := hF30.size
          have hq35 := blk_lt hg30
          obtain ⟨y35, hy35, hF35, hnew35, hg35⟩ : ∃ y35, y35 = World.alloc y30 (.cells #[.int .u32 0, .int .u32 0, .int .u32 0, .int .u32 0] 27) ∧ Fr none_ W y35 ∧ y35.heap[y30.heap.size]? = some (.cells #[.int .u32 0, .int .u32 0, .int .u32 0, .int .u32 0] 27 (0, 0)) ∧ y35.heap[V.heap.size]? = some (.cells #[.int .u32 0, .int .u32 0, .int .u32 0, .int .u32 0] 27 (0, 0)) := ⟨_, rfl, hF35', hnew35', hg35'⟩
          rw [← hy35] at hHeld35 ⊢
          clear hy35 hF35' hnew35' hg35'
          refine wpAnyH_ready (rs := [3]) (by kernel_rfl) (by simp) ?_
          refine AllReadyH.cons (o := _) rfl (fun KK hKK => ?_) ?_
          · go_simp
            (go_at_call 7; (with_reducible refine (HOF2.out y35).mono ?_); rintro e y36 ⟨rfl, hG36⟩)
            go_wp2_with fail
            have hF36 := hF35.trans hG36
            have hg36 := hG36.heap0 hg35
            have hh36 := hG36.heap0 hnew35
            refine hKK.out _ _ ?hSz36 (fun hHeld36 => ?restz36)
            case hSz36 => exact HST.out _ hF36
            clear hKK KK
            try simp only [List.getElem_toArray, List.getElem_cons_zero, List.getElem_cons_succ, Act.put, List.setIfInBounds_toArray, List.set_cons_zero, List.set_cons_succ]
            have hne37 : V.heap.size ≠ y30.heap.size := by omega
            obtain ⟨c0, c1, c2, c3, c4⟩ := z4_cells hg36
            refine wpAnyH_ready (rs := [6]) (by kernel_rfl) (by simp) ?_
            refine AllReadyH.cons (o := _) rfl (fun KK hKK => ?_) AllReadyH.nil
            go_simp
            obtain ⟨u37, hu37, hU37, hga37, hhb37⟩ := st4 (.int .u32 ((ofF la 0 : Nat) : Int)) (.int .u32 ((ofF la 1 : Nat) : Int)) (.int .u32 ((ofF la 2 : Nat) : Int)) (.int .u32 ((ofF la 3 : Nat) : Int)) hg36 hh36 hne37
            have hFu37 := hF36.own hU37 (by omega)
            rw [← hu37]
            clear hu37
            refine hKK.out _ _ ?hSz37 (fun hHeld37 => ?restz37)
            case hSz37 => exact HST.out _ hFu37
            clear hKK KK
            try simp only [List.getElem_toArray, List.getElem_cons_zero, List.getElem_cons_succ, Act.put, List.setIfInBounds_toArray, List.set_cons_zero, List.set_cons_succ]
            clear c0 c1 c2 c3 c4
            obtain ⟨c0, c1, c2, c3, c4⟩ := z4_cells hhb37
            refine wpAnyH_ready (rs := [7]) (by kernel_rfl) (by simp) ?_
            refine AllReadyH.cons (o := _) rfl (fun KK hKK => ?_) AllReadyH.nil
            go_simp
            obtain ⟨u38, hu38, hU38, hha38, hgb38⟩ := st4 (.int .u32 ((ofF lb 0 : Nat) : Int)) (.int .u32 ((ofF lb 1 : Nat) : Int)) (.int .u32 ((ofF lb 2 : Nat) : Int)) (.int .u32 ((ofF lb 3 : Nat) : Int)) hhb37 hga37 (Ne.symm hne37)
            have hFu38 := hFu37.own hU38 (by omega)
            rw [← hu38]
            clear hu38
            refine hKK.out _ _ ?hSz38 (fun hHeld38 => ?restz38)
            case hSz38 => exact HST.out _ hFu38
            clear hKK KK
            try simp only [List.getElem_toArray, List.getElem_cons_zero, List.getElem_cons_succ, Act.put, List.setIfInBounds_toArray, List.set_cons_zero, List.set_cons_succ]
            refine wpAnyH_done (by kernel_rfl) ?_ _
            go_wp2_with fail
            go_meet
            case rel => exact ⟨_, _, rfl, rfl, hFW.trans hFu38, (HST.out _ hFu38).1, (HST.out _ hFu38).2, hgb38, hha38⟩
          exact AllReadyH.nil
        exact AllReadyH.nil
      refine AllReadyH.cons (o := _) rfl (fun KK hKK => ?_) ?_
      · go_simp
        refine hKK.out _ _ ?hSz39 (fun hHeld39 => ?restz39)
        case hSz39 => exact HST.out _ (hF29.alloc _)
        clear hKK KK
        try simp only [List.getElem_toArray, List.getElem_cons_zero, List.getElem_cons_succ, Act.put, List.setIfInBounds_toArray, List.set_cons_zero, List.set_cons_succ]
        have hF39' := hF29.alloc (.cells #[.int .u32 0, .int .u32 0, .int .u32 0, .int .u32 0] 27)
        have hnew39' := heap_alloc_new y29 (.cells #[.int .u32 0, .int .u32 0, .int .u32 0, .int .u32 0] 27)
        have hg39' := heap_alloc_old hnew29 (.cells #[.int .u32 0, .int .u32 0, .int .u32 0, .int .u32 0] 27)
        have hlt39 := hF29.size
        have hq39 := blk_lt hnew29
        obtain ⟨y39, hy39, hF39, hnew39, hg39⟩ : ∃ y39, y39 = World.alloc y29 (.cells #[.int .u32 0, .int .u32 0, .int .u32 0, .int .u32 0] 27) ∧ Fr none_ W y39 ∧ y39.heap[y29.heap.size]? = some (.cells #[.int .u32 0, .int .u32 0, .int .u32 0, .int .u32 0] 27 (0, 0)) ∧ y39.heap[V.heap.size]? = some (.cells #[.int .u32 0, .int .u32 0, .int .u32 0, .int .u32 0] 27 (0, 0)) := ⟨_, rfl, hF39', hnew39', hg39'⟩
        rw [← hy39] at hHeld39 ⊢
        clear hy39 hF39' hnew39' hg39'
        refine wpAnyH_ready (rs := [1]) (by kernel_rfl) (by simp) ?_
        refine AllReadyH.cons (o := _) rfl (fun KK hKK => ?_) ?_
        · go_simp
          (go_at_call 7; (with_reducible refine (HOF1.out y39).mono ?_); rintro e y40 ⟨rfl, hG40⟩)
          go_wp2_with fail
          have hF40 := hF39.trans hG40
          have hg40 := hG40.heap0 hg39
          have hh40 := hG40.heap0 hnew39
          refine hKK.out _ _ ?hSz40 (fun hHeld40 => ?restz40)
          case hSz40 => exact HST.out _ hF40
          clear hKK KK
          try simp only [List.getElem_toArray, List.getElem_cons_zero, List.getElem_cons_succ, Act.put, List.setIfInBounds_toArray, List.set_cons_zero, List.set_cons_succ]
          refine wpAnyH_ready (rs := [3]) (by kernel_rfl) (by simp) ?_
          refine AllReadyH.cons (o := _) rfl (fun KK hKK => ?_) ?_
          · go_simp
            (go_at_call 7; (with_reducible refine (HOF2.out y40).mono ?_); rintro e y41 ⟨rfl, hG41⟩)
            go_wp2_with fail
            have hF41 := hF40.trans hG41
            have hg41 := hG41.heap0 hg40
            have hh41 := hG41.heap0 hh40
            refine hKK.out _ _ ?hSz41 (fun hHeld41 => ?restz41)
            case hSz41 => exact HST.out _ hF41
            clear hKK KK
            try simp only [List.getElem_toArray, List.getElem_cons_zero, List.getElem_cons_succ, Act.put, List.setIfInBounds_toArray, List.set_cons_zero, List.set_cons_succ]
            have hne42 : V.heap.size ≠ y29.heap.size := by omega
            obtain ⟨c0, c1, c2, c3, c4⟩ := z4_cells hg41
            refine wpAnyH_ready (rs := [6]) (by kernel_rfl) (by simp) ?_
            refine AllReadyH.cons (o := _) rfl (fun KK hKK => ?_) AllReadyH.nil
            go_simp
            obtain ⟨u42, hu42, hU42, hga42, hhb42⟩ := st4 (.int .u32 ((ofF la 0 : Nat) : Int)) (.int .u32 ((ofF la 1 : Nat) : Int)) (.int .u32 ((ofF la 2 : Nat) : Int)) (.int .u32 ((ofF la 3 : Nat) : Int)) hg41 hh41 hne42
            have hFu42 := hF41.own hU42 (by omega)
            rw [← hu42]
            clear hu42
            refine hKK.out _ _ ?hSz42 (fun hHeld42 => ?restz42)
            case hSz42 => exact HST.out _ hFu42
            clear hKK KK
            try simp only [List.getElem_toArray, List.getElem_cons_zero, List.getElem_cons_succ, Act.put, List.setIfInBounds_toArray, List.set_cons_zero, List.set_cons_succ]
            clear c0 c1 c2 c3 c4
            obtain ⟨c0, c1, c2, c3, c4⟩ := z4_cells hhb42
            refine wpAnyH_ready (rs := [7]) (by kernel_rfl) (by simp) ?_
            refine AllReadyH.cons (o := _) rfl (fun KK hKK => ?_) AllReadyH.nil
            go_simp
            obtain ⟨u43, hu43, hU43, hha43, hgb43⟩ := st4 (.int .u32 ((ofF lb 0 : Nat) : Int)) (.int .u32 ((ofF lb 1 : Nat) : Int)) (.int .u32 ((ofF lb 2 : Nat) : Int)) (.int .u32 ((ofF lb 3 : Nat) : Int)) hhb42 hga42 (Ne.symm hne42)
            have hFu43 := hFu42.own hU43 (by omega)
            rw [← hu43]
            clear hu43
            refine hKK.out _ _ ?hSz43 (fun hHeld43 => ?restz43)
            case hSz43 => exact HST.out _ hFu43
            clear hKK KK
            try simp only [List.getElem_toArray, List.getElem_cons_zero, List.getElem_cons_succ, Act.put, List.setIfInBounds_toArray, List.set_cons_zero, List.set_cons_succ]
            refine wpAnyH_done (by kernel_rfl) ?_ _
            go_wp2_with fail
            go_meet
            case rel => exact ⟨_, _, rfl, rfl, hFW.trans hFu43, (HST.out _ hFu43).1, (HST.out _ hFu43).2, hgb43, hha43⟩
          exact AllReadyH.nil
        exact AllReadyH.nil
      exact AllReadyH.nil
    refine AllReadyH.cons (o := _) rfl (fun KK hKK => ?_) ?_
    · go_simp
      refine hKK.out _ _ ?hSz44 (fun hHeld44 => ?restz44)
      case hSz44 => exact HST.out _ (hF0.alloc _)
      clear hKK KK
      try simp only [List.getElem_toArray, List.getElem_cons_zero, List.getElem_cons_succ, Act.put, List.setIfInBounds_toArray, List.set_cons_zero, List.set_cons_succ]
      have hF44' := hF0.alloc (.cells #[.int .u32 0, .int .u32 0, .int .u32 0, .int .u32 0] 27)
      have hnew44' := heap_alloc_new V (.cells #[.int .u32 0, .int .u32 0, .int .u32 0, .int .u32 0] 27)
      have hlt44 := hF0.size
      obtain ⟨y44, hy44, hF44, hnew44⟩ : ∃ y44, y44 = World.alloc V (.cells #[.int .u32 0, .int .u32 0, .int .u32 0, .int .u32 0] 27) ∧ Fr none_ W y44 ∧ y44.heap[V.heap.size]? = some (.cells #[.int .u32 0, .int .u32 0, .int .u32 0, .int .u32 0] 27 (0, 0)) := ⟨_, rfl, hF44', hnew44'⟩
      rw [← hy44] at hHeld44 ⊢
      clear hy44 hF44' hnew44'
      refine wpAnyH_ready (rs := [1, 4]) (by kernel_rfl) (by simp) ?_
      refine AllReadyH.cons (o := _) rfl (fun KK hKK => ?_) ?_
      · go_simp
        (go_at_call 7; (with_reducible refine (HOF1.out y44).mono ?_); rintro e y45 ⟨rfl, hG45⟩)
        go_wp2_with fail
        have hF45 := hF44.trans hG45
        have hh45 := hG45.heap0 hnew44
        refine hKK.out _ _ ?hSz45 (fun hHeld45 => ?restz45)
        case hSz45 => exact HST.out _ hF45
        clear hKK KK
        try simp only [List.getElem_toArray, List.getElem_cons_zero, List.getElem_cons_succ, Act.put, List.setIfInBounds_toArray, List.set_cons_zero, List.set_cons_succ]
        refine wpAnyH_ready (rs := [3, 4]) (by kernel_rfl) (by simp) ?_
        refine AllReadyH.cons (o := _) rfl (fun KK hKK => ?_) ?_
        · go_simp
          (go_at_call 7; (with_reducible refine (HOF2.out y45).mono ?_); rintro e y46 ⟨rfl, hG46⟩)
          go_wp2_with fail
          have hF46 := hF45.trans hG46
          have hh46 := hG46.heap0 hh45
          refine hKK.out _ _ ?hSz46 (fun hHeld46 => ?restz46)
          case hSz46 => exact HST.out _ hF46
          clear hKK KK
          try simp only [List.getElem_toArray, List.getElem_cons_zero, List.getElem_cons_succ, Act.put, List.setIfInBounds_toArray, List.set_cons_zero, List.set_cons_succ]
          refine wpAnyH_ready (rs := [4]) (by kernel_rfl) (by simp) ?_
          refine AllReadyH.cons (o := _) rfl (fun KK hKK => ?_) ?_
          · go_simp
            refine hKK.out _ _ ?hSz47 (fun hHeld47 => ?restz47)
            case hSz47 => exact HST.out _ (hF46.alloc _)
            clear hKK KK
            try simp only [List.getElem_toArray, List.getElem_cons_zero, List.getElem_cons_succ, Act.put, List.setIfInBounds_toArray, List.set_cons_zero, List.set_cons_succ]
            have hF47' := hF46.alloc (.cells #[.int .u32 0, .int .u32 0, .int .u32 0, .int .u32 0] 27)
            have hnew47' := heap_alloc_new y46 (.cells #[.int .u32 0, .int .u32 0, .int .u32 0, .int .u32 0] 27)
            have hh47' := heap_alloc_old hh46 (.cells #[.int .u32 0, .int .u32 0, .int .u32 0, .int .u32 0] 27)
            have hlt47 := hF46.size
            have hr47 := blk_lt hh46
            obtain ⟨y47, hy47, hF47, hnew47, hh47⟩ : ∃ y47, y47 = World.alloc y46 (.cells #[.int .u32 0, .int .u32 0, .int .u32 0, .int .u32 0] 27) ∧ Fr none_ W y47 ∧ y47.heap[y46.heap.size]? = some (.cells #[.int .u32 0, .int .u32 0, .int .u32 0, .int .u32 0] 27 (0, 0)) ∧ y47.heap[V.heap.size]? = some (.cells #[.int .u32 0, .int .u32 0, .int .u32 0, .int .u32 0] 27 (0, 0)) := ⟨_, rfl, hF47', hnew47', hh47'⟩
            rw [← hy47] at hHeld47 ⊢
            clear hy47 hF47' hnew47' hh47'
            have hne48 : y46.heap.size ≠ V.heap.size := by omega
            obtain ⟨c0, c1, c2, c3, c4⟩ := z4_cells hnew47
            refine wpAnyH_ready (rs := [6]) (by kernel_rfl) (by simp) ?_
            refine AllReadyH.cons (o := _) rfl (fun KK hKK => ?_) AllReadyH.nil
            go_simp
            obtain ⟨u48, hu48, hU48, hga48, hhb48⟩ := st4 (.int .u32 ((ofF la 0 : Nat) : Int)) (.int .u32 ((ofF la 1 : Nat) : Int)) (.int .u32 ((ofF la 2 : Nat) : Int)) (.int .u32 ((ofF la 3 : Nat) : Int)) hnew47 hh47 hne48
            have hFu48 := hF47.own hU48 (by omega)
            rw [← hu48]
            clear hu48
            refine hKK.out _ _ ?hSz48 (fun hHeld48 => ?restz48)
            case hSz48 => exact HST.out _ hFu48
            clear hKK KK
            try simp only [List.getElem_toArray, List.getElem_cons_zero, List.getElem_cons_succ, Act.put, List.setIfInBounds_toArray, List.set_cons_zero, List.set_cons_succ]
            clear c0 c1 c2 c3 c4
            obtain ⟨c0, c1, c2, c3, c4⟩ := z4_cells hhb48
            refine wpAnyH_ready (rs := [7]) (by kernel_rfl) (by simp) ?_
            refine AllReadyH.cons (o := _) rfl (fun KK hKK => ?_) AllReadyH.nil
            go_simp
            obtain ⟨u49, hu49, hU49, hha49, hgb49⟩ := st4 (.int .u32 ((ofF lb 0 : Nat) : Int)) (.int .u32 ((ofF lb 1 : Nat) : Int)) (.int .u32 ((ofF lb 2 : Nat) : Int)) (.int .u32 ((ofF lb 3 : Nat) : Int)) hhb48 hga48 (Ne.symm hne48)
            have hFu49 := hFu48.own hU49 (by omega)
            rw [← hu49]
            clear hu49
            refine hKK.out _ _ ?hSz49 (fun hHeld49 => ?restz49)
            case hSz49 => exact HST.out _ hFu49
            clear hKK KK
            try simp only [List.getElem_toArray, List.getElem_cons_zero, List.getElem_cons_succ, Act.put, List.setIfInBounds_toArray, List.set_cons_zero, List.set_cons_succ]
            refine wpAnyH_done (by kernel_rfl) ?_ _
            go_wp2_with fail
            go_meet
            case rel => exact ⟨_, _, rfl, rfl, hFW.trans hFu49, (HST.out _ hFu49).1, (HST.out _ hFu49).2, hgb49, hha49⟩
          exact AllReadyH.nil
        refine AllReadyH.cons (o := _) rfl (fun KK hKK => ?_) ?_
        · go_simp
          refine hKK.out _ _ ?hSz50 (fun hHeld50 => ?restz50)
          case hSz50 => exact HST.out _ (hF45.alloc _)
          clear hKK KK
          try simp only [List.getElem_toArray, List.getElem_cons_zero, List.getElem_cons_succ, Act.put, List.setIfInBounds_toArray, List.set_cons_zero, List.set_cons_succ]
          have hF50' := hF45.alloc (.cells #[.int .u32 0, .int .u32 0, .int .u32 0, .int .u32 0] 27)
          have hnew50' := heap_alloc_new y45 (.cells #[.int .u32 0, .int .u32 0, .int .u32 0, .int .u32 0] 27)
          have hh50' := heap_alloc_old hh45 (.cells #[.int .u32 0, .int .u32 0, .int .u32 0, .int .u32 0] 27)
          have hlt50 := hF45.size
          have hr50 := blk_lt hh45
          obtain ⟨y50, hy50, hF50, hnew50, hh50⟩ : ∃ y50, y50 = World.alloc y45 (.cells #[.int .u32 0, .int .u32 0, .int .u32 0, .int .u32 0] 27) ∧ Fr none_ W y50 ∧ y50.heap[y45.heap.size]? = some (.cells #[.int .u32 0, .int .u32 0, .int .u32 0, .int .u32 0] 27 (0, 0)) ∧ y50.heap[V.heap.size]? = some (.cells #[.int .u32 0, .int .u32 0, .int .u32 0, .int .u32 0] 27 (0, 0)) := ⟨_, rfl, hF50', hnew50', hh50'⟩
          rw [← hy50] at hHeld50 ⊢
          clear hy50 hF50' hnew50' hh50'
          refine wpAnyH_ready (rs := [3]) (by kernel_rfl) (by simp) ?_
          refine AllReadyH.cons (o := _) rfl (fun KK hKK => ?_) ?_
          · go_simp
            (go_at_call 7; (with_reducible refine (HOF2.out y50).mono ?_); rintro e y51 ⟨rfl, hG51⟩)
            go_wp2_with fail
            have hF51 := hF50.trans hG51
            have hg51 := hG51.heap0 hnew50
            have hh51 := hG51.heap0 hh50
            refine hKK.out _ _ ?hSz51 (fun hHeld51 => ?restz51)
            case hSz51 => exact HST.out _ hF51
            clear hKK KK
            try simp only [List.getElem_toArray, List.getElem_cons_zero, List.getElem_cons_succ, Act.put, List.setIfInBounds_toArray, List.set_cons_zero, List.set_cons_succ]
            have hne52 : y45.heap.size ≠ V.heap.size := by omega
            obtain ⟨c0, c1, c2, c3, c4⟩ := z4_cells hg51
            refine wpAnyH_ready (rs := [6]) (by kernel_rfl) (by simp) ?_
            refine AllReadyH.cons (o := _) rfl (fun KK hKK => ?_) AllReadyH.nil
            go_simp
            obtain ⟨u52, hu52, hU52, hga52, hhb52⟩ := st4 (.int .u32 ((ofF la 0 : Nat) : Int)) (.int .u32 ((ofF la 1 : Nat) : Int)) (.int .u32 ((ofF la 2 : Nat) : Int)) (.int .u32 ((ofF la 3 : Nat) : Int)) hg51 hh51 hne52
            have hFu52 := hF51.own hU52 (by omega)
            rw [← hu52]
            clear hu52
            refine hKK.out _ _ ?hSz52 (fun hHeld52 => ?restz52)
            case hSz52 => exact HST.out _ hFu52
            clear hKK KK
            try simp only [List.getElem_toArray, List.getElem_cons_zero, List.getElem_cons_succ, Act.put, List.setIfInBounds_toArray, List.set_cons_zero, List.set_cons_succ]
            clear c0 c1 c2 c3 c4
            obtain ⟨c0, c1, c2, c3, c4⟩ := z4_cells hhb52
            refine wpAnyH_ready (rs := [7]) (by kernel_rfl) (by simp) ?_
            refine AllReadyH.cons (o := _) rfl (fun KK hKK => ?_) AllReadyH.nil
            go_simp
            obtain ⟨u53, hu53, hU53, hha53, hgb53⟩ := st4 (.int .u32 ((ofF lb 0 : Nat) : Int)) (.int .u32 ((ofF lb 1 : Nat) : Int)) (.int .u32 ((ofF lb 2 : Nat) : Int)) (.int .u32 ((ofF lb 3 : Nat) : Int)) hhb52 hga52 (Ne.symm hne52)
            have hFu53 := hFu52.own hU53 (by omega)
            rw [← hu53]
            clear hu53
            refine hKK.out _ _ ?hSz53 (fun hHeld53 => ?restz53)
            case hSz53 => exact HST.out _ hFu53
            clear hKK KK
            try simp only [List.getElem_toArray, List.getElem_cons_zero, List.getElem_cons_succ, Act.put, List.setIfInBounds_toArray, List.set_cons_zero, List.set_cons_succ]
            refine wpAnyH_done (by kernel_rfl) ?_ _
            go_wp2_with fail
            go_meet
            case rel => exact ⟨_, _, rfl, rfl, hFW.trans hFu53, (HST.out _ hFu53).1, (HST.out _ hFu53).2, hgb53, hha53⟩
          exact AllReadyH.nil
        exact AllReadyH.nil
      refine AllReadyH.cons (o := _) rfl (fun KK hKK => ?_) ?_
      · go_simp
        refine hKK.out _ _ ?hSz54 (fun hHeld54 => ?restz54)
        case hSz54 => exact HST.out _ (hF44.alloc _)
        clear hKK KK
        try simp only [List.getElem_toArray, List.getElem_cons_zero, List.getElem_cons_succ, Act.put, List.setIfInBounds_toArray, List.set_cons_zero, List.set_cons_succ]
        have hF54' := hF44.alloc (.cells #[.int .u32 0, .int .u32 0, .int .u32 0, .int .u32 0] 27)
        have hnew54' := heap_alloc_new y44 (.cells #[.int .u32 0, .int .u32 0, .int .u32 0, .int .u32 0] 27)
        have hh54' := heap_alloc_old hnew44 (.cells #[.int .u32 0, .int .u32 0, .int .u32 0, .int .u32 0] 27)
        have hlt54 := hF44.size
        have hr54 := blk_lt hnew44
        obtain ⟨y54, hy54, hF54, hnew54, hh54⟩ : ∃ y54, y54 = World.alloc y44 (.cells #[.int .u32 0, .int .u32 0, .int .u32 0, .int .u32 0] 27) ∧ Fr none_ W y54 ∧ y54.heap[y44.heap.size]? = some (.cells #[.int .u32 0, .int .u32 0, .int .u32 0, .int .u32 0] 27 (0, 0)) ∧ y54.heap[V.heap.size]? = some (.cells #[.int .u32 0, .int .u32 0, .int .u32 0, .int .u32 0] 27 (0, 0)) := ⟨_, rfl, hF54', hnew54', hh54'⟩
        rw [← hy54] at hHeld54 ⊢
        clear hy54 hF54' hnew54' hh54'
        refine wpAnyH_ready (rs := [1]) (by kernel_rfl) (by simp) ?_
        refine AllReadyH.cons (o := _) rfl (fun KK hKK => ?_) ?_
        · go_simp
          (go_at_call 7; (with_reducible refine (HOF1.out y54).mono ?_); rintro e y55 ⟨rfl, hG55⟩)
          go_wp2_with fail
          have hF55 := hF54.trans hG55
          have hg55 := hG55.heap0 hnew54
          have hh55 := hG55.heap0 hh54
          refine hKK.out _ _ ?hSz55 (fun hHeld55 => ?restz55)
          case hSz55 => exact HST.out _ hF55
          clear hKK KK
          try simp only [List.getElem_toArray, List.getElem_cons_zero, List.getElem_cons_succ, Act.put, List.setIfInBounds_toArray, List.set_cons_zero, List.set_cons_succ]
          refine wpAnyH_ready (rs := [3]) (by kernel_rfl) (by simp) ?_
          refine AllReadyH.cons (o := _) rfl (fun KK hKK => ?_) ?_
          · go_simp
            (go_at_call 7; (with_reducible refine (HOF2.out y55).mono ?_); rintro e y56 ⟨rfl, hG56⟩)
            go_wp2_with fail
            have hF56 := hF55.trans hG56
            have hg56 := hG56.heap0 hg55
            have hh56 := hG56.heap0 hh55
            refine hKK.out _ _ ?hSz56 (fun hHeld56 => ?restz56)
            case hSz56 => exact HST.out _ hF56
            clear hKK KK
            try simp only [List.getElem_toArray, List.getElem_cons_zero, List.getElem_cons_succ, Act.put, List.setIfInBounds_toArray, List.set_cons_zero, List.set_cons_succ]
            have hne57 : y44.heap.size ≠ V.heap.size := by omega
            obtain ⟨c0, c1, c2, c3, c4⟩ := z4_cells hg56
            refine wpAnyH_ready (rs := [6]) (by kernel_rfl) (by simp) ?_
            refine AllReadyH.cons (o := _) rfl (fun KK hKK => ?_) AllReadyH.nil
            go_simp
            obtain ⟨u57, hu57, hU57, hga57, hhb57⟩ := st4 (.int .u32 ((ofF la 0 : Nat) : Int)) (.int .u32 ((ofF la 1 : Nat) : Int)) (.int .u32 ((ofF la 2 : Nat) : Int)) (.int .u32 ((ofF la 3 : Nat) : Int)) hg56 hh56 hne57
            have hFu57 := hF56.own hU57 (by omega)
            rw [← hu57]
            clear hu57
            refine hKK.out _ _ ?hSz57 (fun hHeld57 => ?restz57)
            case hSz57 => exact HST.out _ hFu57
            clear hKK KK
            try simp only [List.getElem_toArray, List.getElem_cons_zero, List.getElem_cons_succ, Act.put, List.setIfInBounds_toArray, List.set_cons_zero, List.set_cons_succ]
            clear c0 c1 c2 c3 c4
            obtain ⟨c0, c1, c2, c3, c4⟩ := z4_cells hhb57
            refine wpAnyH_ready (rs := [7]) (by kernel_rfl) (by simp) ?_
            refine AllReadyH.cons (o := _) rfl (fun KK hKK => ?_) AllReadyH.nil
            go_simp
            obtain ⟨u58, hu58, hU58, hha58, hgb58⟩ := st4 (.int .u32 ((ofF lb 0 : Nat) : Int)) (.int .u32 ((ofF lb 1 : Nat) : Int)) (.int .u32 ((ofF lb 2 : Nat) : Int)) (.int .u32 ((ofF lb 3 : Nat) : Int)) hhb57 hga57 (Ne.symm hne57)
            have hFu58 := hFu57.own hU58 (by omega)
            rw [← hu58]
            clear hu58
            refine hKK.out _ _ ?hSz58 (fun hHeld58 => ?restz58)
            case hSz58 => exact HST.out _ hFu58
            clear hKK KK
            try simp only [List.getElem_toArray, List.getElem_cons_zero, List.getElem_cons_succ, Act.put, List.setIfInBounds_toArray, List.set_cons_zero, List.set_cons_succ]
            refine wpAnyH_done (by kernel_rfl) ?_ _
            go_wp2_with fail
            go_meet
            case rel => exact ⟨_, _, rfl, rfl, hFW.trans hFu58, (HST.out _ hFu58).1, (HST.out _ hFu58).2, hgb58, hha58⟩
          exact AllReadyH.nil
        exact AllReadyH.nil
      exact AllReadyH.nil
    exact AllReadyH.nil
  case rest =>
    obtain ⟨g, h, rfl, rfl, hF, ra, rb, hg, hh⟩ := hcut
    obtain ⟨w0, rfl⟩ : ∃ w0 : World, w0 = wc := ⟨_, rfl⟩
    have u23 := Try.underlying23
    have i23 := size_block
    have la1 : (la.map byteV).length = 64 := by simpa using HA.out
    have lb1 : (lb.map byteV).length = 64 := by simpa using HB.out
    have hst : ∀ wx, Fr none_ w0 wx → ((wx.rangeAt w.heap.size 0 (la.map byteV) ∧ wx.rangeAt (w.heap.size + 1) 0 (lb.map byteV)) ∧ (wx.cell? ⟨g, 0, none⟩ = some (.int .u32 ((ofF la 0 : Nat) : Int)) ∧ wx.cell? ⟨g, 1, none⟩ = some (.int .u32 ((ofF la 1 : Nat) : Int)) ∧ wx.cell? ⟨g, 2, none⟩ = some (.int .u32 ((ofF la 2 : Nat) : Int)) ∧ wx.cell? ⟨g, 3, none⟩ = some (.int .u32 ((ofF la 3 : Nat) : Int))) ∧ (wx.cell? ⟨h, 0, none⟩ = some (.int .u32 ((ofF lb 0 : Nat) : Int)) ∧ wx.cell? ⟨h, 1, none⟩ = some (.int .u32 ((ofF lb 1 : Nat) : Int)) ∧ wx.cell? ⟨h, 2, none⟩ = some (.int .u32 ((ofF lb 2 : Nat) : Int)) ∧ wx.cell? ⟨h, 3, none⟩ = some (.int .u32 ((ofF lb 3 : Nat) : Int)))) := fun wx hX => by
      obtain ⟨g0, g1, g2, g3, _⟩ := z4_cells (hX.heap0 hg)
      obtain ⟨h0, h1, h2, h3, _⟩ := z4_cells (hX.heap0 hh)
      exact ⟨⟨hX.rangeAt0 ra, hX.rangeAt0 rb⟩, ⟨g0, g1, g2, g3⟩, h0, h1, h2, h3⟩
    have hck : ∀ wx, Fr none_ w0 wx → ∀ k : Nat, k < 4 → wx.cell? ⟨g, k, none⟩ = some (.int .u32 ((ofF la k : Nat) : Int)) := fun wx hX k hk => by
      obtain ⟨g0, g1, g2, g3, _⟩ := z4_cells (hX.heap0 hg)
      match k, hk with
      | 0, _ => exact g0
      | 1, _ => exact g1
      | 2, _ => exact g2
      | 3, _ => exact g3
    have hcs : ∀ wx, Fr none_ w0 wx → ∀ j : Nat, j + 8 ≤ 64 → CellsAt wx (some ⟨w.heap.size, j, none⟩) (((la.drop j).take 8).map byteV) := fun wx hX j hj => by
      have h1 := (CellsAt.of_range (hX.rangeAt0 ra)).sub j 8 (by rw [la1]; omega)
      rw [Nat.zero_add, ← List.map_drop, ← List.map_take] at h1
      exact h1
    have hl11 : ∀ wx, Calls Try.prog 8 #[sk (ofF la 0) (ofF la 1) (ofF la 2) (ofF la 3), sk (ofF la 0) (ofF la 1) (ofF la 2) (ofF la 3)] wx fun e w' => e = .returned (.int .i64 4) ∧ Fr none_ wx w' := fun wx => by
      have := like_any (ofF la 0) (ofF la 1) (ofF la 2) (ofF la 3) (ofF la 0) (ofF la 1) (ofF la 2) (ofF la 3) wx
      rw [likeF_self] at this
      exact this
    have hl12 : ∀ wx, Calls Try.prog 8 #[sk (ofF la 0) (ofF la 1) (ofF la 2) (ofF la 3), sk (ofF lb 0) (ofF lb 1) (ofF lb 2) (ofF lb 3)] wx fun e w' => e = .returned (.int .i64 (likeF (ofF la 0) (ofF la 1) (ofF la 2) (ofF la 3) (ofF lb 0) (ofF lb 1) (ofF lb 2) (ofF lb 3) 4 : Nat)) ∧ Fr none_ wx w' := fun wx => like_any _ _ _ _ _ _ _ _ wx
    have hl21 : ∀ wx, Calls Try.prog 8 #[sk (ofF lb 0) (ofF lb 1) (ofF lb 2) (ofF lb 3), sk (ofF la 0) (ofF la 1) (ofF la 2) (ofF la 3)] wx fun e w' => e = .returned (.int .i64 (likeF (ofF la 0) (ofF la 1) (ofF la 2) (ofF la 3) (ofF lb 0) (ofF lb 1) (ofF lb 2) (ofF lb 3) 4 : Nat)) ∧ Fr none_ wx w' := fun wx => by
      have := like_any (ofF lb 0) (ofF lb 1) (ofF lb 2) (ofF lb 3) (ofF la 0) (ofF la 1) (ofF la 2) (ofF la 3) wx
      rw [likeF_symm] at this
      exact this
    have keqab : ∀ w', (Op.equalIn 10000 23 (.agg (la.map byteV).toArray) (.agg (lb.map byteV).toArray)).run Try.prog w' = .ok (decide (la = lb)) w' := fun w' => by
      obtain ⟨i, hi⟩ := Option.isSome_iff_exists.1 info_u8s
      exact eq_blocks Try.underlying23 hi one_u8s Try.underlying5 la lb HA.out HB.out
    have HST := Lib.hid hst
    have HCK := Lib.hid hck
    have HCS := Lib.hid hcs
    have HL11 := Lib.hid hl11
    have HL12 := Lib.hid hl12
    have HL21 := Lib.hid hl21
    have hZ0 : Fr none_ w0 w0.drew := (Fr.refl _ _).drew
    have hs0 := hst _ hZ0
    clear hst hck hcs hl11 hl12 hl21 ra rb hg hh
    go_upto_region 2 with fail
    go_cut [37] (fun s37 wx => s37 = .bool false ∧ Fr none_ w0 wx)
    case first =>
      by_cases hab : la = lb
      · have keqt : ∀ w', (Op.equalIn 10000 23 (.agg (la.map byteV).toArray) (.agg (lb.map byteV).toArray)).run Try.prog w' = .ok true w' := fun w' => by rw [keqab, hab]; simp
        have keqx : ∀ w', (Op.equalIn 10000 27 (sk (ofF la 0) (ofF la 1) (ofF la 2) (ofF la 3)) (sk (ofF lb 0) (ofF lb 1) (ofF lb 2) (ofF lb 3))).run Try.prog w' = .ok true w' := fun w' => by rw [eq_sk, hab]; simp
        clear keqab hab
        refine wp_region_held_drew (S := fun w' => ((w'.rangeAt w.heap.size 0 (la.map byteV) ∧ w'.rangeAt (w.heap.size + 1) 0 (lb.map byteV)) ∧ (w'.cell? ⟨g, 0, none⟩ = some (.int .u32 ((ofF la 0 : Nat) : Int)) ∧ w'.cell? ⟨g, 1, none⟩ = some (.int .u32 ((ofF la 1 : Nat) : Int)) ∧ w'.cell? ⟨g, 2, none⟩ = some (.int .u32 ((ofF la 2 : Nat) : Int)) ∧ w'.cell? ⟨g, 3, none⟩ = some (.int .u32 ((ofF la 3 : Nat) : Int))) ∧ (w'.cell? ⟨h, 0, none⟩ = some (.int .u32 ((ofF lb 0 : Nat) : Int)) ∧ w'.cell? ⟨h, 1, none⟩ = some (.int .u32 ((ofF lb 1 : Nat) : Int)) ∧ w'.cell? ⟨h, 2, none⟩ = some (.int .u32 ((ofF lb 2 : Nat) : Int)) ∧ w'.cell? ⟨h, 3, none⟩ = some (.int .u32 ((ofF lb 3 : Nat) : Int))))) (by kernel_rfl) hs0 (fun hHeld0 => ?_)
        refine wpAnyH_take (i := 0) (oi := _) (v := ?v1) rfl (by kernel_rfl) (by kernel_rfl) (by kernel_rfl) (fun _ _ _ h => h) (Or.inl ⟨by rfl, ?hy1⟩) (by assumption) ?rest1
        case hy1 => (intro w hSw; (try dsimp only at hSw); go_simp; try with_reducible rfl)
        try simp only [List.getElem_toArray, List.getElem_cons_zero, List.getElem_cons_succ, Act.put, List.setIfInBounds_toArray, List.set_cons_zero, List.set_cons_succ]
        refine wpAnyH_take (i := 1) (oi := _) (v := ?v2) rfl (by kernel_rfl) (by kernel_rfl) (by kernel_rfl) (fun _ _ _ h => h) (Or.inl ⟨by rfl, ?hy2⟩) (by assumption) ?rest2
        case hy2 => (intro w hSw; (try dsimp only at hSw); go_simp; try with_reducible rfl)
        try simp only [List.getElem_toArray, List.getElem_cons_zero, List.getElem_cons_succ, Act.put, List.setIfInBounds_toArray, List.set_cons_zero, List.set_cons_succ]
        refine wpAnyH_ready (rs := [2]) (by kernel_rfl) (by simp) ?_
        refine AllReadyH.cons (o := _) rfl (fun KK hKK => ?_) AllReadyH.nil
        go_simp
        (go_at_call 8; (with_reducible refine (HL11.out _).mono ?_); rintro e x1 ⟨rfl, hG1⟩; have hZ1 := hZ0.trans hG1)
        go_wp2_with fail
        refine hKK.out _ _ ?hS3 (fun hHeld3 => ?rest3)
        case hS3 => exact HST.out _ hZ1
        clear hKK KK
        try simp only [List.getElem_toArray, List.getElem_cons_zero, List.getElem_cons_succ, Act.put, List.setIfInBounds_toArray, List.set_cons_zero, List.set_cons_succ]
        refine wpAnyH_take (i := 3) (oi := _) (v := ?v4) rfl (by kernel_rfl) (by kernel_rfl) (by kernel_rfl) (fun _ _ _ h => h) (Or.inl ⟨by rfl, ?hy4⟩) (by assumption) ?rest4
        case hy4 => (intro w hSw; (try dsimp only at hSw); go_simp; try with_reducible rfl)
        try simp only [List.getElem_toArray, List.getElem_cons_zero, List.getElem_cons_succ, Act.put, List.setIfInBounds_toArray, List.set_cons_zero, List.set_cons_succ]
        refine wpAnyH_take (i := 4) (oi := _) (v := ?v5) rfl (by kernel_rfl) (by kernel_rfl) (by kernel_rfl) (fun _ _ _ h => h) (Or.inl ⟨by rfl, ?hy5⟩) (by assumption) ?rest5
        case hy5 => (intro w hSw; (try dsimp only at hSw); go_simp; try with_reducible rfl)
        try simp only [List.getElem_toArray, List.getElem_cons_zero, List.getElem_cons_succ, Act.put, List.setIfInBounds_toArray, List.set_cons_zero, List.set_cons_succ]
        refine wpAnyH_take (i := 5) (oi := _) (v := ?v6) rfl (by kernel_rfl) (by kernel_rfl) (by kernel_rfl) (fun _ _ _ h => h) (Or.inl ⟨by rfl, ?hy6⟩) (by assumption) ?rest6
        case hy6 => (intro w hSw; (try dsimp only at hSw); go_simp; try with_reducible rfl)
        try simp only [List.getElem_toArray, List.getElem_cons_zero, List.getElem_cons_succ, Act.put, List.setIfInBounds_toArray, List.set_cons_zero, List.set_cons_succ]
        refine wpAnyH_take (i := 6) (oi := _) (v := ?v7) rfl (by kernel_rfl) (by kernel_rfl) (by kernel_rfl) (fun _ _ _ h => h) (Or.inl ⟨by rfl, ?hy7⟩) (by assumption) ?rest7
        case hy7 => (intro w hSw; (try dsimp only at hSw); go_simp; try with_reducible rfl)
        try simp only [List.getElem_toArray, List.getElem_cons_zero, List.getElem_cons_succ, Act.put, List.setIfInBounds_toArray, List.set_cons_zero, List.set_cons_succ]
        refine wpAnyH_take (i := 8) (oi := _) (v := ?v8) rfl (by kernel_rfl) (by kernel_rfl) (by kernel_rfl) (fun _ _ _ h => h) (Or.inl ⟨by rfl, ?hy8⟩) (by assumption) ?rest8
        case hy8 => (intro w hSw; (try dsimp only at hSw); go_simp; try with_reducible rfl)
        try simp only [List.getElem_toArray, List.getElem_cons_zero, List.getElem_cons_succ, Act.put, List.setIfInBounds_toArray, List.set_cons_zero, List.set_cons_succ]
        refine wpAnyH_take (i := 9) (oi := _) (v := ?v9) rfl (by kernel_rfl) (by kernel_rfl) (by kernel_rfl) (fun _ _ _ h => h) (Or.inl ⟨by rfl, ?hy9⟩) (by assumption) ?rest9
        case hy9 => (intro w hSw; (try dsimp only at hSw); go_simp; try with_reducible rfl)
        try simp only [List.getElem_toArray, List.getElem_cons_zero, List.getElem_cons_succ, Act.put, List.setIfInBounds_toArray, List.set_cons_zero, List.set_cons_succ]
        refine wpAnyH_ready (rs := [7]) (by kernel_rfl) (by simp) ?_
        refine AllReadyH.cons (o := _) rfl (fun KK hKK => ?_) AllReadyH.nil
        go_simp
        (go_at_call 8; (with_reducible refine (HL12.out _).mono ?_); rintro e x2 ⟨rfl, hG2⟩; have hZ2 := hZ1.trans hG2)
        go_wp2_with fail
        refine hKK.out _ _ ?hS10 (fun hHeld10 => ?rest10)
        case hS10 => exact HST.out _ hZ2
        clear hKK KK
        try simp only [List.getElem_toArray, List.getElem_cons_zero, List.getElem_cons_succ, Act.put, List.setIfInBounds_toArray, List.set_cons_zero, List.set_cons_succ]
        refine wpAnyH_ready (rs := [10]) (by kernel_rfl) (by simp) ?_
        refine AllReadyH.cons (o := _) rfl (fun KK hKK => ?_) AllReadyH.nil
        go_simp
        (go_at_call 8; (with_reducible refine (HL21.out _).mono ?_); rintro e x3 ⟨rfl, hG3⟩; have hZ3 := hZ2.trans hG3)
        go_wp2_with fail
        refine hKK.out _ _ ?hS11 (fun hHeld11 => ?rest11)
        case hS11 => exact HST.out _ hZ3
        clear hKK KK
        try simp only [List.getElem_toArray, List.getElem_cons_zero, List.getElem_cons_succ, Act.put, List.setIfInBounds_toArray, List.set_cons_zero, List.set_cons_succ]
        refine wpAnyH_take (i := 11) (oi := _) (v := ?v12) rfl (by kernel_rfl) (by kernel_rfl) (by kernel_rfl) (fun _ _ _ h => h) (Or.inl ⟨by rfl, ?hy12⟩) (by assumption) ?rest12
        case hy12 => (intro w hSw; (try dsimp only at hSw); go_simp; try with_reducible rfl)
        try simp only [List.getElem_toArray, List.getElem_cons_zero, List.getElem_cons_succ, Act.put, List.setIfInBounds_toArray, List.set_cons_zero, List.set_cons_succ]
        refine wpAnyH_take (i := 12) (oi := _) (v := ?v13) rfl (by kernel_rfl) (by kernel_rfl) (by kernel_rfl) (fun _ _ _ h => h) (Or.inl ⟨by rfl, ?hy13⟩) (by assumption) ?rest13
        case hy13 => (intro w hSw; (try dsimp only at hSw); go_simp; try with_reducible rfl)
        try simp only [List.getElem_toArray, List.getElem_cons_zero, List.getElem_cons_succ, Act.put, List.setIfInBounds_toArray, List.set_cons_zero, List.set_cons_succ]
        refine wpAnyH_take (i := 13) (oi := _) (v := ?v14) rfl (by kernel_rfl) (by kernel_rfl) (by kernel_rfl) (fun _ _ _ h => h) (Or.inl ⟨by rfl, ?hy14⟩) (by assumption) ?rest14
        case hy14 => (intro w hSw; (try dsimp only at hSw); go_simp; try with_reducible rfl)
        try simp only [List.getElem_toArray, List.getElem_cons_zero, List.getElem_cons_succ, Act.put, List.setIfInBounds_toArray, List.set_cons_zero, List.set_cons_succ]
        refine' wpAnyH_take (i := 14) (oi := _) (v := _) rfl (by kernel_rfl) (by kernel_rfl) (by kernel_rfl) (fun _ _ _ h => h) (yieldsIf_load_mid (by rfl) _ _ rfl _ _ rfl (la.map byteV) _ ?hS15 ?hu15 ?hd15 ?hi15) (by assumption) ?rest15
        case hS15 => exact fun w' h => h.1.1
        case hu15 => exact u23
        case hd15 => rfl
        case hi15 => rw [la1]; exact i23
        try simp only [List.getElem_toArray, List.getElem_cons_zero, List.getElem_cons_succ, Act.put, List.setIfInBounds_toArray, List.set_cons_zero, List.set_cons_succ]
        refine' wpAnyH_take (i := 15) (oi := _) (v := _) rfl (by kernel_rfl) (by kernel_rfl) (by kernel_rfl) (fun _ _ _ h => h) (yieldsIf_load_mid (by rfl) _ _ rfl _ _ rfl (lb.map byteV) _ ?hS16 ?hu16 ?hd16 ?hi16) (by assumption) ?rest16
        case hS16 => exact fun w' h => h.1.2
        case hu16 => exact u23
        case hd16 => rfl
        case hi16 => rw [lb1]; exact i23
        try simp only [List.getElem_toArray, List.getElem_cons_zero, List.getElem_cons_succ, Act.put, List.setIfInBounds_toArray, List.set_cons_zero, List.set_cons_succ]
        refine wpAnyH_take (i := 16) (oi := _) (v := ?v17) rfl (by kernel_rfl) (by kernel_rfl) (by kernel_rfl) (fun _ _ _ h => h) (Or.inl ⟨by rfl, ?hy17⟩) (by assumption) ?rest17
        case hy17 => (intro w hSw; (try dsimp only at hSw); go_simp; try with_reducible rfl)
        try simp only [List.getElem_toArray, List.getElem_cons_zero, List.getElem_cons_succ, Act.put, List.setIfInBounds_toArray, List.set_cons_zero, List.set_cons_succ]
        refine wpAnyH_take (i := 17) (oi := _) (v := ?v18) rfl (by kernel_rfl) (by kernel_rfl) (by kernel_rfl) (fun _ _ _ h => h) (Or.inl ⟨by rfl, ?hy18⟩) (by assumption) ?rest18
        case hy18 => (intro w hSw; (try dsimp only at hSw); go_simp; try with_reducible rfl)
        try simp only [List.getElem_toArray, List.getElem_cons_zero, List.getElem_cons_succ, Act.put, List.setIfInBounds_toArray, List.set_cons_zero, List.set_cons_succ]
        refine wpAnyH_take (i := 18) (oi := _) (v := ?v19) rfl (by kernel_rfl) (by kernel_rfl) (by kernel_rfl) (fun _ _ _ h => h) (Or.inl ⟨by rfl, ?hy19⟩) (by assumption) ?rest19
        case hy19 => (intro w hSw; (try dsimp only at hSw); go_simp; try with_reducible rfl)
        try simp only [List.getElem_toArray, List.getElem_cons_zero, List.getElem_cons_succ, Act.put, List.setIfInBounds_toArray, List.set_cons_zero, List.set_cons_succ]
        refine wpAnyH_take (i := 19) (oi := _) (v := ?v20) rfl (by kernel_rfl) (by kernel_rfl) (by kernel_rfl) (fun _ _ _ h => h) (Or.inl ⟨by rfl, ?hy20⟩) (by assumption) ?rest20
        case hy20 => (intro w hSw; (try dsimp only at hSw); go_simp; try with_reducible rfl)
        try simp only [List.getElem_toArray, List.getElem_cons_zero, List.getElem_cons_succ, Act.put, List.setIfInBounds_toArray, List.set_cons_zero, List.set_cons_succ]
        refine wpAnyH_take (i := 20) (oi := _) (v := ?v21) rfl (by kernel_rfl) (by kernel_rfl) (by kernel_rfl) (fun _ _ _ h => h) (Or.inl ⟨by rfl, ?hy21⟩) (by assumption) ?rest21
        case hy21 => (intro w hSw; (try dsimp only at hSw); go_simp; try with_reducible rfl)
        try simp only [List.getElem_toArray, List.getElem_cons_zero, List.getElem_cons_succ, Act.put, List.setIfInBounds_toArray, List.set_cons_zero, List.set_cons_succ]
        refine wpAnyH_take (i := 21) (oi := _) (v := ?v22) rfl (by kernel_rfl) (by kernel_rfl) (by kernel_rfl) (fun _ _ _ h => h) (Or.inl ⟨by rfl, ?hy22⟩) (by assumption) ?rest22
        case hy22 => (intro w hSw; (try dsimp only at hSw); go_simp; try with_reducible rfl)
        try simp only [List.getElem_toArray, List.getElem_cons_zero, List.getElem_cons_succ, Act.put, List.setIfInBounds_toArray, List.set_cons_zero, List.set_cons_succ]
        refine wpAnyH_take (i := 22) (oi := _) (v := ?v23) rfl (by kernel_rfl) (by kernel_rfl) (by kernel_rfl) (fun _ _ _ h => h) (Or.inl ⟨by rfl, ?hy23⟩) (by assumption) ?rest23
        case hy23 => (intro w hSw; (try dsimp only at hSw); go_simp; try with_reducible rfl)
        try simp only [List.getElem_toArray, List.getElem_cons_zero, List.getElem_cons_succ, Act.put, List.setIfInBounds_toArray, List.set_cons_zero, List.set_cons_succ]
        refine wpAnyH_done (by kernel_rfl) ?_ _
        go_wp2_with fail
        go_meet
        case rel => exact ⟨rfl, hZ3⟩
      · have keqt : ∀ w', (Op.equalIn 10000 23 (.agg (la.map byteV).toArray) (.agg (lb.map byteV).toArray)).run Try.prog w' = .ok false w' := fun w' => by rw [keqab]; simp [hab]
        clear keqab hab
        refine wp_region_held_drew (S := fun w' => ((w'.rangeAt w.heap.size 0 (la.map byteV) ∧ w'.rangeAt (w.heap.size + 1) 0 (lb.map byteV)) ∧ (w'.cell? ⟨g, 0, none⟩ = some (.int .u32 ((ofF la 0 : Nat) : Int)) ∧ w'.cell? ⟨g, 1, none⟩ = some (.int .u32 ((ofF la 1 : Nat) : Int)) ∧ w'.cell? ⟨g, 2, none⟩ = some (.int .u32 ((ofF la 2 : Nat) : Int)) ∧ w'.cell? ⟨g, 3, none⟩ = some (.int .u32 ((ofF la 3 : Nat) : Int))) ∧ (w'.cell? ⟨h, 0, none⟩ = some (.int .u32 ((ofF lb 0 : Nat) : Int)) ∧ w'.cell? ⟨h, 1, none⟩ = some (.int .u32 ((ofF lb 1 : Nat) : Int)) ∧ w'.cell? ⟨h, 2, none⟩ = some (.int .u32 ((ofF lb 2 : Nat) : Int)) ∧ w'.cell? ⟨h, 3, none⟩ = some (.int .u32 ((ofF lb 3 : Nat) : Int))))) (by kernel_rfl) hs0 (fun hHeld0 => ?_)
        refine wpAnyH_take (i := 0) (oi := _) (v := ?vb1) rfl (by kernel_rfl) (by kernel_rfl) (by kernel_rfl) (fun _ _ _ h => h) (Or.inl ⟨by rfl, ?hyb1⟩) (by assumption) ?restb1
        case hyb1 => (intro w hSw; (try dsimp only at hSw); go_simp; try with_reducible rfl)
        try simp only [List.getElem_toArray, List.getElem_cons_zero, List.getElem_cons_succ, Act.put, List.setIfInBounds_toArray, List.set_cons_zero, List.set_cons_succ]
        refine wpAnyH_take (i := 1) (oi := _) (v := ?vb2) rfl (by kernel_rfl) (by kernel_rfl) (by kernel_rfl) (fun _ _ _ h => h) (Or.inl ⟨by rfl, ?hyb2⟩) (by assumption) ?restb2
        case hyb2 => (intro w hSw; (try dsimp only at hSw); go_simp; try with_reducible rfl)
        try simp only [List.getElem_toArray, List.getElem_cons_zero, List.getElem_cons_succ, Act.put, List.setIfInBounds_toArray, List.set_cons_zero, List.set_cons_succ]
        refine wpAnyH_ready (rs := [2]) (by kernel_rfl) (by simp) ?_
        refine AllReadyH.cons (o := _) rfl (fun KK hKK => ?_) AllReadyH.nil
        go_simp
        (go_at_call 8; (with_reducible refine (HL11.out _).mono ?_); rintro e x1 ⟨rfl, hG1⟩; have hZ1 := hZ0.trans hG1)
        go_wp2_with fail
        refine hKK.out _ _ ?hSb3 (fun hHeld3 => ?restb3)
        case hSb3 => exact HST.out _ hZ1
        clear hKK KK
        try simp only [List.getElem_toArray, List.getElem_cons_zero, List.getElem_cons_succ, Act.put, List.setIfInBounds_toArray, List.set_cons_zero, List.set_cons_succ]
        refine wpAnyH_take (i := 3) (oi := _) (v := ?vb4) rfl (by kernel_rfl) (by kernel_rfl) (by kernel_rfl) (fun _ _ _ h => h) (Or.inl ⟨by rfl, ?hyb4⟩) (by assumption) ?restb4
        case hyb4 => (intro w hSw; (try dsimp only at hSw); go_simp; try with_reducible rfl)
        try simp only [List.getElem_toArray, List.getElem_cons_zero, List.getElem_cons_succ, Act.put, List.setIfInBounds_toArray, List.set_cons_zero, List.set_cons_succ]
        refine wpAnyH_take (i := 4) (oi := _) (v := ?vb5) rfl (by kernel_rfl) (by kernel_rfl) (by kernel_rfl) (fun _ _ _ h => h) (Or.inl ⟨by rfl, ?hyb5⟩) (by assumption) ?restb5
        case hyb5 => (intro w hSw; (try dsimp only at hSw); go_simp; try with_reducible rfl)
        try simp only [List.getElem_toArray, List.getElem_cons_zero, List.getElem_cons_succ, Act.put, List.setIfInBounds_toArray, List.set_cons_zero, List.set_cons_succ]
        refine wpAnyH_take (i := 5) (oi := _) (v := ?vb6) rfl (by kernel_rfl) (by kernel_rfl) (by kernel_rfl) (fun _ _ _ h => h) (Or.inl ⟨by rfl, ?hyb6⟩) (by assumption) ?restb6
        case hyb6 => (intro w hSw; (try dsimp only at hSw); go_simp; try with_reducible rfl)
        try simp only [List.getElem_toArray, List.getElem_cons_zero, List.getElem_cons_succ, Act.put, List.setIfInBounds_toArray, List.set_cons_zero, List.set_cons_succ]
        refine wpAnyH_take (i := 6) (oi := _) (v := ?vb7) rfl (by kernel_rfl) (by kernel_rfl) (by kernel_rfl) (fun _ _ _ h => h) (Or.inl ⟨by rfl, ?hyb7⟩) (by assumption) ?restb7
        case hyb7 => (intro w hSw; (try dsimp only at hSw); go_simp; try with_reducible rfl)
        try simp only [List.getElem_toArray, List.getElem_cons_zero, List.getElem_cons_succ, Act.put, List.setIfInBounds_toArray, List.set_cons_zero, List.set_cons_succ]
        refine wpAnyH_take (i := 8) (oi := _) (v := ?vb8) rfl (by kernel_rfl) (by kernel_rfl) (by kernel_rfl) (fun _ _ _ h => h) (Or.inl ⟨by rfl, ?hyb8⟩) (by assumption) ?restb8
        case hyb8 => (intro w hSw; (try dsimp only at hSw); go_simp; try with_reducible rfl)
        try simp only [List.getElem_toArray, List.getElem_cons_zero, List.getElem_cons_succ, Act.put, List.setIfInBounds_toArray, List.set_cons_zero, List.set_cons_succ]
        refine wpAnyH_take (i := 9) (oi := _) (v := ?vb9) rfl (by kernel_rfl) (by kernel_rfl) (by kernel_rfl) (fun _ _ _ h => h) (Or.inl ⟨by rfl, ?hyb9⟩) (by assumption) ?restb9
        case hyb9 => (intro w hSw; (try dsimp only at hSw); go_simp; try with_reducible rfl)
        try simp only [List.getElem_toArray, List.getElem_cons_zero, List.getElem_cons_succ, Act.put, List.setIfInBounds_toArray, List.set_cons_zero, List.set_cons_succ]
        refine wpAnyH_ready (rs := [7]) (by kernel_rfl) (by simp) ?_
        refine AllReadyH.cons (o := _) rfl (fun KK hKK => ?_) AllReadyH.nil
        go_simp
        (go_at_call 8; (with_reducible refine (HL12.out _).mono ?_); rintro e x2 ⟨rfl, hG2⟩; have hZ2 := hZ1.trans hG2)
        go_wp2_with fail
        refine hKK.out _ _ ?hSb10 (fun hHeld10 => ?restb10)
        case hSb10 => exact HST.out _ hZ2
        clear hKK KK
        try simp only [List.getElem_toArray, List.getElem_cons_zero, List.getElem_cons_succ, Act.put, List.setIfInBounds_toArray, List.set_cons_zero, List.set_cons_succ]
        refine wpAnyH_ready (rs := [10]) (by kernel_rfl) (by simp) ?_
        refine AllReadyH.cons (o := _) rfl (fun KK hKK => ?_) AllReadyH.nil
        go_simp
        (go_at_call 8; (with_reducible refine (HL21.out _).mono ?_); rintro e x3 ⟨rfl, hG3⟩; have hZ3 := hZ2.trans hG3)
        go_wp2_with fail
        refine hKK.out _ _ ?hSb11 (fun hHeld11 => ?restb11)
        case hSb11 => exact HST.out _ hZ3
        clear hKK KK
        try simp only [List.getElem_toArray, List.getElem_cons_zero, List.getElem_cons_succ, Act.put, List.setIfInBounds_toArray, List.set_cons_zero, List.set_cons_succ]
        refine wpAnyH_take (i := 11) (oi := _) (v := ?vb12) rfl (by kernel_rfl) (by kernel_rfl) (by kernel_rfl) (fun _ _ _ h => h) (Or.inl ⟨by rfl, ?hyb12⟩) (by assumption) ?restb12
        case hyb12 => (intro w hSw; (try dsimp only at hSw); go_simp; try with_reducible rfl)
        try simp only [List.getElem_toArray, List.getElem_cons_zero, List.getElem_cons_succ, Act.put, List.setIfInBounds_toArray, List.set_cons_zero, List.set_cons_succ]
        refine wpAnyH_take (i := 12) (oi := _) (v := ?vb13) rfl (by kernel_rfl) (by kernel_rfl) (by kernel_rfl) (fun _ _ _ h => h) (Or.inl ⟨by rfl, ?hyb13⟩) (by assumption) ?restb13
        case hyb13 => (intro w hSw; (try dsimp only at hSw); go_simp; try with_reducible rfl)
        try simp only [List.getElem_toArray, List.getElem_cons_zero, List.getElem_cons_succ, Act.put, List.setIfInBounds_toArray, List.set_cons_zero, List.set_cons_succ]
        refine wpAnyH_take (i := 13) (oi := _) (v := ?vb14) rfl (by kernel_rfl) (by kernel_rfl) (by kernel_rfl) (fun _ _ _ h => h) (Or.inl ⟨by rfl, ?hyb14⟩) (by assumption) ?restb14
        case hyb14 => (intro w hSw; (try dsimp only at hSw); go_simp; try with_reducible rfl)
        try simp only [List.getElem_toArray, List.getElem_cons_zero, List.getElem_cons_succ, Act.put, List.setIfInBounds_toArray, List.set_cons_zero, List.set_cons_succ]
        refine' wpAnyH_take (i := 14) (oi := _) (v := _) rfl (by kernel_rfl) (by kernel_rfl) (by kernel_rfl) (fun _ _ _ h => h) (yieldsIf_load_mid (by rfl) _ _ rfl _ _ rfl (la.map byteV) _ ?hSb15 ?hub15 ?hdb15 ?hib15) (by assumption) ?restb15
        case hSb15 => exact fun w' h => h.1.1
        case hub15 => exact u23
        case hdb15 => rfl
        case hib15 => rw [la1]; exact i23
        try simp only [List.getElem_toArray, List.getElem_cons_zero, List.getElem_cons_succ, Act.put, List.setIfInBounds_toArray, List.set_cons_zero, List.set_cons_succ]
        refine' wpAnyH_take (i := 15) (oi := _) (v := _) rfl (by kernel_rfl) (by kernel_rfl) (by kernel_rfl) (fun _ _ _ h => h) (yieldsIf_load_mid (by rfl) _ _ rfl _ _ rfl (lb.map byteV) _ ?hSb16 ?hub16 ?hdb16 ?hib16) (by assumption) ?restb16
        case hSb16 => exact fun w' h => h.1.2
        case hub16 => exact u23
        case hdb16 => rfl
        case hib16 => rw [lb1]; exact i23
        try simp only [List.getElem_toArray, List.getElem_cons_zero, List.getElem_cons_succ, Act.put, List.setIfInBounds_toArray, List.set_cons_zero, List.set_cons_succ]
        refine wpAnyH_take (i := 16) (oi := _) (v := ?vb17) rfl (by kernel_rfl) (by kernel_rfl) (by kernel_rfl) (fun _ _ _ h => h) (Or.inl ⟨by rfl, ?hyb17⟩) (by assumption) ?restb17
        case hyb17 => (intro w hSw; (try dsimp only at hSw); go_simp; try with_reducible rfl)
        try simp only [List.getElem_toArray, List.getElem_cons_zero, List.getElem_cons_succ, Act.put, List.setIfInBounds_toArray, List.set_cons_zero, List.set_cons_succ]
        refine wpAnyH_take (i := 17) (oi := _) (v := ?vb18) rfl (by kernel_rfl) (by kernel_rfl) (by kernel_rfl) (fun _ _ _ h => h) (Or.inl ⟨by rfl, ?hyb18⟩) (by assumption) ?restb18
        case hyb18 => (intro w hSw; (try dsimp only at hSw); go_simp; try with_reducible rfl)
        try simp only [List.getElem_toArray, List.getElem_cons_zero, List.getElem_cons_succ, Act.put, List.setIfInBounds_toArray, List.set_cons_zero, List.set_cons_succ]
        refine wpAnyH_take (i := 18) (oi := _) (v := undef) rfl (by kernel_rfl) (by kernel_rfl) (by kernel_rfl) (fun _ _ _ h => h) (Or.inr ⟨by rfl, rfl⟩) (by assumption) ?restb19
        try simp only [List.getElem_toArray, List.getElem_cons_zero, List.getElem_cons_succ, Act.put, List.setIfInBounds_toArray, List.set_cons_zero, List.set_cons_succ]
        refine wpAnyH_take (i := 19) (oi := _) (v := undef) rfl (by kernel_rfl) (by kernel_rfl) (by kernel_rfl) (fun _ _ _ h => h) (Or.inr ⟨by rfl, rfl⟩) (by assumption) ?restb20
        try simp only [List.getElem_toArray, List.getElem_cons_zero, List.getElem_cons_succ, Act.put, List.setIfInBounds_toArray, List.set_cons_zero, List.set_cons_succ]
        refine wpAnyH_take (i := 20) (oi := _) (v := undef) rfl (by kernel_rfl) (by kernel_rfl) (by kernel_rfl) (fun _ _ _ h => h) (Or.inr ⟨by rfl, rfl⟩) (by assumption) ?restb21
        try simp only [List.getElem_toArray, List.getElem_cons_zero, List.getElem_cons_succ, Act.put, List.setIfInBounds_toArray, List.set_cons_zero, List.set_cons_succ]
        refine wpAnyH_take (i := 21) (oi := _) (v := ?vb22) rfl (by kernel_rfl) (by kernel_rfl) (by kernel_rfl) (fun _ _ _ h => h) (Or.inl ⟨by rfl, ?hyb22⟩) (by assumption) ?restb22
        case hyb22 => (intro w hSw; (try dsimp only at hSw); go_simp; try with_reducible rfl)
        try simp only [List.getElem_toArray, List.getElem_cons_zero, List.getElem_cons_succ, Act.put, List.setIfInBounds_toArray, List.set_cons_zero, List.set_cons_succ]
        refine wpAnyH_take (i := 22) (oi := _) (v := ?vb23) rfl (by kernel_rfl) (by kernel_rfl) (by kernel_rfl) (fun _ _ _ h => h) (Or.inl ⟨by rfl, ?hyb23⟩) (by assumption) ?restb23
        case hyb23 => (intro w hSw; (try dsimp only at hSw); go_simp; try with_reducible rfl)
        try simp only [List.getElem_toArray, List.getElem_cons_zero, List.getElem_cons_succ, Act.put, List.setIfInBounds_toArray, List.set_cons_zero, List.set_cons_succ]
        refine wpAnyH_done (by kernel_rfl) ?_ _
        go_wp2_with fail
        go_meet
        case rel => exact ⟨rfl, hZ3⟩
    case rest =>
      obtain ⟨rfl, hR0⟩ := hcut
      clear hs0 hZ0 HL11 HL12 HL21 keqab
      go_wp2_with fail
      go_loopw [7] (fun i wr => ∃ k : Nat, k ≤ 4 ∧ i = .int .i64 k ∧ Fr none_ w0 wr) (fun i _ => 4 - (intOf i).toNat)
      case atStart => exact ⟨0, by omega, rfl, hR0⟩
      case round =>
        obtain ⟨k, hk, rfl, hR⟩ := hrel
        by_cases hlt : k < 4
        · have hk0 : (0 : Int) ≤ (k : Int) := by omega
          have hk4 : (k : Int) < 4 := by omega
          obtain ⟨xk, hxk⟩ : ∃ xk, xk = ofF la k := ⟨_, rfl⟩
          have hleast : ∀ j, j < 57 → ¬ winAt k la j < xk := fun j hj => by rw [hxk]; have := least_le k la 57 j hj; show ¬ winAt k la j < leastF k la 57; omega
          have hall : hasB k la xk 57 = true := by rw [hxk]; exact has_all k la
          have hck : ∀ wx, Fr none_ w0 wx → wx.cell? ⟨g, k, none⟩ = some (.int .u32 ((xk : Nat) : Int)) := fun wx hX => by rw [hxk]; exact HCK.out wx hX k hlt
          have HXK := Lib.hid hxk
          have HLE := Lib.hid hleast
          have HALL := Lib.hid hall
          have HC := Lib.hid hck
          clear hxk hleast hall hck
          go_wp2_with fail
          go_loopw [8, 9] (fun z i wq => ∃ j : Nat, j ≤ 57 ∧ i = .int .i64 j ∧ z = .bool (hasB k la xk j) ∧ Fr none_ w0 wq) (fun _ i _ => 57 - (intOf i).toNat)
          case atStart => exact ⟨0, by omega, rfl, rfl, hR⟩
          case round =>
            obtain ⟨j, hj, rfl, rfl, hQ⟩ := hrel
            by_cases hjl : j < 57
            · have hcs := HCS.out wr hQ j (by omega)
              have hwin := window_any k 8 (some ⟨w.heap.size, j, none⟩) (64 - j) ((la.drop j).take 8) wr (by rw [List.length_take, List.length_drop, HA.out]; omega) (by rw [List.length_take, List.length_drop, HA.out]; omega) hcs
              have hwin : Calls Try.prog 10 #[.int .i64 (k : Int), .slice (some ⟨w.heap.size, j, none⟩) 8 (64 - j)] wr fun e w' => e = .returned (.int .u32 (winAt k la j : Nat)) ∧ Fr none_ wr w' := hwin
              obtain ⟨W, hW⟩ : ∃ W, W = winAt k la j := ⟨_, rfl⟩
              rw [← hW] at hwin
              have hWX : ¬ W < xk := by rw [hW]; exact HLE.out j hjl
              have hWXi : ¬ (W : Int) < (xk : Int) := by omega
              have hstep : hasB k la xk (j + 1) = (hasB k la xk j || decide (W = xk)) := by rw [hW]; rfl
              have HSTEP := Lib.hid hstep
              have HWIN := Lib.hid hwin
              obtain ⟨z, hz⟩ : ∃ z, z = hasB k la xk j := ⟨_, rfl⟩
              rw [← hz]
              have HZ := Lib.hid hz
              have hadd : IntKind.i64.wrap ((j : Int) + 8) = (j : Int) + 8 := IntWalk.i64_in _ (by omega)
              have hj1 : (0 : Int) ≤ (j : Int) := by omega
              have hj2 : (j : Int) + 8 ≤ 64 := by omega
              have hj3 : ¬ (64 : Nat) = j := by omega
              have hj4 : (j : Int) ≤ (j : Int) + 8 := by omega
              clear hW hwin hstep hz hcs
              go_wp2_with fail
              (with_reducible refine HWIN.out.mono ?_)
              rintro e w5 ⟨rfl, hG5⟩
              have hQ5 := hQ.trans hG5
              have hc5 := HC.out w5 hQ5
              by_cases hWe : W = xk
              · subst hWe
                cases z
                all_goals
                  go_wp2_with fail
                  go_roundw
                  case rel => exact ⟨j + 1, by omega, by go_num, by rw [HSTEP.out, ← HZ.out]; simp, hQ5⟩
                  case measure => simp [intOf]; omega
              · have hWei : ¬ (W : Int) = (xk : Int) := by omega
                cases z
                all_goals
                  go_wp2_with fail
                  go_roundw
                  case rel => exact ⟨j + 1, by omega, by go_num, by rw [HSTEP.out, ← HZ.out]; simp [hWe] <;> exact hWei, hQ5⟩
                  case measure => simp [intOf]; omega
            · have hj57 : j = 57 := by omega
              subst hj57
              rw [HALL.out]
              go_wp2_with fail
              go_roundw
              case rel => exact ⟨k + 1, by omega, by go_num, hQ⟩
              case measure => simp [intOf]; omega
        · have hk4 : k = 4 := by omega
          subst hk4
          go_wp2_with fail
          (with_reducible refine (ssure_any _).mono ?_)
          rintro e w6 ⟨rfl, hG6⟩
          go_wp2_with fail
          go_ret
          exact ⟨rfl, (hF.trans hR).trans hG6⟩
end Go.Proofs.Ytniiokhkmdknaaa

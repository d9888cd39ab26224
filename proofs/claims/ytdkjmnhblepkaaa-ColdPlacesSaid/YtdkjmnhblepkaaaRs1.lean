import Derived.Test.YtdkjmnhblepkaaaGf3
import Derived.Laws.MakeOwn
namespace Go.Proofs.Ytdkjmnhblepkaaa
open Go.RowKit
set_option linter.unusedVariables false
set_option linter.unusedSimpArgs false
set_option maxRecDepth 100000

/-! rs: rows of bytes in memory; mix. -/
theorem info_u8R : (Try.prog.info? 5).map (fun i => (i.zero, i.size, i.bytes)) = some (some (.int .u8 0), 1, 1) := by kernel_rfl
theorem mkB (n : Nat) (hn : n ≤ 1000000) (w : World) : (Instr.makeSlice 33 (.int .i64 (n : Int)) (.int .i64 (n : Int))).run Try.prog w = .ok (.slice (some ⟨w.heap.size, 0, none⟩) n n) (w.alloc (.cells ((List.replicate n (0 : UInt8)).map byteV).toArray 5)) := by
  obtain ⟨i, hi, hzz⟩ := Option.map_eq_some_iff.1 info_u8R
  simp only [Prod.mk.injEq] at hzz
  obtain ⟨hz, hs, hb⟩ := hzz
  have h := run_make (P := Try.prog) w 33 5 i _ Try.underlying33 hi hz .i64 .i64 n n (by omega) (by omega) (by rw [hb]; omega) (by omega)
  rw [hs, Int.toNat_natCast] at h
  have e : madeCells (Value.int .u8 0).cells (n * 1) = ((List.replicate n (0 : UInt8)).map byteV).toArray := by
    apply Array.toList_inj.1
    rw [show (Value.int .u8 0).cells = #[Value.int .u8 0] from rfl, toList_madeCells_one, Nat.mul_one, List.map_replicate]
    rfl
  rw [e] at h
  exact h
/-- rows of bytes, none of them in the field's block -/
structure RowsV (w : World) (g : Nat) (A : Option Addr) (rows : List (List UInt8)) : Prop where
  at_ : ∃ vs : List Value, vs.length = rows.length ∧ CellsAt w A vs ∧ ∀ j (hj : j < rows.length), ∃ Aj cj, vs[j]? = some (.slice Aj rows[j].length cj) ∧ CellsAt w Aj (rows[j].map byteV) ∧ (Aj = none → rows[j].length = 0 ∧ cj = 0) ∧ (∀ b, blkOf Aj b → 0 < rows[j].length → b ≠ g)
  ne : ∀ b, blkOf A b → 0 < rows.length → b ≠ g
theorem RowsV.fr {w w' : World} {g : Nat} {A : Option Addr} {rows : List (List UInt8)} (h : RowsV w g A rows) {S : Nat → Prop} (hF : Fr S w w') (hS : ∀ b, b < w.heap.size → S b → b = g) : RowsV w' g A rows := by
  obtain ⟨⟨vs, h1, h2, h3⟩, hne⟩ := h
  refine ⟨⟨vs, h1, h2.frp hF (fun b hb hl hs => hne b hb (by omega) (hS b (h2.lt hb hl) hs)), fun j hj => ?_⟩, hne⟩
  obtain ⟨Aj, cj, e1, e2, e3, e4⟩ := h3 j hj
  exact ⟨Aj, cj, e1, e2.frp hF (fun b hb hl hs => e4 b hb (by rw [List.length_map] at hl; exact hl) (hS b (e2.lt hb hl) hs)), e3, e4⟩
theorem RowsV.row {w : World} {g : Nat} {A : Option Addr} {rows : List (List UInt8)} (h : RowsV w g A rows) (j : Nat) (hj : j < rows.length) : ∃ a o Aj cj, A = some ⟨a, o, none⟩ ∧ w.cell? ⟨a, o + j, none⟩ = some (.slice Aj rows[j].length cj) ∧ CellsAt w Aj (rows[j].map byteV) ∧ (Aj = none → rows[j].length = 0 ∧ cj = 0) ∧ (∀ b, blkOf Aj b → 0 < rows[j].length → b ≠ g) := by
  obtain ⟨⟨vs, h1, h2, h3⟩, hne⟩ := h
  obtain ⟨Aj, cj, e1, e2, e3, e4⟩ := h3 j hj
  obtain ⟨a, o, hA, hc⟩ := h2.getD e1
  exact ⟨a, o, Aj, cj, hA, hc, e2, e3, e4⟩
def accN (row : List UInt8) (rows : List (List UInt8)) : Nat → Nat → UInt8
  | 0, _ => 0
  | t + 1, i => accN row rows t i ^^^ gmul (row.getD t 0) ((rows.getD t []).getD i 0)
def mixS (row : List UInt8) (rows : List (List UInt8)) (n j k : Nat) : List UInt8 := (List.range n).map (fun i => accN row rows (if i < k then j + 1 else j) i)
def mixF (row : List UInt8) (rows : List (List UInt8)) (n : Nat) : List UInt8 := (List.range n).map (accN row rows row.length)
theorem mixS_len (row : List UInt8) (rows : List (List UInt8)) (n j k : Nat) : (mixS row rows n j k).length = n := by simp [mixS]
theorem mixF_len (row : List UInt8) (rows : List (List UInt8)) (n : Nat) : (mixF row rows n).length = n := by simp [mixF]
theorem mixS_start (row : List UInt8) (rows : List (List UInt8)) (n : Nat) : mixS row rows n 0 0 = List.replicate n 0 := by
  unfold mixS
  rw [List.eq_replicate_iff]
  refine ⟨by simp, fun b hb => ?_⟩
  obtain ⟨i, _, rfl⟩ := List.mem_map.1 hb
  rfl
theorem mixS_next (row : List UInt8) (rows : List (List UInt8)) (n j : Nat) : mixS row rows n j n = mixS row rows n (j + 1) 0 := by
  unfold mixS
  apply List.map_congr_left
  intro i hi
  rw [if_pos (List.mem_range.1 hi), if_neg (by omega)]
theorem mixS_end (row : List UInt8) (rows : List (List UInt8)) (n : Nat) : mixS row rows n row.length 0 = mixF row rows n := by
  unfold mixS mixF
  apply List.map_congr_left
  intro i hi
  rw [if_neg (by omega)]
theorem mixS_get (row : List UInt8) (rows : List (List UInt8)) (n j k i : Nat) (hi : i < n) : (mixS row rows n j k)[i]? = some (accN row rows (if i < k then j + 1 else j) i) := by
  unfold mixS
  rw [List.getElem?_map, List.getElem?_range hi]; rfl
theorem mixS_set (row : List UInt8) (rows : List (List UInt8)) (n j k : Nat) (hk : k < n) : (mixS row rows n j k).set k (accN row rows j k ^^^ gmul (row.getD j 0) ((rows.getD j []).getD k 0)) = mixS row rows n j (k + 1) := by
  apply List.ext_getElem?
  intro i
  by_cases hi : i < n
  · rw [mixS_get _ _ _ _ _ _ hi, List.getElem?_set, mixS_get _ _ _ _ _ _ hi, mixS_len]
    by_cases e : k = i
    · subst e
      rw [if_pos rfl, if_pos hk, if_pos (by omega)]
      rfl
    · rw [if_neg e]
      by_cases h1 : i < k
      · rw [if_pos h1, if_pos (by omega)]
      · rw [if_neg h1, if_neg (by omega)]
  · rw [List.getElem?_eq_none (by rw [List.length_set, mixS_len]; omega), List.getElem?_eq_none (by rw [mixS_len]; omega)]
/-- what holds in mix: the field; the sum so far, in a block of its own -/
structure MixS (w wr : World) (g b : Nat) (l : List UInt8) : Prop where
  fd : FieldAt wr g
  out : wr.heap[b]? = some (.cells (l.map byteV).toArray 5 (0, 0))
  ge : w.heap.size ≤ b
  fr : Fr (fun i => i = g) w wr
  ne : b ≠ g
theorem MixS.fld {w wr w0 w' : World} {g b : Nat} {l : List UInt8} (h : MixS w wr g b l) (h0 : Fr none_ wr w0) (hM : FieldM w' g) (hF : Fr (fun i => i = g) w0 w') : MixS w w' g b l :=
  ⟨.inr hM, hF.heap (h0.heap0 h.out) h.ne, h.ge, (h.fr.trans0 h0).trans hF, h.ne⟩
theorem MixS.cell {w wr : World} {g b : Nat} {l : List UInt8} (h : MixS w wr g b l) {k : Nat} {u : UInt8} (hk : l[k]? = some u) : wr.cell? ⟨b, k, none⟩ = some (byteV u) := by
  rw [cell_of_blk h.out, List.getElem?_toArray, List.getElem?_map, hk]; rfl
theorem MixS.fz {w wr : World} {g b : Nat} {l : List UInt8} (h : MixS w wr g b l) {k : Nat} : wr.frozen? ⟨b, k, none⟩ = false := frozen_of_blk h.out k
theorem MixS.put {w wr : World} {g b : Nat} {l l' : List UInt8} (h : MixS w wr g b l) {k : Nat} {u x : UInt8} (hk : l[k]? = some u) (hl : l.set k x = l') : MixS w (wr.setCell ⟨b, k, none⟩ (byteV x)) g b l' :=
  ⟨h.fd.fr (Fr.set wr b k _) (fun e => h.ne e.symm), by
    rw [heap_setCell_same h.out, ← hl, List.map_set]
    simp, h.ge, h.fr.own (Fr.set wr b k _) h.ge, h.ne⟩
theorem MixS.drew {w wr : World} {g b : Nat} {l : List UInt8} (h : MixS w wr g b l) : MixS w wr.drew g b l := ⟨h.fd.fr (Fr.refl none_ wr).drew (fun h => h), h.out, h.ge, h.fr.drew, h.ne⟩
/-- the answer of mix: a row of its own -/
def MixPost (w : World) (g : Nat) (l : List UInt8) (e : Ending) (w' : World) : Prop := ∃ b, e = .returned (.slice (some ⟨b, 0, none⟩) l.length l.length) ∧ MixS w w' g b l
theorem gfadd_u (g : Nat) (a b : UInt8) (w : World) : Calls Try.prog 45 #[ptr g, byteV a, byteV b] w fun e w' => e = .returned (.int .u8 ((a ^^^ b).toNat : Int)) ∧ w' = w := gfadd_any g a b w
set_option maxHeartbeats 8000000 in
theorem mix_any {w : World} {g : Nat} (hg : FieldAt w g) (Ar : Option Addr) (cr : Nat) (row : List UInt8) (hrow : CellsAt w Ar (row.map byteV)) (hrg : ∀ b, blkOf Ar b → 0 < row.length → b ≠ g) (Ap : Option Addr) (nr cp : Nat) (rows : List (List UInt8)) (hnr : nr = rows.length) (hR : RowsV w g Ap rows) (hlen : row.length ≤ rows.length) (hrl : row.length ≤ 1000000) (n : Nat) (hn : n ≤ 1000000) (hall : ∀ r ∈ rows, r.length = n) :
    Calls Try.prog 39 #[ptr g, .slice Ar row.length cr, .slice Ap nr cp, .int .i64 (n : Int)] w fun e w' => MixPost w g (mixF row rows n) e w' := by
  subst hnr
  have hmk := mkB n hn
  have hgl := hg.lt
  obtain ⟨Z, hZ⟩ : ∃ Z, Z = ((List.replicate n (0 : UInt8)).map byteV).toArray := ⟨_, rfl⟩
  rw [← hZ] at hmk
  obtain ⟨V, hV⟩ : ∃ V, V = w.alloc (.cells Z 5) := ⟨_, rfl⟩
  have hFV : Fr none_ w V := by rw [hV]; exact (Fr.refl _ _).alloc _
  have hX : MixS w V g w.heap.size (mixS row rows n 0 0) := ⟨hg.fr hFV (fun h => h), by rw [hV, mixS_start, ← hZ]; exact heap_alloc_new _ _, Nat.le_refl _, Fr.of0 hFV, by omega⟩
  have HIN := Lib.hid (And.intro hrow (And.intro hrg (And.intro hR hall)))
  have HV := Lib.hid hV
  have HX0 := Lib.hid hX
  clear hg hrow hrg hR hall hX hV hFV hZ
  go_enter Try.func39, Try.ntmps39
  go_wp2_with fail
  rw [← HV.out]
  clear hmk
  obtain ⟨b, hb⟩ : ∃ b, b = w.heap.size := ⟨_, rfl⟩
  rw [← hb] at HX0 ⊢
  clear hb
  go_loopw [18] (fun v wr => ∃ j : Nat, j ≤ row.length ∧ v = .int .i64 j ∧ MixS w wr g b (mixS row rows n j 0)) (fun v _ => row.length - (intOf v).toNat)
  case atStart => exact ⟨0, by omega, rfl, HX0.out⟩
  case round =>
    obtain ⟨j, hj, rfl, hX⟩ := hrel
    clear HX0
    by_cases hlt : j < row.length
    · have z1 : (j : Int) < (row.length : Int) := by omega
      obtain ⟨hrow, hrg, hR, hall⟩ := HIN.out
      have hrow2 := hrow.frp hX.fr (fun b hb hl e => hrg b hb (by rw [List.length_map] at hl; exact hl) e)
      have hj2 : j < rows.length := by omega
      have hRne := hR.ne
      obtain ⟨pa, po, Aj, cj, hApe, hpc, hpr, hpn, hpg⟩ := hR.row j hj2
      subst hApe
      replace hpc := hX.fr.cell hpc (hRne pa ⟨_, rfl⟩ (by omega))
      obtain ⟨ra, ro, rfl, hrc⟩ := hrow2.getD (k := j) (v := byteV row[j]) (by rw [List.getElem?_map, List.getElem?_eq_getElem hlt]; rfl)
      have hln : rows[j].length = n := hall _ (List.getElem_mem _)
      obtain ⟨x, hx⟩ : ∃ x, x = row[j] := ⟨_, rfl⟩
      obtain ⟨p, hp⟩ : ∃ p, p = rows[j] := ⟨_, rfl⟩
      rw [← hx] at hrc
      rw [← hp] at hpc hpr hpn hpg hln
      have hxg : row.getD j 0 = x := by rw [hx, List.getD_eq_getElem?_getD, List.getElem?_eq_getElem hlt]; rfl
      have hpd : rows.getD j [] = p := by rw [hp, List.getD_eq_getElem?_getD, List.getElem?_eq_getElem hj2]; rfl
      rw [hln] at hpc
      have HP := Lib.hid (And.intro hpr (And.intro hpg (And.intro hln (And.intro hxg hpd))))
      have HX1 := Lib.hid hX
      have i1 : (0 : Int) ≤ (j : Int) ∧ (j : Int) < (rows.length : Int) := by omega
      have i2 : (0 : Int) ≤ (j : Int) ∧ (j : Int) < (row.length : Int) := by omega
      clear hrow hrg hR hRne hall hrow2 hpr hpg hpn hx hp hln hX hxg hpd
      go_wp2_with fail
      go_loopw [28] (fun v wx => ∃ k : Nat, k ≤ n ∧ v = .int .i64 k ∧ MixS w wx g b (mixS row rows n j k)) (fun v _ => n - (intOf v).toNat)
      case atStart => exact ⟨0, by omega, rfl, HX1.out⟩
      case round =>
        obtain ⟨k, hk0, rfl, hX⟩ := hrel
        rename_i wr0 wr
        by_cases hkn : k < n
        · have z2 : (k : Int) < (n : Int) := by omega
          obtain ⟨hpr, hpg, hln, hxg, hpd⟩ := HP.out
          have hpr2 := hpr.frp hX.fr (fun b' hb' hl e => hpg b' hb' (by rw [List.length_map] at hl; exact hl) e)
          have hkp : k < p.length := by omega
          obtain ⟨qa, qo, hAq, hqc⟩ := hpr2.getD (k := k) (v := byteV p[k]) (by rw [List.getElem?_map, List.getElem?_eq_getElem hkp]; rfl)
          subst hAq
          obtain ⟨y, hy⟩ : ∃ y, y = p[k] := ⟨_, rfl⟩
          rw [← hy] at hqc
          have hyg : p.getD k 0 = y := by rw [hy, List.getD_eq_getElem?_getD, List.getElem?_eq_getElem hkp]; rfl
          have hk := mixS_get row rows n j k k hkn
          rw [if_neg (by omega)] at hk
          have hacc := mixS_set row rows n j k hkn
          rw [hxg, hpd, hyg] at hacc
          obtain ⟨u, hu⟩ : ∃ u, u = accN row rows j k := ⟨_, rfl⟩
          rw [← hu] at hk hacc
          have HX := Lib.hid hX
          have c0 : wr.drew.cell? ⟨b, k, none⟩ = some (byteV u) := hX.drew.cell hk
          have hk' := Lib.hid hk
          have hacc' := Lib.hid hacc
          have i3 : (0 : Int) ≤ (k : Int) ∧ (k : Int) < (n : Int) := by omega
          have i4 : k < n := hkn
          clear hpr hpg hln hxg hpd hpr2 hkp hy hyg hu hX hk hacc HX1
          go_wp2_with fail
          refine wp_region_held_drew (S := fun W => True) (by kernel_rfl) trivial (fun hHeld0 => ?_)
          refine wpAnyH_take (i := 0) (oi := _) (v := ?v1) rfl (by kernel_rfl) (by kernel_rfl) (by kernel_rfl) (fun _ _ _ h => h) (Or.inl ⟨by rfl, ?hy1⟩) (by assumption) ?rest1
          case hy1 => (intro w hSw; (try dsimp only at hSw); go_simp; try with_reducible rfl)
          try simp only [List.getElem_toArray, List.getElem_cons_zero, List.getElem_cons_succ, Act.put, List.setIfInBounds_toArray, List.set_cons_zero, List.set_cons_succ]
          refine wpAnyH_take (i := 1) (oi := _) (v := ?v2) rfl (by kernel_rfl) (by kernel_rfl) (by kernel_rfl) (fun _ _ _ h => h) (Or.inl ⟨by rfl, ?hy2⟩) (by assumption) ?rest2
          case hy2 => (intro w hSw; (try dsimp only at hSw); go_simp; try with_reducible rfl)
          try simp only [List.getElem_toArray, List.getElem_cons_zero, List.getElem_cons_succ, Act.put, List.setIfInBounds_toArray, List.set_cons_zero, List.set_cons_succ]
          refine wpAnyH_take (i := 2) (oi := _) (v := ?v3) rfl (by kernel_rfl) (by kernel_rfl) (by kernel_rfl) (fun _ _ _ h => h) (Or.inl ⟨by rfl, ?hy3⟩) (by assumption) ?rest3
          case hy3 => (intro w hSw; (try dsimp only at hSw); go_simp; try with_reducible rfl)
          try simp only [List.getElem_toArray, List.getElem_cons_zero, List.getElem_cons_succ, Act.put, List.setIfInBounds_toArray, List.set_cons_zero, List.set_cons_succ]
          refine wpAnyH_take (i := 3) (oi := _) (v := ?v4) rfl (by kernel_rfl) (by kernel_rfl) (by kernel_rfl) (fun _ _ _ h => h) (Or.inl ⟨by rfl, ?hy4⟩) (by assumption) ?rest4
          case hy4 => (intro w hSw; (try dsimp only at hSw); go_simp; try with_reducible rfl)
          try simp only [List.getElem_toArray, List.getElem_cons_zero, List.getElem_cons_succ, Act.put, List.setIfInBounds_toArray, List.set_cons_zero, List.set_cons_succ]
          refine wpAnyH_take (i := 4) (oi := _) (v := ?v5) rfl (by kernel_rfl) (by kernel_rfl) (by kernel_rfl) (fun _ _ _ h => h) (Or.inl ⟨by rfl, ?hy5⟩) (by assumption) ?rest5
          case hy5 => (intro w hSw; (try dsimp only at hSw); go_simp; try with_reducible rfl)
          try simp only [List.getElem_toArray, List.getElem_cons_zero, List.getElem_cons_succ, Act.put, List.setIfInBounds_toArray, List.set_cons_zero, List.set_cons_succ]
          refine wpAnyH_take (i := 5) (oi := _) (v := ?v6) rfl (by kernel_rfl) (by kernel_rfl) (by kernel_rfl) (fun _ _ _ h => h) (Or.inl ⟨by rfl, ?hy6⟩) (by assumption) ?rest6
          case hy6 => (intro w hSw; (try dsimp only at hSw); go_simp; try with_reducible rfl)
          try simp only [List.getElem_toArray, List.getElem_cons_zero, List.getElem_cons_succ, Act.put, List.setIfInBounds_toArray, List.set_cons_zero, List.set_cons_succ]
          refine wpAnyH_take (i := 7) (oi := _) (v := ?v7) rfl (by kernel_rfl) (by kernel_rfl) (by kernel_rfl) (fun _ _ _ h => h) (Or.inl ⟨by rfl, ?hy7⟩) (by assumption) ?rest7
          case hy7 => (intro w hSw; (try dsimp only at hSw); go_simp; try with_reducible rfl)
          try simp only [List.getElem_toArray, List.getElem_cons_zero, List.getElem_cons_succ, Act.put, List.setIfInBounds_toArray, List.set_cons_zero, List.set_cons_succ]
          refine wpAnyH_take (i := 8) (oi := _) (v := ?v8) rfl (by kernel_rfl) (by kernel_rfl) (by kernel_rfl) (fun _ _ _ h => h) (Or.inl ⟨by rfl, ?hy8⟩) (by assumption) ?rest8
          case hy8 => (intro w hSw; (try dsimp only at hSw); go_simp; try with_reducible rfl)
          try simp only [List.getElem_toArray, List.getElem_cons_zero, List.getElem_cons_succ, Act.put, List.setIfInBounds_toArray, List.set_cons_zero, List.set_cons_succ]
          refine wpAnyH_take (i := 9) (oi := _) (v := ?v9) rfl (by kernel_rfl) (by kernel_rfl) (by kernel_rfl) (fun _ _ _ h => h) (Or.inl ⟨by rfl, ?hy9⟩) (by assumption) ?rest9
          case hy9 => (intro w hSw; (try dsimp only at hSw); go_simp; try with_reducible rfl)
          try simp only [List.getElem_toArray, List.getElem_cons_zero, List.getElem_cons_succ, Act.put, List.setIfInBounds_toArray, List.set_cons_zero, List.set_cons_succ]
          refine wpAnyH_ready (rs := [6, 10]) (by kernel_rfl) (by simp) ?_
          refine AllReadyH.cons (o := _) rfl (fun KK hKK => ?_) (AllReadyH.cons (o := _) rfl (fun KK hKK => ?_) (AllReadyH.nil))
          · go_simp
            refine hKK.out _ _ ?hS10 (fun hHeld10 => ?rest10)
            case hS10 => exact trivial
            clear hKK KK
            try simp only [List.getElem_toArray, List.getElem_cons_zero, List.getElem_cons_succ, Act.put, List.setIfInBounds_toArray, List.set_cons_zero, List.set_cons_succ]
            refine wpAnyH_ready (rs := [10]) (by kernel_rfl) (by simp) ?_
            refine AllReadyH.cons (o := _) rfl (fun KK hKK => ?_) (AllReadyH.nil)
            go_simp
            (go_at_call 46; (with_reducible refine (gfmul_any (HX.out.fd.fr (Fr.refl none_ wr).drew (fun h => h)) x y).mono ?_); rintro e x1 ⟨rfl, hM1, hY1⟩; have HX1 := Lib.hid (HX.out.fld (Fr.refl none_ wr).drew hM1 hY1); have d1 : x1.cell? ⟨b, k, none⟩ = some (byteV u) := HX1.out.cell hk'.out)
            go_wp2_with fail
            refine hKK.out _ _ ?hS11 (fun hHeld11 => ?rest11)
            case hS11 => exact trivial
            clear hKK KK
            try simp only [List.getElem_toArray, List.getElem_cons_zero, List.getElem_cons_succ, Act.put, List.setIfInBounds_toArray, List.set_cons_zero, List.set_cons_succ]
            refine wpAnyH_ready (rs := [11]) (by kernel_rfl) (by simp) ?_
            refine AllReadyH.cons (o := _) rfl (fun KK hKK => ?_) (AllReadyH.nil)
            go_simp
            (go_at_call 45; (with_reducible refine (gfadd_u g u (gmul x y) _).mono ?_); rintro e x2 ⟨rfl, hw2⟩; subst hw2; have f1 : x2.frozen? ⟨b, k, none⟩ = false := HX1.out.fz)
            go_wp2_with fail
            refine hKK.out _ _ ?hS12 (fun hHeld12 => ?rest12)
            case hS12 => exact trivial
            clear hKK KK
            try simp only [List.getElem_toArray, List.getElem_cons_zero, List.getElem_cons_succ, Act.put, List.setIfInBounds_toArray, List.set_cons_zero, List.set_cons_succ]
            refine wpAnyH_take (i := 12) (oi := _) (v := ?v13) rfl (by kernel_rfl) (by kernel_rfl) (by kernel_rfl) (fun _ _ _ h => h) (Or.inl ⟨by rfl, ?hy13⟩) (by assumption) ?rest13
            case hy13 => (intro w hSw; (try dsimp only at hSw); go_simp; try with_reducible rfl)
            try simp only [List.getElem_toArray, List.getElem_cons_zero, List.getElem_cons_succ, Act.put, List.setIfInBounds_toArray, List.set_cons_zero, List.set_cons_succ]
            refine wpAnyH_ready (rs := [13]) (by kernel_rfl) (by simp) ?_
            refine AllReadyH.cons (o := _) rfl (fun KK hKK => ?_) (AllReadyH.nil)
            go_simp
            refine hKK.out _ _ ?hS14 (fun hHeld14 => ?rest14)
            case hS14 => exact trivial
            clear hKK KK
            try simp only [List.getElem_toArray, List.getElem_cons_zero, List.getElem_cons_succ, Act.put, List.setIfInBounds_toArray, List.set_cons_zero, List.set_cons_succ]
            refine wpAnyH_done (by kernel_rfl) ?_ _
            have hX2 := HX1.out.put hk'.out (x := u ^^^ gmul x y) hacc'.out
            have HX2 := Lib.hid hX2
            clear hX2
            go_wp2_with fail
            go_roundw
            case rel => exact ⟨k + 1, by omega, by go_num, HX2.out⟩
            case measure => simp [intOf]; omega
          · go_simp
            (go_at_call 46; (with_reducible refine (gfmul_any (HX.out.fd.fr (Fr.refl none_ wr).drew (fun h => h)) x y).mono ?_); rintro e x1 ⟨rfl, hM1, hY1⟩; have HX1 := Lib.hid (HX.out.fld (Fr.refl none_ wr).drew hM1 hY1); have d1 : x1.cell? ⟨b, k, none⟩ = some (byteV u) := HX1.out.cell hk'.out)
            go_wp2_with fail
            refine hKK.out _ _ ?hS15 (fun hHeld15 => ?rest15)
            case hS15 => exact trivial
            clear hKK KK
            try simp only [List.getElem_toArray, List.getElem_cons_zero, List.getElem_cons_succ, Act.put, List.setIfInBounds_toArray, List.set_cons_zero, List.set_cons_succ]
            refine wpAnyH_ready (rs := [6]) (by kernel_rfl) (by simp) ?_
            refine AllReadyH.cons (o := _) rfl (fun KK hKK => ?_) (AllReadyH.nil)
            go_simp
            refine hKK.out _ _ ?hS16 (fun hHeld16 => ?rest16)
            case hS16 => exact trivial
            clear hKK KK
            try simp only [List.getElem_toArray, List.getElem_cons_zero, List.getElem_cons_succ, Act.put, List.setIfInBounds_toArray, List.set_cons_zero, List.set_cons_succ]
            refine wpAnyH_ready (rs := [11]) (by kernel_rfl) (by simp) ?_
            refine AllReadyH.cons (o := _) rfl (fun KK hKK => ?_) (AllReadyH.nil)
            go_simp
            (go_at_call 45; (with_reducible refine (gfadd_u g u (gmul x y) _).mono ?_); rintro e x2 ⟨rfl, hw2⟩; subst hw2; have f1 : x2.frozen? ⟨b, k, none⟩ = false := HX1.out.fz)
            go_wp2_with fail
            refine hKK.out _ _ ?hS17 (fun hHeld17 => ?rest17)
            case hS17 => exact trivial
            clear hKK KK
            try simp only [List.getElem_toArray, List.getElem_cons_zero, List.getElem_cons_succ, Act.put, List.setIfInBounds_toArray, List.set_cons_zero, List.set_cons_succ]
            refine wpAnyH_take (i := 12) (oi := _) (v := ?v18) rfl (by kernel_rfl) (by kernel_rfl) (by kernel_rfl) (fun _ _ _ h => h) (Or.inl ⟨by rfl, ?hy18⟩) (by assumption) ?rest18
            case hy18 => (intro w hSw; (try dsimp only at hSw); go_simp; try with_reducible rfl)
            try simp only [List.getElem_toArray, List.getElem_cons_zero, List.getElem_cons_succ, Act.put, List.setIfInBounds_toArray, List.set_cons_zero, List.set_cons_succ]
            refine wpAnyH_ready (rs := [13]) (by kernel_rfl) (by simp) ?_
            refine AllReadyH.cons (o := _) rfl (fun KK hKK => ?_) (AllReadyH.nil)
            go_simp
            refine hKK.out _ _ ?hS19 (fun hHeld19 => ?rest19)
            case hS19 => exact trivial
            clear hKK KK
            try simp only [List.getElem_toArray, List.getElem_cons_zero, List.getElem_cons_succ, Act.put, List.setIfInBounds_toArray, List.set_cons_zero, List.set_cons_succ]
            refine wpAnyH_done (by kernel_rfl) ?_ _
            have hX2 := HX1.out.put hk'.out (x := u ^^^ gmul x y) hacc'.out
            have HX2 := Lib.hid hX2
            clear hX2
            go_wp2_with fail
            go_roundw
            case rel => exact ⟨k + 1, by omega, by go_num, HX2.out⟩
            case measure => simp [intOf]; omega
        · have hk2 : k = n := by omega
          subst hk2
          have hX2 := hX
          rw [mixS_next] at hX2
          have HX2 := Lib.hid hX2
          clear hX hX2
          go_wp2_with fail
          go_roundw
          case rel => exact ⟨j + 1, by omega, by go_num, HX2.out⟩
          case measure => simp [intOf]; omega
    · have hj2 : j = row.length := by omega
      subst hj2
      have hX2 := hX
      rw [mixS_end] at hX2
      have HX2 := Lib.hid hX2
      clear hX hX2
      go_wp2_with fail
      go_ret
      exact ⟨b, by rw [mixF_len]; rfl, HX2.out⟩
end Go.Proofs.Ytdkjmnhblepkaaa

import Derived.Test.YtdkjmnhblepkaaaRs6
namespace Go.Proofs.Ytdkjmnhblepkaaa
open Go.RowKit
set_option linter.unusedVariables false
set_option linter.unusedSimpArgs false
set_option maxRecDepth 100000

/-! rs: scale, take: a row of its own is turned in place. -/
/-- a row in its own block, turned in place -/
structure RowM (w wr : World) (g b : Nat) (l : List UInt8) : Prop where
  fd : FieldAt wr g
  out : wr.heap[b]? = some (.cells (l.map byteV).toArray 5 (0, 0))
  fr : Fr (fun i => i = g ∨ i = b) w wr
  ne : b ≠ g
theorem RowM.fld {w wr w0 w' : World} {g b : Nat} {l : List UInt8} (h : RowM w wr g b l) (h0 : Fr none_ wr w0) (hM : FieldM w' g) (hF : Fr (fun i => i = g) w0 w') : RowM w w' g b l :=
  ⟨.inr hM, hF.heap (h0.heap0 h.out) h.ne, (h.fr.trans0 h0).trans (hF.mono (fun _ _ e => .inl e)), h.ne⟩
theorem RowM.cell {w wr : World} {g b : Nat} {l : List UInt8} (h : RowM w wr g b l) {k : Nat} {u : UInt8} (hk : l[k]? = some u) : wr.cell? ⟨b, k, none⟩ = some (byteV u) := by
  rw [cell_of_blk h.out, List.getElem?_toArray, List.getElem?_map, hk]; rfl
theorem RowM.fz {w wr : World} {g b : Nat} {l : List UInt8} (h : RowM w wr g b l) {k : Nat} : wr.frozen? ⟨b, k, none⟩ = false := frozen_of_blk h.out k
theorem RowM.put {w wr : World} {g b : Nat} {l l' : List UInt8} (h : RowM w wr g b l) {k : Nat} {x : UInt8} (hl : l.set k x = l') : RowM w (wr.setCell ⟨b, k, none⟩ (byteV x)) g b l' :=
  ⟨h.fd.fr (Fr.set wr b k _) (fun e => h.ne e.symm), by
    rw [heap_setCell_same h.out, ← hl, List.map_set]
    simp, h.fr.setCell (p := ⟨b, k, none⟩) (fun _ => .inr rfl) _, h.ne⟩
theorem RowM.drew {w wr : World} {g b : Nat} {l : List UInt8} (h : RowM w wr g b l) : RowM w wr.drew g b l := ⟨h.fd.fr (Fr.refl none_ wr).drew (fun h => h), h.out, h.fr.drew, h.ne⟩
/-- the first j are turned by f -/
def turnP (f : Nat → UInt8 → UInt8) (r : List UInt8) (j : Nat) : List UInt8 := (List.range r.length).map (fun i => if i < j then f i (r.getD i 0) else r.getD i 0)
theorem turnP_len (f : Nat → UInt8 → UInt8) (r : List UInt8) (j : Nat) : (turnP f r j).length = r.length := by simp [turnP]
theorem turnP_zero (f : Nat → UInt8 → UInt8) (r : List UInt8) : turnP f r 0 = r := by
  apply List.ext_getElem?
  intro i
  unfold turnP
  by_cases hi : i < r.length
  · rw [List.getElem?_map, List.getElem?_range hi]
    simp [hi]
  · rw [List.getElem?_eq_none (by simp; omega), List.getElem?_eq_none (by omega)]
theorem turnP_get (f : Nat → UInt8 → UInt8) (r : List UInt8) (j : Nat) (hj : j < r.length) : (turnP f r j)[j]? = some (r.getD j 0) := by
  unfold turnP
  rw [List.getElem?_map, List.getElem?_range hj]
  simp
theorem turnP_set (f : Nat → UInt8 → UInt8) (r : List UInt8) (j : Nat) (hj : j < r.length) : (turnP f r j).set j (f j (r.getD j 0)) = turnP f r (j + 1) := by
  apply List.ext_getElem?
  intro i
  unfold turnP
  by_cases hi : i < r.length
  · rw [List.getElem?_set, List.getElem?_map, List.getElem?_range hi, List.getElem?_map, List.getElem?_range hi]
    by_cases e : j = i
    · subst e
      rw [if_pos rfl, if_pos (by simpa using hj)]
      simp
    · rw [if_neg e]
      by_cases h1 : i < j
      · simp [h1, show i < j + 1 by omega]
      · simp [h1, show ¬ i < j + 1 by omega]
  · rw [List.getElem?_eq_none (by simp; omega), List.getElem?_eq_none (by simp; omega)]
def scaleF (r : List UInt8) (x : UInt8) : List UInt8 := turnP (fun _ b => gmul b x) r r.length
def takeF (r q : List UInt8) (x : UInt8) : List UInt8 := turnP (fun i b => b ^^^ gmul (q.getD i 0) x) r r.length
theorem scaleF_len (r : List UInt8) (x : UInt8) : (scaleF r x).length = r.length := turnP_len _ _ _
theorem takeF_len (r q : List UInt8) (x : UInt8) : (takeF r q x).length = r.length := turnP_len _ _ _
theorem gfmul_u {w : World} {g : Nat} (h : FieldAt w g) (a b : UInt8) : Calls Try.prog 46 #[ptr g, byteV a, byteV b] w fun e w' => e = .returned (.int .u8 ((gmul a b).toNat : Int)) ∧ FieldM w' g ∧ Fr (fun i => i = g) w w' := gfmul_any h a b
set_option maxHeartbeats 8000000 in
theorem scale_any {w : World} {g b : Nat} {r : List UInt8} (h : RowM w w g b r) (cr : Nat) (x : UInt8) (hl : r.length ≤ 1000) :
    Calls Try.prog 51 #[ptr g, .slice (some ⟨b, 0, none⟩) r.length cr, byteV x] w fun e w' => e = .returned (.tuple #[]) ∧ RowM w w' g b (scaleF r x) := by
  have H := Lib.hid h
  clear h
  go_enter Try.func51, Try.ntmps51
  go_wp2_with fail
  go_loopw [10] (fun v wr => ∃ j : Nat, j ≤ r.length ∧ v = .int .i64 j ∧ RowM w wr g b (turnP (fun _ b => gmul b x) r j)) (fun v _ => r.length - (intOf v).toNat)
  case atStart => exact ⟨0, by omega, rfl, by rw [turnP_zero]; exact H.out⟩
  case round =>
    obtain ⟨j, hj, rfl, hX⟩ := hrel
    by_cases hjl : j < r.length
    · have q1 : (j : Int) < (r.length : Int) := by omega
      have q2 : (0 : Int) ≤ (j : Int) ∧ (j : Int) < (r.length : Int) := by omega
      have hg := turnP_get (fun _ b => gmul b x) r j hjl
      have hs := turnP_set (fun _ b => gmul b x) r j hjl
      obtain ⟨y, hy⟩ : ∃ y, y = r.getD j 0 := ⟨_, rfl⟩
      rw [← hy] at hg hs
      have c0 := hX.cell hg
      have HX := Lib.hid hX
      have HS := Lib.hid hs
      have HG := Lib.hid hg
      clear hX hs hg hy
      go_wp2_with fail
      (with_reducible refine (gfmul_u HX.out.fd y x).mono ?_)
      rintro e w2 ⟨rfl, hM, hF⟩
      have hX2 := HX.out.fld (Fr.refl _ _) hM hF
      have d1 := hX2.cell HG.out
      have f1 : w2.frozen? ⟨b, j, none⟩ = false := hX2.fz
      have hX3 := hX2.put (x := gmul y x) HS.out
      have HX3 := Lib.hid hX3
      clear hX2 hX3 hM hF
      go_wp2_with fail
      go_roundw
      case rel => exact ⟨j + 1, by omega, by go_num, HX3.out⟩
      case measure => simp [intOf]; omega
    · have hj2 : j = r.length := by omega
      subst hj2
      have HX := Lib.hid hX
      clear hX
      go_wp2_with fail
      go_end0
      exact ⟨rfl, HX.out⟩
set_option maxHeartbeats 8000000 in
theorem take_any {w : World} {g b bq : Nat} {r q : List UInt8} (h : RowM w w g b r) (hq : w.heap[bq]? = some (.cells (q.map byteV).toArray 5 (0, 0))) (hbq : bq ≠ b ∧ bq ≠ g) (hlq : q.length = r.length) (cr cq : Nat) (x : UInt8) (hl : r.length ≤ 1000) :
    Calls Try.prog 52 #[ptr g, .slice (some ⟨b, 0, none⟩) r.length cr, .slice (some ⟨bq, 0, none⟩) r.length cq, byteV x] w fun e w' => e = .returned (.tuple #[]) ∧ RowM w w' g b (takeF r q x) := by
  have H := Lib.hid h
  have HQ := Lib.hid hq
  clear h hq
  go_enter Try.func52, Try.ntmps52
  go_wp2_with fail
  go_loopw [12] (fun v wr => ∃ j : Nat, j ≤ r.length ∧ v = .int .i64 j ∧ RowM w wr g b (turnP (fun i b => b ^^^ gmul (q.getD i 0) x) r j)) (fun v _ => r.length - (intOf v).toNat)
  case atStart => exact ⟨0, by omega, rfl, by rw [turnP_zero]; exact H.out⟩
  case round =>
    obtain ⟨j, hj, rfl, hX⟩ := hrel
    by_cases hjl : j < r.length
    · have q1 : (j : Int) < (r.length : Int) := by omega
      have q2 : (0 : Int) ≤ (j : Int) ∧ (j : Int) < (r.length : Int) := by omega
      have hg := turnP_get (fun i b => b ^^^ gmul (q.getD i 0) x) r j hjl
      have hs := turnP_set (fun i b => b ^^^ gmul (q.getD i 0) x) r j hjl
      obtain ⟨u, hu⟩ : ∃ u, u = r.getD j 0 := ⟨_, rfl⟩
      rw [← hu] at hg hs
      have hqb := hX.fr.heap HQ.out (by rintro (e | e); exact hbq.2 e; exact hbq.1 e)
      have hqc : wr.cell? ⟨bq, j, none⟩ = some (byteV (q.getD j 0)) := by
        rw [cell_of_blk hqb, List.getElem?_toArray, List.getElem?_map, List.getElem?_eq_getElem (by omega)]
        simp [List.getD_eq_getElem?_getD, List.getElem?_eq_getElem (show j < q.length by omega)]
      obtain ⟨y, hy⟩ : ∃ y, y = q.getD j 0 := ⟨_, rfl⟩
      rw [← hy] at hqc hs
      have c0 : wr.drew.cell? ⟨b, j, none⟩ = some (byteV u) := hX.drew.cell hg
      have HX := Lib.hid hX
      have HS := Lib.hid hs
      have HG := Lib.hid hg
      clear hX hs hg hy hu hqb
      go_wp2_with fail
      refine wp_region_held_drew (S := fun W => True) (by kernel_rfl) trivial (fun hHeld0 => ?_)
      refine wpAnyH_take (i := 0) (oi := _) (v := ?v1) rfl (by kernel_rfl) (by kernel_rfl) (by kernel_rfl) (fun _ _ _ h => h) (Or.inl ⟨by rfl, ?hy1⟩) (by assumption) ?rest1
      case hy1 => (intro w hSw; (try dsimp only at hSw); go_simp; try with_reducible rfl)
      try simp only [List.getElem_toArray, List.getElem_cons_zero, List.getElem_cons_succ, Act.put, List.setIfInBounds_toArray, List.set_cons_zero, List.set_cons_succ]
      refine wpAnyH_take (i := 1) (oi := _) (v := ?v2) rfl (by kernel_rfl) (by kernel_rfl) (by kernel_rfl) (fun _ _ _ h => h) (Or.inl ⟨by rfl, ?hy2⟩) (by assumption) ?rest2
      case hy2 => (intro w hSw; (try dsimp only at hSw); go_simp; try with_reducible rfl)
      try simp only [List.getElem_toArray, List.getElem_cons_zero, List.getElem_cons_succ, Act.put, List.setIfInBounds_toArray, List.set_cons_zero, List.set_cons_succ]
      refine wpAnyH_take (i := 2) (oi := _) (v := ?v3) rfl (by kernel_rfl) (by kernel_rfl) (by kernel_rfl) (fun _ _ _ h => h) (Or.inl ⟨by rfl, ?hy3⟩) (by assumption) ?rest3
      case hy3 => (intro w hSw; (try dsimp only at hSw); go_simp; try with_reducible rfl)
      try simp only [List.getElem_toArray, List.getElem_cons_zero, List.getElem_cons_succ, Act.put, List.setIfInBounds_toArray, List.set_cons_zero, List.set_cons_succ]
      refine wpAnyH_take (i := 3) (oi := _) (v := ?v4) rfl (by kernel_rfl) (by kernel_rfl) (by kernel_rfl) (fun _ _ _ h => h) (Or.inl ⟨by rfl, ?hy4⟩) (by assumption) ?rest4
      case hy4 => (intro w hSw; (try dsimp only at hSw); go_simp; try with_reducible rfl)
      try simp only [List.getElem_toArray, List.getElem_cons_zero, List.getElem_cons_succ, Act.put, List.setIfInBounds_toArray, List.set_cons_zero, List.set_cons_succ]
      refine wpAnyH_take (i := 4) (oi := _) (v := ?v5) rfl (by kernel_rfl) (by kernel_rfl) (by kernel_rfl) (fun _ _ _ h => h) (Or.inl ⟨by rfl, ?hy5⟩) (by assumption) ?rest5
      case hy5 => (intro w hSw; (try dsimp only at hSw); go_simp; try with_reducible rfl)
      try simp only [List.getElem_toArray, List.getElem_cons_zero, List.getElem_cons_succ, Act.put, List.setIfInBounds_toArray, List.set_cons_zero, List.set_cons_succ]
      refine wpAnyH_take (i := 5) (oi := _) (v := ?v6) rfl (by kernel_rfl) (by kernel_rfl) (by kernel_rfl) (fun _ _ _ h => h) (Or.inl ⟨by rfl, ?hy6⟩) (by assumption) ?rest6
      case hy6 => (intro w hSw; (try dsimp only at hSw); go_simp; try with_reducible rfl)
      try simp only [List.getElem_toArray, List.getElem_cons_zero, List.getElem_cons_succ, Act.put, List.setIfInBounds_toArray, List.set_cons_zero, List.set_cons_succ]
      refine wpAnyH_take (i := 7) (oi := _) (v := ?v7) rfl (by kernel_rfl) (by kernel_rfl) (by kernel_rfl) (fun _ _ _ h => h) (Or.inl ⟨by rfl, ?hy7⟩) (by assumption) ?rest7
      case hy7 => (intro w hSw; (try dsimp only at hSw); go_simp; try with_reducible rfl)
      try simp only [List.getElem_toArray, List.getElem_cons_zero, List.getElem_cons_succ, Act.put, List.setIfInBounds_toArray, List.set_cons_zero, List.set_cons_succ]
      refine wpAnyH_take (i := 8) (oi := _) (v := ?v8) rfl (by kernel_rfl) (by kernel_rfl) (by kernel_rfl) (fun _ _ _ h => h) (Or.inl ⟨by rfl, ?hy8⟩) (by assumption) ?rest8
      case hy8 => (intro w hSw; (try dsimp only at hSw); go_simp; try with_reducible rfl)
      try simp only [List.getElem_toArray, List.getElem_cons_zero, List.getElem_cons_succ, Act.put, List.setIfInBounds_toArray, List.set_cons_zero, List.set_cons_succ]
      refine wpAnyH_take (i := 9) (oi := _) (v := ?v9) rfl (by kernel_rfl) (by kernel_rfl) (by kernel_rfl) (fun _ _ _ h => h) (Or.inl ⟨by rfl, ?hy9⟩) (by assumption) ?rest9
      case hy9 => (intro w hSw; (try dsimp only at hSw); go_simp; try with_reducible rfl)
      try simp only [List.getElem_toArray, List.getElem_cons_zero, List.getElem_cons_succ, Act.put, List.setIfInBounds_toArray, List.set_cons_zero, List.set_cons_succ]
      refine wpAnyH_ready (rs := [6, 10]) (by kernel_rfl) (by simp) ?_
      refine AllReadyH.cons (o := _) rfl (fun KK hKK => ?_) (AllReadyH.cons (o := _) rfl (fun KK hKK => ?_) (AllReadyH.nil))
      · go_simp
        refine hKK.out _ _ ?hS10 (fun hHeld10 => ?rest10)
        case hS10 => exact trivial
        clear hKK KK
        try simp only [List.getElem_toArray, List.getElem_cons_zero, List.getElem_cons_succ, Act.put, List.setIfInBounds_toArray, List.set_cons_zero, List.set_cons_succ]
        refine wpAnyH_ready (rs := [10]) (by kernel_rfl) (by simp) ?_
        refine AllReadyH.cons (o := _) rfl (fun KK hKK => ?_) (AllReadyH.nil)
        go_simp
        (go_at_call 46; (with_reducible refine (gfmul_any (HX.out.fd.fr (Fr.refl none_ wr).drew (fun h => h)) y x).mono ?_); rintro e x1 ⟨rfl, hM1, hY1⟩; have HX1 := Lib.hid (HX.out.fld (Fr.refl none_ wr).drew hM1 hY1); have d1 : x1.cell? ⟨b, j, none⟩ = some (byteV u) := HX1.out.cell HG.out)
        go_wp2_with fail
        refine hKK.out _ _ ?hS11 (fun hHeld11 => ?rest11)
        case hS11 => exact trivial
        clear hKK KK
        try simp only [List.getElem_toArray, List.getElem_cons_zero, List.getElem_cons_succ, Act.put, List.setIfInBounds_toArray, List.set_cons_zero, List.set_cons_succ]
        refine wpAnyH_ready (rs := [11]) (by kernel_rfl) (by simp) ?_
        refine AllReadyH.cons (o := _) rfl (fun KK hKK => ?_) (AllReadyH.nil)
        go_simp
        (go_at_call 45; (with_reducible refine (gfadd_u g u (gmul y x) _).mono ?_); rintro e x2 ⟨rfl, hw2⟩; subst hw2; have f1 : x2.frozen? ⟨b, j, none⟩ = false := HX1.out.fz)
        go_wp2_with fail
        refine hKK.out _ _ ?hS12 (fun hHeld12 => ?rest12)
        case hS12 => exact trivial
        clear hKK KK
        try simp only [List.getElem_toArray, List.getElem_cons_zero, List.getElem_cons_succ, Act.put, List.setIfInBounds_toArray, List.set_cons_zero, List.set_cons_succ]
        refine wpAnyH_take (i := 12) (oi := _) (v := ?v13) rfl (by kernel_rfl) (by kernel_rfl) (by kernel_rfl) (fun _ _ _ h => h) (Or.inl ⟨by rfl, ?hy13⟩) (by assumption) ?rest13
        case hy13 => (intro w hSw; (try dsimp only at hSw); go_simp; try with_reducible rfl)
        try simp only [List.getElem_toArray, List.getElem_cons_zero, List.getElem_cons_succ, Act.put, List.setIfInBounds_toArray, List.set_cons_zero, List.set_cons_succ]
        refine wpAnyH_ready (rs := [13]) (by kernel_rfl) (by simp) ?_
        refine AllReadyH.cons (o := _) rfl (fun KK hKK => ?_) (AllReadyH.nil)
        go_simp
        refine hKK.out _ _ ?hS14 (fun hHeld14 => ?rest14)
        case hS14 => exact trivial
        clear hKK KK
        try simp only [List.getElem_toArray, List.getElem_cons_zero, List.getElem_cons_succ, Act.put, List.setIfInBounds_toArray, List.set_cons_zero, List.set_cons_succ]
        refine wpAnyH_done (by kernel_rfl) ?_ _
        have hX2 := HX1.out.put (x := u ^^^ gmul y x) HS.out
        have HX2 := Lib.hid hX2
        clear hX2
        go_wp2_with fail
        go_roundw
        case rel => exact ⟨j + 1, by omega, by go_num, HX2.out⟩
        case measure => simp [intOf]; omega
      · go_simp
        (go_at_call 46; (with_reducible refine (gfmul_any (HX.out.fd.fr (Fr.refl none_ wr).drew (fun h => h)) y x).mono ?_); rintro e x1 ⟨rfl, hM1, hY1⟩; have HX1 := Lib.hid (HX.out.fld (Fr.refl none_ wr).drew hM1 hY1); have d1 : x1.cell? ⟨b, j, none⟩ = some (byteV u) := HX1.out.cell HG.out)
        go_wp2_with fail
        refine hKK.out _ _ ?hS15 (fun hHeld15 => ?rest15)
        case hS15 => exact trivial
        clear hKK KK
        try simp only [List.getElem_toArray, List.getElem_cons_zero, List.getElem_cons_succ, Act.put, List.setIfInBounds_toArray, List.set_cons_zero, List.set_cons_succ]
        refine wpAnyH_ready (rs := [6]) (by kernel_rfl) (by simp) ?_
        refine AllReadyH.cons (o := _) rfl (fun KK hKK => ?_) (AllReadyH.nil)
        go_simp
        refine hKK.out _ _ ?hS16 (fun hHeld16 => ?rest16)
        case hS16 => exact trivial
        clear hKK KK
        try simp only [List.getElem_toArray, List.getElem_cons_zero, List.getElem_cons_succ, Act.put, List.setIfInBounds_toArray, List.set_cons_zero, List.set_cons_succ]
        refine wpAnyH_ready (rs := [11]) (by kernel_rfl) (by simp) ?_
        refine AllReadyH.cons (o := _) rfl (fun KK hKK => ?_) (AllReadyH.nil)
        go_simp
        (go_at_call 45; (with_reducible refine (gfadd_u g u (gmul y x) _).mono ?_); rintro e x2 ⟨rfl, hw2⟩; subst hw2; have f1 : x2.frozen? ⟨b, j, none⟩ = false := HX1.out.fz)
        go_wp2_with fail
        refine hKK.out _ _ ?hS17 (fun hHeld17 => ?rest17)
        case hS17 => exact trivial
        clear hKK KK
        try simp only [List.getElem_toArray, List.getElem_cons_zero, List.getElem_cons_succ, Act.put, List.setIfInBounds_toArray, List.set_cons_zero, List.set_cons_succ]
        refine wpAnyH_take (i := 12) (oi := _) (v := ?v18) rfl (by kernel_rfl) (by kernel_rfl) (by kernel_rfl) (fun _ _ _ h => h) (Or.inl ⟨by rfl, ?hy18⟩) (by assumption) ?rest18
        case hy18 => (intro w hSw; (try dsimp only at hSw); go_simp; try with_reducible rfl)
        try simp only [List.getElem_toArray, List.getElem_cons_zero, List.getElem_cons_succ, Act.put, List.setIfInBounds_toArray, List.set_cons_zero, List.set_cons_succ]
        refine wpAnyH_ready (rs := [13]) (by kernel_rfl) (by simp) ?_
        refine AllReadyH.cons (o := _) rfl (fun KK hKK => ?_) (AllReadyH.nil)
        go_simp
        refine hKK.out _ _ ?hS19 (fun hHeld19 => ?rest19)
        case hS19 => exact trivial
        clear hKK KK
        try simp only [List.getElem_toArray, List.getElem_cons_zero, List.getElem_cons_succ, Act.put, List.setIfInBounds_toArray, List.set_cons_zero, List.set_cons_succ]
        refine wpAnyH_done (by kernel_rfl) ?_ _
        have hX2 := HX1.out.put (x := u ^^^ gmul y x) HS.out
        have HX2 := Lib.hid hX2
        clear hX2
        go_wp2_with fail
        go_roundw
        case rel => exact ⟨j + 1, by omega, by go_num, HX2.out⟩
        case measure => simp [intOf]; omega
    · have hj2 : j = r.length := by omega
      subst hj2
      have HX := Lib.hid hX
      clear hX
      go_wp2_with fail
      go_end0
      exact ⟨rfl, HX.out⟩
end Go.Proofs.Ytdkjmnhblepkaaa

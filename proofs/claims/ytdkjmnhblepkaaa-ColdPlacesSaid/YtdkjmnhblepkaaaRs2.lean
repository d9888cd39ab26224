import Derived.Test.YtdkjmnhblepkaaaRs1
namespace Go.Proofs.Ytdkjmnhblepkaaa
open Go.RowKit
set_option linter.unusedVariables false
set_option linter.unusedSimpArgs false
set_option maxRecDepth 100000

/-! rs: Data, Parity, all, Row. -/
structure CodeS (w : World) (c d m g : Nat) : Prop where
  blk : w.heap[c]? = some (.cells #[.int .i64 (d : Int), .int .i64 (m : Int), ptr g] 80 (0, 0))
  fd : FieldAt w g
  ne : c ≠ g
  most : 1 ≤ d ∧ d + m ≤ 32
theorem CodeS.fr {w w' : World} {c d m g : Nat} (h : CodeS w c d m g) {S : Nat → Prop} (hF : Fr S w w') (h1 : ¬ S c) (h2 : ¬ S g) : CodeS w' c d m g := ⟨hF.heap h.blk h1, h.fd.fr hF h2, h.ne, h.most⟩
theorem CodeS.fr0 {w w' : World} {c d m g : Nat} (h : CodeS w c d m g) (hF : Fr none_ w w') : CodeS w' c d m g := h.fr hF (fun h => h) (fun h => h)
theorem CodeS.frG {w w' : World} {c d m g : Nat} (h : CodeS w c d m g) (hF : Fr (fun i => i = g) w w') (hf : FieldAt w' g) : CodeS w' c d m g := ⟨hF.heap h.blk h.ne, hf, h.ne, h.most⟩
theorem CodeS.cells {w : World} {c d m g : Nat} (h : CodeS w c d m g) : w.cell? ⟨c, 0, none⟩ = some (.int .i64 (d : Int)) ∧ w.cell? ⟨c, 1, none⟩ = some (.int .i64 (m : Int)) ∧ w.cell? ⟨c, 2, none⟩ = some (ptr g) := by
  refine ⟨?_, ?_, ?_⟩ <;> rw [cell_of_blk h.blk] <;> rfl
theorem data_any {w : World} {c d m g : Nat} (h : CodeS w c d m g) : Calls Try.prog 47 #[ptr c] w fun e w' => e = .returned (.int .i64 (d : Int)) ∧ w' = w := by
  obtain ⟨c0, c1, c2⟩ := h.cells
  go_enter Try.func47, Try.ntmps47
  go_wp2_with fail
  go_ret
  exact ⟨rfl, rfl⟩
theorem parity_any {w : World} {c d m g : Nat} (h : CodeS w c d m g) : Calls Try.prog 48 #[ptr c] w fun e w' => e = .returned (.int .i64 (m : Int)) ∧ w' = w := by
  obtain ⟨c0, c1, c2⟩ := h.cells
  go_enter Try.func48, Try.ntmps48
  go_wp2_with fail
  go_ret
  exact ⟨rfl, rfl⟩
theorem all_any {w : World} {c d m g : Nat} (h : CodeS w c d m g) : Calls Try.prog 40 #[ptr c] w fun e w' => e = .returned (.int .i64 ((d + m : Nat) : Int)) ∧ w' = w := by
  have hm := h.most
  have H := Lib.hid h
  clear h
  have e1 : wrap64 ((d : Int) + (m : Int)) = ((d + m : Nat) : Int) := by rw [IntWalk.wrap64_in _ (by omega)]; omega
  go_enter Try.func40, Try.ntmps40
  go_wp2_with fail
  (with_reducible refine (data_any H.out).mono ?_)
  rintro e w1 ⟨rfl, rfl⟩
  go_wp2_with fail
  (with_reducible refine (parity_any H.out).mono ?_)
  rintro e w2 ⟨rfl, rfl⟩
  go_wp2_with fail
  go_ret
  exact ⟨by show Ending.returned (.int .i64 _) = _; first | rw [e1] | simp, rfl⟩
def rowP (d part j : Nat) : List UInt8 := (List.range d).map (fun i => if i < j then ginv (UInt8.ofNat (part ^^^ i)) else 0)
def rowF (d part : Nat) : List UInt8 := if part < d then (List.replicate d 0).set part 1 else rowP d part d
theorem rowP_len (d part j : Nat) : (rowP d part j).length = d := by simp [rowP]
theorem rowF_len (d part : Nat) : (rowF d part).length = d := by unfold rowF; split <;> simp [rowP]
theorem rowP_zero (d part : Nat) : rowP d part 0 = List.replicate d 0 := by
  unfold rowP
  rw [List.eq_replicate_iff]
  refine ⟨by simp, fun b hb => ?_⟩
  obtain ⟨i, _, rfl⟩ := List.mem_map.1 hb
  rfl
theorem rowP_set (d part j : Nat) (hj : j < d) : (rowP d part j).set j (ginv (UInt8.ofNat (part ^^^ j))) = rowP d part (j + 1) := by
  apply List.ext_getElem?
  intro i
  unfold rowP
  by_cases hi : i < d
  · rw [List.getElem?_set, List.getElem?_map, List.getElem?_range hi, List.getElem?_map, List.getElem?_range hi]
    by_cases e : j = i
    · subst e
      rw [if_pos rfl, if_pos (by simpa using hj)]
      simp
    · rw [if_neg e]
      by_cases h1 : i < j
      · simp [h1, show i < j + 1 by omega]
      · simp [h1, show ¬ i < j + 1 by omega]
  · rw [List.getElem?_eq_none (by simp; omega), List.getElem?_eq_none (by simp; omega)]
theorem xor32 : ∀ p : Nat, p < 32 → ∀ j : Nat, j < 32 → IntKind.u8.wrap (bits .xor .i64 (p : Int) (j : Int)) = ((p ^^^ j : Nat) : Int) ∧ p ^^^ j < 256 ∧ (j < p → p ^^^ j ≠ 0) := by decide +kernel
/-- the answer of Row -/
def RowPost (w : World) (g : Nat) (l : List UInt8) (e : Ending) (w' : World) : Prop := ∃ b, e = .returned (.tuple #[.slice (some ⟨b, 0, none⟩) l.length l.length, .nilIface]) ∧ MixS w w' g b l
set_option maxHeartbeats 8000000 in
theorem row_any {w : World} {c d m g : Nat} (h : CodeS w c d m g) (part : Nat) (hp : part < d + m) :
    Calls Try.prog 41 #[ptr c, .int .i64 (part : Int)] w fun e w' => RowPost w g (rowF d part) e w' := by
  have hm := h.most
  have hmk := mkB d (by omega)
  obtain ⟨c0, c1, c2⟩ := h.cells
  have hgl := h.fd.lt
  have hcl := blk_lt h.blk
  have hne := h.ne
  obtain ⟨Z, hZ⟩ : ∃ Z, Z = ((List.replicate d (0 : UInt8)).map byteV).toArray := ⟨_, rfl⟩
  rw [← hZ] at hmk
  obtain ⟨V, hV⟩ : ∃ V, V = w.alloc (.cells Z 5) := ⟨_, rfl⟩
  have hFV : Fr none_ w V := by rw [hV]; exact (Fr.refl _ _).alloc _
  have hmkV := hmk w
  rw [← hV] at hmkV
  clear hmk
  have hX : MixS w V g w.heap.size (List.replicate d 0) := ⟨h.fd.fr hFV (fun h => h), by rw [hV, ← hZ]; exact heap_alloc_new _ _, Nat.le_refl _, Fr.of0 hFV, by omega⟩
  have v0 : V.cell? ⟨c, 0, none⟩ = some (.int .i64 (d : Int)) := hFV.cell0 c0
  have H := Lib.hid h
  have HV := Lib.hid hV
  have HX := Lib.hid hX
  have z1 : ¬ (part : Int) < 0 := by omega
  have z2 : ¬ ((d + m : Nat) : Int) ≤ (part : Int) := by omega
  have z3 : ¬ d + m ≤ part := by omega
  have z4 : ¬ (d : Int) + (m : Int) ≤ (part : Int) := by omega
  clear h hZ hV hFV hX
  go_enter Try.func41, Try.ntmps41
  go_wp2_with fail
  (with_reducible refine (all_any H.out).mono ?_)
  rintro e w1 ⟨rfl, hw1⟩
  subst hw1
  obtain ⟨b, hb⟩ : ∃ b, b = w1.heap.size := ⟨_, rfl⟩
  rw [← hb] at hmkV HX
  have HB := Lib.hid hb
  clear hb
  by_cases hlt : part < d
  · have hr : rowF d part = (List.replicate d 0).set part 1 := by unfold rowF; rw [if_pos hlt]
    have hl : ((List.replicate d (0 : UInt8)).set part 1).length = d := by simp
    have p1 : (part : Int) < (d : Int) := by omega
    have p2 : (0 : Int) ≤ (part : Int) ∧ (part : Int) < (d : Int) := by omega
    have hk : (List.replicate d (0 : UInt8))[part]? = some 0 := by rw [List.getElem?_replicate, if_pos hlt]
    have d1 : V.cell? ⟨b, part, none⟩ = some (byteV 0) := HX.out.cell hk
    have f1 : V.frozen? ⟨b, part, none⟩ = false := HX.out.fz
    have hX2 := HX.out.put hk (x := 1) rfl
    have HX2 := Lib.hid (And.intro hX2 (And.intro hr hl))
    clear hr hk hX2 hl
    go_wp2_with fail
    go_ret2
    rw [HX2.out.2.1]
    exact ⟨b, by rw [HX2.out.2.2]; rfl, HX2.out.1⟩
  · have p1 : ¬ (part : Int) < (d : Int) := by omega
    have hr : rowF d part = rowP d part d := by unfold rowF; rw [if_neg hlt]
    have HR := Lib.hid hr
    have HX0 := Lib.hid (show MixS w1 V g b (rowP d part 0) by rw [rowP_zero]; exact HX.out)
    clear hr HX
    go_wp2_with fail
    go_loopw [36] (fun v wr => ∃ j : Nat, j ≤ d ∧ v = .int .i64 j ∧ MixS w1 wr g b (rowP d part j)) (fun v _ => d - (intOf v).toNat)
    case atStart => exact ⟨0, by omega, rfl, HX0.out⟩
    case round =>
      obtain ⟨j, hj, rfl, hX⟩ := hrel
      by_cases hjd : j < d
      · have q1 : (j : Int) < (d : Int) := by omega
        have q2 : (0 : Int) ≤ (j : Int) ∧ (j : Int) < (d : Int) := by omega
        obtain ⟨x1, x2, x3⟩ := xor32 part (by omega) j (by omega)
        have hxn := x3 (by omega)
        obtain ⟨z, hz⟩ : ∃ z, z = UInt8.ofNat (part ^^^ j) := ⟨_, rfl⟩
        have hzn : z.toNat = part ^^^ j := by rw [hz]; exact UInt8.toNat_ofNat_of_lt' (by simpa using x2)
        have hset := rowP_set d part j hjd
        rw [← hz] at hset
        have y2 : wr.cell? ⟨c, 2, none⟩ = some (ptr g) := hX.fr.cell c2 hne
        have hk : (rowP d part j)[j]? = some 0 := by
          unfold rowP
          rw [List.getElem?_map, List.getElem?_range hjd]
          simp
        have hiv : ∀ wx, FieldAt wx g → Calls Try.prog 49 #[ptr g, .int .u8 ((part ^^^ j : Nat) : Int)] wx fun e w' => e = .returned (.tuple #[.int .u8 ((ginv z).toNat : Int), .nilIface]) ∧ FieldM w' g ∧ Fr (fun i => i = g) wx w' := fun wx hf => by
          have h9 := gfinv_any hf z
          unfold ginvV at h9
          rw [if_neg (by rw [hzn]; exact hxn)] at h9
          unfold byteV at h9
          rw [hzn] at h9
          exact h9
        have HIV := Lib.hid (hiv wr hX.fd)
        have HK := Lib.hid hk
        have HS := Lib.hid hset
        have HX := Lib.hid hX
        clear hiv hk hset hX x2 x3 hxn hz hzn HX0
        go_wp2_with fail
        (with_reducible refine HIV.out.mono ?_)
        rintro e w2 ⟨rfl, hM, hF⟩
        have hX2 := HX.out.fld (Fr.refl _ _) hM hF
        have d1 : w2.cell? ⟨b, j, none⟩ = some (byteV 0) := hX2.cell HK.out
        have f1 : w2.frozen? ⟨b, j, none⟩ = false := hX2.fz
        have hX3 := hX2.put HK.out HS.out
        have HX3 := Lib.hid hX3
        clear hX2 hX3 hM hF
        go_wp2_with fail
        go_roundw
        case rel => exact ⟨j + 1, by omega, by go_num, HX3.out⟩
        case measure => simp [intOf]; omega
      · have hj2 : j = d := by omega
        subst hj2
        have HX := Lib.hid hX
        clear hX HX0
        have q1 : ¬ (j : Int) < (j : Int) := by omega
        go_wp2_with fail
        go_ret2
        rw [HR.out]
        exact ⟨b, by rw [rowP_len]; rfl, HX.out⟩
end Go.Proofs.Ytdkjmnhblepkaaa

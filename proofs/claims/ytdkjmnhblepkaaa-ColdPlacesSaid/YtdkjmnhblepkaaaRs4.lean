import Derived.Test.YtdkjmnhblepkaaaRs3
namespace Go.Proofs.Ytdkjmnhblepkaaa
open Go.RowKit
set_option linter.unusedVariables false
set_option linter.unusedSimpArgs false
set_option maxRecDepth 100000

/-! rs: even, Encode. -/
theorem setCell_comm (w : World) (a b : Addr) (u v : Value) (h : a.block ≠ b.block) : (w.setCell a u).setCell b v = (w.setCell b v).setCell a u := by
  unfold World.setCell
  simp only
  congr 1
  apply Array.ext
  · simp
  · intro i h1 h2
    simp only [Array.getElem_modify]
    by_cases e1 : a.block = i
    · by_cases e2 : b.block = i
      · exact absurd (e1.trans e2.symm) h
      · simp [e1, e2]
    · by_cases e2 : b.block = i
      · simp [e1, e2]
      · simp [e1, e2]
theorem info_boR : (Try.prog.info? 4).map (fun i => (i.zero, i.size, i.bytes)) = some (some (.bool false), 1, 1) := by kernel_rfl
theorem mkBools (n : Nat) (hn : n ≤ 1000000) (w : World) : (Instr.makeSlice 34 (.int .i64 (n : Int)) (.int .i64 (n : Int))).run Try.prog w = .ok (.slice (some ⟨w.heap.size, 0, none⟩) n n) (w.alloc (.cells (List.replicate n (Value.bool false)).toArray 4)) := by
  obtain ⟨i, hi, hzz⟩ := Option.map_eq_some_iff.1 info_boR
  simp only [Prod.mk.injEq] at hzz
  obtain ⟨hz, hs, hb⟩ := hzz
  have h := run_make (P := Try.prog) w 34 4 i _ Try.underlying34 hi hz .i64 .i64 n n (by omega) (by omega) (by rw [hb]; omega) (by omega)
  rw [hs, Int.toNat_natCast] at h
  have e : madeCells (Value.bool false).cells (n * 1) = (List.replicate n (Value.bool false)).toArray := by
    apply Array.toList_inj.1
    rw [show (Value.bool false).cells = #[Value.bool false] from rfl, toList_madeCells_one, Nat.mul_one]
  rw [e] at h
  exact h
/-- the length that the first k parts have, of those that are there -/
def evN (there : List Bool) (n k : Nat) : Int := if (there.take k).any id = true then (n : Int) else -1
theorem evN_zero (there : List Bool) (n : Nat) : evN there n 0 = -1 := by unfold evN; simp
theorem evN_succ (there : List Bool) (n k : Nat) (hk : k < there.length) : evN there n (k + 1) = if there[k] = true then (n : Int) else evN there n k := by
  unfold evN
  rw [List.take_add_one, List.getElem?_eq_getElem hk, List.any_append]
  cases there[k] <;> simp
set_option maxHeartbeats 4000000 in
theorem even_any {w : World} {g : Nat} (Ap : Option Addr) (cp : Nat) (rows : List (List UInt8)) (hR : RowsV w g Ap rows) (At : Option Addr) (ct nt : Nat) (there : List Bool) (hT : CellsAt w At (there.map Value.bool)) (hlen : there.length = rows.length) (hnt : nt = there.length) (n : Nat) (hm : rows.length ≤ 1000) (hall : ∀ j (h1 : j < there.length) (h2 : j < rows.length), there[j] = true → rows[j].length = n) (hn : n ≤ 1000000) :
    Calls Try.prog 31 #[.slice Ap rows.length cp, .slice At nt ct] w fun e w' => e = .returned (.tuple #[.int .i64 (evN there n rows.length), .nilIface]) ∧ w' = w := by
  subst hnt
  have hnot : ∀ (x : Bool) (w : World), (Op.unary .not (.bool x)).run Try.prog w = .ok (.bool (!x)) w := fun _ _ => rfl
  have H := Lib.hid (And.intro hR (And.intro hT hall))
  clear hR hT hall
  go_enter Try.func31, Try.ntmps31
  go_wp2_with fail
  go_loopw [6, 11] (fun x v wr => ∃ k : Nat, k ≤ rows.length ∧ v = .int .i64 k ∧ x = .int .i64 (evN there n k) ∧ wr = w) (fun _ v _ => rows.length - (intOf v).toNat)
  case atStart => exact ⟨0, by omega, rfl, by rw [evN_zero], rfl⟩
  case round =>
    obtain ⟨k, hk, rfl, rfl, rfl⟩ := hrel
    by_cases hkl : k < rows.length
    · have q1 : (k : Int) < (rows.length : Int) := by omega
      have q2 : (0 : Int) ≤ (k : Int) ∧ (k : Int) < (rows.length : Int) := by omega
      obtain ⟨hR, hT, hall⟩ := H.out
      obtain ⟨a, o, Aj, cj, rfl, hc, _, _, _⟩ := hR.row k hkl
      have hkt : k < there.length := by omega
      obtain ⟨ta, to_, rfl, htc⟩ := hT.getD (k := k) (v := .bool there[k]) (by rw [List.getElem?_map, List.getElem?_eq_getElem hkt]; rfl)
      have hsu := evN_succ there n k hkt
      have hln : there[k] = true → rows[k].length = n := hall k hkt hkl
      obtain ⟨tk, htk⟩ : ∃ tk, tk = there[k] := ⟨_, rfl⟩
      rw [← htk] at htc hsu hln
      have q3 : (0 : Int) ≤ (k : Int) ∧ (k : Int) < (there.length : Int) := by omega
      have HS := Lib.hid hsu
      have HL := Lib.hid hlen
      clear hR hT hall htk hsu hlen
      cases tk
      · clear hln
        go_wp2_with fail
        go_roundw
        case rel => exact ⟨k + 1, by omega, by go_num, by rw [HS.out, if_neg (by decide)], trivial⟩
        case measure => simp [intOf]; omega
      · have hl2 := hln rfl
        rw [hl2] at hc
        clear hln hl2
        by_cases hany : (there.take k).any id = true
        · have he : evN there n k = (n : Int) := by unfold evN; rw [if_pos hany]
          rw [he]
          clear hany he
          have q4 : ¬ (n : Int) < 0 := by omega
          go_wp2_with fail
          go_roundw
          case rel => exact ⟨k + 1, by omega, by go_num, by rw [HS.out, if_pos rfl], trivial⟩
          case measure => simp [intOf]; omega
        · have he : evN there n k = -1 := by unfold evN; rw [if_neg hany]
          rw [he]
          clear hany he
          go_wp2_with fail
          go_roundw
          case rel => exact ⟨k + 1, by omega, by go_num, by rw [HS.out, if_pos rfl], trivial⟩
          case measure => simp [intOf]; omega
    · have hk2 : k = rows.length := by omega
      subst hk2
      clear H
      go_wp2_with fail
      go_ret2
      exact ⟨rfl, rfl⟩
def unitF (d i : Nat) : List UInt8 := (List.replicate d 0).set i 1
def firstF (d : Nat) : List (List UInt8) := (List.range d).map (unitF d)
theorem firstF_len (d : Nat) : (firstF d).length = d := by simp [firstF]
theorem unitF_len (d i : Nat) : (unitF d i).length = d := by simp [unitF]
theorem firstF_take (d i : Nat) (hi : i < d) : (firstF d).take (i + 1) = (firstF d).take i ++ [unitF d i] := by
  unfold firstF
  rw [← List.map_take, ← List.map_take, List.take_range, List.take_range, Nat.min_eq_left (by omega), Nat.min_eq_left (by omega), List.range_succ, List.map_append]
  rfl
/-- what holds in Encode's loop: marks, and rows of the unit matrix -/
structure EncS (w wr : World) (g bt b d i : Nat) : Prop where
  out : OutS w wr g b d ((firstF d).take i)
  marks : wr.heap[bt]? = some (.cells ((List.replicate i (Value.bool true)) ++ List.replicate (d - i) (Value.bool false)).toArray 4 (0, 0))
  bge : w.heap.size ≤ bt
  bne : bt ≠ b ∧ bt ≠ g
theorem EncS.mark {w wr : World} {g bt b d i : Nat} (h : EncS w wr g bt b d i) (hi : i < d) : wr.cell? ⟨bt, i, none⟩ = some (.bool false) := by
  rw [cell_of_blk h.marks, List.getElem?_toArray, List.getElem?_append_right (by simp), List.getElem?_replicate, if_pos (by simp; omega)]
/-- a round: the mark is set, a row of noughts is laid, its one is set -/
theorem EncS.step {w wr V W3 : World} {g bt b d i bj : Nat} (h : EncS w wr g bt b d i) (hi : i < d)
    (hV : V = (wr.setCell ⟨bt, i, none⟩ (.bool true)).alloc (.cells ((List.replicate d (0 : UInt8)).map byteV).toArray 5)) (hbj : bj = (wr.setCell ⟨bt, i, none⟩ (.bool true)).heap.size)
    (hW : W3 = (V.setCell ⟨b, i, none⟩ (.slice (some ⟨bj, 0, none⟩) d d)).setCell ⟨bj, i, none⟩ (byteV 1)) : EncS w W3 g bt b d (i + 1) := by
  have hlb := h.out.lt
  have hlt := blk_lt h.marks
  have hz1 : (wr.setCell ⟨bt, i, none⟩ (.bool true)).heap.size = wr.heap.size := World.size_setCell _ _ _
  rw [hz1] at hbj
  have hF1 : Fr (fun k => k = bt) wr (wr.setCell ⟨bt, i, none⟩ (.bool true)) := Fr.set wr bt i _
  have hFV : Fr (fun k => k = bt) wr V := by rw [hV]; exact hF1.alloc _
  have hVb : V.heap[bj]? = some (.cells ((List.replicate d (0 : UInt8)).map byteV).toArray 5 (0, 0)) := by rw [hV, hbj, ← hz1]; exact heap_alloc_new _ _
  have hgl := h.out.fd.lt
  have hOV : OutS w V g b d ((firstF d).take i) := by
    obtain ⟨vs, e1, e2, e3⟩ := h.out.blk
    refine ⟨h.out.fd.fr hFV (fun e => h.bne.2 e.symm), h.out.ge, h.out.ne, h.out.fr.own hFV h.bge, vs, e1, hFV.heap e2 (fun e => h.bne.1 e.symm), fun j hj => ?_⟩
    obtain ⟨v, g1, bq, g2, g3, g4, g5, g6⟩ := e3 j hj
    exact ⟨v, g1, bq, g2, hFV.heap g3 (fun e => by subst e; rw [h.marks] at g3; exact absurd (Obj.cells.inj (Option.some.inj g3)).2.1 (by decide)), g4, g5, g6⟩
  have hV1 : (V.setCell ⟨bj, i, none⟩ (byteV 1)).heap[bj]? = some (.cells ((unitF d i).map byteV).toArray 5 (0, 0)) := by
    rw [heap_setCell_same hVb]
    unfold unitF
    rw [List.map_set, List.setIfInBounds_toArray]
  have hne1 : bj ≠ b := by omega
  have hne2 : bj ≠ g := by omega
  have hFu : Fr (fun k => k = bj) V (V.setCell ⟨bj, i, none⟩ (byteV 1)) := Fr.set V bj i _
  have hOV1 : OutS w (V.setCell ⟨bj, i, none⟩ (byteV 1)) g b d ((firstF d).take i) := by
    obtain ⟨vs, e1, e2, e3⟩ := h.out.blk
    obtain ⟨vs', e1', e2', e3'⟩ := hOV.blk
    have hvv : vs' = vs := by
      have h9 := hFV.heap e2 (fun e => h.bne.1 e.symm)
      rw [h9] at e2'
      have h8 := congrArg Array.toList (Obj.cells.inj (Option.some.inj e2')).1
      simp only at h8
      exact (List.append_inj h8 (by omega)).1.symm
    subst hvv
    refine ⟨hOV.fd.fr hFu (fun e => hne2 e.symm), hOV.ge, hOV.ne, hOV.fr.own hFu (by have := hOV.fr.size; have := h.out.fr.size; omega), vs', e1', hFu.heap e2' (fun e => hne1 e.symm), fun j hj => ?_⟩
    obtain ⟨v, g1, bq, g2, g3, g4, g5, g6⟩ := e3 j hj
    obtain ⟨v', q1, bq', q2, q3, q4, q5, q6⟩ := e3' j hj
    rw [g1] at q1
    cases q1
    rw [g2] at q2
    cases q2
    exact ⟨_, g1, bq, g2, hFu.heap q3 (fun e => by have := blk_lt g3; omega), g4, g5, g6⟩
  have htl : ((firstF d).take i).length = i := by rw [List.length_take, firstF_len]; omega
  have hp := hOV1.push (bj := bj) (r := unitF d i) (by omega) hV1 (by have := h.out.fr.size; omega) hne1 hne2
  rw [htl, ← firstF_take d i hi, unitF_len] at hp
  rw [setCell_comm V ⟨b, i, none⟩ ⟨bj, i, none⟩ _ _ (fun e => hne1 e.symm)] at hW
  refine ⟨by rw [hW]; exact hp, ?_, h.bge, h.bne⟩
  rw [hW]
  have hFb := Fr.set (V.setCell ⟨bj, i, none⟩ (byteV 1)) b i (.slice (some ⟨bj, 0, none⟩) d d)
  refine hFb.heap (hFu.heap ?_ (by omega)) h.bne.1
  rw [hV]
  refine heap_alloc_old ?_ _
  rw [heap_setCell_same h.marks]
  congr 2
  obtain ⟨q, hq⟩ : ∃ q, d - i = q + 1 := ⟨d - i - 1, by omega⟩
  rw [hq, show d - (i + 1) = q by omega, List.replicate_succ, List.setIfInBounds_toArray, List.set_append_right _ _ (by simp), List.length_replicate, Nat.sub_self, List.set_cons_zero, List.replicate_succ', List.append_assoc]
  rfl
def encodeF (d m : Nat) (data : List (List UInt8)) (n : Nat) : List (List UInt8) := madeF d m (dataF d data (firstF d) n) n
set_option maxHeartbeats 8000000 in
theorem encode_any {w : World} {c d m g : Nat} (h : CodeS w c d m g) (Ad : Option Addr) (cd : Nat) (data : List (List UInt8)) (hR : RowsV w g Ad data) (hdl : data.length = d) (n : Nat) (hn : n ≤ 1000000) (hall : ∀ r ∈ data, r.length = n) :
    Calls Try.prog 22 #[ptr c, .slice Ad d cd] w fun e w' => MadePost w g (encodeF d m data n) e w' := by
  have hm := h.most
  obtain ⟨c0, c1, c2⟩ := h.cells
  have hne := h.ne
  have hgl := h.fd.lt
  have hmk1 := mkBools d (by omega) w
  obtain ⟨V1, hV1⟩ : ∃ V1, V1 = w.alloc (.cells (List.replicate d (Value.bool false)).toArray 4) := ⟨_, rfl⟩
  rw [← hV1] at hmk1
  have hF1 : Fr none_ w V1 := by rw [hV1]; exact (Fr.refl _ _).alloc _
  have hb1 : V1.heap[w.heap.size]? = some (.cells (List.replicate d (Value.bool false)).toArray 4 (0, 0)) := by rw [hV1]; exact heap_alloc_new _ _
  have hmk2 := mkRows d (by omega) V1
  obtain ⟨V2, hV2⟩ : ∃ V2, V2 = V1.alloc (.cells (List.replicate d (Value.slice none 0 0)).toArray 33) := ⟨_, rfl⟩
  rw [← hV2] at hmk2
  have hF2 : Fr none_ V1 V2 := by rw [hV2]; exact (Fr.refl _ _).alloc _
  have hO := (OutS.start (w := V1) (h.fd.fr hF1 (fun h => h)) hV2).base (Fr.of0 hF1)
  have hlt1 := blk_lt hb1
  have hE : EncS w V2 g w.heap.size V1.heap.size d 0 := ⟨by rw [List.take_zero]; exact hO, by rw [List.replicate_zero, List.nil_append, Nat.sub_zero]; exact hF2.heap0 hb1, Nat.le_refl _, by omega, by omega⟩
  obtain ⟨bt, hbt⟩ : ∃ bt, bt = w.heap.size := ⟨_, rfl⟩
  obtain ⟨b, hb⟩ : ∃ b, b = V1.heap.size := ⟨_, rfl⟩
  rw [← hbt] at hmk1
  rw [← hb] at hmk2
  rw [← hbt, ← hb] at hE
  have HE0 := Lib.hid hE
  have H := Lib.hid (And.intro h (And.intro hR hall))
  have HB := Lib.hid (And.intro hbt hb)
  clear h hR hall hE hO hV1 hV2 hF1 hF2 hb1 hbt hb
  have z1 : ((d : Int) != (d : Int)) = false := by simp
  go_enter Try.func22, Try.ntmps22
  go_wp2_with fail
  go_loopw [31] (fun v wr => ∃ i : Nat, i ≤ d ∧ v = .int .i64 i ∧ EncS w wr g bt b d i) (fun v _ => d - (intOf v).toNat)
  case atStart => exact ⟨0, by omega, rfl, HE0.out⟩
  case round =>
    obtain ⟨i, hi, rfl, hE⟩ := hrel
    by_cases hid : i < d
    · have q1 : (i : Int) < (d : Int) := by omega
      have q2 : (0 : Int) ≤ (i : Int) ∧ (i : Int) < (d : Int) := by omega
      have m1 := hE.mark hid
      have m2 : wr.frozen? ⟨bt, i, none⟩ = false := frozen_of_blk hE.marks _
      have hmk := mkB d (by omega) (wr.setCell ⟨bt, i, none⟩ (.bool true))
      obtain ⟨V, hV⟩ : ∃ V, V = (wr.setCell ⟨bt, i, none⟩ (.bool true)).alloc (.cells ((List.replicate d (0 : UInt8)).map byteV).toArray 5) := ⟨_, rfl⟩
      rw [← hV] at hmk
      obtain ⟨bj, hbj⟩ : ∃ bj, bj = (wr.setCell ⟨bt, i, none⟩ (.bool true)).heap.size := ⟨_, rfl⟩
      rw [← hbj] at hmk
      have hst := hE.step hid hV hbj rfl
      have hFV : Fr (fun k => k = bt) wr V := by rw [hV]; exact (Fr.set wr bt i _).alloc _
      have htl : ((firstF d).take i).length = i := by rw [List.length_take, firstF_len]; omega
      have d1 : V.cell? ⟨b, i, none⟩ = some (.slice none 0 0) := hFV.cell (hE.out.cellJ htl hid) (fun e => hE.bne.1 e.symm)
      have d2 : V.frozen? ⟨b, i, none⟩ = false := hFV.frozen (hE.out.cellJ htl hid) (fun e => hE.bne.1 e.symm) (hE.out.fz _)
      have hVb : V.heap[bj]? = some (.cells ((List.replicate d (0 : UInt8)).map byteV).toArray 5 (0, 0)) := by rw [hV, hbj]; exact heap_alloc_new _ _
      have hblt := hE.out.lt
      have hz1 : (wr.setCell ⟨bt, i, none⟩ (.bool true)).heap.size = wr.heap.size := World.size_setCell _ _ _
      have hne1 : bj ≠ b := by omega
      have d3 : (V.setCell ⟨b, i, none⟩ (.slice (some ⟨bj, 0, none⟩) d d)).cell? ⟨b, i, none⟩ = some (.slice (some ⟨bj, 0, none⟩) d d) := World.cell?_setCell_same _ _ _ d1
      have hbj2 : (V.setCell ⟨b, i, none⟩ (.slice (some ⟨bj, 0, none⟩) d d)).heap[bj]? = some (.cells ((List.replicate d (0 : UInt8)).map byteV).toArray 5 (0, 0)) := (Fr.set V b i _).heap hVb hne1
      have d4 : (V.setCell ⟨b, i, none⟩ (.slice (some ⟨bj, 0, none⟩) d d)).cell? ⟨bj, i, none⟩ = some (byteV 0) := by
        rw [cell_of_blk hbj2, List.getElem?_toArray, List.getElem?_map, List.getElem?_replicate, if_pos hid]; rfl
      have d5 : (V.setCell ⟨b, i, none⟩ (.slice (some ⟨bj, 0, none⟩) d d)).frozen? ⟨bj, i, none⟩ = false := frozen_of_blk hbj2 _
      have HST := Lib.hid hst
      obtain ⟨X3, hX3⟩ : ∃ X3, X3 = V.setCell ⟨b, i, none⟩ (.slice (some ⟨bj, 0, none⟩) d d) := ⟨_, rfl⟩
      clear hV hbj hst hFV htl hVb hblt hz1 hbj2 hE HE0
      go_wp2_with fail
      go_roundw
      case rel => exact ⟨i + 1, by omega, by go_num, HST.out⟩
      case measure => simp [intOf]; omega
    · have hi2 : i = d := by omega
      rw [hi2] at hE ⊢
      have q1 : ¬ (d : Int) < (d : Int) := by omega
      obtain ⟨hC, hR, hall⟩ := H.out
      have hO := hE.out
      rw [show (firstF d).take d = firstF d by rw [List.take_of_length_le (by rw [firstF_len]; exact Nat.le_refl _)]] at hO
      have hmarks := hE.marks
      rw [Nat.sub_self, List.replicate_zero, List.append_nil] at hmarks
      have hthere : CellsAt wr (some ⟨bt, 0, none⟩) ((List.replicate d true).map Value.bool) := by
        rw [List.map_replicate]
        exact CellsAt.whole hmarks
      have hR2 := hR.fr hO.fr (fun _ _ e => e)
      have hev := even_any (w := wr) (g := g) Ad cd data hR2 (some ⟨bt, 0, none⟩) d d (List.replicate d true) hthere (by simp [hdl]) (by simp) n (by omega) (fun j h1 h2 _ => hall _ (List.getElem_mem _)) hn
      have hevn : evN (List.replicate d true) n data.length = (n : Int) := by
        unfold evN
        rw [if_pos]
        rw [List.any_eq_true]
        exact ⟨true, by rw [List.mem_take_iff_getElem]; exact ⟨0, by simp; omega, by simp⟩, rfl⟩
      rw [hevn, hdl] at hev
      have hC2 := hC.frG hO.fr hO.fd
      have hmd := made_any hC2 Ad cd data hR2 hdl n hn hall (some ⟨b, 0, none⟩) d (firstF d) hO.rows (firstF_len d) (fun r hr => by obtain ⟨j, _, rfl⟩ := List.mem_map.1 hr; exact unitF_len d j)
      have HEV := Lib.hid hev
      have HMD := Lib.hid hmd
      have HO := Lib.hid hO
      clear hC hR hall hO hmarks hthere hR2 hev hevn hC2 hmd hE HE0 hi hid
      go_wp2_with fail
      (with_reducible refine HEV.out.mono ?_)
      rintro e w0 ⟨rfl, hw0⟩
      subst hw0
      go_wp2_with fail
      (with_reducible refine HMD.out.mono ?_)
      rintro e w2 ⟨b2, rfl, hO2⟩
      have HO2 := Lib.hid (hO2.base HO.out.fr)
      clear hO2
      go_wp2_with fail
      go_ret2
      exact ⟨b2, rfl, HO2.out⟩
end Go.Proofs.Ytdkjmnhblepkaaa

import Derived.Test.YtffolfemcllfkaaGreatDoorTogLoadM
import Derived.Test.YtffolfemcllfkaaGreatDoorErrIs
import Derived.Test.YtffolfemcllfkaaGreatDoorPackBool
namespace Go.Proofs.YtffolfemcllfkaaGreatDoor
open Go.RowKit
set_option linter.unusedVariables false
set_option linter.unusedSimpArgs false

/-! toggle.Save -/
structure SvR (wD wr : World) (p m1 m2 : Nat) (D : DevS) (a : Int) (l : List UInt8) (A : Option Addr) (k : Nat) (v : Value) : Prop where
  dev : DevAt wr p m1 m2 (wrN D a l k)
  up : (wrN D a l k).down = false
  fr : Fr (devBlks p m1 m2) wD wr
  rest : ∃ A' c', v = .slice A' (l.length - 64 * k) c' ∧ CellsAt wD A' ((l.drop (64 * k)).map byteV) ∧ l.length - 64 * k ≤ c' ∧ ∀ b, blkOf A' b → blkOf A b
def SavePost (w : World) (p m1 m2 : Nat) (X : DevS) (e : Ending) (w' : World) : Prop := e = .returned (errV (if X.down then 13 else 0)) ∧ Fr (devBlks p m1 m2) w w' ∧ DevAt w' p m1 m2 X
theorem chunk_cells {w : World} {b o : Nat} {l : List UInt8} {k : Nat} (h : CellsAt w (some ⟨b, o, none⟩) ((l.drop (64 * k)).map byteV)) : CellsAt w (some ⟨b, o, none⟩) ((chunk l k).map byteV) := by
  have h1 := h.sub 0 (min 64 (l.length - 64 * k)) (by rw [List.length_map, List.length_drop]; omega)
  rw [List.drop_zero, ← List.map_take] at h1
  have : (l.drop (64 * k)).take (min 64 (l.length - 64 * k)) = chunk l k := by
    unfold chunk
    rw [← List.take_take, List.take_of_length_le (l := (l.drop (64 * k))) (by rw [List.length_drop]; omega)]
  rw [← this]
  exact h1
theorem rest_cells {w : World} {b o : Nat} {l : List UInt8} {k : Nat} (h : CellsAt w (some ⟨b, o, none⟩) ((l.drop (64 * k)).map byteV)) (hk : 64 * k + 64 ≤ l.length) : CellsAt w (some ⟨b, o + 64, none⟩) ((l.drop (64 * (k + 1))).map byteV) := by
  have h1 := h.sub 64 (l.length - 64 * (k + 1)) (by rw [List.length_map, List.length_drop]; omega)
  rw [← List.map_drop, ← List.map_take, List.drop_drop, show 64 * k + 64 = 64 * (k + 1) by omega, List.take_of_length_le (by rw [List.length_drop]; omega)] at h1
  exact h1
set_option maxHeartbeats 8000000 in
set_option maxRecDepth 100000 in
theorem tsave_none {w : World} {p m1 m2 : Nat} {D : DevS} (h : DevAt w p m1 m2 D) (f s : Int) (hd : D.down = false) (hf : 0 ≤ f) (hs : 3 ≤ s ∧ s ≤ 16384) (hfs : f + s ≤ D.sectors)
    (A : Option Addr) (n c : Nat) (l : List UInt8) (hn : n = l.length) (hA : CellsAt w A (l.map byteV)) (hap : ∀ b, blkOf A b → 0 < l.length → ¬ devBlks p m1 m2 b) (hcap : l.length ≤ c) (hl : (l.length : Int) ≤ (s - 1) / 2 * 64)
    (n0 : Nat) (long0 : Nat) (hn0 : n0 ≤ 18446744073709551614)
    (hrd : ∀ w', DevAt w' p m1 m2 D → Calls Tryz.prog 53 #[area f s, ptr p] w' fun e w'' => e = .returned (.tuple #[tellerV n0 false long0, errV 8]) ∧ Fr none_ w' w'') :
    Calls Tryz.prog 18 #[ptr p, area f s, .slice A n c] w fun e w' => SavePost w p m1 m2 (saveD D (fromF false f s) f l (tellB (n0 + 1) false l.length)) e w' := by
  subst hn
  have hm := h.most
  have h2 := h.fr0 ((Fr.refl none_ w).alloc (.cells #[.int .i64 f, .int .i64 s] 36))
  have hin : f + 1 ≤ fromF false f s ∧ fromF false f s + (s - 1) / 2 ≤ f + s := by unfold fromF; split <;> omega
  have hc := cnt_room hl
  have hrs : roomF s = (s - 1) / 2 * 64 := by unfold roomF; rw [if_neg (by omega)]
  have hlong : ¬ roomF s < (l.length : Int) := by omega
  have hfr2 : 0 ≤ f ∧ f ≤ 16384 := ⟨hf, by omega⟩
  obtain ⟨X, hX⟩ : ∃ X, X = saveD D (fromF false f s) f l (tellB (n0 + 1) false l.length) := ⟨_, rfl⟩
  rw [← hX]
  have HX := Lib.hid hX
  have HRD := Lib.hid hrd
  have his8 : ∀ W, Calls Tryz.prog 54 #[.iface 106 (.int .i64 8), .iface 106 (.int .i64 8)] W fun e w' => e = .returned (.bool true) ∧ W = w' := fun W => by
    have := is_any 8 8 (by decide) W
    rw [errV_n (by decide)] at this
    exact this
  have his0 : ∀ W, Calls Tryz.prog 54 #[.nilIface, .iface 106 (.int .i64 8)] W fun e w' => e = .returned (.bool false) ∧ W = w' := fun W => by
    have := is_any 0 8 (by decide) W
    rw [errV_n (n := 8) (by decide), errV_0] at this
    exact this
  have HI8 := Lib.hid his8
  have HI0 := Lib.hid his0
  clear hX hrd hrs his8 his0
  go_enter Tryz.func18, Tryz.ntmps18
  go_wp2_with fail
  (with_reducible refine (HRD.out _ h2).mono ?_)
  rintro e w1 ⟨rfl, hF1⟩
  rw [errV_n (n := 8) (by decide)]
  go_wp2_with fail
  (with_reducible refine (HI8.out _).mono ?_)
  rintro e w2 ⟨rfl, rfl⟩
  have ha1 := hF1.heap0 (heap_alloc_new w (.cells #[.int .i64 f, .int .i64 s] 36))
  have hq1 := blk_lt ha1
  have hql : (w1.alloc (.cells #[.int .u64 (n0 : Nat), .bool false, .int .i64 (long0 : Nat)] 117)).heap[w1.heap.size]? = some (.cells #[.int .u64 (n0 : Nat), .bool false, .int .i64 (long0 : Nat)] 117 (0, 0)) := heap_alloc_at rfl _
  have hal : ∀ o, (w1.alloc o).heap[w.heap.size]? = some (.cells #[.int .i64 f, .int .i64 s] 36 (0, 0)) := fun o => heap_alloc_old ha1 o
  have hcl : ∀ o, (w1.alloc o).cell? ⟨w.heap.size, 0, none⟩ = some (.int .i64 f) ∧ (w1.alloc o).cell? ⟨w.heap.size, 1, none⟩ = some (.int .i64 s) := fun o => ⟨by rw [cell_of_blk (hal o)]; rfl, by rw [cell_of_blk (hal o)]; rfl⟩
  have hc0 := fun o => (hcl o).1
  have hc1 := fun o => (hcl o).2
  go_wp2_with fail
  (with_reducible refine (room_any f s _).mono ?_)
  rintro e w2 ⟨rfl, hF2⟩
  have hq2 := hF2.heap0 hql
  have ha2 := hF2.heap0 (hal _)
  have hF3 : Fr none_ w w2 := (((Fr.refl none_ w).alloc _).trans hF1).trans' (((Fr.refl none_ w1).alloc _).trans hF2) (fun _ _ h => h)
  have hqw : w.heap.size < w1.heap.size := by have := hF1.size; rw [World.size_alloc] at this; omega
  have r0 : w2.cell? ⟨w1.heap.size, 0, none⟩ = some (.int .u64 (n0 : Nat)) := by rw [cell_of_blk hq2]; rfl
  have r1 : w2.cell? ⟨w1.heap.size, 1, none⟩ = some (.bool false) := by rw [cell_of_blk hq2]; rfl
  have r2 : w2.cell? ⟨w1.heap.size, 2, none⟩ = some (.int .i64 (long0 : Nat)) := by rw [cell_of_blk hq2]; rfl
  have r3 := fun o => frozen_of_blk hq2 o
  have hq3 := heap_setCell_same hq2 (o := 1) (.bool false)
  have ha3 := (Fr.set w2 w1.heap.size 1 (.bool false)).heap ha2 (by omega)
  have s0 : (w2.setCell ⟨w1.heap.size, 1, none⟩ (.bool false)).cell? ⟨w.heap.size, 0, none⟩ = some (.int .i64 f) := by rw [cell_of_blk ha3]; rfl
  have s1 : (w2.setCell ⟨w1.heap.size, 1, none⟩ (.bool false)).cell? ⟨w.heap.size, 1, none⟩ = some (.int .i64 s) := by rw [cell_of_blk ha3]; rfl
  clear hF1 hF2 hql hal hcl hc0 hc1 ha1 hq1
  go_wp2_with fail
  (with_reducible refine (from_any n0 false long0 f s _ hs hfr2).mono ?_)
  rintro e w3 ⟨rfl, hF4⟩
  have hq4 := hF4.heap0 hq3
  have ha4 := hF4.heap0 ha3
  have hF5 : Fr none_ w w3 := (hF3.own (Fr.set w2 w1.heap.size 1 (.bool false)) (by omega)).trans hF4
  have hD3 := h.fr0 hF5
  have hA3 := hA.fr0 hF5
  have hqd : ¬ devBlks p m1 m2 w1.heap.size := h.new (by omega)
  have had : ¬ devBlks p m1 m2 w.heap.size := h.new (Nat.le_refl _)
  clear r0 r1 r2 r3 s0 s1 hq3 ha3 hF4 hF3 hq2 ha2 h2
  go_wp2_with fail
  go_loopw [10, 11] (fun i v wr => ∃ k : Nat, k ≤ cnt l.length ∧ i = .int .i64 (fromF false f s + k) ∧ SvR w3 wr p m1 m2 D (fromF false f s) l A k v) (fun i _ _ => cnt l.length - (intOf i - fromF false f s).toNat)
  case atStart => exact ⟨0, by omega, by simp, ⟨hD3, hd, Fr.refl _ _, A, c, rfl, by simpa using hA3, by omega, fun _ h => h⟩⟩
  case round =>
    obtain ⟨k, hk, rfl, hR⟩ := hrel
    obtain ⟨A', c', rfl, hA', hc', hb'⟩ := hR.rest
    by_cases hlt : 64 * k < l.length
    · obtain ⟨ba, oa, rfl⟩ := hA'.addr (by rw [List.length_map, List.length_drop]; omega)
      have hkl : k < cnt l.length := by unfold cnt; omega
      have hup := hR.up
      have hch := (chunk_cells hA').frp hR.fr (fun x hx hl hdv => hap x (hb' x hx) (by omega) hdv)
      have hcl := chunk_len l k
      have hwe := writeE_eq (wrN D (fromF false f s) l k) (fromF false f s + k) (by omega) (by rw [wrN_sectors]; omega) (chunk l k) (by omega)
      have hwr := write_any hR.dev (fromF false f s + k) (some ⟨ba, oa, none⟩) (chunk l k).length c' (chunk l k) rfl hch (fun x hx hl2 hdv => hap x (hb' x hx) (by omega) hdv)
      rw [hwe] at hwr
      obtain ⟨m, hmm⟩ : ∃ m, m = (chunk l k).length := ⟨_, rfl⟩
      rw [← hmm] at hwr hcl
      have hmn : min ((l.length - 64 * k : Nat) : Int) 64 = (m : Int) := by omega
      have q0 : (0 : Int) < ((l.length - 64 * k : Nat) : Int) := by omega
      have q1 : (m : Int) ≤ ((l.length - 64 * k : Nat) : Int) := by omega
      have q2 : (m : Int) ≤ (c' : Int) := by omega
      have hX2 := saveD_down1 D (fromF false f s) f l (tellB (n0 + 1) false l.length) (k + 1) (by omega)
      have hwD : (wrN D (fromF false f s) l k).write (fromF false f s + k) (chunk l k) = wrN D (fromF false f s) l (k + 1) := rfl
      rw [hwD] at hwr
      have HWR := Lib.hid hwr
      have HCL := Lib.hid hcl
      have HMM := Lib.hid hmm
      clear hwr hwe hwD hcl hmm
      go_wp2_with fail
      (with_reducible refine HWR.out.mono ?_)
      rintro e w4 ⟨rfl, hF4, hD4⟩
      by_cases hdn : (wrN D (fromF false f s) l (k + 1)).down = true
      · rw [if_pos hdn, errV_n (by decide)]
        go_wp2_with fail
        go_ret
        rw [HX.out, hX2 hdn]
        exact ⟨by rw [if_pos hdn, errV_n (by decide)]; rfl, (Fr.of0 hF5).trans (hR.fr.trans hF4), hD4⟩
      · rw [if_neg hdn, errV_0]
        have hdn2 : (wrN D (fromF false f s) l (k + 1)).down = false := by simpa using hdn
        have hcl := HCL.out
        have hrn : l.length - 64 * (k + 1) = l.length - 64 * k - m := by omega
        clear hcl
        by_cases hmc : c' = m
        · subst hmc
          go_wp2_with fail
          go_roundw
          case rel =>
            have hcl := HCL.out
            refine ⟨k + 1, by omega, by go_num, hD4, hdn2, hR.fr.trans hF4, some ⟨ba, oa, none⟩, 0, by rw [hrn, show l.length - 64 * k - c' = 0 by omega], ?_, ?_, hb'⟩
            · rw [List.drop_of_length_le (by omega)]; exact CellsAt.nil _ _
            · omega
          case measure => simp [intOf]; omega
        · go_wp2_with fail
          go_roundw
          case rel =>
            have hcl := HCL.out
            refine ⟨k + 1, by omega, by go_num, hD4, hdn2, hR.fr.trans hF4, some ⟨ba, oa + m, none⟩, c' - m, by rw [hrn], ?_, by omega, fun x hx => hb' x (by obtain ⟨o, ho⟩ := hx; cases ho; exact ⟨oa, rfl⟩)⟩
            by_cases h64 : 64 * k + 64 ≤ l.length
            · have : m = 64 := by omega
              rw [this]
              exact rest_cells hA' h64
            · rw [List.drop_of_length_le (by omega)]; exact CellsAt.nil _ _
          case measure => simp [intOf]; omega
    · have hz0 : l.length - 64 * k = 0 := by omega
      have hkl : k = cnt l.length := by unfold cnt at hk ⊢; omega
      subst hkl
      have hup := hR.up
      have hFE : errV (wrN D (fromF false f s) l (cnt l.length)).flushE = .nilIface := by unfold DevS.flushE; rw [hup]; rfl
      have hdev := hR.dev
      have hfr := hR.fr
      rw [hz0]
      clear hR hA' hc' hlt hk hz0 hup
      go_wp2_with fail
      (with_reducible refine (flush_any hdev).mono ?_)
      rintro e w4 ⟨rfl, hF6, hD6⟩
      rw [hFE]
      have hD6 : DevAt w4 p m1 m2 (wrote D (fromF false f s) l) := hD6
      have hFw : Fr (devBlks p m1 m2) w3 w4 := hfr.trans hF6
      have hq6 := hFw.heap hq4 hqd
      have ha6 := hFw.heap ha4 had
      have hF7 : Fr (devBlks p m1 m2) w w4 := (Fr.of0 hF5).trans hFw
      have hs0 : w4.drew.cell? ⟨w1.heap.size, 0, none⟩ = some (.int .u64 (n0 : Nat)) ∧ w4.drew.cell? ⟨w1.heap.size, 1, none⟩ = some (.bool false) := by
        constructor
        · show w4.cell? _ = _
          rw [cell_of_blk hq6]; rfl
        · show w4.cell? _ = _
          rw [cell_of_blk hq6]; rfl
      have hq7 := blk_lt hq6
      have hst : ∀ wx, Fr (fun k => w4.heap.size ≤ k) w4.drew wx → (wx.cell? ⟨w1.heap.size, 0, none⟩ = some (.int .u64 (n0 : Nat)) ∧ wx.cell? ⟨w1.heap.size, 1, none⟩ = some (.bool false)) := fun wx hF => ⟨hF.cell hs0.1 (by omega), hF.cell hs0.2 (by omega)⟩
      have hu1 : ∀ wx q, WriterAt wx w4.heap.size q [] → w4.heap.size ≤ wx.heap.size → Calls Tryz.prog 59 #[ptr q, .int .u64 (IntKind.u64.wrap ((n0 : Int) + 1))] wx fun e w' => e = .returned (ptr q) ∧ Fr (fun k => w4.heap.size ≤ k) wx w' ∧ WriterAt w' w4.heap.size q (encF (n0 + 1)) := fun wx q hw hb => by
        rw [show IntKind.u64.wrap ((n0 : Int) + 1) = ((n0 + 1 : Nat) : Int) by rw [IntWalk.u64_in _ (by omega)]; rfl]
        exact wuint_any hw (n0 + 1) (by omega) (by simp) hb
      have hu2 : ∀ wx q, WriterAt wx w4.heap.size q (encF (n0 + 1)) → w4.heap.size ≤ wx.heap.size → Calls Tryz.prog 60 #[ptr q, .bool false] wx fun e w' => e = .returned (ptr q) ∧ Fr (fun k => w4.heap.size ≤ k) wx w' ∧ WriterAt w' w4.heap.size q (encF (n0 + 1) ++ [if false then 1 else 0]) := fun wx q hw hb =>
        wbool_any hw false (by rw [encF_len]; have := behindF_le (n0 + 1); omega) hb
      have hu3 : ∀ wx q, WriterAt wx w4.heap.size q (encF (n0 + 1) ++ [if false then 1 else 0]) → w4.heap.size ≤ wx.heap.size → Calls Tryz.prog 59 #[ptr q, .int .u64 (IntKind.u64.wrap (l.length : Int))] wx fun e w' => e = .returned (ptr q) ∧ Fr (fun k => w4.heap.size ≤ k) wx w' ∧ WriterAt w' w4.heap.size q (tellB (n0 + 1) false l.length) := fun wx q hw hb => by
        rw [IntWalk.u64_in (l.length : Int) (by omega)]
        have := wuint_any hw l.length (by omega) (by rw [List.length_append, encF_len]; have := behindF_le (n0 + 1); simp only [List.length_cons, List.length_nil]; omega) hb
        rw [List.append_assoc] at this
        exact this
      have hnw : Calls Tryz.prog 58 #[] w4.drew fun e w' => ∃ q, e = .returned (ptr q) ∧ Fr none_ w4.drew w' ∧ WriterAt w' w4.heap.size q [] := (wnew_any w4.drew).mono (fun e w' h => ⟨_, h⟩)
      have HNW := Lib.hid hnw
      have HST := Lib.hid hst
      have HU1 := Lib.hid hu1
      have HU2 := Lib.hid hu2
      have HU3 := Lib.hid hu3
      clear hst hu1 hu2 hu3 hnw hq4 ha4 hF6 hFw hdev hfr hFE
      go_wp2_with fail
      go_region_held3 (fun w' => (w'.cell? ⟨w1.heap.size, 0, none⟩ = some (.int .u64 (n0 : Nat)) ∧ w'.cell? ⟨w1.heap.size, 1, none⟩ = some (.bool false))) (first | exact hs0 | exact HST.out _ hX1 | exact HST.out _ hX2 | exact HST.out _ hX3 | exact HST.out _ hX4 | exact HST.out _ hX5) (first
        | (go_at_call 58; (with_reducible refine HNW.out.mono ?_); rintro e x1 ⟨q1, rfl, hY1, hW1⟩; have hX1 : Fr (fun k => w4.heap.size ≤ k) w4.drew x1 := Fr.of0 hY1; have hz1 : w4.heap.size ≤ x1.heap.size := hX1.size)
        | (go_at_call 59; (with_reducible refine (HU1.out x1 _ hW1 hz1).mono ?_); rintro e x2 ⟨rfl, hY2, hW2⟩; have hX2 := hX1.trans hY2; have hz2 : w4.heap.size ≤ x2.heap.size := hX2.size)
        | (go_at_call 60; (with_reducible refine (HU2.out x2 _ hW2 hz2).mono ?_); rintro e x3 ⟨rfl, hY3, hW3⟩; have hX3 := hX2.trans hY3; have hz3 : w4.heap.size ≤ x3.heap.size := hX3.size)
        | (go_at_call 59; (with_reducible refine (HU3.out x3 _ hW3 hz3).mono ?_); rintro e x4 ⟨rfl, hY4, hW4⟩; have hX4 := hX3.trans hY4; have hz4 : w4.heap.size ≤ x4.heap.size := hX4.size)
        | (go_at_call 61; (with_reducible refine (wdone_any hW4 (by have := tellB_len (n0 + 1) false l.length (by omega); omega)).mono ?_); rintro e x5 ⟨⟨v5, rfl, hown⟩, hY5⟩; have hX5 := hX4.trans0 hY5; have hz5 : w4.heap.size ≤ x5.heap.size := hX5.size))
      obtain ⟨A5, c5, rfl, hA5, hc5, hnil5, hbl5⟩ := ownsRow_read hown
      have ha8 : x5.heap[w.heap.size]? = some (.cells #[.int .i64 f, .int .i64 s] 36 (0, 0)) := hX5.heap ha6 (by omega)
      have e0 : x5.cell? ⟨w.heap.size, 0, none⟩ = some (.int .i64 f) := by rw [cell_of_blk ha8]; rfl
      have hD8 := hD6.fr hX5.undrew (fun i hi => by have := hD6.lt i hi; omega)
      have htl := tellB_len (n0 + 1) false l.length (by omega)
      obtain ⟨tl, htle⟩ : ∃ tl, tl = tellB (n0 + 1) false l.length := ⟨_, rfl⟩
      have HTL := Lib.hid htle
      rw [← htle] at hA5 htl
      try rw [← htle]
      clear htle
      have hwe := writeE_eq (wrote D (fromF false f s) l) f hf (by rw [wrote_sectors]; omega) tl (by omega)
      have hwr := write_any hD8 f A5 tl.length c5 tl rfl hA5 (fun x hx hl2 hdv => by have := (hbl5 x hx).1; have := hD6.lt x hdv; omega)
      rw [hwe] at hwr
      have HWR := Lib.hid hwr
      have hF8 : Fr (devBlks p m1 m2) w x5 := hF7.trans' hX5.undrew (fun i hi hs => by have := hF7.size; omega)
      clear hwe hwr hown hbl5 hnil5 hc5 hA5
      go_wp2_with fail
      (with_reducible refine HWR.out.mono ?_)
      rintro e x6 ⟨rfl, hF9, hD9⟩
      have hXe : X = ((wrote D (fromF false f s) l).write f tl).flush := by rw [HX.out, ← HTL.out]; rfl
      by_cases hdn : ((wrote D (fromF false f s) l).write f tl).down = true
      · rw [if_pos hdn, errV_n (by decide)]
        go_wp2_with fail
        go_ret
        rw [hXe, flush_down hdn]
        exact ⟨by rw [if_pos hdn, errV_n (by decide)]; rfl, hF8.trans hF9, hD9⟩
      · rw [if_neg hdn, errV_0]
        have hFE2 : errV ((wrote D (fromF false f s) l).write f tl).flushE = .nilIface := by unfold DevS.flushE; rw [if_neg hdn]; rfl
        go_wp2_with fail
        (with_reducible refine (flush_any hD9).mono ?_)
        rintro e x7 ⟨rfl, hF10, hD10⟩
        rw [hFE2]
        go_wp2_with fail
        go_ret
        rw [hXe]
        exact ⟨by rw [flush_downE, if_neg hdn]; rfl, (hF8.trans hF9).trans hF10, hD10⟩
set_option maxHeartbeats 8000000 in
set_option maxRecDepth 100000 in
theorem tsave_long_none {w : World} {p m1 m2 : Nat} {D : DevS} (h : DevAt w p m1 m2 D) (f s : Int) (hd : D.down = false) (hf : 0 ≤ f) (hs : 3 ≤ s ∧ s ≤ 16384) (hfs : f + s ≤ D.sectors)
    (A : Option Addr) (n c : Nat) (l : List UInt8) (hn : n = l.length) (hA : CellsAt w A (l.map byteV)) (hap : ∀ b, blkOf A b → 0 < l.length → ¬ devBlks p m1 m2 b) (hcap : l.length ≤ c) (hl : (s - 1) / 2 * 64 < (l.length : Int))
    (n0 : Nat) (long0 : Nat) (hn0 : n0 ≤ 18446744073709551614)
    (hrd : ∀ w', DevAt w' p m1 m2 D → Calls Tryz.prog 53 #[area f s, ptr p] w' fun e w'' => e = .returned (.tuple #[tellerV n0 false long0, errV 8]) ∧ Fr none_ w' w'') :
    Calls Tryz.prog 18 #[ptr p, area f s, .slice A n c] w fun e w' => e = .returned (errV 2) ∧ Fr none_ w w' := by
  subst hn
  have hm := h.most
  have h2 := h.fr0 ((Fr.refl none_ w).alloc (.cells #[.int .i64 f, .int .i64 s] 36))
  have hrs : roomF s = (s - 1) / 2 * 64 := by unfold roomF; rw [if_neg (by omega)]
  have hlong : roomF s < (l.length : Int) := by omega
  have hfr2 : 0 ≤ f ∧ f ≤ 16384 := ⟨hf, by omega⟩
  have HRD := Lib.hid hrd
  have his8 : ∀ W, Calls Tryz.prog 54 #[.iface 106 (.int .i64 8), .iface 106 (.int .i64 8)] W fun e w' => e = .returned (.bool true) ∧ W = w' := fun W => by
    have := is_any 8 8 (by decide) W
    rw [errV_n (by decide)] at this
    exact this
  have his0 : ∀ W, Calls Tryz.prog 54 #[.nilIface, .iface 106 (.int .i64 8)] W fun e w' => e = .returned (.bool false) ∧ W = w' := fun W => by
    have := is_any 0 8 (by decide) W
    rw [errV_n (n := 8) (by decide), errV_0] at this
    exact this
  have HI8 := Lib.hid his8
  have HI0 := Lib.hid his0
  clear hrd hrs his8 his0
  go_enter Tryz.func18, Tryz.ntmps18
  go_wp2_with fail
  (with_reducible refine (HRD.out _ h2).mono ?_)
  rintro e w1 ⟨rfl, hF1⟩
  rw [errV_n (n := 8) (by decide)]
  go_wp2_with fail
  (with_reducible refine (HI8.out _).mono ?_)
  rintro e w2 ⟨rfl, rfl⟩
  have ha1 := hF1.heap0 (heap_alloc_new w (.cells #[.int .i64 f, .int .i64 s] 36))
  have hq1 := blk_lt ha1
  have hql : (w1.alloc (.cells #[.int .u64 (n0 : Nat), .bool false, .int .i64 (long0 : Nat)] 117)).heap[w1.heap.size]? = some (.cells #[.int .u64 (n0 : Nat), .bool false, .int .i64 (long0 : Nat)] 117 (0, 0)) := heap_alloc_at rfl _
  have hal : ∀ o, (w1.alloc o).heap[w.heap.size]? = some (.cells #[.int .i64 f, .int .i64 s] 36 (0, 0)) := fun o => heap_alloc_old ha1 o
  have hcl : ∀ o, (w1.alloc o).cell? ⟨w.heap.size, 0, none⟩ = some (.int .i64 f) ∧ (w1.alloc o).cell? ⟨w.heap.size, 1, none⟩ = some (.int .i64 s) := fun o => ⟨by rw [cell_of_blk (hal o)]; rfl, by rw [cell_of_blk (hal o)]; rfl⟩
  have hc0 := fun o => (hcl o).1
  have hc1 := fun o => (hcl o).2
  go_wp2_with fail
  (with_reducible refine (room_any f s _).mono ?_)
  rintro e w2 ⟨rfl, hF2⟩
  have hF3 : Fr none_ w w2 := (((Fr.refl none_ w).alloc _).trans hF1).trans' (((Fr.refl none_ w1).alloc _).trans hF2) (fun _ _ h => h)
  go_wp2_with fail
  go_ret
  exact ⟨by rw [errV_n (by decide)]; rfl, hF3⟩
set_option maxHeartbeats 8000000 in
set_option maxRecDepth 100000 in
theorem tsave_first {w : World} {p m1 m2 : Nat} {D : DevS} (h : DevAt w p m1 m2 D) (f s : Int) (hd : D.down = false) (hf : 0 ≤ f) (hs : 3 ≤ s ∧ s ≤ 16384) (hfs : f + s ≤ D.sectors)
    (A : Option Addr) (n c : Nat) (l : List UInt8) (hn : n = l.length) (hA : CellsAt w A (l.map byteV)) (hap : ∀ b, blkOf A b → 0 < l.length → ¬ devBlks p m1 m2 b) (hcap : l.length ≤ c) (hl : (l.length : Int) ≤ (s - 1) / 2 * 64)
    (n0 : Nat) (long0 : Nat) (hn0 : n0 ≤ 18446744073709551614)
    (hrd : ∀ w', DevAt w' p m1 m2 D → Calls Tryz.prog 53 #[area f s, ptr p] w' fun e w'' => e = .returned (.tuple #[tellerV n0 false long0, errV 0]) ∧ Fr none_ w' w'') :
    Calls Tryz.prog 18 #[ptr p, area f s, .slice A n c] w fun e w' => SavePost w p m1 m2 (saveD D (fromF true f s) f l (tellB (n0 + 1) true l.length)) e w' := by
  subst hn
  have hm := h.most
  have h2 := h.fr0 ((Fr.refl none_ w).alloc (.cells #[.int .i64 f, .int .i64 s] 36))
  have hin : f + 1 ≤ fromF true f s ∧ fromF true f s + (s - 1) / 2 ≤ f + s := by unfold fromF; split <;> omega
  have hc := cnt_room hl
  have hrs : roomF s = (s - 1) / 2 * 64 := by unfold roomF; rw [if_neg (by omega)]
  have hlong : ¬ roomF s < (l.length : Int) := by omega
  have hfr2 : 0 ≤ f ∧ f ≤ 16384 := ⟨hf, by omega⟩
  obtain ⟨X, hX⟩ : ∃ X, X = saveD D (fromF true f s) f l (tellB (n0 + 1) true l.length) := ⟨_, rfl⟩
  rw [← hX]
  have HX := Lib.hid hX
  have HRD := Lib.hid hrd
  have his8 : ∀ W, Calls Tryz.prog 54 #[.iface 106 (.int .i64 8), .iface 106 (.int .i64 8)] W fun e w' => e = .returned (.bool true) ∧ W = w' := fun W => by
    have := is_any 8 8 (by decide) W
    rw [errV_n (by decide)] at this
    exact this
  have his0 : ∀ W, Calls Tryz.prog 54 #[.nilIface, .iface 106 (.int .i64 8)] W fun e w' => e = .returned (.bool false) ∧ W = w' := fun W => by
    have := is_any 0 8 (by decide) W
    rw [errV_n (n := 8) (by decide), errV_0] at this
    exact this
  have HI8 := Lib.hid his8
  have HI0 := Lib.hid his0
  clear hX hrd hrs his8 his0
  go_enter Tryz.func18, Tryz.ntmps18
  go_wp2_with fail
  (with_reducible refine (HRD.out _ h2).mono ?_)
  rintro e w1 ⟨rfl, hF1⟩
  rw [errV_0]
  go_wp2_with fail
  (with_reducible refine (HI0.out _).mono ?_)
  rintro e w2 ⟨rfl, rfl⟩
  have ha1 := hF1.heap0 (heap_alloc_new w (.cells #[.int .i64 f, .int .i64 s] 36))
  have hq1 := blk_lt ha1
  have hql : (w1.alloc (.cells #[.int .u64 (n0 : Nat), .bool false, .int .i64 (long0 : Nat)] 117)).heap[w1.heap.size]? = some (.cells #[.int .u64 (n0 : Nat), .bool false, .int .i64 (long0 : Nat)] 117 (0, 0)) := heap_alloc_at rfl _
  have hal : ∀ o, (w1.alloc o).heap[w.heap.size]? = some (.cells #[.int .i64 f, .int .i64 s] 36 (0, 0)) := fun o => heap_alloc_old ha1 o
  have hcl : ∀ o, (w1.alloc o).cell? ⟨w.heap.size, 0, none⟩ = some (.int .i64 f) ∧ (w1.alloc o).cell? ⟨w.heap.size, 1, none⟩ = some (.int .i64 s) := fun o => ⟨by rw [cell_of_blk (hal o)]; rfl, by rw [cell_of_blk (hal o)]; rfl⟩
  have hc0 := fun o => (hcl o).1
  have hc1 := fun o => (hcl o).2
  go_wp2_with fail
  (with_reducible refine (room_any f s _).mono ?_)
  rintro e w2 ⟨rfl, hF2⟩
  have hq2 := hF2.heap0 hql
  have ha2 := hF2.heap0 (hal _)
  have hF3 : Fr none_ w w2 := (((Fr.refl none_ w).alloc _).trans hF1).trans' (((Fr.refl none_ w1).alloc _).trans hF2) (fun _ _ h => h)
  have hqw : w.heap.size < w1.heap.size := by have := hF1.size; rw [World.size_alloc] at this; omega
  have r0 : w2.cell? ⟨w1.heap.size, 0, none⟩ = some (.int .u64 (n0 : Nat)) := by rw [cell_of_blk hq2]; rfl
  have r1 : w2.cell? ⟨w1.heap.size, 1, none⟩ = some (.bool false) := by rw [cell_of_blk hq2]; rfl
  have r2 : w2.cell? ⟨w1.heap.size, 2, none⟩ = some (.int .i64 (long0 : Nat)) := by rw [cell_of_blk hq2]; rfl
  have r3 := fun o => frozen_of_blk hq2 o
  have hq3 := heap_setCell_same hq2 (o := 1) (.bool true)
  have ha3 := (Fr.set w2 w1.heap.size 1 (.bool true)).heap ha2 (by omega)
  have s0 : (w2.setCell ⟨w1.heap.size, 1, none⟩ (.bool true)).cell? ⟨w.heap.size, 0, none⟩ = some (.int .i64 f) := by rw [cell_of_blk ha3]; rfl
  have s1 : (w2.setCell ⟨w1.heap.size, 1, none⟩ (.bool true)).cell? ⟨w.heap.size, 1, none⟩ = some (.int .i64 s) := by rw [cell_of_blk ha3]; rfl
  clear hF1 hF2 hql hal hcl hc0 hc1 ha1 hq1
  go_wp2_with fail
  (with_reducible refine (from_any n0 true long0 f s _ hs hfr2).mono ?_)
  rintro e w3 ⟨rfl, hF4⟩
  have hq4 := hF4.heap0 hq3
  have ha4 := hF4.heap0 ha3
  have hF5 : Fr none_ w w3 := (hF3.own (Fr.set w2 w1.heap.size 1 (.bool true)) (by omega)).trans hF4
  have hD3 := h.fr0 hF5
  have hA3 := hA.fr0 hF5
  have hqd : ¬ devBlks p m1 m2 w1.heap.size := h.new (by omega)
  have had : ¬ devBlks p m1 m2 w.heap.size := h.new (Nat.le_refl _)
  clear r0 r1 r2 r3 s0 s1 hq3 ha3 hF4 hF3 hq2 ha2 h2
  go_wp2_with fail
  go_loopw [10, 11] (fun i v wr => ∃ k : Nat, k ≤ cnt l.length ∧ i = .int .i64 (fromF true f s + k) ∧ SvR w3 wr p m1 m2 D (fromF true f s) l A k v) (fun i _ _ => cnt l.length - (intOf i - fromF true f s).toNat)
  case atStart => exact ⟨0, by omega, by simp, ⟨hD3, hd, Fr.refl _ _, A, c, rfl, by simpa using hA3, by omega, fun _ h => h⟩⟩
  case round =>
    obtain ⟨k, hk, rfl, hR⟩ := hrel
    obtain ⟨A', c', rfl, hA', hc', hb'⟩ := hR.rest
    by_cases hlt : 64 * k < l.length
    · obtain ⟨ba, oa, rfl⟩ := hA'.addr (by rw [List.length_map, List.length_drop]; omega)
      have hkl : k < cnt l.length := by unfold cnt; omega
      have hup := hR.up
      have hch := (chunk_cells hA').frp hR.fr (fun x hx hl hdv => hap x (hb' x hx) (by omega) hdv)
      have hcl := chunk_len l k
      have hwe := writeE_eq (wrN D (fromF true f s) l k) (fromF true f s + k) (by omega) (by rw [wrN_sectors]; omega) (chunk l k) (by omega)
      have hwr := write_any hR.dev (fromF true f s + k) (some ⟨ba, oa, none⟩) (chunk l k).length c' (chunk l k) rfl hch (fun x hx hl2 hdv => hap x (hb' x hx) (by omega) hdv)
      rw [hwe] at hwr
      obtain ⟨m, hmm⟩ : ∃ m, m = (chunk l k).length := ⟨_, rfl⟩
      rw [← hmm] at hwr hcl
      have hmn : min ((l.length - 64 * k : Nat) : Int) 64 = (m : Int) := by omega
      have q0 : (0 : Int) < ((l.length - 64 * k : Nat) : Int) := by omega
      have q1 : (m : Int) ≤ ((l.length - 64 * k : Nat) : Int) := by omega
      have q2 : (m : Int) ≤ (c' : Int) := by omega
      have hX2 := saveD_down1 D (fromF true f s) f l (tellB (n0 + 1) true l.length) (k + 1) (by omega)
      have hwD : (wrN D (fromF true f s) l k).write (fromF true f s + k) (chunk l k) = wrN D (fromF true f s) l (k + 1) := rfl
      rw [hwD] at hwr
      have HWR := Lib.hid hwr
      have HCL := Lib.hid hcl
      have HMM := Lib.hid hmm
      clear hwr hwe hwD hcl hmm
      go_wp2_with fail
      (with_reducible refine HWR.out.mono ?_)
      rintro e w4 ⟨rfl, hF4, hD4⟩
      by_cases hdn : (wrN D (fromF true f s) l (k + 1)).down = true
      · rw [if_pos hdn, errV_n (by decide)]
        go_wp2_with fail
        go_ret
        rw [HX.out, hX2 hdn]
        exact ⟨by rw [if_pos hdn, errV_n (by decide)]; rfl, (Fr.of0 hF5).trans (hR.fr.trans hF4), hD4⟩
      · rw [if_neg hdn, errV_0]
        have hdn2 : (wrN D (fromF true f s) l (k + 1)).down = false := by simpa using hdn
        have hcl := HCL.out
        have hrn : l.length - 64 * (k + 1) = l.length - 64 * k - m := by omega
        clear hcl
        by_cases hmc : c' = m
        · subst hmc
          go_wp2_with fail
          go_roundw
          case rel =>
            have hcl := HCL.out
            refine ⟨k + 1, by omega, by go_num, hD4, hdn2, hR.fr.trans hF4, some ⟨ba, oa, none⟩, 0, by rw [hrn, show l.length - 64 * k - c' = 0 by omega], ?_, ?_, hb'⟩
            · rw [List.drop_of_length_le (by omega)]; exact CellsAt.nil _ _
            · omega
          case measure => simp [intOf]; omega
        · go_wp2_with fail
          go_roundw
          case rel =>
            have hcl := HCL.out
            refine ⟨k + 1, by omega, by go_num, hD4, hdn2, hR.fr.trans hF4, some ⟨ba, oa + m, none⟩, c' - m, by rw [hrn], ?_, by omega, fun x hx => hb' x (by obtain ⟨o, ho⟩ := hx; cases ho; exact ⟨oa, rfl⟩)⟩
            by_cases h64 : 64 * k + 64 ≤ l.length
            · have : m = 64 := by omega
              rw [this]
              exact rest_cells hA' h64
            · rw [List.drop_of_length_le (by omega)]; exact CellsAt.nil _ _
          case measure => simp [intOf]; omega
    · have hz0 : l.length - 64 * k = 0 := by omega
      have hkl : k = cnt l.length := by unfold cnt at hk ⊢; omega
      subst hkl
      have hup := hR.up
      have hFE : errV (wrN D (fromF true f s) l (cnt l.length)).flushE = .nilIface := by unfold DevS.flushE; rw [hup]; rfl
      have hdev := hR.dev
      have hfr := hR.fr
      rw [hz0]
      clear hR hA' hc' hlt hk hz0 hup
      go_wp2_with fail
      (with_reducible refine (flush_any hdev).mono ?_)
      rintro e w4 ⟨rfl, hF6, hD6⟩
      rw [hFE]
      have hD6 : DevAt w4 p m1 m2 (wrote D (fromF true f s) l) := hD6
      have hFw : Fr (devBlks p m1 m2) w3 w4 := hfr.trans hF6
      have hq6 := hFw.heap hq4 hqd
      have ha6 := hFw.heap ha4 had
      have hF7 : Fr (devBlks p m1 m2) w w4 := (Fr.of0 hF5).trans hFw
      have hs0 : w4.drew.cell? ⟨w1.heap.size, 0, none⟩ = some (.int .u64 (n0 : Nat)) ∧ w4.drew.cell? ⟨w1.heap.size, 1, none⟩ = some (.bool true) := by
        constructor
        · show w4.cell? _ = _
          rw [cell_of_blk hq6]; rfl
        · show w4.cell? _ = _
          rw [cell_of_blk hq6]; rfl
      have hq7 := blk_lt hq6
      have hst : ∀ wx, Fr (fun k => w4.heap.size ≤ k) w4.drew wx → (wx.cell? ⟨w1.heap.size, 0, none⟩ = some (.int .u64 (n0 : Nat)) ∧ wx.cell? ⟨w1.heap.size, 1, none⟩ = some (.bool true)) := fun wx hF => ⟨hF.cell hs0.1 (by omega), hF.cell hs0.2 (by omega)⟩
      have hu1 : ∀ wx q, WriterAt wx w4.heap.size q [] → w4.heap.size ≤ wx.heap.size → Calls Tryz.prog 59 #[ptr q, .int .u64 (IntKind.u64.wrap ((n0 : Int) + 1))] wx fun e w' => e = .returned (ptr q) ∧ Fr (fun k => w4.heap.size ≤ k) wx w' ∧ WriterAt w' w4.heap.size q (encF (n0 + 1)) := fun wx q hw hb => by
        rw [show IntKind.u64.wrap ((n0 : Int) + 1) = ((n0 + 1 : Nat) : Int) by rw [IntWalk.u64_in _ (by omega)]; rfl]
        exact wuint_any hw (n0 + 1) (by omega) (by simp) hb
      have hu2 : ∀ wx q, WriterAt wx w4.heap.size q (encF (n0 + 1)) → w4.heap.size ≤ wx.heap.size → Calls Tryz.prog 60 #[ptr q, .bool true] wx fun e w' => e = .returned (ptr q) ∧ Fr (fun k => w4.heap.size ≤ k) wx w' ∧ WriterAt w' w4.heap.size q (encF (n0 + 1) ++ [if true then 1 else 0]) := fun wx q hw hb =>
        wbool_any hw true (by rw [encF_len]; have := behindF_le (n0 + 1); omega) hb
      have hu3 : ∀ wx q, WriterAt wx w4.heap.size q (encF (n0 + 1) ++ [if true then 1 else 0]) → w4.heap.size ≤ wx.heap.size → Calls Tryz.prog 59 #[ptr q, .int .u64 (IntKind.u64.wrap (l.length : Int))] wx fun e w' => e = .returned (ptr q) ∧ Fr (fun k => w4.heap.size ≤ k) wx w' ∧ WriterAt w' w4.heap.size q (tellB (n0 + 1) true l.length) := fun wx q hw hb => by
        rw [IntWalk.u64_in (l.length : Int) (by omega)]
        have := wuint_any hw l.length (by omega) (by rw [List.length_append, encF_len]; have := behindF_le (n0 + 1); simp only [List.length_cons, List.length_nil]; omega) hb
        rw [List.append_assoc] at this
        exact this
      have hnw : Calls Tryz.prog 58 #[] w4.drew fun e w' => ∃ q, e = .returned (ptr q) ∧ Fr none_ w4.drew w' ∧ WriterAt w' w4.heap.size q [] := (wnew_any w4.drew).mono (fun e w' h => ⟨_, h⟩)
      have HNW := Lib.hid hnw
      have HST := Lib.hid hst
      have HU1 := Lib.hid hu1
      have HU2 := Lib.hid hu2
      have HU3 := Lib.hid hu3
      clear hst hu1 hu2 hu3 hnw hq4 ha4 hF6 hFw hdev hfr hFE
      go_wp2_with fail
      go_region_held3 (fun w' => (w'.cell? ⟨w1.heap.size, 0, none⟩ = some (.int .u64 (n0 : Nat)) ∧ w'.cell? ⟨w1.heap.size, 1, none⟩ = some (.bool true))) (first | exact hs0 | exact HST.out _ hX1 | exact HST.out _ hX2 | exact HST.out _ hX3 | exact HST.out _ hX4 | exact HST.out _ hX5) (first
        | (go_at_call 58; (with_reducible refine HNW.out.mono ?_); rintro e x1 ⟨q1, rfl, hY1, hW1⟩; have hX1 : Fr (fun k => w4.heap.size ≤ k) w4.drew x1 := Fr.of0 hY1; have hz1 : w4.heap.size ≤ x1.heap.size := hX1.size)
        | (go_at_call 59; (with_reducible refine (HU1.out x1 _ hW1 hz1).mono ?_); rintro e x2 ⟨rfl, hY2, hW2⟩; have hX2 := hX1.trans hY2; have hz2 : w4.heap.size ≤ x2.heap.size := hX2.size)
        | (go_at_call 60; (with_reducible refine (HU2.out x2 _ hW2 hz2).mono ?_); rintro e x3 ⟨rfl, hY3, hW3⟩; have hX3 := hX2.trans hY3; have hz3 : w4.heap.size ≤ x3.heap.size := hX3.size)
        | (go_at_call 59; (with_reducible refine (HU3.out x3 _ hW3 hz3).mono ?_); rintro e x4 ⟨rfl, hY4, hW4⟩; have hX4 := hX3.trans hY4; have hz4 : w4.heap.size ≤ x4.heap.size := hX4.size)
        | (go_at_call 61; (with_reducible refine (wdone_any hW4 (by have := tellB_len (n0 + 1) true l.length (by omega); omega)).mono ?_); rintro e x5 ⟨⟨v5, rfl, hown⟩, hY5⟩; have hX5 := hX4.trans0 hY5; have hz5 : w4.heap.size ≤ x5.heap.size := hX5.size))
      obtain ⟨A5, c5, rfl, hA5, hc5, hnil5, hbl5⟩ := ownsRow_read hown
      have ha8 : x5.heap[w.heap.size]? = some (.cells #[.int .i64 f, .int .i64 s] 36 (0, 0)) := hX5.heap ha6 (by omega)
      have e0 : x5.cell? ⟨w.heap.size, 0, none⟩ = some (.int .i64 f) := by rw [cell_of_blk ha8]; rfl
      have hD8 := hD6.fr hX5.undrew (fun i hi => by have := hD6.lt i hi; omega)
      have htl := tellB_len (n0 + 1) true l.length (by omega)
      obtain ⟨tl, htle⟩ : ∃ tl, tl = tellB (n0 + 1) true l.length := ⟨_, rfl⟩
      have HTL := Lib.hid htle
      rw [← htle] at hA5 htl
      try rw [← htle]
      clear htle
      have hwe := writeE_eq (wrote D (fromF true f s) l) f hf (by rw [wrote_sectors]; omega) tl (by omega)
      have hwr := write_any hD8 f A5 tl.length c5 tl rfl hA5 (fun x hx hl2 hdv => by have := (hbl5 x hx).1; have := hD6.lt x hdv; omega)
      rw [hwe] at hwr
      have HWR := Lib.hid hwr
      have hF8 : Fr (devBlks p m1 m2) w x5 := hF7.trans' hX5.undrew (fun i hi hs => by have := hF7.size; omega)
      clear hwe hwr hown hbl5 hnil5 hc5 hA5
      go_wp2_with fail
      (with_reducible refine HWR.out.mono ?_)
      rintro e x6 ⟨rfl, hF9, hD9⟩
      have hXe : X = ((wrote D (fromF true f s) l).write f tl).flush := by rw [HX.out, ← HTL.out]; rfl
      by_cases hdn : ((wrote D (fromF true f s) l).write f tl).down = true
      · rw [if_pos hdn, errV_n (by decide)]
        go_wp2_with fail
        go_ret
        rw [hXe, flush_down hdn]
        exact ⟨by rw [if_pos hdn, errV_n (by decide)]; rfl, hF8.trans hF9, hD9⟩
      · rw [if_neg hdn, errV_0]
        have hFE2 : errV ((wrote D (fromF true f s) l).write f tl).flushE = .nilIface := by unfold DevS.flushE; rw [if_neg hdn]; rfl
        go_wp2_with fail
        (with_reducible refine (flush_any hD9).mono ?_)
        rintro e x7 ⟨rfl, hF10, hD10⟩
        rw [hFE2]
        go_wp2_with fail
        go_ret
        rw [hXe]
        exact ⟨by rw [flush_downE, if_neg hdn]; rfl, (hF8.trans hF9).trans hF10, hD10⟩
set_option maxHeartbeats 8000000 in
set_option maxRecDepth 100000 in
theorem tsave_long_first {w : World} {p m1 m2 : Nat} {D : DevS} (h : DevAt w p m1 m2 D) (f s : Int) (hd : D.down = false) (hf : 0 ≤ f) (hs : 3 ≤ s ∧ s ≤ 16384) (hfs : f + s ≤ D.sectors)
    (A : Option Addr) (n c : Nat) (l : List UInt8) (hn : n = l.length) (hA : CellsAt w A (l.map byteV)) (hap : ∀ b, blkOf A b → 0 < l.length → ¬ devBlks p m1 m2 b) (hcap : l.length ≤ c) (hl : (s - 1) / 2 * 64 < (l.length : Int))
    (n0 : Nat) (long0 : Nat) (hn0 : n0 ≤ 18446744073709551614)
    (hrd : ∀ w', DevAt w' p m1 m2 D → Calls Tryz.prog 53 #[area f s, ptr p] w' fun e w'' => e = .returned (.tuple #[tellerV n0 false long0, errV 0]) ∧ Fr none_ w' w'') :
    Calls Tryz.prog 18 #[ptr p, area f s, .slice A n c] w fun e w' => e = .returned (errV 2) ∧ Fr none_ w w' := by
  subst hn
  have hm := h.most
  have h2 := h.fr0 ((Fr.refl none_ w).alloc (.cells #[.int .i64 f, .int .i64 s] 36))
  have hrs : roomF s = (s - 1) / 2 * 64 := by unfold roomF; rw [if_neg (by omega)]
  have hlong : roomF s < (l.length : Int) := by omega
  have hfr2 : 0 ≤ f ∧ f ≤ 16384 := ⟨hf, by omega⟩
  have HRD := Lib.hid hrd
  have his8 : ∀ W, Calls Tryz.prog 54 #[.iface 106 (.int .i64 8), .iface 106 (.int .i64 8)] W fun e w' => e = .returned (.bool true) ∧ W = w' := fun W => by
    have := is_any 8 8 (by decide) W
    rw [errV_n (by decide)] at this
    exact this
  have his0 : ∀ W, Calls Tryz.prog 54 #[.nilIface, .iface 106 (.int .i64 8)] W fun e w' => e = .returned (.bool false) ∧ W = w' := fun W => by
    have := is_any 0 8 (by decide) W
    rw [errV_n (n := 8) (by decide), errV_0] at this
    exact this
  have HI8 := Lib.hid his8
  have HI0 := Lib.hid his0
  clear hrd hrs his8 his0
  go_enter Tryz.func18, Tryz.ntmps18
  go_wp2_with fail
  (with_reducible refine (HRD.out _ h2).mono ?_)
  rintro e w1 ⟨rfl, hF1⟩
  rw [errV_0]
  go_wp2_with fail
  (with_reducible refine (HI0.out _).mono ?_)
  rintro e w2 ⟨rfl, rfl⟩
  have ha1 := hF1.heap0 (heap_alloc_new w (.cells #[.int .i64 f, .int .i64 s] 36))
  have hq1 := blk_lt ha1
  have hql : (w1.alloc (.cells #[.int .u64 (n0 : Nat), .bool false, .int .i64 (long0 : Nat)] 117)).heap[w1.heap.size]? = some (.cells #[.int .u64 (n0 : Nat), .bool false, .int .i64 (long0 : Nat)] 117 (0, 0)) := heap_alloc_at rfl _
  have hal : ∀ o, (w1.alloc o).heap[w.heap.size]? = some (.cells #[.int .i64 f, .int .i64 s] 36 (0, 0)) := fun o => heap_alloc_old ha1 o
  have hcl : ∀ o, (w1.alloc o).cell? ⟨w.heap.size, 0, none⟩ = some (.int .i64 f) ∧ (w1.alloc o).cell? ⟨w.heap.size, 1, none⟩ = some (.int .i64 s) := fun o => ⟨by rw [cell_of_blk (hal o)]; rfl, by rw [cell_of_blk (hal o)]; rfl⟩
  have hc0 := fun o => (hcl o).1
  have hc1 := fun o => (hcl o).2
  go_wp2_with fail
  (with_reducible refine (room_any f s _).mono ?_)
  rintro e w2 ⟨rfl, hF2⟩
  have hF3 : Fr none_ w w2 := (((Fr.refl none_ w).alloc _).trans hF1).trans' (((Fr.refl none_ w1).alloc _).trans hF2) (fun _ _ h => h)
  go_wp2_with fail
  go_ret
  exact ⟨by rw [errV_n (by decide)]; rfl, hF3⟩
set_option maxHeartbeats 8000000 in
set_option maxRecDepth 100000 in
theorem tsave_second {w : World} {p m1 m2 : Nat} {D : DevS} (h : DevAt w p m1 m2 D) (f s : Int) (hd : D.down = false) (hf : 0 ≤ f) (hs : 3 ≤ s ∧ s ≤ 16384) (hfs : f + s ≤ D.sectors)
    (A : Option Addr) (n c : Nat) (l : List UInt8) (hn : n = l.length) (hA : CellsAt w A (l.map byteV)) (hap : ∀ b, blkOf A b → 0 < l.length → ¬ devBlks p m1 m2 b) (hcap : l.length ≤ c) (hl : (l.length : Int) ≤ (s - 1) / 2 * 64)
    (n0 : Nat) (long0 : Nat) (hn0 : n0 ≤ 18446744073709551614)
    (hrd : ∀ w', DevAt w' p m1 m2 D → Calls Tryz.prog 53 #[area f s, ptr p] w' fun e w'' => e = .returned (.tuple #[tellerV n0 true long0, errV 0]) ∧ Fr none_ w' w'') :
    Calls Tryz.prog 18 #[ptr p, area f s, .slice A n c] w fun e w' => SavePost w p m1 m2 (saveD D (fromF false f s) f l (tellB (n0 + 1) false l.length)) e w' := by
  subst hn
  have hm := h.most
  have h2 := h.fr0 ((Fr.refl none_ w).alloc (.cells #[.int .i64 f, .int .i64 s] 36))
  have hin : f + 1 ≤ fromF false f s ∧ fromF false f s + (s - 1) / 2 ≤ f + s := by unfold fromF; split <;> omega
  have hc := cnt_room hl
  have hrs : roomF s = (s - 1) / 2 * 64 := by unfold roomF; rw [if_neg (by omega)]
  have hlong : ¬ roomF s < (l.length : Int) := by omega
  have hfr2 : 0 ≤ f ∧ f ≤ 16384 := ⟨hf, by omega⟩
  obtain ⟨X, hX⟩ : ∃ X, X = saveD D (fromF false f s) f l (tellB (n0 + 1) false l.length) := ⟨_, rfl⟩
  rw [← hX]
  have HX := Lib.hid hX
  have HRD := Lib.hid hrd
  have his8 : ∀ W, Calls Tryz.prog 54 #[.iface 106 (.int .i64 8), .iface 106 (.int .i64 8)] W fun e w' => e = .returned (.bool true) ∧ W = w' := fun W => by
    have := is_any 8 8 (by decide) W
    rw [errV_n (by decide)] at this
    exact this
  have his0 : ∀ W, Calls Tryz.prog 54 #[.nilIface, .iface 106 (.int .i64 8)] W fun e w' => e = .returned (.bool false) ∧ W = w' := fun W => by
    have := is_any 0 8 (by decide) W
    rw [errV_n (n := 8) (by decide), errV_0] at this
    exact this
  have HI8 := Lib.hid his8
  have HI0 := Lib.hid his0
  clear hX hrd hrs his8 his0
  go_enter Tryz.func18, Tryz.ntmps18
  go_wp2_with fail
  (with_reducible refine (HRD.out _ h2).mono ?_)
  rintro e w1 ⟨rfl, hF1⟩
  rw [errV_0]
  go_wp2_with fail
  (with_reducible refine (HI0.out _).mono ?_)
  rintro e w2 ⟨rfl, rfl⟩
  have ha1 := hF1.heap0 (heap_alloc_new w (.cells #[.int .i64 f, .int .i64 s] 36))
  have hq1 := blk_lt ha1
  have hql : (w1.alloc (.cells #[.int .u64 (n0 : Nat), .bool true, .int .i64 (long0 : Nat)] 117)).heap[w1.heap.size]? = some (.cells #[.int .u64 (n0 : Nat), .bool true, .int .i64 (long0 : Nat)] 117 (0, 0)) := heap_alloc_at rfl _
  have hal : ∀ o, (w1.alloc o).heap[w.heap.size]? = some (.cells #[.int .i64 f, .int .i64 s] 36 (0, 0)) := fun o => heap_alloc_old ha1 o
  have hcl : ∀ o, (w1.alloc o).cell? ⟨w.heap.size, 0, none⟩ = some (.int .i64 f) ∧ (w1.alloc o).cell? ⟨w.heap.size, 1, none⟩ = some (.int .i64 s) := fun o => ⟨by rw [cell_of_blk (hal o)]; rfl, by rw [cell_of_blk (hal o)]; rfl⟩
  have hc0 := fun o => (hcl o).1
  have hc1 := fun o => (hcl o).2
  go_wp2_with fail
  (with_reducible refine (room_any f s _).mono ?_)
  rintro e w2 ⟨rfl, hF2⟩
  have hq2 := hF2.heap0 hql
  have ha2 := hF2.heap0 (hal _)
  have hF3 : Fr none_ w w2 := (((Fr.refl none_ w).alloc _).trans hF1).trans' (((Fr.refl none_ w1).alloc _).trans hF2) (fun _ _ h => h)
  have hqw : w.heap.size < w1.heap.size := by have := hF1.size; rw [World.size_alloc] at this; omega
  have r0 : w2.cell? ⟨w1.heap.size, 0, none⟩ = some (.int .u64 (n0 : Nat)) := by rw [cell_of_blk hq2]; rfl
  have r1 : w2.cell? ⟨w1.heap.size, 1, none⟩ = some (.bool true) := by rw [cell_of_blk hq2]; rfl
  have r2 : w2.cell? ⟨w1.heap.size, 2, none⟩ = some (.int .i64 (long0 : Nat)) := by rw [cell_of_blk hq2]; rfl
  have r3 := fun o => frozen_of_blk hq2 o
  have hq3 := heap_setCell_same hq2 (o := 1) (.bool false)
  have ha3 := (Fr.set w2 w1.heap.size 1 (.bool false)).heap ha2 (by omega)
  have s0 : (w2.setCell ⟨w1.heap.size, 1, none⟩ (.bool false)).cell? ⟨w.heap.size, 0, none⟩ = some (.int .i64 f) := by rw [cell_of_blk ha3]; rfl
  have s1 : (w2.setCell ⟨w1.heap.size, 1, none⟩ (.bool false)).cell? ⟨w.heap.size, 1, none⟩ = some (.int .i64 s) := by rw [cell_of_blk ha3]; rfl
  clear hF1 hF2 hql hal hcl hc0 hc1 ha1 hq1
  go_wp2_with fail
  (with_reducible refine (from_any n0 false long0 f s _ hs hfr2).mono ?_)
  rintro e w3 ⟨rfl, hF4⟩
  have hq4 := hF4.heap0 hq3
  have ha4 := hF4.heap0 ha3
  have hF5 : Fr none_ w w3 := (hF3.own (Fr.set w2 w1.heap.size 1 (.bool false)) (by omega)).trans hF4
  have hD3 := h.fr0 hF5
  have hA3 := hA.fr0 hF5
  have hqd : ¬ devBlks p m1 m2 w1.heap.size := h.new (by omega)
  have had : ¬ devBlks p m1 m2 w.heap.size := h.new (Nat.le_refl _)
  clear r0 r1 r2 r3 s0 s1 hq3 ha3 hF4 hF3 hq2 ha2 h2
  go_wp2_with fail
  go_loopw [10, 11] (fun i v wr => ∃ k : Nat, k ≤ cnt l.length ∧ i = .int .i64 (fromF false f s + k) ∧ SvR w3 wr p m1 m2 D (fromF false f s) l A k v) (fun i _ _ => cnt l.length - (intOf i - fromF false f s).toNat)
  case atStart => exact ⟨0, by omega, by simp, ⟨hD3, hd, Fr.refl _ _, A, c, rfl, by simpa using hA3, by omega, fun _ h => h⟩⟩
  case round =>
    obtain ⟨k, hk, rfl, hR⟩ := hrel
    obtain ⟨A', c', rfl, hA', hc', hb'⟩ := hR.rest
    by_cases hlt : 64 * k < l.length
    · obtain ⟨ba, oa, rfl⟩ := hA'.addr (by rw [List.length_map, List.length_drop]; omega)
      have hkl : k < cnt l.length := by unfold cnt; omega
      have hup := hR.up
      have hch := (chunk_cells hA').frp hR.fr (fun x hx hl hdv => hap x (hb' x hx) (by omega) hdv)
      have hcl := chunk_len l k
      have hwe := writeE_eq (wrN D (fromF false f s) l k) (fromF false f s + k) (by omega) (by rw [wrN_sectors]; omega) (chunk l k) (by omega)
      have hwr := write_any hR.dev (fromF false f s + k) (some ⟨ba, oa, none⟩) (chunk l k).length c' (chunk l k) rfl hch (fun x hx hl2 hdv => hap x (hb' x hx) (by omega) hdv)
      rw [hwe] at hwr
      obtain ⟨m, hmm⟩ : ∃ m, m = (chunk l k).length := ⟨_, rfl⟩
      rw [← hmm] at hwr hcl
      have hmn : min ((l.length - 64 * k : Nat) : Int) 64 = (m : Int) := by omega
      have q0 : (0 : Int) < ((l.length - 64 * k : Nat) : Int) := by omega
      have q1 : (m : Int) ≤ ((l.length - 64 * k : Nat) : Int) := by omega
      have q2 : (m : Int) ≤ (c' : Int) := by omega
      have hX2 := saveD_down1 D (fromF false f s) f l (tellB (n0 + 1) false l.length) (k + 1) (by omega)
      have hwD : (wrN D (fromF false f s) l k).write (fromF false f s + k) (chunk l k) = wrN D (fromF false f s) l (k + 1) := rfl
      rw [hwD] at hwr
      have HWR := Lib.hid hwr
      have HCL := Lib.hid hcl
      have HMM := Lib.hid hmm
      clear hwr hwe hwD hcl hmm
      go_wp2_with fail
      (with_reducible refine HWR.out.mono ?_)
      rintro e w4 ⟨rfl, hF4, hD4⟩
      by_cases hdn : (wrN D (fromF false f s) l (k + 1)).down = true
      · rw [if_pos hdn, errV_n (by decide)]
        go_wp2_with fail
        go_ret
        rw [HX.out, hX2 hdn]
        exact ⟨by rw [if_pos hdn, errV_n (by decide)]; rfl, (Fr.of0 hF5).trans (hR.fr.trans hF4), hD4⟩
      · rw [if_neg hdn, errV_0]
        have hdn2 : (wrN D (fromF false f s) l (k + 1)).down = false := by simpa using hdn
        have hcl := HCL.out
        have hrn : l.length - 64 * (k + 1) = l.length - 64 * k - m := by omega
        clear hcl
        by_cases hmc : c' = m
        · subst hmc
          go_wp2_with fail
          go_roundw
          case rel =>
            have hcl := HCL.out
            refine ⟨k + 1, by omega, by go_num, hD4, hdn2, hR.fr.trans hF4, some ⟨ba, oa, none⟩, 0, by rw [hrn, show l.length - 64 * k - c' = 0 by omega], ?_, ?_, hb'⟩
            · rw [List.drop_of_length_le (by omega)]; exact CellsAt.nil _ _
            · omega
          case measure => simp [intOf]; omega
        · go_wp2_with fail
          go_roundw
          case rel =>
            have hcl := HCL.out
            refine ⟨k + 1, by omega, by go_num, hD4, hdn2, hR.fr.trans hF4, some ⟨ba, oa + m, none⟩, c' - m, by rw [hrn], ?_, by omega, fun x hx => hb' x (by obtain ⟨o, ho⟩ := hx; cases ho; exact ⟨oa, rfl⟩)⟩
            by_cases h64 : 64 * k + 64 ≤ l.length
            · have : m = 64 := by omega
              rw [this]
              exact rest_cells hA' h64
            · rw [List.drop_of_length_le (by omega)]; exact CellsAt.nil _ _
          case measure => simp [intOf]; omega
    · have hz0 : l.length - 64 * k = 0 := by omega
      have hkl : k = cnt l.length := by unfold cnt at hk ⊢; omega
      subst hkl
      have hup := hR.up
      have hFE : errV (wrN D (fromF false f s) l (cnt l.length)).flushE = .nilIface := by unfold DevS.flushE; rw [hup]; rfl
      have hdev := hR.dev
      have hfr := hR.fr
      rw [hz0]
      clear hR hA' hc' hlt hk hz0 hup
      go_wp2_with fail
      (with_reducible refine (flush_any hdev).mono ?_)
      rintro e w4 ⟨rfl, hF6, hD6⟩
      rw [hFE]
      have hD6 : DevAt w4 p m1 m2 (wrote D (fromF false f s) l) := hD6
      have hFw : Fr (devBlks p m1 m2) w3 w4 := hfr.trans hF6
      have hq6 := hFw.heap hq4 hqd
      have ha6 := hFw.heap ha4 had
      have hF7 : Fr (devBlks p m1 m2) w w4 := (Fr.of0 hF5).trans hFw
      have hs0 : w4.drew.cell? ⟨w1.heap.size, 0, none⟩ = some (.int .u64 (n0 : Nat)) ∧ w4.drew.cell? ⟨w1.heap.size, 1, none⟩ = some (.bool false) := by
        constructor
        · show w4.cell? _ = _
          rw [cell_of_blk hq6]; rfl
        · show w4.cell? _ = _
          rw [cell_of_blk hq6]; rfl
      have hq7 := blk_lt hq6
      have hst : ∀ wx, Fr (fun k => w4.heap.size ≤ k) w4.drew wx → (wx.cell? ⟨w1.heap.size, 0, none⟩ = some (.int .u64 (n0 : Nat)) ∧ wx.cell? ⟨w1.heap.size, 1, none⟩ = some (.bool false)) := fun wx hF => ⟨hF.cell hs0.1 (by omega), hF.cell hs0.2 (by omega)⟩
      have hu1 : ∀ wx q, WriterAt wx w4.heap.size q [] → w4.heap.size ≤ wx.heap.size → Calls Tryz.prog 59 #[ptr q, .int .u64 (IntKind.u64.wrap ((n0 : Int) + 1))] wx fun e w' => e = .returned (ptr q) ∧ Fr (fun k => w4.heap.size ≤ k) wx w' ∧ WriterAt w' w4.heap.size q (encF (n0 + 1)) := fun wx q hw hb => by
        rw [show IntKind.u64.wrap ((n0 : Int) + 1) = ((n0 + 1 : Nat) : Int) by rw [IntWalk.u64_in _ (by omega)]; rfl]
        exact wuint_any hw (n0 + 1) (by omega) (by simp) hb
      have hu2 : ∀ wx q, WriterAt wx w4.heap.size q (encF (n0 + 1)) → w4.heap.size ≤ wx.heap.size → Calls Tryz.prog 60 #[ptr q, .bool false] wx fun e w' => e = .returned (ptr q) ∧ Fr (fun k => w4.heap.size ≤ k) wx w' ∧ WriterAt w' w4.heap.size q (encF (n0 + 1) ++ [if false then 1 else 0]) := fun wx q hw hb =>
        wbool_any hw false (by rw [encF_len]; have := behindF_le (n0 + 1); omega) hb
      have hu3 : ∀ wx q, WriterAt wx w4.heap.size q (encF (n0 + 1) ++ [if false then 1 else 0]) → w4.heap.size ≤ wx.heap.size → Calls Tryz.prog 59 #[ptr q, .int .u64 (IntKind.u64.wrap (l.length : Int))] wx fun e w' => e = .returned (ptr q) ∧ Fr (fun k => w4.heap.size ≤ k) wx w' ∧ WriterAt w' w4.heap.size q (tellB (n0 + 1) false l.length) := fun wx q hw hb => by
        rw [IntWalk.u64_in (l.length : Int) (by omega)]
        have := wuint_any hw l.length (by omega) (by rw [List.length_append, encF_len]; have := behindF_le (n0 + 1); simp only [List.length_cons, List.length_nil]; omega) hb
        rw [List.append_assoc] at this
        exact this
      have hnw : Calls Tryz.prog 58 #[] w4.drew fun e w' => ∃ q, e = .returned (ptr q) ∧ Fr none_ w4.drew w' ∧ WriterAt w' w4.heap.size q [] := (wnew_any w4.drew).mono (fun e w' h => ⟨_, h⟩)
      have HNW := Lib.hid hnw
      have HST := Lib.hid hst
      have HU1 := Lib.hid hu1
      have HU2 := Lib.hid hu2
      have HU3 := Lib.hid hu3
      clear hst hu1 hu2 hu3 hnw hq4 ha4 hF6 hFw hdev hfr hFE
      go_wp2_with fail
      go_region_held3 (fun w' => (w'.cell? ⟨w1.heap.size, 0, none⟩ = some (.int .u64 (n0 : Nat)) ∧ w'.cell? ⟨w1.heap.size, 1, none⟩ = some (.bool false))) (first | exact hs0 | exact HST.out _ hX1 | exact HST.out _ hX2 | exact HST.out _ hX3 | exact HST.out _ hX4 | exact HST.out _ hX5) (first
        | (go_at_call 58; (with_reducible refine HNW.out.mono ?_); rintro e x1 ⟨q1, rfl, hY1, hW1⟩; have hX1 : Fr (fun k => w4.heap.size ≤ k) w4.drew x1 := Fr.of0 hY1; have hz1 : w4.heap.size ≤ x1.heap.size := hX1.size)
        | (go_at_call 59; (with_reducible refine (HU1.out x1 _ hW1 hz1).mono ?_); rintro e x2 ⟨rfl, hY2, hW2⟩; have hX2 := hX1.trans hY2; have hz2 : w4.heap.size ≤ x2.heap.size := hX2.size)
        | (go_at_call 60; (with_reducible refine (HU2.out x2 _ hW2 hz2).mono ?_); rintro e x3 ⟨rfl, hY3, hW3⟩; have hX3 := hX2.trans hY3; have hz3 : w4.heap.size ≤ x3.heap.size := hX3.size)
        | (go_at_call 59; (with_reducible refine (HU3.out x3 _ hW3 hz3).mono ?_); rintro e x4 ⟨rfl, hY4, hW4⟩; have hX4 := hX3.trans hY4; have hz4 : w4.heap.size ≤ x4.heap.size := hX4.size)
        | (go_at_call 61; (with_reducible refine (wdone_any hW4 (by have := tellB_len (n0 + 1) false l.length (by omega); omega)).mono ?_); rintro e x5 ⟨⟨v5, rfl, hown⟩, hY5⟩; have hX5 := hX4.trans0 hY5; have hz5 : w4.heap.size ≤ x5.heap.size := hX5.size))
      obtain ⟨A5, c5, rfl, hA5, hc5, hnil5, hbl5⟩ := ownsRow_read hown
      have ha8 : x5.heap[w.heap.size]? = some (.cells #[.int .i64 f, .int .i64 s] 36 (0, 0)) := hX5.heap ha6 (by omega)
      have e0 : x5.cell? ⟨w.heap.size, 0, none⟩ = some (.int .i64 f) := by rw [cell_of_blk ha8]; rfl
      have hD8 := hD6.fr hX5.undrew (fun i hi => by have := hD6.lt i hi; omega)
      have htl := tellB_len (n0 + 1) false l.length (by omega)
      obtain ⟨tl, htle⟩ : ∃ tl, tl = tellB (n0 + 1) false l.length := ⟨_, rfl⟩
      have HTL := Lib.hid htle
      rw [← htle] at hA5 htl
      try rw [← htle]
      clear htle
      have hwe := writeE_eq (wrote D (fromF false f s) l) f hf (by rw [wrote_sectors]; omega) tl (by omega)
      have hwr := write_any hD8 f A5 tl.length c5 tl rfl hA5 (fun x hx hl2 hdv => by have := (hbl5 x hx).1; have := hD6.lt x hdv; omega)
      rw [hwe] at hwr
      have HWR := Lib.hid hwr
      have hF8 : Fr (devBlks p m1 m2) w x5 := hF7.trans' hX5.undrew (fun i hi hs => by have := hF7.size; omega)
      clear hwe hwr hown hbl5 hnil5 hc5 hA5
      go_wp2_with fail
      (with_reducible refine HWR.out.mono ?_)
      rintro e x6 ⟨rfl, hF9, hD9⟩
      have hXe : X = ((wrote D (fromF false f s) l).write f tl).flush := by rw [HX.out, ← HTL.out]; rfl
      by_cases hdn : ((wrote D (fromF false f s) l).write f tl).down = true
      · rw [if_pos hdn, errV_n (by decide)]
        go_wp2_with fail
        go_ret
        rw [hXe, flush_down hdn]
        exact ⟨by rw [if_pos hdn, errV_n (by decide)]; rfl, hF8.trans hF9, hD9⟩
      · rw [if_neg hdn, errV_0]
        have hFE2 : errV ((wrote D (fromF false f s) l).write f tl).flushE = .nilIface := by unfold DevS.flushE; rw [if_neg hdn]; rfl
        go_wp2_with fail
        (with_reducible refine (flush_any hD9).mono ?_)
        rintro e x7 ⟨rfl, hF10, hD10⟩
        rw [hFE2]
        go_wp2_with fail
        go_ret
        rw [hXe]
        exact ⟨by rw [flush_downE, if_neg hdn]; rfl, (hF8.trans hF9).trans hF10, hD10⟩
set_option maxHeartbeats 8000000 in
set_option maxRecDepth 100000 in
theorem tsave_long_second {w : World} {p m1 m2 : Nat} {D : DevS} (h : DevAt w p m1 m2 D) (f s : Int) (hd : D.down = false) (hf : 0 ≤ f) (hs : 3 ≤ s ∧ s ≤ 16384) (hfs : f + s ≤ D.sectors)
    (A : Option Addr) (n c : Nat) (l : List UInt8) (hn : n = l.length) (hA : CellsAt w A (l.map byteV)) (hap : ∀ b, blkOf A b → 0 < l.length → ¬ devBlks p m1 m2 b) (hcap : l.length ≤ c) (hl : (s - 1) / 2 * 64 < (l.length : Int))
    (n0 : Nat) (long0 : Nat) (hn0 : n0 ≤ 18446744073709551614)
    (hrd : ∀ w', DevAt w' p m1 m2 D → Calls Tryz.prog 53 #[area f s, ptr p] w' fun e w'' => e = .returned (.tuple #[tellerV n0 true long0, errV 0]) ∧ Fr none_ w' w'') :
    Calls Tryz.prog 18 #[ptr p, area f s, .slice A n c] w fun e w' => e = .returned (errV 2) ∧ Fr none_ w w' := by
  subst hn
  have hm := h.most
  have h2 := h.fr0 ((Fr.refl none_ w).alloc (.cells #[.int .i64 f, .int .i64 s] 36))
  have hrs : roomF s = (s - 1) / 2 * 64 := by unfold roomF; rw [if_neg (by omega)]
  have hlong : roomF s < (l.length : Int) := by omega
  have hfr2 : 0 ≤ f ∧ f ≤ 16384 := ⟨hf, by omega⟩
  have HRD := Lib.hid hrd
  have his8 : ∀ W, Calls Tryz.prog 54 #[.iface 106 (.int .i64 8), .iface 106 (.int .i64 8)] W fun e w' => e = .returned (.bool true) ∧ W = w' := fun W => by
    have := is_any 8 8 (by decide) W
    rw [errV_n (by decide)] at this
    exact this
  have his0 : ∀ W, Calls Tryz.prog 54 #[.nilIface, .iface 106 (.int .i64 8)] W fun e w' => e = .returned (.bool false) ∧ W = w' := fun W => by
    have := is_any 0 8 (by decide) W
    rw [errV_n (n := 8) (by decide), errV_0] at this
    exact this
  have HI8 := Lib.hid his8
  have HI0 := Lib.hid his0
  clear hrd hrs his8 his0
  go_enter Tryz.func18, Tryz.ntmps18
  go_wp2_with fail
  (with_reducible refine (HRD.out _ h2).mono ?_)
  rintro e w1 ⟨rfl, hF1⟩
  rw [errV_0]
  go_wp2_with fail
  (with_reducible refine (HI0.out _).mono ?_)
  rintro e w2 ⟨rfl, rfl⟩
  have ha1 := hF1.heap0 (heap_alloc_new w (.cells #[.int .i64 f, .int .i64 s] 36))
  have hq1 := blk_lt ha1
  have hql : (w1.alloc (.cells #[.int .u64 (n0 : Nat), .bool true, .int .i64 (long0 : Nat)] 117)).heap[w1.heap.size]? = some (.cells #[.int .u64 (n0 : Nat), .bool true, .int .i64 (long0 : Nat)] 117 (0, 0)) := heap_alloc_at rfl _
  have hal : ∀ o, (w1.alloc o).heap[w.heap.size]? = some (.cells #[.int .i64 f, .int .i64 s] 36 (0, 0)) := fun o => heap_alloc_old ha1 o
  have hcl : ∀ o, (w1.alloc o).cell? ⟨w.heap.size, 0, none⟩ = some (.int .i64 f) ∧ (w1.alloc o).cell? ⟨w.heap.size, 1, none⟩ = some (.int .i64 s) := fun o => ⟨by rw [cell_of_blk (hal o)]; rfl, by rw [cell_of_blk (hal o)]; rfl⟩
  have hc0 := fun o => (hcl o).1
  have hc1 := fun o => (hcl o).2
  go_wp2_with fail
  (with_reducible refine (room_any f s _).mono ?_)
  rintro e w2 ⟨rfl, hF2⟩
  have hF3 : Fr none_ w w2 := (((Fr.refl none_ w).alloc _).trans hF1).trans' (((Fr.refl none_ w1).alloc _).trans hF2) (fun _ _ h => h)
  go_wp2_with fail
  go_ret
  exact ⟨by rw [errV_n (by decide)]; rfl, hF3⟩
end Go.Proofs.YtffolfemcllfkaaGreatDoor

import Derived.Test.YtniiokhkmdknaaaDoorLoose
namespace Go.Proofs.YtniiokhkmdknaaaDoor
open Go.RowKit
set_option linter.unusedVariables false
set_option linter.unusedSimpArgs false

/-! dev.Start -/
/-- the sectors' contents behind i of the loose sectors -/
def startTo (D : DevS) (kept : List Bool) (ks : List Int) : Nat → List (Int × Blk)
  | 0 => D.now
  | i + 1 => if kept[i]? = some true then startTo D kept ks i else mset (startTo D kept ks i) (ks.getD i 0) ((mget D.loose (ks.getD i 0)).getD zeroB)
def DevS.start (D : DevS) (kept : List Bool) : DevS :=
  if D.lost then D else { D with now := startTo D kept (sortedKeys D.loose) (sortedKeys D.loose).length, loose := [], crashed := false, armed := false }
theorem start_lost {w : World} {p m1 m2 : Nat} {D : DevS} (h : DevAt w p m1 m2 D) (A : Option Addr) (n c : Nat) (hl : D.lost = true) : Calls Tryd.prog 17 #[ptr p, .slice A n c] w fun e w' => e = .returned (.tuple #[]) ∧ w = w' := by
  obtain ⟨c0, c1, c2, c3, c4, c5, c6, c7⟩ := h.cellsAll
  rw [hl] at c7
  go_enter Tryd.func17, Tryd.ntmps17
  go_wp2_with fail
  first
    | (go_end0; exact ⟨rfl, rfl⟩)
    | exact bodyPost_ret (results_none rfl _ _ _) rfl ⟨rfl, rfl⟩
structure StartIn (w : World) (p m1 m2 : Nat) (D : DevS) (now : List (Int × Blk)) (A1 : Option Addr) (ks : List Int) (wr : World) : Prop where
  fr : Fr (devBlks p m1 m2) w wr
  dev : DevAt wr p m1 m2 { D with now := now }
  keys : CellsAt wr A1 (ks.map intV)
  apart : ∀ b, blkOf A1 b → ¬ devBlks p m1 m2 b
theorem StartIn.step {w wr w' : World} {p m1 m2 : Nat} {D : DevS} {now : List (Int × Blk)} {A1 : Option Addr} {ks : List Int} (h : StartIn w p m1 m2 D now A1 ks wr) {s : Int} {b : Blk} (hb : b.length = 64) (hF : Fr (fun i => i = m1) wr w') (hM : IMap w' m1 (mset (mapV blkV now) s (blkV b))) :
    StartIn w p m1 m2 D (mset now s b) A1 ks w' := by
  have hF2 := hF.mono (S2 := devBlks p m1 m2) (fun i _ e => .inr (.inl e))
  refine ⟨h.fr.trans hF2, ⟨hF.heap h.dev.blk h.dev.pne.1, ?_, h.dev.loose.fr hF (fun e => h.dev.ne e.symm), h.dev.ne, ?_, h.dev.len2, h.dev.keys, h.dev.most⟩, h.keys.fr hF2 h.apart, h.apart⟩
  · rw [mset_mapV] at hM; exact hM
  · intro x hx
    rcases mem_mset hx with rfl | hx
    · exact hb
    · exact h.dev.len x hx
theorem StartIn.drew {w wr : World} {p m1 m2 : Nat} {D : DevS} {now : List (Int × Blk)} {A1 : Option Addr} {ks : List Int} (h : StartIn w p m1 m2 D now A1 ks wr) : StartIn w p m1 m2 D now A1 ks wr.drew :=
  ⟨h.fr.trans0 ((Fr.refl _ _).drew), h.dev.fr0 ((Fr.refl _ _).drew), h.keys.drew, h.apart⟩
theorem loose_get_len {w : World} {p m1 m2 : Nat} {D : DevS} (h : DevAt w p m1 m2 D) (s : Int) : ((mget D.loose s).getD zeroB).length = 64 := by
  cases hm : mget D.loose s with
  | none => simp [zeroB]
  | some b => exact h.len2 _ (mget_mem hm)
theorem looseLk0 {w : World} {p m1 m2 : Nat} {D : DevS} (h : DevAt w p m1 m2 D) (s : Int) : (Instr.lookup 52 (.map (some m2)) (.int .i64 s) false).run Tryd.prog w = .ok (blkV ((mget D.loose s).getD zeroB)) w := by
  have hlk := run_lookup_plain (P := Tryd.prog) (T := 52) Tryd.underlying52 Tryd.underlying3 zero_blk h.loose s
  rw [mget_mapV] at hlk
  rw [hlk]
  cases mget D.loose s <;> rfl
set_option maxHeartbeats 2000000 in
set_option maxRecDepth 100000 in
theorem start_ok {w : World} {p m1 m2 : Nat} {D : DevS} (h : DevAt w p m1 m2 D) (A : Option Addr) (n c : Nat) (kept : List Bool) (hn : n = kept.length) (hA : CellsAt w A (kept.map Value.bool)) (hap : ∀ b, blkOf A b → 0 < kept.length → ¬ devBlks p m1 m2 b) (hm : kept.length ≤ 140737488351232) (hl : D.lost = false) :
    Calls Tryd.prog 17 #[ptr p, .slice A n c] w fun e w' => e = .returned (.tuple #[]) ∧ Fr (devBlks p m1 m2) w w' ∧ DevAt w' p m1 m2 (D.start kept) := by
  subst hn
  obtain ⟨c0, c1, c2, c3, c4, c5, c6, c7⟩ := h.cellsAll
  rw [hl] at c7
  go_enter Tryd.func17, Tryd.ntmps17
  go_wp2_with fail
  (with_reducible refine (loose_any h).mono ?_)
  rintro e w1 ⟨⟨v, rfl, hown⟩, hF1⟩
  obtain ⟨ks, hks⟩ : ∃ ks, ks = sortedKeys D.loose := ⟨_, rfl⟩
  rw [← hks] at hown
  obtain ⟨A1, cc, rfl, hA1, _, _, hbl⟩ := ownsRow_read hown
  have hlen : ks.length ≤ 16384 := by
    rw [hks, sortedKeys_len]
    have hn := h.loose.nodup
    rw [mapV_keys] at hn
    have h1 := nodup_len D.sectors.toNat (D.loose.map (·.1)) hn (fun x hx => by
      obtain ⟨y, hy, rfl⟩ := List.mem_map.1 hx
      have := h.keys y hy
      omega)
    have := h.most
    simp at h1
    omega
  have hI : StartIn w p m1 m2 D D.now A1 ks w1 := ⟨Fr.of0 hF1, h.fr0 hF1, hA1, fun b hb hd => by have := (hbl b hb).1; have := h.lt b hd; omega⟩
  have HK := Lib.hid hks
  clear hks c0 c1 c2 c3 c4 c5 c6 c7
  go_wp2_with fail
  go_loopw [17] (fun i wr => ∃ j : Nat, j ≤ ks.length ∧ i = .int .i64 j ∧ StartIn w p m1 m2 D (startTo D kept ks j) A1 ks wr) (fun i _ => ks.length - (intOf i).toNat)
  case atStart => exact ⟨0, by omega, rfl, hI⟩
  case round =>
    obtain ⟨j, hj, rfl, hJ⟩ := hrel
    by_cases hlt : j < ks.length
    · obtain ⟨kb, ko, rfl, hkc⟩ := hJ.keys j (by simpa using hlt)
      have hkc2 : wr.cell? ⟨kb, ko + j, none⟩ = some (.int .i64 ks[j]) := by simpa [intV] using hkc
      obtain ⟨d0, d1, d2, d3, d4, d5, d6, d7⟩ := hJ.dev.cellsAll
      have hgd : ks.getD j 0 = ks[j] := by simp [hlt]
      have HG := Lib.hid hgd
      have hlk := looseLk0 hJ.drew.dev ks[j]
      have hob := loose_get_len hJ.dev ks[j]
      generalize hob2 : (mget D.loose ks[j]).getD zeroB = ob at hlk hob
      have hst : ∀ (hk : kept[j]? ≠ some true), startTo D kept ks (j + 1) = mset (startTo D kept ks j) ks[j] ob := fun hk => by
        rw [startTo, if_neg hk, hgd, hob2]
      have hst2 : ∀ (hk : kept[j]? = some true), startTo D kept ks (j + 1) = startTo D kept ks j := fun hk => by rw [startTo, if_pos hk]
      have HST := Lib.hid hst
      have HST2 := Lib.hid hst2
      clear hst hst2
      have HOB := Lib.hid hob2
      have HJ := Lib.hid hJ
      clear hgd hob2 hkc hJ
      have hA4 := hA.frp HJ.out.fr (fun b hb hv => hap b hb (by simpa using hv))
      by_cases hk1 : j < kept.length
      · obtain ⟨b2, o2, rfl, hkb⟩ := hA4 j (by simpa using hk1)
        have hkb2 : wr.cell? ⟨b2, o2 + j, none⟩ = some (.bool kept[j]) := by simpa using hkb
        clear hkb
        cases hkj : kept[j]
        all_goals
          rw [hkj] at hkb2
          have HKJ := Lib.hid hkj
          clear hkj
          go_wp2_with fail
        ·
          go_still_tail 11, (by kernel_rfl)
          change wpList _ _ _ _ _ wr.drew
          go_wp2_with ((with_reducible refine at_mapset (.tmp 36) (.tmp 37) (.tmp 43) (b := m1) (m := mapV blkV (startTo D kept ks j)) (k := ks[j]) (v := blkV ob) Tryd.underlying52 Tryd.underlying3 ?_ ?_ ?_ ?_ ?_); (focus rfl); (focus rfl); (focus rfl); (focus exact HJ.out.drew.dev.now); intro w4 hF4 hM4)
          go_roundw
          case rel => exact ⟨j + 1, by omega, by go_num, by rw [HST.out (by rw [List.getElem?_eq_getElem hk1, HKJ.out]; simp)]; exact HJ.out.drew.step hob hF4 hM4⟩
          case measure => simp [intOf]; omega
        · go_roundw
          case rel => exact ⟨j + 1, by omega, by go_num, by rw [HST2.out (by rw [List.getElem?_eq_getElem hk1, HKJ.out])]; exact HJ.out⟩
          case measure => simp [intOf]; omega
      · go_wp2_with fail
        go_still_tail 11, (by kernel_rfl)
        change wpList _ _ _ _ _ wr.drew
        go_wp2_with ((with_reducible refine at_mapset (.tmp 36) (.tmp 37) (.tmp 43) (b := m1) (m := mapV blkV (startTo D kept ks j)) (k := ks[j]) (v := blkV ob) Tryd.underlying52 Tryd.underlying3 ?_ ?_ ?_ ?_ ?_); (focus rfl); (focus rfl); (focus rfl); (focus exact HJ.out.drew.dev.now); intro w4 hF4 hM4)
        go_roundw
        case rel => exact ⟨j + 1, by omega, by go_num, by rw [HST.out (by rw [List.getElem?_eq_none (by omega)]; simp)]; exact HJ.out.drew.step hob hF4 hM4⟩
        case measure => simp [intOf]; omega
    · have hjk : j = ks.length := by omega
      subst hjk
      obtain ⟨d0, d1, d2, d3, d4, d5, d6, d7⟩ := hJ.dev.cellsAll
      have f4 := hJ.dev.frozen 4
      have f6 := hJ.dev.frozen 6
      have HJ := Lib.hid hJ
      clear hJ
      go_wp2_with ((with_reducible refine at_clear (.tmp 48) (b := m2) (m := mapV blkV D.loose) Tryd.underlying52 ?_ ?_ ?_); (focus rfl); (focus exact HJ.out.dev.loose); intro w5 hF5 hM5; have h5 := HJ.out.dev.cleared (D' := { D with now := startTo D kept ks ks.length, loose := [] }) hF5 hM5 rfl rfl rfl rfl; obtain ⟨e0, e1, e2, e3, e4, e5, e6, e7⟩ := h5.2.cellsAll; have g4 := h5.2.frozen 4; have g6 := h5.2.frozen 6; clear d0 d1 d2 d3 d4 d5 d6 d7 f4 f6)
      have h6 := h5.2.setCell (D' := { D with now := startTo D kept ks ks.length, loose := [], crashed := false }) 6 (.bool false) rfl rfl rfl rfl
      have h7 := h6.setCell (D' := { D with now := startTo D kept ks ks.length, loose := [], crashed := false, armed := false }) 4 (.bool false) rfl rfl rfl rfl
      have hfr := (HJ.out.fr.trans h5.1).trans (((Fr.set w5 p 6 (.bool false)).trans (Fr.set _ p 4 (.bool false))).mono (S2 := devBlks p m1 m2) (fun i _ e => .inl e))
      have hd : D.start kept = { D with now := startTo D kept ks ks.length, loose := [], crashed := false, armed := false } := by
        unfold DevS.start; rw [hl, ← HK.out]; rfl
      first
        | (go_end0; rw [hd]; exact ⟨rfl, hfr, h7⟩)
        | (rw [hd]; exact bodyPost_end (results_none rfl _ _ _) rfl ⟨rfl, hfr, h7⟩)
end Go.Proofs.YtniiokhkmdknaaaDoor

import Derived.Test.YtdkjmnhblepkaaaDev2
import Derived.Deep.DeepCutAuto
namespace Go.Proofs.Ytdkjmnhblepkaaa
open Go.RowKit
set_option linter.unusedVariables false
set_option linter.unusedSimpArgs false
theorem size_u8 : (Try.prog.info? 5).map (·.size) = some 1 := by kernel_rfl
theorem pad_eq (l : List UInt8) (hn : l.length ≤ 64) : ((zeroB.map byteV).take 0 ++ (l.map byteV ++ (zeroB.map byteV).drop (0 + (l.map byteV).length))).toArray = ((padB l).map byteV).toArray := by
  unfold zeroB padB
  rw [List.map_append, List.map_replicate, List.map_replicate, List.drop_replicate, List.length_map, Nat.zero_add]
  rfl
def cntW (w : World) (p : Nat) (D : DevS) : World := (w.setCell ⟨p, 5, none⟩ (.int .i64 (wrap64 (D.left - 1)))).setCell ⟨p, 3, none⟩ (.int .i64 (wrap64 (D.writes + 1)))
def DevS.cnt (D : DevS) : DevS := { D with left := wrap64 (D.left - 1), writes := wrap64 (D.writes + 1) }
theorem cnt_at {w : World} {p m1 m2 : Nat} {D : DevS} (h : DevAt w p m1 m2 D) : DevAt (cntW w p D) p m1 m2 D.cnt :=
  (h.setCell (D' := { D with left := wrap64 (D.left - 1) }) 5 (.int .i64 (wrap64 (D.left - 1))) rfl rfl rfl rfl).setCell (D' := D.cnt) 3 (.int .i64 (wrap64 (D.writes + 1))) rfl rfl rfl rfl
theorem cnt_fr (w : World) (p m1 m2 : Nat) (D : DevS) : Fr (devBlks p m1 m2) w (cntW w p D) :=
  ((Fr.set w p 5 _).trans (Fr.set _ p 3 _)).mono (fun i _ e => .inl e)
theorem looseLk {w : World} {p m1 m2 : Nat} {D : DevS} (h : DevAt w p m1 m2 D) (s : Int) : (Instr.lookup 74 (.map (some m2)) (.int .i64 s) true).run Try.prog w = .ok (.tuple #[blkV ((mget D.loose s).getD zeroB), .bool (mget D.loose s).isSome]) w := by
  have hlk := run_lookup_ok (P := Try.prog) (T := 74) Try.underlying74 Try.underlying3 zero_blk h.loose s
  rw [mget_mapV] at hlk
  rw [hlk]
  cases mget D.loose s <;> rfl
theorem nowLk {w : World} {p m1 m2 : Nat} {D : DevS} (h : DevAt w p m1 m2 D) (s : Int) : (Instr.lookup 74 (.map (some m1)) (.int .i64 s) false).run Try.prog w = .ok (.agg ((D.get s).map byteV).toArray) w := by
  have hlk := run_lookup_plain (P := Try.prog) (T := 74) Try.underlying74 Try.underlying3 zero_blk h.now s
  rw [get_eq] at hlk
  exact hlk
set_option maxHeartbeats 1000000 in
def DevS.mid (D : DevS) (s : Int) : DevS := { D.cnt with loose := if (mget D.loose s).isSome then D.loose else mset D.loose s (D.get s) }
structure MidW (w : World) (p m1 m2 : Nat) (D : DevS) (s : Int) (wx : World) : Prop where
  fr : Fr (devBlks p m1 m2) w wx
  dev : DevAt wx p m1 m2 (D.mid s)
theorem mem_mset {α : Type} {m : List (Int × α)} {k : Int} {v : α} {x : Int × α} (h : x ∈ mset m k v) : x = (k, v) ∨ x ∈ m := by
  unfold mset at h
  split at h
  · obtain ⟨y, hy, rfl⟩ := List.mem_map.1 h
    split
    · exact .inl rfl
    · exact .inr hy
  · rcases List.mem_append.1 h with h | h
    · exact .inr h
    · simp at h; exact .inl h
theorem atE_in {D : DevS} {s : Int} (h : D.atE s = 0) : D.down = false ∧ 0 ≤ s ∧ s < D.sectors := by
  unfold DevS.atE at h
  split at h
  · cases h
  · rename_i hd
    split at h
    · cases h
    · exact ⟨by simpa using hd, by omega, by omega⟩
theorem mid_none {w w3 w4 : World} {p m1 m2 : Nat} {D : DevS} {s : Int} (h : DevAt w p m1 m2 D) (hE : D.atE s = 0) (hs : (mget D.loose s).isSome = false) (h3 : DevAt w3 p m1 m2 D.cnt) (hF : Fr (devBlks p m1 m2) w w3)
    (hF4 : Fr (fun i => i = m2) w3 w4) (hM4 : IMap w4 m2 (mset (mapV blkV D.loose) s (blkV (D.get s)))) : MidW w p m1 m2 D s w4 := by
  have e : (D.mid s).loose = mset D.loose s (D.get s) := by simp [DevS.mid, hs]
  have hin := atE_in hE
  refine ⟨hF.trans' hF4 (fun i _ e => .inr (.inr e)), ⟨hF4.heap h3.blk h3.pne.2, h3.now.fr hF4 h3.ne, ?_, h3.ne, h3.len, ?_, ?_, h3.most⟩⟩
  · rw [e, ← mset_mapV]; exact hM4
  · rw [e]
    intro x hx
    rcases mem_mset hx with rfl | hx
    · exact h.get_len s
    · exact h.len2 x hx
  · rw [e]
    intro x hx
    rcases mem_mset hx with rfl | hx
    · exact hin.2
    · exact h.keys x hx
theorem mid_some {w w3 : World} {p m1 m2 : Nat} {D : DevS} {s : Int} (hs : (mget D.loose s).isSome = true) (h3 : DevAt w3 p m1 m2 D.cnt) (hF : Fr (devBlks p m1 m2) w w3) : MidW w p m1 m2 D s w3 := by
  have e : D.mid s = D.cnt := by simp [DevS.mid, hs, DevS.cnt]
  exact ⟨hF, e ▸ h3⟩
theorem put_of_mid {w W4 W6 w7 : World} {p m1 m2 : Nat} {D : DevS} {s : Int} {l : List UInt8} (hl : l.length ≤ 64) (h : MidW w p m1 m2 D s W4) (hF6 : Fr none_ W4 W6) (hF7 : Fr (fun i => i = m1) W6 w7) (hM : IMap w7 m1 (mset (mapV blkV D.now) s (blkV (padB l)))) :
    Fr (devBlks p m1 m2) w w7 ∧ DevAt w7 p m1 m2 (D.put s l) := by
  have h6 := h.dev.fr0 hF6
  have e : D.put s l = { D.mid s with now := mset D.now s (padB l) } := by
    unfold DevS.put DevS.mid DevS.cnt; rfl
  refine ⟨(h.fr.trans0 hF6).trans' hF7 (fun i _ e => .inr (.inl e)), ?_⟩
  rw [e]
  refine ⟨hF7.heap h6.blk h6.pne.1, ?_, h6.loose.fr hF7 (fun e => h6.ne e.symm), h6.ne, ?_, h6.len2, h6.keys, h6.most⟩
  · rw [mset_mapV] at hM; exact hM
  · intro x hx
    rcases mem_mset hx with rfl | hx
    · simp [padB]; omega
    · exact h6.len x hx
set_option maxHeartbeats 1000000 in
set_option maxRecDepth 100000 in
theorem write_ok {w : World} {p m1 m2 : Nat} {D : DevS} (h : DevAt w p m1 m2 D) (s : Int) (A : Option Addr) (n c : Nat) (l : List UInt8) (hE : D.atE s = 0) (hn : n ≤ 64) (ha : ¬ (D.armed = true ∧ D.left = 0)) (hnl : n = l.length) (hA : CellsAt w A (l.map byteV)) (hap : ∀ b, blkOf A b → 0 < l.length → ¬ devBlks p m1 m2 b) :
    Calls Try.prog 33 #[ptr p, .int .i64 s, .slice A n c] w fun e w' => e = .returned (errV 0) ∧ Fr (devBlks p m1 m2) w w' ∧ DevAt w' p m1 m2 (D.put s l) := by
  subst hnl
  obtain ⟨c0, c1, c2, c3, c4, c5, c6, c7⟩ := h.cellsAll
  have f3 := h.frozen 3
  have f5 := h.frozen 5
  have hlk := looseLk (cnt_at h) s
  have hn2 : ¬ 64 < l.length := by omega
  have hB : D.armed = false ∨ (D.armed = true ∧ (D.left == 0) = false) := by
    cases h1 : D.armed
    · exact .inl rfl
    · have : ¬ D.left = 0 := fun h2 => ha ⟨h1, h2⟩
      exact .inr ⟨rfl, by simp [this]⟩
  clear ha
  obtain ⟨ob, hob⟩ : ∃ ob, ob = (mget D.loose s).getD zeroB := ⟨_, rfl⟩
  have hobl : (ob.map byteV).toArray.size = 64 := by
    subst hob
    cases hm : mget D.loose s with
    | none => simp [zeroB]
    | some b => simpa using h.len2 _ (mget_mem hm)
  rw [show D.cnt.loose = D.loose from rfl, ← hob] at hlk
  have HO := Lib.hid hob
  have HOL := Lib.hid hobl
  clear hob hobl
  obtain ⟨W0, hW0⟩ : ∃ W0, W0 = cntW w p D := ⟨_, rfl⟩
  have h0 : DevAt W0 p m1 m2 D.cnt := hW0 ▸ cnt_at h
  have hF0 : Fr (devBlks p m1 m2) w W0 := hW0 ▸ cnt_fr w p m1 m2 D
  have H0 := Lib.hid h0
  have HF0 := Lib.hid hF0
  have HW0 := Lib.hid hW0
  clear h0 hF0 hW0
  unfold cntW at hlk
  cases hs : (mget D.loose s).isSome
  all_goals
    rw [hs] at hlk
    have HS := Lib.hid hs
    clear hs
    rcases hB with ha | ⟨ha, hl0⟩
    all_goals
      rw [ha] at c4
      have HA := Lib.hid ha
      clear ha
      go_enter Try.func33, Try.ntmps33
      go_wp2_with fail
      (with_reducible refine (at_any h s).mono ?_)
      rintro e w' ⟨rfl, rfl⟩
      rw [hE, errV_0]
      go_upto_if 62 with ((with_reducible refine at_store 107 (.tmp 8) (.tmp 59) (b := w.heap.size) (c := (zeroB.map byteV).toArray) (e := 107) (c' := (ob.map byteV).toArray) ?_ ?_ ?_ ?_ ?_ (blk_oneCell ob) ?_); (focus rfl); (focus rfl); (focus exact heap_alloc_at (by simp) _); (focus rw [HOL.out]; rfl); (focus rw [HOL.out]; exact size_blk); intro w3 hF3 hb3)
      have hal : Fr none_ W0 (W0.alloc (.cells (zeroB.map byteV).toArray 107)) := (Fr.refl _ _).alloc _
      have hF03 : Fr none_ W0 w3 := by
        have := HW0.out
        unfold cntW at this
        rw [← this] at hF3
        exact hal.own hF3 (by rw [this]; simp)
      have h3 := H0.out.fr0 hF03
      have hnew : w.heap.size < w3.heap.size := blk_lt hb3
      obtain ⟨d0, d1, d2, d3, d4, d5, d6, d7⟩ := h3.cellsAll
      have hnl3 := nowLk h3 s
      have hnl4 := nowLk (h3.fr0 ((Fr.refl _ _).drew)) s
      clear c0 c1 c2 c3 c4 c5 c6 c7 f3 f5 hlk
      have HF03 := Lib.hid (HF0.out.trans' hF03 (fun _ _ h => h.elim))
      have H3 := Lib.hid h3
      clear hF03 h3 hF3 hb3 hal
      go_cut [] (fun wx => MidW w p m1 m2 D s wx)
      case first =>
        first
          | (go_upto_region 13 with (fail)
             go_still_tail 11, (by kernel_rfl)
             change wpList _ _ _ _ _ w3.drew
             go_wp2_with ((with_reducible refine at_mapset (.tmp 66) (.tmp 67) (.tmp 73) (b := m2) (m := mapV blkV D.loose) (k := s) (v := blkV (D.get s)) Try.underlying74 Try.underlying3 ?_ ?_ ?_ ?_ ?_); (focus rfl); (focus rfl); (focus rfl); (focus exact H3.out.loose.fr0 ((Fr.refl _ _).drew)); intro w4 hF4 hM4)
             go_meet
             exact mid_none h hE HS.out H3.out HF03.out hF4.undrew hM4)
          | (go_wp2_with fail
             go_meet
             exact mid_some HS.out H3.out HF03.out)
      case rest =>
        have hA4 := hA.frp hcut.fr (fun b hb hv => hap b hb (by simpa using hv))
        have HC := Lib.hid hcut
        clear hcut
        go_wp2_with ((with_reducible refine at_copy (.tmp 74) (.tmp 75) 33 33 5 Try.underlying33 size_u8 (g := wc.heap.size) (off := 0) (dLen := 64) (dCap := 64) (sLen := l.length) (sCap := c) (A := A) (cur := zeroB.map byteV) (cs := l.map byteV) (t := 107) ?_ ?_ ?_ ?_ ?_ ?_ ?_ ?_); (focus rfl); (focus rfl); (focus exact heap_alloc_new wc _); (focus simp [Nat.min_def]; omega); (focus exact hA4.alloc _); (focus simp [zeroB]; omega); (focus exact by simpa using blk_oneCell l); intro w5 hF5 hb5)
        have hF45 : Fr none_ wc w5 := ((Fr.refl _ _).alloc _).own hF5 (Nat.le_refl _)
        have h5 := HC.out.dev.fr0 hF45
        obtain ⟨d0, d1, d2, d3, d4, d5, d6, d7⟩ := h5.cellsAll
        rw [pad_eq l hn] at hb5
        have hb6 : w5.drew.heap[wc.heap.size]? = some (.cells ((padB l).map byteV).toArray 107 (0, 0)) := hb5
        have H5 := Lib.hid h5
        have HF5 := Lib.hid hF45
        have HB6 := Lib.hid hb6
        clear h5 hF45 hF5 hb5 hb6
        simp only [Act.put, List.setIfInBounds_toArray, List.set_cons_zero, List.set_cons_succ]
        refine wp_region_still_tail 6 (by kernel_rfl) (by kernel_rfl) ?_
        simp only [List.take_succ_cons, List.take_zero, List.drop_succ_cons, List.drop_zero]
        iterate 5 still_step
        refine still_load 107 (.tmp 10) (b := wc.heap.size) rfl HB6.out Try.underlying107 rfl (by rw [size_blk]; simp [padB]; omega) ?_
        refine wpStill_nil ?_
        change wpList _ _ _ _ _ w5.drew
        go_wp2_with ((with_reducible refine at_mapset (.tmp 80) (.tmp 81) (.tmp 82) (b := m1) (m := mapV blkV D.now) (k := s) (v := blkV (padB l)) Try.underlying74 Try.underlying3 ?_ ?_ ?_ ?_ ?_); (focus rfl); (focus rfl); (focus rfl); (focus exact H5.out.now.fr0 ((Fr.refl _ _).drew)); intro w7 hF7 hM7)
        go_ret
        exact ⟨rfl, put_of_mid hn HC.out HF5.out hF7.undrew hM7⟩
end Go.Proofs.Ytdkjmnhblepkaaa

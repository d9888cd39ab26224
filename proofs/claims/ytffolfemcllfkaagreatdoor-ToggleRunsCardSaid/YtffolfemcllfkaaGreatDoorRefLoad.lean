import Derived.Test.YtffolfemcllfkaaGreatDoorRefTog
import Derived.Test.YtffolfemcllfkaaGreatDoorSaveP
namespace Go.Proofs.YtffolfemcllfkaaGreatDoor
open Go.RowKit
set_option linter.unusedVariables false
set_option linter.unusedSimpArgs false
set_option maxRecDepth 100000

/-! The document's toggle: Load. -/
def RefD.joined (R : RefD) (a : Int) (k : Nat) : List UInt8 := (List.range k).flatMap (fun i => R.readB (a + (i : Nat)))
theorem RefD.joined_succ (R : RefD) (a : Int) (k : Nat) : R.joined a (k + 1) = R.joined a k ++ R.readB (a + (k : Nat)) := by
  unfold RefD.joined; rw [List.range_succ, List.flatMap_append]; simp
def RefD.loadT (R : RefD) (f s : Int) : List UInt8 := if (R.look f s).err ≠ 0 then [] else (R.joined (fromF (R.look f s).sec f s) (cnt (R.look f s).long)).take (R.look f s).long
theorem two_any (w : World) (o1 o2 : Array Value) (T U : TypeId) : ∃ V, V = (w.alloc (.cells o1 T)).alloc (.cells o2 U) ∧ Fr none_ w V ∧ V.heap[w.heap.size]? = some (.cells o1 T (0, 0)) ∧ V.heap[w.heap.size + 1]? = some (.cells o2 U (0, 0)) ∧ w.heap.size + 1 < V.heap.size := by
  have h1 : (w.alloc (.cells o1 T)).heap.size = w.heap.size + 1 := World.size_alloc _ _
  refine ⟨_, rfl, ((Fr.refl _ _).alloc _).alloc _, ((Fr.refl none_ (w.alloc (.cells o1 T))).alloc (.cells o2 U)).heap0 (heap_alloc_new _ _), heap_2nd _ _ _ _, ?_⟩
  rw [World.size_alloc, h1]; omega
theorem bytes_app (x y : List UInt8) : ((⟨x.toArray⟩ : ByteArray) ++ (⟨y.toArray⟩ : ByteArray)) = ⟨(x ++ y).toArray⟩ := by
  apply ByteArray.ext
  simp
def RLoadP (w : World) (R : RefD) (f s : Int) (e : Ending) (w' : World) : Prop := e = .returned (.tuple #[strOf (R.loadT f s), .int .u64 ((R.look f s).n : Int), .int .i64 (R.look f s).err]) ∧ Fr none_ w w'
theorem RefD.look_bad {R : RefD} {f s : Int} (h : (R.look f s).err ≠ 0) : R.look f s = ⟨0, false, 0, (R.look f s).err⟩ := by
  unfold RefD.look at h ⊢
  split
  · rfl
  · split
    · rfl
    · rename_i h1 h2
      rw [if_neg h1, if_neg h2] at h
      unfold tellF at h ⊢
      split
      · rfl
      · split
        · rfl
        · rename_i h3 h4
          rw [if_neg h3, if_neg h4] at h
          exact absurd rfl h
theorem RefD.look_ok {R : RefD} {f s : Int} (hm : R.now.length ≤ 16384) (h : (R.look f s).err = 0) : (R.crashed = false ∧ R.gone = false) ∧ 0 ≤ f ∧ (3 ≤ s ∧ s ≤ 16384) ∧ f + s ≤ R.now.length ∧ (R.look f s).n ≤ 18446744073709551614 ∧ ((R.look f s).long : Int) ≤ (s - 1) / 2 * 64 := by
  unfold RefD.look at h ⊢
  split at h
  · cases h
  · rename_i h1
    split at h
    · rename_i h2; exact absurd h h2
    · rename_i h2
      rw [if_neg h1, if_neg h2]
      have hd : R.crashed = false ∧ R.gone = false := by
        unfold RefD.readE at h2
        cases hx : R.crashed
        · cases hy : R.gone
          · exact ⟨rfl, rfl⟩
          · rw [hx, hy, if_pos (.inr rfl)] at h2; exact absurd (by decide) h2
        · rw [hx, if_pos (.inl rfl)] at h2; exact absurd (by decide) h2
      have hr : roomF s = (s - 1) / 2 * 64 := by unfold roomF; rw [if_neg (by omega)]
      refine ⟨hd, by omega, ⟨by omega, by omega⟩, by omega, ?_, ?_⟩
      · unfold tellF
        split
        · exact Nat.zero_le _
        · split
          · exact Nat.zero_le _
          · exact uintN_le' (R.readB f) 0 18446744073709551614
      · have h0 : 0 ≤ (s - 1) / 2 * 64 := by omega
        unfold tellF
        split
        · exact h0
        · split
          · exact h0
          · have := uintN_le' (tL2 (R.readB f)) (tE2 (R.readB f)) (roomF s).toNat
            show ((uintN (tL2 (R.readB f)) (tE2 (R.readB f)) (roomF s).toNat : Nat) : Int) ≤ _
            omega
set_option maxHeartbeats 8000000 in
theorem rload_any {w : World} {cs : Array Value} {R : RefD} (h : RDV w cs R) (hb64 : ∀ x ∈ R.now, x.length = 64) (f s : Int) : Calls Tryz.prog 21 #[.agg cs, area f s] w fun e w' => RLoadP w R f s e w' := by
  obtain ⟨A1, c1, A2, c2, A3, c3, ecs, hjunk⟩ := h.rep
  have hm := h.most
  subst ecs
  clear hjunk
  obtain ⟨V, hV, hF, hbp, hbq, hsz⟩ := two_any w #[.slice A1 R.now.length c1, .slice A2 R.now.length c2, .slice A3 R.now.length c3, .int .i64 R.writes, .bool R.armed, .int .i64 R.left, .bool R.crashed, .bool R.gone] #[.int .i64 f, .int .i64 s] 33 23
  have hR := h.fr0 hF
  have HLK := Lib.hid (rlook_any hR hb64 f s)
  have a0 : V.cell? ⟨w.heap.size + 1, 0, none⟩ = some (.int .i64 f) := by rw [cell_of_blk hbq]; rfl
  have a1 : V.cell? ⟨w.heap.size + 1, 1, none⟩ = some (.int .i64 s) := by rw [cell_of_blk hbq]; rfl
  have HB := Lib.hid (And.intro hF (And.intro hbp (And.intro hbq hR)))
  have HV := Lib.hid hV
  clear hV hF hbp hbq hR h
  by_cases he : (R.look f s).err = 0
  · obtain ⟨hd, hf, hs, hfs, hn, hl⟩ := RefD.look_ok hm he
    have hT : R.loadT f s = (R.joined (fromF (R.look f s).sec f s) (cnt (R.look f s).long)).take (R.look f s).long := by unfold RefD.loadT; rw [if_neg (by rw [he]; simp)]
    have HT := Lib.hid hT
    have HE := Lib.hid he
    obtain ⟨t, ht⟩ : ∃ t, t = R.look f s := ⟨_, rfl⟩
    rw [← ht] at HLK hn hl HE HT he
    have HTT := Lib.hid ht
    obtain ⟨n, sec, long, err⟩ := t
    replace he : err = 0 := he
    subst he
    clear hT ht
    replace hl : (long : Int) ≤ (s - 1) / 2 * 64 := hl
    have hc := cnt_room hl
    have HD := Lib.hid hd
    clear hd hn
    have hj0 : R.joined (fromF sec f s) 0 = [] := rfl
    have hj0s : strOf (R.joined (fromF sec f s) 0) = .string ⟨#[]⟩ := by rw [hj0]; rfl
    go_enter Tryz.func21, Tryz.ntmps21
    go_upto_region 1 with fail
    rw [← HV.out]
    go_wp2_with (first | ((with_reducible refine at_load 33 (.tmp 2) (b := w.heap.size) ?_ HB.out.2.1 Tryz.underlying33 rfl (by kernel_rfl) ?_); (focus rfl)))
    (with_reducible refine HLK.out.mono ?_)
    rintro e w1 ⟨rfl, hF1⟩
    unfold tellRV
    obtain ⟨hF, hbp, hbq, hR⟩ := HB.out
    have hR1 := hR.fr0 hF1
    have hbp1 := hF1.heap0 hbp
    have hbq1 := hF1.heap0 hbq
    have hFw := hF.trans hF1
    obtain ⟨a, ha⟩ : ∃ a, a = fromF sec f s := ⟨_, rfl⟩
    have hin : f + 1 ≤ a ∧ a + (s - 1) / 2 ≤ f + s := by rw [ha]; unfold fromF; split <;> omega
    have HBB := Lib.hid (And.intro hbp1 (And.intro hbq1 (And.intro hR1 hFw)))
    have HA := Lib.hid ha
    clear hF hbp hbq hR hbp1 hbq1 hR1 hFw a0 a1 ha hj0 hj0s
    have hj64 : ∀ k : Nat, k ≤ cnt long → (R.joined a k).length = k * 64 := fun k => by
      induction k with
      | zero => intro _; rfl
      | succ k ih =>
        intro hk
        rw [RefD.joined_succ, List.length_append, ih (by omega)]
        have hlt : (a + (k : Nat)).toNat < R.now.length := by omega
        have hE0 : R.readE (a + (k : Nat)) = 0 := by unfold RefD.readE; rw [HD.out.1, HD.out.2, if_neg (by simp), if_neg (by omega)]
        have : (R.readB (a + (k : Nat))).length = 64 := by
          unfold RefD.readB
          rw [if_pos hE0, List.getElem?_eq_getElem hlt]
          exact hb64 _ (List.getElem_mem hlt)
        omega
    have HJ := Lib.hid hj64
    clear hj64
    go_wp2_with fail
    go_loopw [11, 12] (fun v i wr => ∃ k : Nat, k ≤ cnt long ∧ i = .int .i64 k ∧ v = strOf (R.joined a k) ∧ Fr none_ w1 wr) (fun _ i _ => cnt long - (intOf i).toNat)
    case atStart => exact ⟨0, by omega, rfl, rfl, Fr.refl _ _⟩
    case round =>
      obtain ⟨k, hk, rfl, rfl, hFr⟩ := hrel
      have hjl := HJ.out k hk
      unfold strOf
      obtain ⟨B, hB⟩ : ∃ B, B = (⟨(R.joined a k).toArray⟩ : ByteArray) := ⟨_, rfl⟩
      rw [← hB]
      have hBs : B.size = k * 64 := by rw [hB]; show (R.joined a k).toArray.size = _; simp [hjl]
      by_cases hlt : k * 64 < long
      · have hkl : k < cnt long := by unfold cnt; omega
        have q1 : (B.size : Int) < (long : Int) := by omega
        have hwr1 : IntKind.i64.wrap (a + (k : Int)) = a + (k : Int) := IntWalk.i64_in _ (by omega)
        have hE0 : R.readE (a + (k : Nat)) = 0 := by unfold RefD.readE; rw [HD.out.1, HD.out.2, if_neg (by simp), if_neg (by omega)]
        have hst : ∀ wx, Fr none_ w1 wx → ((wx.cell? ⟨w.heap.size, 0, none⟩ = some (.slice A1 R.now.length c1) ∧ wx.cell? ⟨w.heap.size, 1, none⟩ = some (.slice A2 R.now.length c2) ∧ wx.cell? ⟨w.heap.size, 2, none⟩ = some (.slice A3 R.now.length c3) ∧ wx.cell? ⟨w.heap.size, 3, none⟩ = some (.int .i64 R.writes) ∧ wx.cell? ⟨w.heap.size, 4, none⟩ = some (.bool R.armed) ∧ wx.cell? ⟨w.heap.size, 5, none⟩ = some (.int .i64 R.left) ∧ wx.cell? ⟨w.heap.size, 6, none⟩ = some (.bool R.crashed) ∧ wx.cell? ⟨w.heap.size, 7, none⟩ = some (.bool R.gone)) ∧ (wx.cell? ⟨w.heap.size + 1, 0, none⟩ = some (.int .i64 f) ∧ wx.cell? ⟨w.heap.size + 1, 1, none⟩ = some (.int .i64 s))) := fun wx hx => by
          have h1 := hx.heap0 HBB.out.1
          have h2 := hx.heap0 HBB.out.2.1
          exact ⟨⟨cell_of_blk h1 0, cell_of_blk h1 1, cell_of_blk h1 2, cell_of_blk h1 3, cell_of_blk h1 4, cell_of_blk h1 5, cell_of_blk h1 6, cell_of_blk h1 7⟩, cell_of_blk h2 0, cell_of_blk h2 1⟩
        have hpl : ∀ wx, Calls Tryz.prog 64 #[area f s, .bool sec] wx fun e w' => e = .returned (.int .i64 a) ∧ Fr none_ wx w' := fun wx => by
          have := rplace_any f s sec wx hs ⟨by omega, by omega⟩
          rw [← HA.out] at this
          exact this
        obtain ⟨S, hS⟩ : ∃ S, S = (⟨(R.readB (a + (k : Nat))).toArray⟩ : ByteArray) := ⟨_, rfl⟩
        have hrd : ∀ wx, Fr none_ w1 wx → Calls Tryz.prog 24 #[.agg #[.slice A1 R.now.length c1, .slice A2 R.now.length c2, .slice A3 R.now.length c3, .int .i64 R.writes, .bool R.armed, .int .i64 R.left, .bool R.crashed, .bool R.gone], .int .i64 (IntKind.i64.wrap (a + (k : Int)))] wx fun e w' => e = .returned (.tuple #[.string S, .int .i64 0]) ∧ Fr none_ wx w' := fun wx hx => by
          have := ref_read (HBB.out.2.2.1.fr0 hx) (a + (k : Int))
          rw [hE0] at this
          rw [hwr1, hS]
          exact this
        have hSs : S.size = 64 := by
          rw [hS]
          show (R.readB (a + (k : Nat))).toArray.size = 64
          have hlt2 : (a + (k : Nat)).toNat < R.now.length := by omega
          rw [List.size_toArray]
          unfold RefD.readB
          rw [if_pos hE0, List.getElem?_eq_getElem hlt2]
          exact hb64 _ (List.getElem_mem hlt2)
        have hov : ¬ 9223372036854775807 < k * 64 + 64 := by omega
        have hs0 := hst wr.drew hFr.drew
        have HST := Lib.hid hst
        have HPL := Lib.hid hpl
        have HRD := Lib.hid hrd
        have HSS := Lib.hid hS
        have HBe := Lib.hid hB
        have hFd : Fr none_ w1 wr.drew := hFr.drew
        clear hst hpl hrd hS hB hwr1 hE0
        go_wp2_with fail
        go_region_held3 (fun w' => ((w'.cell? ⟨w.heap.size, 0, none⟩ = some (.slice A1 R.now.length c1) ∧ w'.cell? ⟨w.heap.size, 1, none⟩ = some (.slice A2 R.now.length c2) ∧ w'.cell? ⟨w.heap.size, 2, none⟩ = some (.slice A3 R.now.length c3) ∧ w'.cell? ⟨w.heap.size, 3, none⟩ = some (.int .i64 R.writes) ∧ w'.cell? ⟨w.heap.size, 4, none⟩ = some (.bool R.armed) ∧ w'.cell? ⟨w.heap.size, 5, none⟩ = some (.int .i64 R.left) ∧ w'.cell? ⟨w.heap.size, 6, none⟩ = some (.bool R.crashed) ∧ w'.cell? ⟨w.heap.size, 7, none⟩ = some (.bool R.gone)) ∧ (w'.cell? ⟨w.heap.size + 1, 0, none⟩ = some (.int .i64 f) ∧ w'.cell? ⟨w.heap.size + 1, 1, none⟩ = some (.int .i64 s)))) (first | exact hs0 | exact HST.out _ hX1 | exact HST.out _ hX2) (first
          | (go_at_call 64; (with_reducible refine (HPL.out _).mono ?_); rintro e x1 ⟨rfl, hY1⟩; have hX1 := hFd.trans hY1)
          | (go_at_call 24; (with_reducible refine (HRD.out _ hX1).mono ?_); rintro e x2 ⟨rfl, hY2⟩; have hX2 := hX1.trans hY2))
        go_wp2_with fail
        go_roundw
        case rel =>
          refine ⟨k + 1, by omega, by go_num, ?_, hX2⟩
          rw [RefD.joined_succ, ← bytes_app, ← HBe.out, ← HSS.out]
        case measure => simp [intOf]; omega
      · have hkl : k = cnt long := by unfold cnt at hk ⊢; omega
        have q1 : ¬ (B.size : Int) < (long : Int) := by omega
        have q2 : long ≤ B.size := by omega
        have q3 : (long : Int) ≤ (B.size : Int) := by omega
        have HBe := Lib.hid hB
        clear hB
        go_wp2_with fail
        go_ret3
        have hfin : strOf (R.loadT f s) = .string (B.extract 0 long) := by
          have h1 : R.loadT f s = (R.joined (fromF sec f s) (cnt long)).take long := HT.out
          rw [h1, HBe.out, hkl, HA.out]
          unfold strOf
          congr 1
          apply ByteArray.ext
          simp
        unfold RLoadP
        rw [hfin, ← HTT.out]
        exact ⟨rfl, HBB.out.2.2.2.trans hFr⟩
  · have hb := RefD.look_bad he
    have hT : R.loadT f s = [] := by unfold RefD.loadT; rw [if_pos he]
    obtain ⟨E, hE⟩ : ∃ E, E = (R.look f s).err := ⟨_, rfl⟩
    rw [← hE] at hb he
    have k1 : (E == 0) = false := by simpa using he
    have k2 : (E != 0) = true := by simpa using he
    have HT := Lib.hid (And.intro hT hb)
    rw [hb] at HLK
    clear hT hb hE
    go_enter Tryz.func21, Tryz.ntmps21
    go_upto_region 1 with fail
    rw [← HV.out]
    go_wp2_with (first | ((with_reducible refine at_load 33 (.tmp 2) (b := w.heap.size) ?_ HB.out.2.1 Tryz.underlying33 rfl (by kernel_rfl) ?_); (focus rfl)))
    (with_reducible refine HLK.out.mono ?_)
    rintro e w1 ⟨rfl, hF1⟩
    unfold tellRV
    go_wp2_with fail
    go_ret3
    unfold RLoadP
    rw [HT.out.1, HT.out.2]
    exact ⟨rfl, HB.out.1.trans hF1⟩
end Go.Proofs.YtffolfemcllfkaaGreatDoor

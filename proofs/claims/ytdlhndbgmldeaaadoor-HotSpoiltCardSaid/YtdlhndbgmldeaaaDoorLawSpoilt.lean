import Derived.Test.YtdlhndbgmldeaaaDoorHotSure
import Derived.Test.YtdlhndbgmldeaaaDoorHornerP
import Derived.Test.YtdlhndbgmldeaaaDoorLawNum17
import Derived.Laws.BitsAllLaws
namespace Go.Proofs.YtdlhndbgmldeaaaDoor
open Go.RowKit
set_option linter.unusedVariables false
set_option linter.unusedSimpArgs false
set_option maxRecDepth 100000

/-! HotSpoilt -/
def sp1 : HotS := ⟨0, 2, [⟨1, 0, 0⟩, ⟨0, 0, 0⟩]⟩
def sp2 (n : Nat) : HotS := sp1.after 0 n
theorem sp_prep (n : Nat) : (newH 0 2 2).prep n = some (sp1, 0) := rfl
def spD (l : List UInt8) : DevS := hwrite (newD 4) sp1 0 0 l
theorem mod_k (a : Int) (n : Nat) (hn : 0 < n) (hn2 : n ≤ 1000000) : ∃ k : Nat, k < n ∧ wrap64 ((IntKind.u64.wrap a).tmod (n : Int)) = (k : Int) := by
  have h : 0 ≤ IntKind.u64.wrap a := by rw [IntKind.wrap_u64]; omega
  have h1 := Int.emod_nonneg (IntKind.u64.wrap a) (show (n : Int) ≠ 0 by omega)
  have h2 := Int.emod_lt_of_pos (IntKind.u64.wrap a) (show (0 : Int) < (n : Int) by omega)
  refine ⟨((IntKind.u64.wrap a) % (n : Int)).toNat, by omega, ?_⟩
  rw [Int.tmod_eq_emod_of_nonneg h, IntWalk.wrap64_in _ (by omega)]
  omega
theorem padB_64 {l : List UInt8} (h : l.length = 64) : padB l = l := by unfold padB; rw [h]; simp
theorem sp_sec (n a : Nat) : sectorF (sp2 n) 0 a = (a : Int) := by
  show (0 : Int) + ((0 * 2 : Nat) : Int) + (a : Int) = _
  omega
/-- what is got behind the spoiling -/
theorem spoilt_bytes (l : List UInt8) (n q r : Nat) (hn : n = l.length) (h128 : n ≤ 128) (hr : r < 64) (hk : q * 64 + r < n) (y : UInt8) :
    bytesAt ((spD l).put (q : Int) (((spD l).get (q : Int)).set r y)) (sp2 n) 0 0 n = l.set (q * 64 + r) y := by
  subst hn
  have hl0 := newD_len 4
  have hc0 : Calm (newD 4) := ⟨rfl, rfl⟩
  have hfit : 0 + l.length ≤ sp1.sectors * 64 := by show 0 + l.length ≤ 128; omega
  have hl1 : ∀ i, ((spD l).get i).length = 64 := hw_len hl0 hc0 (by decide) (by decide) hfit
  have hgot : bytesAt (spD l) (sp2 l.length) 0 0 l.length = l := bytesAt_new hl0 hc0 (by decide) (by decide) hfit
  have hl2 : ∀ i, (((spD l).put (q : Int) (((spD l).get (q : Int)).set r y)).get i).length = 64 := fun i => by
    rw [get_put]
    split
    · rw [padB_64 (by rw [List.length_set, hl1]), List.length_set, hl1]
    · exact hl1 i
  apply List.ext_getElem?
  intro j
  by_cases hj : j < l.length
  · rw [bytesAt_get hl2 _ _ _ _ _ hj, get_put, sp_sec, Nat.zero_add, padB_64 (by rw [List.length_set, hl1])]
    have h1 := bytesAt_get hl1 (sp2 l.length) 0 0 l.length j hj
    rw [hgot, sp_sec, Nat.zero_add] at h1
    by_cases hq : j / 64 = q
    · subst hq
      rw [if_pos rfl]
      by_cases hjr : j % 64 = r
      · subst hjr
        rw [show j / 64 * 64 + j % 64 = j by omega, List.getElem?_set_self hj, List.getElem?_set_self (by rw [hl1]; omega)]
      · rw [List.getElem?_set_ne (Ne.symm hjr), List.getElem?_set_ne (by omega), h1]
    · rw [if_neg (by omega), List.getElem?_set_ne (by omega), h1]
  · rw [List.getElem?_eq_none (by rw [bytesAt_len hl2]; omega), List.getElem?_eq_none (by rw [List.length_set]; omega)]
theorem spoilt_sum (l : List UInt8) (k : Nat) (hk : k < l.length) (y : UInt8) (hy : y ≠ l[k]) : sumF (l.set k y) ≠ sumF l := by
  have h1 : l = l.take k ++ l[k] :: l.drop (k + 1) := by rw [List.getElem_cons_drop, List.take_append_drop]
  have h2 : l.set k y = l.take k ++ y :: l.drop (k + 1) := List.set_eq_take_append_cons_drop.trans (by rw [if_pos hk])
  rw [h2]
  conv => rhs; rw [h1]
  exact sum_ne _ _ hy
theorem xor_ne (x b : UInt8) (hb : ¬ b.toNat = 0) : x ^^^ b ≠ x := by
  intro h
  have h1 : (x ^^^ b).toNat = x.toNat := by rw [h]
  rw [UInt8.toNat_xor] at h1
  have h2 : x.toNat ^^^ (x.toNat ^^^ b.toNat) = x.toNat ^^^ x.toNat := by rw [h1]
  rw [← Nat.xor_assoc, Nat.xor_self, Nat.zero_xor] at h2
  exact hb h2
theorem spoilt_byte (l : List UInt8) (n q r : Nat) (hn : n = l.length) (h128 : n ≤ 128) (hr : r < 64) (hk : q * 64 + r < n) : ((spD l).get (q : Int))[r]? = l[q * 64 + r]? := by
  subst hn
  have hl0 := newD_len 4
  have hc0 : Calm (newD 4) := ⟨rfl, rfl⟩
  have hfit : 0 + l.length ≤ sp1.sectors * 64 := by show 0 + l.length ≤ 128; omega
  have hl1 : ∀ i, ((spD l).get i).length = 64 := hw_len hl0 hc0 (by decide) (by decide) hfit
  have hgot : bytesAt (spD l) (sp2 l.length) 0 0 l.length = l := bytesAt_new hl0 hc0 (by decide) (by decide) hfit
  have h1 := bytesAt_get hl1 (sp2 l.length) 0 0 l.length _ hk
  rw [hgot, sp_sec, Nat.zero_add, show (q * 64 + r) / 64 = q by omega, show (q * 64 + r) % 64 = r by omega] at h1
  exact h1.symm
set_option maxHeartbeats 8000000 in
theorem spoilt_walk (A : Option Addr) (n c : Nat) (l : List UInt8) (at_ : Int) (by_ : UInt8) (w : World) (hg : ErrT w) (hnl : n = l.length) (hA : CellsAt w A (l.map byteV)) (hat : -9223372036854775808 ≤ at_ ∧ at_ ≤ 9223372036854775807) :
    Calls Tryd.prog 4 #[.slice A n c, .int .i64 at_, byteV by_] w fun e w' => e = .returned (.bool true) ∧ Fr none_ w w' := by
  have hnum : ∀ w', Fr none_ w w' → Calls Tryd.prog 10 #[errV 11] w' fun e w'' => e = .returned (.int .i64 11) ∧ Fr none_ w' w'' := fun w' hF => num17_any 11 w' (hg.fr0 hF)
  rw [errV_n (by decide)] at hnum
  have HN := Lib.hid hnum
  have hbv : byteV by_ = .int .u8 (by_.toNat : Int) := rfl
  have hb8 := by_.toNat_lt
  rw [hbv]
  clear hnum hg hbv
  by_cases hbad : n = 0 ∨ 128 < n ∨ by_.toNat = 0
  · have hbad2 : ((n : Int) == 0) = true ∨ (((n : Int) == 0) = false ∧ (128 : Int) < (n : Int)) ∨ (((n : Int) == 0) = false ∧ ¬ (128 : Int) < (n : Int) ∧ ((by_.toNat : Int) == 0) = true) := by
      simp only [beq_iff_eq, beq_eq_false_iff_ne]
      omega
    have HNL := Lib.hid hnl
    clear hbad hnl
    rcases hbad2 with q1 | ⟨q1, q2⟩ | ⟨q1, q2, q3⟩
    all_goals
      go_enter Tryd.func4, Tryd.ntmps4
      go_wp2_with fail
      (with_reducible refine (new_ok 4 _ (by decide) (by decide)).mono ?_)
      rintro e w1 ⟨p, m1, m2, rfl, hF1, hD1, hfr⟩
      rw [errV_0]
      have hnew : Calls Tryd.prog 7 #[ptr p, .agg #[.int .i64 0, .int .i64 2, .int .i64 2]] w1 fun e w' => HotNew w1 p (newH 0 2 2) e w' := hnew_any hD1 0 2 2 (by decide) (by decide) (by decide) (by decide) made2
      have HNEW := Lib.hid hnew
      clear hnew
      go_wp2_with fail
      (with_reducible refine HNEW.out.mono ?_)
      rintro e w2 ⟨⟨h, bx, rfl, hh, g1, g2⟩, hF2⟩
      rw [errV_0]
      go_wp2_with fail
      (with_reducible refine (hsure_any _).mono ?_)
      rintro e w3 ⟨rfl, hF3⟩
      go_wp2_with fail
      go_ret
      exact ⟨rfl, (hF1.trans hF2).trans hF3⟩
  · have n1 : ¬ n = 0 := fun h => hbad (.inl h)
    have n2 : ¬ 128 < n := fun h => hbad (.inr (.inl h))
    have n3 : ¬ by_.toNat = 0 := fun h => hbad (.inr (.inr h))
    clear hbad
    have HNL := Lib.hid hnl
    clear hnl
    have n4 : ¬ (n : Int) = 0 := by omega
    have n5 : ¬ (128 : Int) < (n : Int) := by omega
    have n6 : ¬ (by_.toNat : Int) = 0 := by omega
    have n7 : ((n : Int) == 0) = false := by simpa using n1
    have n8 : ((by_.toNat : Int) == 0) = false := by rw [beq_eq_false_iff_ne]; omega
    go_enter Tryd.func4, Tryd.ntmps4
    go_wp2_with fail
    (with_reducible refine (new_ok 4 _ (by decide) (by decide)).mono ?_)
    rintro e w1 ⟨p, m1, m2, rfl, hF1, hD1, hfr⟩
    rw [errV_0]
    have hnew : Calls Tryd.prog 7 #[ptr p, .agg #[.int .i64 0, .int .i64 2, .int .i64 2]] w1 fun e w' => HotNew w1 p (newH 0 2 2) e w' := hnew_any hD1 0 2 2 (by decide) (by decide) (by decide) (by decide) made2
    have HNEW := Lib.hid hnew
    clear hnew
    go_wp2_with fail
    (with_reducible refine HNEW.out.mono ?_)
    rintro e w2 ⟨⟨h, bx, rfl, hh, g1, g2⟩, hF2⟩
    rw [errV_0]
    have S0 := hs_new hD1 hF1 hfr (by decide) hh g1 g2 hF2
    have hp1 := S0.put A n c l HNL.out (by omega) (by show n ≤ 128; omega) (hA.fr0 S0.fr) (S0.apart_old (fun b hb => hA.lt hb (by rw [List.length_map]; have := HNL.out; omega))) sp1 0 (sp_prep n)
    have hp1 : Calls Tryd.prog 9 #[ptr h, .slice A n c] w2 fun e w' => PutS w w2 h bx p m1 m2 (sp2 n) (spD l) (.agg #[.int .i64 0, .int .i64 0, .int .i64 (n : Int), .int .u32 (sumF l : Nat)]) 0 e w' := hp1
    have HP1 := Lib.hid hp1
    clear hp1 hh g1 g2 hD1 hF2 hfr
    go_wp2_with fail
    (with_reducible refine HP1.out.mono ?_)
    rintro e w3 ⟨rfl, S3, hF3⟩
    rw [errV_0]
    obtain ⟨k, hkn, hk⟩ := mod_k at_ n (by omega) (by omega)
    have HK := Lib.hid hk
    clear hk
    go_upto_region 7 with fail
    rw [HK.out]
    have hdiv : ((k : Int).tdiv 64) = ((k / 64 : Nat) : Int) := by rw [Int.tdiv_eq_ediv_of_nonneg (by omega)]; omega
    have hmod : ((k : Int).tmod 64) = ((k % 64 : Nat) : Int) := by rw [Int.tmod_eq_emod_of_nonneg (by omega)]; omega
    obtain ⟨q, hq⟩ : ∃ q, q = k / 64 := ⟨_, rfl⟩
    obtain ⟨r, hr⟩ : ∃ r, r = k % 64 := ⟨_, rfl⟩
    rw [← hq] at hdiv
    rw [← hr] at hmod
    have hkq : k = q * 64 + r := by omega
    have hr64 : r < 64 := by omega
    have hq2 : q < 2 := by omega
    have HQ := Lib.hid (And.intro hq (And.intro hr hkq))
    clear hq hr hkq
    have hsec : (spD l).sectors = 4 := hw_sectors
    have hE := atE_up S3.hd.up (s := (q : Int)) (by omega) (by omega)
    have hrd := read_ok (S3.step0 ((Fr.refl none_ w3).alloc (.cells #[.int .i64 0, .int .i64 0, .int .i64 (n : Int), .int .u32 (sumF l : Nat)] 37))).hd.dev (q : Int) hE
    have HRD := Lib.hid hrd
    clear hrd hsec hE
    go_wp2_with fail
    (with_reducible refine HRD.out.mono ?_)
    rintro e w4 ⟨g, rfl, hg4, hF4, hb4⟩
    rw [errV_0]
    have hl4 := hF4.heap0 (heap_alloc_new w3 (.cells #[.int .i64 0, .int .i64 0, .int .i64 (n : Int), .int .u32 (sumF l : Nat)] 37))
    have hgl : ((spD l).get (q : Int)).length = 64 := S3.hd.dev.get_len _
    have hkn2 : q * 64 + r < n := by have := HQ.out.2.2; omega
    have hxl := spoilt_byte l n q r HNL.out (by omega) hr64 hkn2
    have hkl : q * 64 + r < l.length := by have := HNL.out; omega
    obtain ⟨x, hx⟩ : ∃ x, x = l[q * 64 + r] := ⟨_, rfl⟩
    rw [List.getElem?_eq_getElem hkl, ← hx] at hxl
    obtain ⟨y, hy⟩ : ∃ y, y = x ^^^ by_ := ⟨_, rfl⟩
    have hyx : y ≠ x := by rw [hy]; exact xor_ne x by_ n3
    have hbits : bits .xor .u8 (x.toNat : Int) (by_.toNat : Int) = (y.toNat : Int) := by rw [u8_xor_nat _ _ x.toNat_lt hb8, hy, UInt8.toNat_xor]
    have hc4 : w4.cell? ⟨g, r, none⟩ = some (.int .u8 (x.toNat : Int)) := by rw [cell_of_blk hb4]; simp [hxl, byteV]
    have hf4 := frozen_of_blk hb4 r
    have i1 : (0 : Int) ≤ (r : Int) := by omega
    have i2 : (r : Int) < 64 := by omega
    have hnel := spoilt_sum l (q * 64 + r) hkl y (by rw [← hx]; exact hyx)
    have hset := spoilt_bytes l n q r HNL.out (by omega) hr64 hkn2 y
    have HNEL := Lib.hid (And.intro hnel hset)
    have hb5 := heap_setCell_same hb4 (o := r) (.int .u8 (y.toNat : Int))
    rw [show ((((spD l).get (q : Int)).map byteV).toArray.setIfInBounds r (.int .u8 (y.toNat : Int))) = ((((spD l).get (q : Int)).set r y).map byteV).toArray by simp [List.map_set, byteV]] at hb5
    obtain ⟨B, hB⟩ : ∃ B, B = ((spD l).get (q : Int)).set r y := ⟨_, rfl⟩
    have hBl : B.length = 64 := by rw [hB, List.length_set, hgl]
    rw [← hB] at hb5
    have HB := Lib.hid hB
    have hcalm := S3.calm
    have hS4 := (S3.step0 ((Fr.refl none_ w3).alloc (.cells #[.int .i64 0, .int .i64 0, .int .i64 (n : Int), .int .u32 (sumF l : Nat)] 37))).step0 hF4
    have hgw : w3.heap.size < g := by rw [World.size_alloc] at hg4; omega
    have hgd : ¬ devBlks p m1 m2 g := S3.hd.dev.new (by omega)
    have hFs := Fr.set w4 g r (.int .u8 (y.toNat : Int))
    have hgx : bx ≠ g := by have := blk_lt S3.hd.hot.bxs; omega
    have hgh : h ≠ g := by have := blk_lt S3.hd.hot.blk; omega
    have hd5 : Hd (w4.setCell ⟨g, r, none⟩ (.int .u8 (y.toNat : Int))) h bx p m1 m2 (sp2 n) (spD l) := ⟨hS4.hd.hot.fr hFs hgh hgx, hS4.hd.dev.fr hFs (fun i hi e => hgd (e ▸ hi)), hS4.hd.hd, hS4.hd.bd, hS4.hd.up, hS4.hd.fit⟩
    have hl5 := hFs.heap hl4 (by omega)
    have hsec : (spD l).sectors = 4 := hw_sectors
    have hput := hcalm.write (s := (q : Int)) (by omega) (by omega) (l := B) (by omega)
    have hwe := writeE_eq (spD l) (q : Int) (by omega) (by omega) B (by omega)
    rw [hput, (hcalm.put _ _).up, if_neg (by decide)] at hwe
    have hwr := write_any hd5.dev (q : Int) (some ⟨g, 0, none⟩) 64 64 B hBl.symm (CellsAt.whole hb5) (fun b hb _ hd => by have := blkOf_some hb; subst this; exact hgd hd)
    rw [hput, hwe, errV_0] at hwr
    have hFw : Fr none_ w (w4.setCell ⟨g, r, none⟩ (.int .u8 (y.toNat : Int))) := (S3.fr.trans (((Fr.refl none_ w3).alloc _).trans hF4)).own hFs (by have := S3.fr.size; omega)
    have hnw := S3.nd
    have hdl : ¬ devBlks p m1 m2 w3.heap.size := S3.hd.dev.new (Nat.le_refl _)
    have HWR := Lib.hid hwr
    have HHD := Lib.hid hd5
    have HL5 := Lib.hid hl5
    have HCP := Lib.hid (hcalm.put (q : Int) B)
    clear hwr hwe hput hd5 hl5 hb5 hBl hB hx hxl hy hyx hnel hset hcalm hS4 hFs hsec hgl S3 hF3 S0 hl4 hF4
    go_wp2_with fail
    (with_reducible refine HWR.out.mono ?_)
    rintro e w5 ⟨rfl, hF5, hD5⟩
    have hd6 := HHD.out.setDev hF5 hD5 HCP.out.up rfl
    have hl6 := hF5.heap HL5.out hdl
    obtain ⟨l0, l1, l2, l3⟩ := res_cell4 hl6
    have hgt := hget_bad hd6 0 0 n (sumF l) (by exact Nat.zero_lt_succ 1) (by show (1 : Int) ≠ 0; exact Int.one_ne_zero) (by omega) (by show 0 + n ≤ 0 + n; omega) (by show 0 + n ≤ 128; omega) (by rw [HB.out, HNEL.out.2]; exact HNEL.out.1)
    have hgt : Calls Tryd.prog 15 #[ptr h, .agg #[.int .i64 0, .int .i64 0, .int .i64 (n : Int), .int .u32 (sumF l : Nat)]] w5 fun e w' => GetBad w5 e w' := hgt
    have hFw5 : Fr none_ w w5 := hFw.trans' hF5 (fun k hk hs => by have := hnw k hs; omega)
    have HGT := Lib.hid hgt
    clear hgt hd6 hl6 hF5 hD5
    go_wp2_with fail
    (with_reducible refine HGT.out.mono ?_)
    rintro e w6 ⟨rfl, hF6⟩
    rw [errV_n (by decide)]
    go_wp2_with fail
    (with_reducible refine (HN.out _ (hFw5.trans hF6)).mono ?_)
    rintro e w7 ⟨rfl, hF7⟩
    go_wp2_with fail
    (with_reducible refine (hsure_any _).mono ?_)
    rintro e w8 ⟨rfl, hF8⟩
    go_wp2_with fail
    go_ret
    exact ⟨rfl, ((hFw5.trans hF6).trans hF7).trans hF8⟩
end Go.Proofs.YtdlhndbgmldeaaaDoor

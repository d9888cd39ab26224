import Derived.Test.YthkcmafflbpfoaaLog7
namespace Go.Proofs.Ythkcmafflbpfoaa
open Go.RowKit
set_option linter.unusedVariables false
set_option linter.unusedSimpArgs false
set_option maxRecDepth 100000

/-! log: clean. -/
def clN (D : DevS) (l : LogS) (u : Nat) (rest : List UInt8) : Nat → DevS
  | 0 => D
  | k + 1 => if dirtyB (chunk rest k) = true then (clN D l u rest k).write (l.sec (u + k) : Nat) [] else clN D l u rest k
def anyD (rest : List UInt8) : Nat → Bool
  | 0 => false
  | k + 1 => dirtyB (chunk rest k) || anyD rest k
theorem clN_sectors (D : DevS) (l : LogS) (u : Nat) (rest : List UInt8) (k : Nat) : (clN D l u rest k).sectors = D.sectors := by
  induction k with
  | zero => rfl
  | succ k ih =>
    unfold clN
    split
    · rw [write_sectors, ih]
    · exact ih
theorem clN_down (D : DevS) (l : LogS) (u : Nat) (rest : List UInt8) (k : Nat) (hd : (clN D l u rest k).down = true) (j : Nat) : clN D l u rest (k + j) = clN D l u rest k := by
  induction j with
  | zero => rfl
  | succ j ih =>
    rw [show k + (j + 1) = (k + j) + 1 by omega]
    show (if _ then (clN D l u rest (k + j)).write _ [] else clN D l u rest (k + j)) = _
    rw [ih]
    split
    · exact write_down hd _ _
    · rfl
theorem anyD_mono (rest : List UInt8) (k j : Nat) (h : anyD rest k = true) : anyD rest (k + j) = true := by
  induction j with
  | zero => exact h
  | succ j ih =>
    rw [show k + (j + 1) = (k + j) + 1 by omega]
    unfold anyD
    rw [ih]; simp
/-- the device behind clean -/
def cleanF (D : DevS) (l : LogS) (u : Nat) (rest : List UInt8) (K : Nat) : DevS := if anyD rest K = true then (clN D l u rest K).flush else clN D l u rest K
structure ClR (w wr : World) (p m1 m2 : Nat) (D : DevS) (l : LogS) (u : Nat) (rest : List UInt8) (k : Nat) : Prop where
  dev : DevAt wr p m1 m2 (clN D l u rest k)
  fr : Fr (devBlks p m1 m2) w wr
  up : (clN D l u rest k).down = false
structure Cleaned (w : World) (p m1 m2 : Nat) (D : DevS) (l : LogS) (u : Nat) (rest : List UInt8) (K : Nat) (e : Ending) (w' : World) : Prop where
  ret : e = .returned (errV (if (clN D l u rest K).down then 13 else 0))
  dev : DevAt w' p m1 m2 (cleanF D l u rest K)
  fr : Fr (devBlks p m1 m2) w w'
theorem cl_ar {n c k K u : Nat} (hn : n = 64 * K) (hk : k < K) (hK : K ≤ 16384) (hc : n ≤ c) (hu : u ≤ 16384) :
    wrap64 ((k : Int) * 64) = ((k * 64 : Nat) : Int) ∧ wrap64 ((k : Int) + 1) = ((k + 1 : Nat) : Int) ∧ wrap64 (((k + 1 : Nat) : Int) * 64) = (((k + 1) * 64 : Nat) : Int) ∧ wrap64 ((u : Int) + (k : Int)) = ((u + k : Nat) : Int) := by
  refine ⟨?_, ?_, ?_, ?_⟩ <;> (rw [IntWalk.wrap64_in _ (by omega)]; omega)
set_option maxHeartbeats 4000000 in
theorem clean_any {w : World} {b p m1 m2 : Nat} {l : LogS} {D : DevS} (h : LogAt w b p l) (hD : DevAt w p m1 m2 D) (hup : D.down = false) (hfit : ((l.first + l.secs : Nat) : Int) ≤ D.sectors) (u : Nat) (hu : u = sumN l.sizes) (hu2 : u ≤ 16384) (A : Option Addr) (n c : Nat) (rest : List UInt8) (K : Nat) (hn : n = 64 * K) (hK : K ≤ 16384) (hrl : rest.length = n) (hA : CellsAt w A (rest.map byteV)) (hc : n ≤ c)
    (hap : ∀ b, blkOf A b → 0 < rest.length → ¬ devBlks p m1 m2 b) :
    Calls Try.prog 17 #[ptr b, .slice A n c] w fun e w' => Cleaned w p m1 m2 D l u rest K e w' := by
  have hm := h.most
  have hus := used_any h
  rw [← hu] at hus
  have HUS := Lib.hid hus
  have HNK := Lib.hid hn
  have HRL := Lib.hid hrl
  clear hus hu hn hrl
  go_enter Try.func17, Try.ntmps17
  go_wp2_with fail
  (with_reducible refine HUS.out.mono ?_)
  rintro e w1 ⟨rfl, rfl⟩
  go_wp2_with fail
  go_loopw [6, 7] (fun dv i wr => ∃ k : Nat, k ≤ K ∧ i = .int .i64 (k : Int) ∧ dv = .bool (anyD rest k) ∧ ClR w wr p m1 m2 D l u rest k) (fun _ i _ => K - (intOf i).toNat)
  case atStart => exact ⟨0, by omega, rfl, rfl, ⟨hD, Fr.refl _ _, hup⟩⟩
  case round =>
    obtain ⟨k, hk, rfl, rfl, hR⟩ := hrel
    by_cases hlt : k < K
    · have hkb : k ≤ 16384 := by omega
      obtain ⟨k1, hk1⟩ : ∃ x, x = k + 1 := ⟨_, rfl⟩
      obtain ⟨q, hq⟩ : ∃ q, q = u + k := ⟨_, rfl⟩
      have hnn := HNK.out
      have x1 : k * 64 < n := by omega
      have x1i : (k : Int) * 64 < (n : Int) := by omega
      have x2 : (k + 1) * 64 ≤ c := by omega
      have x2i : ((k : Int) + 1) * 64 ≤ (c : Int) := by omega
      have x3 : k * 64 ≤ (k + 1) * 64 := by omega
      have x3i : (k : Int) * 64 ≤ ((k : Int) + 1) * 64 := by omega
      have x4 : (0 : Int) ≤ (k : Int) * 64 := by omega
      have x5 : ¬ c = k * 64 := by omega
      have hcl := chunk_len rest k
      rw [HRL.out] at hcl
      have hcl64 : (chunk rest k).length = 64 := by omega
      obtain ⟨g, o, rfl⟩ := hA.addr (by rw [List.length_map, HRL.out]; omega)
      have hAk : CellsAt w (some ⟨g, o + k * 64, none⟩) ((chunk rest k).map byteV) := by
        have h1 := hA.sub (k * 64) 64 (by rw [List.length_map, HRL.out]; omega)
        rw [← List.map_drop, ← List.map_take, show k * 64 = 64 * k by omega] at h1
        rw [show k * 64 = 64 * k by omega]
        exact h1
      have hgd : ¬ devBlks p m1 m2 g := hap g ⟨o, rfl⟩ (by rw [HRL.out]; omega)
      have hAw : CellsAt wr (some ⟨g, o + k * 64, none⟩) ((chunk rest k).map byteV) := hAk.frp hR.fr (fun b hb _ => by obtain rfl := blkOf_some hb; exact hgd)
      have hct : Calls Try.prog 38 #[.slice (some ⟨g, o + k * 64, none⟩) ((k + 1) * 64 - k * 64) (c - k * 64), .func (.func 39) #[] #[]] wr fun e w' => e = .returned (.bool (dirtyB (chunk rest k))) ∧ wr = w' := contains_any _ _ _ (chunk rest k) (by omega) hAw (by omega)
      have hsl := sec_lt l q hm.2.1
      have hse := writeE_eq (clN D l u rest k) (l.sec q : Nat) (by omega) (by rw [clN_sectors]; omega) [] (by simp)
      have hlw := lwrite_any (h.frD hD hR.fr) hR.dev q (by omega) none 0 0 [] rfl (CellsAt.nil _ _) (fun b hb _ => absurd hb (blkOf_none b))
      rw [hse, show ((q : Nat) : Int) = (u : Int) + (k : Int) by omega] at hlw
      have hs1 : dirtyB (chunk rest k) = true → clN D l u rest k1 = (clN D l u rest k).write (l.sec q : Nat) [] := fun hd => by rw [hk1, hq]; show (if _ then _ else _) = _; rw [if_pos hd]
      have hs0 : dirtyB (chunk rest k) = false → clN D l u rest k1 = clN D l u rest k := fun hd => by rw [hk1]; show (if _ then _ else _) = _; rw [hd]; rfl
      have ha1 : anyD rest k1 = (dirtyB (chunk rest k) || anyD rest k) := by rw [hk1]; rfl
      obtain ⟨dd, hdd⟩ : ∃ dd, dd = dirtyB (chunk rest k) := ⟨_, rfl⟩
      rw [← hdd] at hct hs1 hs0 ha1
      have HCT := Lib.hid hct
      have HLW := Lib.hid hlw
      have HS1 := Lib.hid hs1
      have HS0 := Lib.hid hs0
      have HA1 := Lib.hid ha1
      have HK1 := Lib.hid hk1
      clear hk1 hq hnn hcl hcl64 hA hAk hgd hAw hct hsl hse hlw hs1 hs0 ha1 hdd hap hfit hm hc
      go_wp2_with fail
      (with_reducible refine HCT.out.mono ?_)
      rintro e w1 ⟨rfl, rfl⟩
      cases dd with
      | false =>
        go_wp2_with fail
        go_roundw
        case rel =>
          have hkk := HK1.out
          exact ⟨k1, by omega, by rw [hkk, Int.natCast_add]; rfl, by rw [HA1.out]; rfl, by rw [HS0.out (by trivial)]; exact hR.dev, hR.fr, by rw [HS0.out (by trivial)]; exact hR.up⟩
        case measure => have := HK1.out; simp [intOf]; omega
      | true =>
        go_wp2_with fail
        (with_reducible refine HLW.out.mono ?_)
        rintro e w2 ⟨rfl, hF2, hD2⟩
        rw [← HS1.out (by trivial)] at hD2 ⊢
        by_cases hdn : (clN D l u rest k1).down = true
        · rw [if_pos hdn, errV_n (by decide)]
          go_wp2_with fail
          go_ret
          obtain ⟨j, hj⟩ : ∃ j, K = k1 + j := ⟨K - k1, by have := HK1.out; omega⟩
          have hst := clN_down D l u rest k1 hdn j
          have han := anyD_mono rest k1 j (by rw [HA1.out]; rfl)
          refine ⟨?_, ?_, hR.fr.trans hF2⟩
          · rw [hj, hst, if_pos hdn, errV_n (by decide)]; rfl
          · unfold cleanF
            rw [hj, han, if_pos rfl, hst]
            unfold DevS.flush
            rw [if_pos hdn]
            exact hD2
        · rw [if_neg hdn, errV_0]
          go_wp2_with fail
          go_roundw
          case rel =>
            have hkk := HK1.out
            exact ⟨k1, by omega, by rw [hkk, Int.natCast_add]; rfl, by rw [HA1.out]; rfl, hD2, hR.fr.trans hF2, by simpa using hdn⟩
          case measure => have := HK1.out; simp [intOf]; omega
    · have hkk : k = K := by omega
      subst hkk
      have hnn := HNK.out
      have x1 : ¬ k * 64 < n := by omega
      have x1i : ¬ (k : Int) * 64 < (n : Int) := by omega
      have hkb : k ≤ 16384 := by omega
      have hL := h.frD hD hR.fr
      obtain ⟨A1, cap, c0, _⟩ := hL.cellsAll
      have hfl := flush_any hR.dev
      have hfe : (clN D l u rest k).flushE = 0 := by unfold DevS.flushE; rw [hR.up]; rfl
      rw [hfe, errV_0] at hfl
      obtain ⟨dd, hdd⟩ : ∃ dd, dd = anyD rest k := ⟨_, rfl⟩
      rw [← hdd]
      have HDD := Lib.hid hdd
      have HFL := Lib.hid hfl
      clear hnn hfl hfe hdd hm hc
      cases dd with
      | false =>
        go_wp2_with fail
        go_ret
        refine ⟨by rw [hR.up]; rfl, ?_, hR.fr⟩
        unfold cleanF
        rw [← HDD.out]
        exact hR.dev
      | true =>
        go_wp2_with fail
        (with_reducible refine HFL.out.mono ?_)
        rintro e w2 ⟨rfl, hF2, hD2⟩
        go_wp2_with fail
        go_ret
        refine ⟨by rw [hR.up]; rfl, ?_, hR.fr.trans hF2⟩
        unfold cleanF
        rw [← HDD.out]
        exact hD2
end Go.Proofs.Ythkcmafflbpfoaa

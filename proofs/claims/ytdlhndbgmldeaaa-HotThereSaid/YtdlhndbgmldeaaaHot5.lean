import Derived.Test.YtdlhndbgmldeaaaHot3
import Derived.Test.YtdlhndbgmldeaaaAppArr
namespace Go.Proofs.Ytdlhndbgmldeaaa
open Go.RowKit
set_option linter.unusedVariables false
set_option linter.unusedSimpArgs false
set_option maxRecDepth 100000

/-! hot.read: bytes of a box. -/
theorem info_u8h : (Try.prog.info? 5).map (fun i => (i.zero, i.size, i.bytes)) = some (some (.int .u8 0), 1, 1) := by kernel_rfl
theorem bytes_one (l : List UInt8) : ∀ u ∈ l.map byteV, u.oneCell' = true := by
  intro u hu; obtain ⟨x, _, rfl⟩ := List.mem_map.1 hu; rfl
/-- The boxes and the device that they lie on. -/
structure Hd (w : World) (h bx p m1 m2 : Nat) (H : HotS) (D : DevS) : Prop where
  hot : HotAt w h bx p H
  dev : DevAt w p m1 m2 D
  hd : ¬ devBlks p m1 m2 h
  bd : ¬ devBlks p m1 m2 bx
  up : D.down = false
  fit : H.first + (H.boxes.length * H.sectors : Nat) ≤ D.sectors
theorem Hd.fr0 {w w' : World} {h bx p m1 m2 : Nat} {H : HotS} {D : DevS} (hh : Hd w h bx p m1 m2 H D) (hF : Fr none_ w w') : Hd w' h bx p m1 m2 H D :=
  ⟨hh.hot.fr0 hF, hh.dev.fr0 hF, hh.hd, hh.bd, hh.up, hh.fit⟩
theorem Hd.at0 {w : World} {h bx p m1 m2 : Nat} {H : HotS} {D : DevS} (hh : Hd w h bx p m1 m2 H D) (i k : Nat) (hi : i < H.boxes.length) (hk : k < H.sectors) : 0 ≤ sectorF H i k ∧ sectorF H i k < D.sectors := by
  have h1 := hh.fit
  have h2 := hh.hot.firstIn
  have h3 : (i + 1) * H.sectors ≤ H.boxes.length * H.sectors := Nat.mul_le_mul_right _ (by omega)
  rw [Nat.add_mul, Nat.one_mul] at h3
  unfold sectorF
  omega
theorem sectorF_add (H : HotS) (i a k : Nat) : sectorF H i (a + k) = sectorF H i a + (k : Nat) := by unfold sectorF; omega
structure RdL (w wr : World) (D : DevS) (s : Int) (k : Nat) (v : Value) : Prop where
  own : wr.ownsRow w.heap.size 5 1 v (k * 64) ((joined D s k).map byteV)
  fr : Fr none_ w wr
/-- n bytes of a box, from a place on -/
def bytesAt (D : DevS) (H : HotS) (i fr n : Nat) : List UInt8 := ((joined D (sectorF H i (fr / 64)) ((fr + n + 63) / 64 - fr / 64)).drop (fr % 64)).take n
structure HRead (w : World) (l : List UInt8) (e : Ending) (w' : World) : Prop where
  ret : ∃ g o c, e = .returned (.tuple #[.slice (some ⟨g, o, none⟩) l.length c, errV 0]) ∧ CellsAt w' (some ⟨g, o, none⟩) (l.map byteV) ∧ w.heap.size ≤ g ∧ l.length ≤ c
  fr : Fr none_ w w'
theorem rd_wr {a a64 r e2 fr n c : Nat} (h64 : a64 = a * 64) (hf : fr = a64 + r) (he : e2 = r + n) (hb : fr + n ≤ 65536) (hr : r < 64) (hc : r + n ≤ c) (hn : 0 < n) :
    wrap64 ((a : Int) * 64) = (a64 : Int) ∧ wrap64 ((fr : Int) - (a64 : Int)) = (r : Int) ∧ wrap64 ((r : Int) + (n : Int)) = (e2 : Int) ∧ (e2 : Int) ≤ (c : Int) ∧ (r : Int) ≤ (e2 : Int) ∧ ¬ c = r ∧ e2 - r = n ∧ n ≤ c - r := by
  refine ⟨?_, ?_, ?_, by omega, by omega, by omega, by omega, by omega⟩
  · rw [IntWalk.wrap64_in _ (by omega)]; omega
  · rw [IntWalk.wrap64_in _ (by omega)]; omega
  · rw [IntWalk.wrap64_in _ (by omega)]; omega
theorem len_ar {k r n : Nat} (h : r + n ≤ k * 64) : min n (k * 64 - r) = n := by omega
theorem rd_ar {fr n a k : Nat} (ha : a = fr / 64) (hk : k = (fr + n + 63) / 64 - a) (hn : 0 < n) : fr = a * 64 + fr % 64 ∧ fr % 64 + n ≤ k * 64 ∧ 0 < k := by omega
set_option maxHeartbeats 4000000 in
theorem hread_any {w : World} {h bx p m1 m2 : Nat} {H : HotS} {D : DevS} (hh : Hd w h bx p m1 m2 H D) (i_ fr n : Nat) (hi : i_ < H.boxes.length) (hn : 0 < n) (hfit : fr + n ≤ H.sectors * 64) :
    Calls Try.prog 36 #[ptr h, .int .i64 (i_ : Int), .int .i64 (fr : Int), .int .i64 (n : Int)] w fun e w' => HRead w (bytesAt D H i_ fr n) e w' := by
  have hlen := hh.dev.get_len
  have hm := hh.hot.most
  have hdiv : ((fr : Int).tdiv 64) = ((fr / 64 : Nat) : Int) := by rw [Int.tdiv_eq_ediv_of_nonneg (by omega)]; omega
  obtain ⟨a, ha⟩ : ∃ a, a = fr / 64 := ⟨_, rfl⟩
  rw [← ha] at hdiv
  have hfn : fr + n ≤ 65536 := by omega
  have hwa : wrap64 (a : Int) = (a : Int) := by rw [IntWalk.wrap64_in _ (by omega)]
  obtain ⟨K, hK⟩ : ∃ K, K = (fr + n + 63) / 64 - a := ⟨_, rfl⟩
  obtain ⟨T, hT⟩ : ∃ T, T = bytesAt D H i_ fr n := ⟨_, rfl⟩
  rw [← hT]
  have hT2 : T = ((joined D (sectorF H i_ a) K).drop (fr % 64)).take n := by rw [hT, hK, ha]; rfl
  have HT := Lib.hid hT2
  have HA := Lib.hid ha
  have HK := Lib.hid hK
  clear hT hT2 ha hK
  go_enter Try.func36, Try.ntmps36
  go_wp2_with fail
  simp only [hwa]
  go_loopw [10, 12] (fun v i wr => ∃ q k : Nat, q = a + k ∧ k ≤ K ∧ i = .int .i64 (q : Int) ∧ RdL w wr D (sectorF H i_ a) k v) (fun _ i _ => K - ((intOf i).toNat - a))
  case atStart => exact ⟨a, 0, rfl, by omega, rfl, ⟨by simpa [joined] using World.ownsRow_nil _ _ _ _, Fr.refl _ _⟩⟩
  case round =>
    obtain ⟨q, k, hq, hk, rfl, hR⟩ := hrel
    obtain ⟨A, c, rfl, hA, hkc, hnil, hblk⟩ := ownsRow_read hR.own
    obtain ⟨q64, hq64⟩ : ∃ x : Nat, x = q * 64 := ⟨_, rfl⟩
    obtain ⟨en, hen⟩ : ∃ x : Nat, x = fr + n := ⟨_, rfl⟩
    have hqb : q64 ≤ 1000000 := by have := HA.out; have := HK.out; omega
    have hw1 : wrap64 ((q : Int) * 64) = (q64 : Int) := by rw [IntWalk.wrap64_in _ (by omega)]; omega
    have hw2 : wrap64 ((fr : Int) + (n : Int)) = (en : Int) := by rw [IntWalk.wrap64_in _ (by omega)]; omega
    have HQ := Lib.hid hq
    have HQ64 := Lib.hid hq64
    have HEN := Lib.hid hen
    clear hq hq64 hen hqb
    by_cases hlt : k < K
    · have hc1 : q64 < en := by have := HA.out; have := HK.out; have := HQ.out; have := HQ64.out; have := HEN.out; omega
      have hc2 : (q64 : Int) < (en : Int) := by omega
      have hc3 : (q64 : Int) < (fr : Int) + (n : Int) := by have := HEN.out; omega
      have hqk := HQ.out
      have hks : a + k < H.sectors := by have := HA.out; have := HK.out; omega
      have hat := hh.at0 i_ (a + k) hi hks
      have hE := atE_up hh.up hat.1 hat.2
      have hhr := hh.fr0 hR.fr
      have hsec : ∀ W, Fr none_ w W → Calls Try.prog 48 #[ptr h, .int .i64 (i_ : Int), .int .i64 (q : Int)] W fun e w' => e = .returned (.int .i64 (sectorF H i_ (a + k))) ∧ Fr none_ W w' := fun W hF => by rw [hqk]; exact sector_any (hh.fr0 hF).hot i_ (a + k) (by omega) (by omega)
      have hrd : ∀ W, Fr none_ w W → Calls Try.prog 16 #[ptr p, .int .i64 (sectorF H i_ (a + k))] W fun e w' => ReadOk W (D.get (sectorF H i_ (a + k))) e w' := fun W hF => read_ok (hh.fr0 hF).dev _ hE
      have hst : ∀ W, Fr none_ w W → W.cell? ⟨h, 0, none⟩ = some (ptr p) := fun W hF => (hh.fr0 hF).hot.cellsAll.1
      have HSEC := Lib.hid hsec
      have HRD := Lib.hid hrd
      have HST := Lib.hid hst
      have hs0 := hst _ hR.fr.drew
      have hX0 := hR.fr.drew
      have HQB := Lib.hid (show q ≤ 1024 by have := hm.2; omega)
      have hkb : k * 64 ≤ 65536 := by have := hm.2; omega
      clear hsec hrd hst hE hhr hqk hks hat hm hdiv
      go_wp2_with fail
      go_region_held3 (fun W => W.cell? ⟨h, 0, none⟩ = some (ptr p)) (first | exact hs0 | exact HST.out _ hX1 | exact HST.out _ hX2) (first
        | (go_at_call 48; (with_reducible refine (HSEC.out _ hX0).mono ?_); rintro e x1 ⟨rfl, hY1⟩; have hX1 := hX0.trans hY1)
        | (go_at_call 16; (with_reducible refine (HRD.out x1 hX1).mono ?_); rintro e x2 ⟨g, rfl, hg, hY2, hb2⟩; rw [errV_0]; have hX2 := hX1.trans hY2))
      have ho := ownsRow_fr0 hR.own (((Fr.refl none_ wr).drew.trans hY1).trans hY2)
      have hA2 : CellsAt x2 (some ⟨g, 0, none⟩) ((D.get (sectorF H i_ (a + k))).map byteV) := CellsAt.whole hb2
      have hl2 := hlen (sectorF H i_ (a + k))
      have hsz2 := hX2.size
      go_wp2_with ((with_reducible refine at_append (.tmp 41) (.tmp 42) 35 w.heap.size 5 (.int .u8 0) 1 1 (n := k * 64) (A := some ⟨g, 0, none⟩) (m := 64) (c := 64) (news := (D.get (sectorF H i_ (a + k))).map byteV) Try.underlying35 info_u8h ?_ ?_ ?_ ?_ ho hA2 ?_ ?_ ?_ ?_ ?_ ?_ ?_); (focus rfl); (focus decide); (focus rfl); (focus rfl); (focus (intro h; cases h)); (focus simp [hl2]); (focus exact bytes_one _); (focus unfold maxLen; omega); (focus omega); (focus omega); intro v' w4 hown4 hg4)
      go_roundw
      case rel =>
        have hqb := HQB.out
        refine ⟨q + 1, k + 1, by have := HQ.out; omega, by omega, by rw [IntWalk.wrap64_in _ (by omega)]; rfl, ⟨?_, Fr.grown hX2 hg4 ho (Nat.le_refl _)⟩⟩
        rw [joined_succ, List.map_append, show (k + 1) * 64 = k * 64 + 64 by omega, ← sectorF_add]
        exact hown4
      case measure => have := HQ.out; have := HQB.out; rw [IntWalk.wrap64_in _ (by omega)]; simp [intOf]; omega
    · have hkK : k = K := by omega
      subst hkK
      have hc1 : ¬ q64 < en := by have := HA.out; have := HK.out; have := HQ.out; have := HQ64.out; have := HEN.out; omega
      have hc2 : ¬ (q64 : Int) < (en : Int) := by omega
      have hc3 : ¬ (q64 : Int) < (fr : Int) + (n : Int) := by have := HEN.out; omega
      obtain ⟨hfa0, hkn0, hKp⟩ := rd_ar HA.out HK.out hn
      have hjl := joined_len D (sectorF H i_ a) hlen k
      obtain ⟨g, o, rfl⟩ := hA.addr (by rw [List.length_map, hjl]; exact Nat.mul_pos hKp (by decide))
      obtain ⟨a64, h64⟩ : ∃ x : Nat, x = a * 64 := ⟨_, rfl⟩
      obtain ⟨r, hr⟩ : ∃ x : Nat, x = fr % 64 := ⟨_, rfl⟩
      obtain ⟨e2, he2⟩ : ∃ x : Nat, x = r + n := ⟨_, rfl⟩
      rw [← h64, ← hr] at hfa0
      rw [← hr] at hkn0
      have hrb : r < 64 := by rw [hr]; exact Nat.mod_lt _ (by decide)
      have hfa := hfa0
      have hkn := hkn0
      clear hw2 hc1 hc2 hlt
      obtain ⟨hx1, hx2, hx3, hx4, hx5, hx6, hn2, hcr⟩ := rd_wr h64 hfa he2 hfn hrb (Nat.le_trans hkn hkc) hn
      have hx7 : (0 : Int) ≤ (r : Int) := Int.natCast_nonneg r
      have hcut : CellsAt wr (some ⟨g, o + r, none⟩) ((((joined D (sectorF H i_ a) k).drop r).take n).map byteV) := by
        have h8 := hA.sub r n (by rw [List.length_map, hjl]; exact hkn)
        rw [← List.map_drop, ← List.map_take] at h8
        exact h8
      have hll : (((joined D (sectorF H i_ a) k).drop r).take n).length = n := by rw [List.length_take, List.length_drop, hjl]; exact len_ar hkn
      have hTT : T = ((joined D (sectorF H i_ a) k).drop r).take n := by rw [HT.out, hr]
      have hg := (hblk g ⟨o, rfl⟩).1
      have HC := Lib.hid (And.intro hcut (And.intro hll (And.intro hTT (And.intro hg hn2))))
      have HCR := Lib.hid hcr
      clear hcut hll hTT hg hn2 hkn hfa hkn0 hfa0 hjl h64 hr he2 hKp hrb hA hnil hblk hkc hm hdiv hcr
      go_wp2_with fail
      go_ret2
      obtain ⟨hcut, hll, hTT, hg, hn2⟩ := HC.out
      rw [hTT]
      exact ⟨⟨g, o + r, c - r, by rw [hll]; first | rfl | (rw [hn2]; rfl), hcut, hg, by rw [hll]; exact HCR.out⟩, hR.fr⟩
end Go.Proofs.Ytdlhndbgmldeaaa

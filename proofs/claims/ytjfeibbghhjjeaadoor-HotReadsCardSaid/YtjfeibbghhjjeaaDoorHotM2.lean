import Derived.Test.YtjfeibbghhjjeaaDoorKit
import Derived.ArgAppend
import Derived.Test.YtjfeibbghhjjeaaDoorHotM1
namespace Go.Proofs.YtjfeibbghhjjeaaDoor
open Go.RowKit
set_option linter.unusedVariables false
set_option linter.unusedSimpArgs false

/-! append onto a slice of an array's block, whatever the block's type: in place, or in a new row. -/
theorem at_app_arr {P : Program} {w : World} {ops : Array Oper} {rest : List Oper} {a : Act} {Q : Exit → Act → World → Prop} {dst : Option Tmp} {tt : TypeId} {ps : String} {af : Array Edge} (s x : Operand) (t : TypeId)
    (e : TypeId) (z : Value) (ht : P.underlying t = some (.slice e)) (hinfo : (P.info? e).map (fun i => (i.zero, i.size, i.bytes)) = some (some z, 1, 1)) (hzs : z.cells.size = 1)
    {g n cap : Nat} {full : List Value} {T : TypeId} {A : Option Addr} {m c : Nat} {news : List Value} (hs : a.eval s = .slice (some ⟨g, 0, none⟩) n cap) (hx : a.eval x = .slice A m c)
    (hb : w.heap[g]? = some (.cells full.toArray T (0, 0))) (hfl : full.length = cap) (hn : n ≤ cap) (hA : CellsAt w A news) (hl : news.length = m) (hm : 0 < m) (h1 : ∀ u ∈ news, u.oneCell' = true)
    (h63 : n + m ≤ maxLen) (hbytes : n + m ≤ 140737488355328)
    (h : ∀ g2 c2 w', (g2 = g ∨ w.heap.size ≤ g2) → n + m ≤ c2 → Fr (fun i => i = g) w w' → CellsAt w' (some ⟨g2, 0, none⟩) (full.take n ++ news) → wpList P ops Q rest (a.put dst (.slice (some ⟨g2, 0, none⟩) (n + m) c2)) w') :
    wpList P ops Q ({ dst := dst, op := .call { callee := .builtin .append, args := #[s, x], argTypes := #[t, t] }, type := tt, pos := ps, after := af, guard := none } :: rest) a w := by
  obtain ⟨i0, hi, hz0, hz1, hz2⟩ := info_parts hinfo
  obtain ⟨bx, ox, rfl⟩ := hA.addr (by omega)
  have hcell : ∀ j, j < cap → w.cell? ⟨g, j, none⟩ = full[j]? := fun j hj => by rw [cell_of_blk hb]; simp
  refine wpList_append_arg w rfl s x t rfl e i0 z 1 1 ht hi hz0 hz1 hz2 hzs (by omega) g 0 n cap (full.take n) hs (by simp; omega) (fun j u hj => ?_) ⟨bx, ox, none⟩ m c news hx (by omega) (hA.adds rfl) h1 (fun hr j hj => ⟨?_, frozen_of_blk hb _⟩) h63 (by omega) (fun hr => ?_) (fun hr v' w' hown hg => ?_)
  · obtain ⟨hlt, he⟩ := List.getElem?_eq_some_iff.1 hj
    have hjn : j < n := by simp at hlt; omega
    rw [Nat.zero_add, hcell j (by omega), ← hj, List.getElem?_take_of_lt hjn]
  · rw [show 0 + n * 1 + j = n + j by omega, hcell _ (by omega), List.getElem?_eq_getElem (by omega)]; rfl
  · refine h g cap _ (.inl rfl) hr (fr_setCells w g news _ w) ?_
    intro k hk
    refine ⟨g, 0, rfl, ?_⟩
    rw [List.length_append, List.length_take] at hk
    rw [Nat.zero_add k]
    by_cases hkn : k < n
    · rw [World.cell?_setCells_out g news _ w _ (fun _ _ => .inl (by simp; omega)), hcell k (by omega), List.getElem?_eq_getElem (by omega), List.getElem_append_left (by simp; omega), List.getElem_take]
    · have := World.cell?_setCells_in g news (0 + n * 1) w (fun j hj => by rw [show 0 + n * 1 + j = n + j by omega, hcell _ (by omega), List.getElem?_eq_getElem (by omega)]; rfl) (k - n) (by omega)
      rw [show 0 + n * 1 + (k - n) = k by omega] at this
      rw [this, List.getElem_append_right (by simp; omega)]
      congr 2
      simp; omega
  · obtain ⟨A', c', rfl, hA', hc', hnil', hbl'⟩ := ownsRow_read hown
    obtain ⟨g2, o2, rfl⟩ := hA'.addr (by simp; omega)
    have ho2 : o2 = 0 := by
      rcases hown.2 with ⟨h0, _⟩ | ⟨g', cap', cur, hv, _⟩
      · cases h0
      · cases hv; rfl
    subst ho2
    exact h g2 c' w' (.inr (hbl' g2 ⟨0, rfl⟩).1) hc' ((Fr.of_grown hg).mono (fun k _ e => by cases e)) hA'
end Go.Proofs.YtjfeibbghhjjeaaDoor
namespace Go.Proofs.YtjfeibbghhjjeaaDoor
open Go.RowKit
set_option linter.unusedVariables false
set_option linter.unusedSimpArgs false
set_option maxRecDepth 100000

/-! hot.read: bytes of a box. -/
theorem info_u8h : (Tryd.prog.info? 5).map (fun i => (i.zero, i.size, i.bytes)) = some (some (.int .u8 0), 1, 1) := by kernel_rfl
theorem bytes_one (l : List UInt8) : ∀ u ∈ l.map byteV, u.oneCell' = true := by
  intro u hu; obtain ⟨x, _, rfl⟩ := List.mem_map.1 hu; rfl
/-- The boxes and the device that they lie on. -/
structure Hd (w : World) (h bx p m1 m2 : Nat) (H : HotS) (D : DevS) : Prop where
  hot : HotAt w h bx p H
  dev : DevAt w p m1 m2 D
  hd : ¬ devBlks p m1 m2 h
  bd : ¬ devBlks p m1 m2 bx
  up : D.down = false
  fit : H.first + (H.boxes.length * H.sectors : Nat) ≤ D.sectors
theorem Hd.fr0 {w w' : World} {h bx p m1 m2 : Nat} {H : HotS} {D : DevS} (hh : Hd w h bx p m1 m2 H D) (hF : Fr none_ w w') : Hd w' h bx p m1 m2 H D :=
  ⟨hh.hot.fr0 hF, hh.dev.fr0 hF, hh.hd, hh.bd, hh.up, hh.fit⟩
theorem Hd.at0 {w : World} {h bx p m1 m2 : Nat} {H : HotS} {D : DevS} (hh : Hd w h bx p m1 m2 H D) (i k : Nat) (hi : i < H.boxes.length) (hk : k < H.sectors) : 0 ≤ sectorF H i k ∧ sectorF H i k < D.sectors := by
  have h1 := hh.fit
  have h2 := hh.hot.firstIn
  have h3 : (i + 1) * H.sectors ≤ H.boxes.length * H.sectors := Nat.mul_le_mul_right _ (by omega)
  rw [Nat.add_mul, Nat.one_mul] at h3
  unfold sectorF
  omega
theorem sectorF_add (H : HotS) (i a k : Nat) : sectorF H i (a + k) = sectorF H i a + (k : Nat) := by unfold sectorF; omega
structure RdL (w wr : World) (D : DevS) (s : Int) (k : Nat) (v : Value) : Prop where
  own : wr.ownsRow w.heap.size 5 1 v (k * 64) ((joined D s k).map byteV)
  fr : Fr none_ w wr
/-- n bytes of a box, from a place on -/
def bytesAt (D : DevS) (H : HotS) (i fr n : Nat) : List UInt8 := ((joined D (sectorF H i (fr / 64)) ((fr + n + 63) / 64 - fr / 64)).drop (fr % 64)).take n
structure HRead (w : World) (l : List UInt8) (e : Ending) (w' : World) : Prop where
  ret : ∃ g o c, e = .returned (.tuple #[.slice (some ⟨g, o, none⟩) l.length c, errV 0]) ∧ CellsAt w' (some ⟨g, o, none⟩) (l.map byteV) ∧ w.heap.size ≤ g ∧ l.length ≤ c
  fr : Fr none_ w w'
theorem rd_wr {a a64 r e2 fr n c : Nat} (h64 : a64 = a * 64) (hf : fr = a64 + r) (he : e2 = r + n) (hb : fr + n ≤ 65536) (hr : r < 64) (hc : r + n ≤ c) (hn : 0 < n) :
    wrap64 ((a : Int) * 64) = (a64 : Int) ∧ wrap64 ((fr : Int) - (a64 : Int)) = (r : Int) ∧ wrap64 ((r : Int) + (n : Int)) = (e2 : Int) ∧ (e2 : Int) ≤ (c : Int) ∧ (r : Int) ≤ (e2 : Int) ∧ ¬ c = r ∧ e2 - r = n ∧ n ≤ c - r := by
  refine ⟨?_, ?_, ?_, by omega, by omega, by omega, by omega, by omega⟩
  · rw [IntWalk.wrap64_in _ (by omega)]; omega
  · rw [IntWalk.wrap64_in _ (by omega)]; omega
  · rw [IntWalk.wrap64_in _ (by omega)]; omega
theorem len_ar {k r n : Nat} (h : r + n ≤ k * 64) : min n (k * 64 - r) = n := by omega
theorem rd_ar {fr n a k : Nat} (ha : a = fr / 64) (hk : k = (fr + n + 63) / 64 - a) (hn : 0 < n) : fr = a * 64 + fr % 64 ∧ fr % 64 + n ≤ k * 64 ∧ 0 < k := by omega
set_option maxHeartbeats 4000000 in
theorem hread_any {w : World} {h bx p m1 m2 : Nat} {H : HotS} {D : DevS} (hh : Hd w h bx p m1 m2 H D) (i_ fr n : Nat) (hi : i_ < H.boxes.length) (hn : 0 < n) (hfit : fr + n ≤ H.sectors * 64) :
    Calls Tryd.prog 54 #[ptr h, .int .i64 (i_ : Int), .int .i64 (fr : Int), .int .i64 (n : Int)] w fun e w' => HRead w (bytesAt D H i_ fr n) e w' := by
  have hlen := hh.dev.get_len
  have hm := hh.hot.most
  have hdiv : ((fr : Int).tdiv 64) = ((fr / 64 : Nat) : Int) := by rw [Int.tdiv_eq_ediv_of_nonneg (by omega)]; omega
  obtain ⟨a, ha⟩ : ∃ a, a = fr / 64 := ⟨_, rfl⟩
  rw [← ha] at hdiv
  have hfn : fr + n ≤ 65536 := by omega
  have hwa : wrap64 (a : Int) = (a : Int) := by rw [IntWalk.wrap64_in _ (by omega)]
  obtain ⟨K, hK⟩ : ∃ K, K = (fr + n + 63) / 64 - a := ⟨_, rfl⟩
  obtain ⟨T, hT⟩ : ∃ T, T = bytesAt D H i_ fr n := ⟨_, rfl⟩
  rw [← hT]
  have hT2 : T = ((joined D (sectorF H i_ a) K).drop (fr % 64)).take n := by rw [hT, hK, ha]; rfl
  have HT := Lib.hid hT2
  have HA := Lib.hid ha
  have HK := Lib.hid hK
  clear hT hT2 ha hK
  go_enter Tryd.func54, Tryd.ntmps54
  go_wp2_with fail
  simp only [hwa]
  go_loopw [10, 12] (fun v i wr => ∃ q k : Nat, q = a + k ∧ k ≤ K ∧ i = .int .i64 (q : Int) ∧ RdL w wr D (sectorF H i_ a) k v) (fun _ i _ => K - ((intOf i).toNat - a))
  case atStart => exact ⟨a, 0, rfl, by omega, rfl, ⟨by simpa [joined] using World.ownsRow_nil _ _ _ _, Fr.refl _ _⟩⟩
  case round =>
    obtain ⟨q, k, hq, hk, rfl, hR⟩ := hrel
    obtain ⟨A, c, rfl, hA, hkc, hnil, hblk⟩ := ownsRow_read hR.own
    obtain ⟨q64, hq64⟩ : ∃ x : Nat, x = q * 64 := ⟨_, rfl⟩
    obtain ⟨en, hen⟩ : ∃ x : Nat, x = fr + n := ⟨_, rfl⟩
    have hqb : q64 ≤ 1000000 := by have := HA.out; have := HK.out; omega
    have hw1 : wrap64 ((q : Int) * 64) = (q64 : Int) := by rw [IntWalk.wrap64_in _ (by omega)]; omega
    have hw2 : wrap64 ((fr : Int) + (n : Int)) = (en : Int) := by rw [IntWalk.wrap64_in _ (by omega)]; omega
    have HQ := Lib.hid hq
    have HQ64 := Lib.hid hq64
    have HEN := Lib.hid hen
    clear hq hq64 hen hqb
    by_cases hlt : k < K
    · have hc1 : q64 < en := by have := HA.out; have := HK.out; have := HQ.out; have := HQ64.out; have := HEN.out; omega
      have hc2 : (q64 : Int) < (en : Int) := by omega
      have hc3 : (q64 : Int) < (fr : Int) + (n : Int) := by have := HEN.out; omega
      have hqk := HQ.out
      have hks : a + k < H.sectors := by have := HA.out; have := HK.out; omega
      have hat := hh.at0 i_ (a + k) hi hks
      have hE := atE_up hh.up hat.1 hat.2
      have hhr := hh.fr0 hR.fr
      have hsec : ∀ W, Fr none_ w W → Calls Tryd.prog 72 #[ptr h, .int .i64 (i_ : Int), .int .i64 (q : Int)] W fun e w' => e = .returned (.int .i64 (sectorF H i_ (a + k))) ∧ Fr none_ W w' := fun W hF => by rw [hqk]; exact sector_any (hh.fr0 hF).hot i_ (a + k) (by omega) (by omega)
      have hrd : ∀ W, Fr none_ w W → Calls Tryd.prog 71 #[ptr p, .int .i64 (sectorF H i_ (a + k))] W fun e w' => ReadOk W (D.get (sectorF H i_ (a + k))) e w' := fun W hF => read_ok (hh.fr0 hF).dev _ hE
      have hst : ∀ W, Fr none_ w W → W.cell? ⟨h, 0, none⟩ = some (ptr p) := fun W hF => (hh.fr0 hF).hot.cellsAll.1
      have HSEC := Lib.hid hsec
      have HRD := Lib.hid hrd
      have HST := Lib.hid hst
      have hs0 := hst _ hR.fr.drew
      have hX0 := hR.fr.drew
      have HQB := Lib.hid (show q ≤ 1024 by have := hm.2; omega)
      have hkb : k * 64 ≤ 65536 := by have := hm.2; omega
      clear hsec hrd hst hE hhr hqk hks hat hm hdiv
      go_wp2_with fail
      go_region_held3 (fun W => W.cell? ⟨h, 0, none⟩ = some (ptr p)) (first | exact hs0 | exact HST.out _ hX1 | exact HST.out _ hX2) (first
        | (go_at_call 72; (with_reducible refine (HSEC.out _ hX0).mono ?_); rintro e x1 ⟨rfl, hY1⟩; have hX1 := hX0.trans hY1)
        | (go_at_call 71; (with_reducible refine (HRD.out x1 hX1).mono ?_); rintro e x2 ⟨g, rfl, hg, hY2, hb2⟩; rw [errV_0]; have hX2 := hX1.trans hY2))
      have ho := ownsRow_fr0 hR.own (((Fr.refl none_ wr).drew.trans hY1).trans hY2)
      have hA2 : CellsAt x2 (some ⟨g, 0, none⟩) ((D.get (sectorF H i_ (a + k))).map byteV) := CellsAt.whole hb2
      have hl2 := hlen (sectorF H i_ (a + k))
      have hsz2 := hX2.size
      go_wp2_with ((with_reducible refine at_append (.tmp 41) (.tmp 42) 24 w.heap.size 5 (.int .u8 0) 1 1 (n := k * 64) (A := some ⟨g, 0, none⟩) (m := 64) (c := 64) (news := (D.get (sectorF H i_ (a + k))).map byteV) Tryd.underlying24 info_u8h ?_ ?_ ?_ ?_ ho hA2 ?_ ?_ ?_ ?_ ?_ ?_ ?_); (focus rfl); (focus decide); (focus rfl); (focus rfl); (focus (intro h; cases h)); (focus simp [hl2]); (focus exact bytes_one _); (focus unfold maxLen; omega); (focus omega); (focus omega); intro v' w4 hown4 hg4)
      go_roundw
      case rel =>
        have hqb := HQB.out
        refine ⟨q + 1, k + 1, by have := HQ.out; omega, by omega, by rw [IntWalk.wrap64_in _ (by omega)]; rfl, ⟨?_, Fr.grown hX2 hg4 ho (Nat.le_refl _)⟩⟩
        rw [joined_succ, List.map_append, show (k + 1) * 64 = k * 64 + 64 by omega, ← sectorF_add]
        exact hown4
      case measure => have := HQ.out; have := HQB.out; rw [IntWalk.wrap64_in _ (by omega)]; simp [intOf]; omega
    · have hkK : k = K := by omega
      subst hkK
      have hc1 : ¬ q64 < en := by have := HA.out; have := HK.out; have := HQ.out; have := HQ64.out; have := HEN.out; omega
      have hc2 : ¬ (q64 : Int) < (en : Int) := by omega
      have hc3 : ¬ (q64 : Int) < (fr : Int) + (n : Int) := by have := HEN.out; omega
      obtain ⟨hfa0, hkn0, hKp⟩ := rd_ar HA.out HK.out hn
      have hjl := joined_len D (sectorF H i_ a) hlen k
      obtain ⟨g, o, rfl⟩ := hA.addr (by rw [List.length_map, hjl]; exact Nat.mul_pos hKp (by decide))
      obtain ⟨a64, h64⟩ : ∃ x : Nat, x = a * 64 := ⟨_, rfl⟩
      obtain ⟨r, hr⟩ : ∃ x : Nat, x = fr % 64 := ⟨_, rfl⟩
      obtain ⟨e2, he2⟩ : ∃ x : Nat, x = r + n := ⟨_, rfl⟩
      rw [← h64, ← hr] at hfa0
      rw [← hr] at hkn0
      have hrb : r < 64 := by rw [hr]; exact Nat.mod_lt _ (by decide)
      have hfa := hfa0
      have hkn := hkn0
      clear hw2 hc1 hc2 hlt
      obtain ⟨hx1, hx2, hx3, hx4, hx5, hx6, hn2, hcr⟩ := rd_wr h64 hfa he2 hfn hrb (Nat.le_trans hkn hkc) hn
      have hx7 : (0 : Int) ≤ (r : Int) := Int.natCast_nonneg r
      have hcut : CellsAt wr (some ⟨g, o + r, none⟩) ((((joined D (sectorF H i_ a) k).drop r).take n).map byteV) := by
        have h8 := hA.sub r n (by rw [List.length_map, hjl]; exact hkn)
        rw [← List.map_drop, ← List.map_take] at h8
        exact h8
      have hll : (((joined D (sectorF H i_ a) k).drop r).take n).length = n := by rw [List.length_take, List.length_drop, hjl]; exact len_ar hkn
      have hTT : T = ((joined D (sectorF H i_ a) k).drop r).take n := by rw [HT.out, hr]
      have hg := (hblk g ⟨o, rfl⟩).1
      have HC := Lib.hid (And.intro hcut (And.intro hll (And.intro hTT (And.intro hg hn2))))
      have HCR := Lib.hid hcr
      clear hcut hll hTT hg hn2 hkn hfa hkn0 hfa0 hjl h64 hr he2 hKp hrb hA hnil hblk hkc hm hdiv hcr
      go_wp2_with fail
      go_ret2
      obtain ⟨hcut, hll, hTT, hg, hn2⟩ := HC.out
      rw [hTT]
      exact ⟨⟨g, o + r, c - r, by rw [hll]; first | rfl | (rw [hn2]; rfl), hcut, hg, by rw [hll]; exact HCR.out⟩, hR.fr⟩
end Go.Proofs.YtjfeibbghhjjeaaDoor
namespace Go.Proofs.YtjfeibbghhjjeaaDoor
open Go.RowKit
set_option linter.unusedVariables false
set_option linter.unusedSimpArgs false

/-! Bytes of boxes behind a write, plainly. -/
theorem joined_get {D : DevS} (hl : ∀ i, (D.get i).length = 64) (s : Int) (k q : Nat) (hq : q < k * 64) : (joined D s k)[q]? = (D.get (s + ((q / 64 : Nat) : Int)))[q % 64]? := by
  induction k with
  | zero => omega
  | succ k ih =>
    have hjl := joined_len D s hl k
    rw [joined_succ]
    by_cases h : q < k * 64
    · rw [List.getElem?_append_left (by omega), ih h]
    · rw [List.getElem?_append_right (by omega), hjl, show q / 64 = k by omega, show q - k * 64 = q % 64 by omega]
theorem bytesAt_len {D : DevS} (hl : ∀ i, (D.get i).length = 64) (H : HotS) (i fr n : Nat) : (bytesAt D H i fr n).length = n := by
  unfold bytesAt
  rw [List.length_take, List.length_drop, joined_len D _ hl]
  omega
theorem bytesAt_get {D : DevS} (hl : ∀ i, (D.get i).length = 64) (H : HotS) (i fr n k : Nat) (hk : k < n) : (bytesAt D H i fr n)[k]? = (D.get (sectorF H i ((fr + k) / 64)))[(fr + k) % 64]? := by
  unfold bytesAt
  rw [List.getElem?_take_of_lt hk, List.getElem?_drop, joined_get hl _ _ _ (by omega), ← sectorF_add, show fr / 64 + (fr % 64 + k) / 64 = (fr + k) / 64 by omega, show (fr % 64 + k) % 64 = (fr + k) % 64 by omega]
/-- what is written, with the bytes that stand ahead in its first sector -/
def txtOf (D : DevS) (H : HotS) (i fr : Nat) (l : List UInt8) : List UInt8 := (D.get (sectorF H i (fr / 64))).take (fr % 64) ++ l
def hwrite (D : DevS) (H : HotS) (i fr : Nat) (l : List UInt8) : DevS := wrN D (sectorF H i (fr / 64)) (txtOf D H i fr l) (cnt (txtOf D H i fr l).length)
theorem txtOf_len {D : DevS} (hl : ∀ i, (D.get i).length = 64) (H : HotS) (i fr : Nat) (l : List UInt8) : (txtOf D H i fr l).length = fr % 64 + l.length := by
  unfold txtOf
  rw [List.length_append, List.length_take, hl]
  omega
theorem sectorF_lt {H : HotS} {i j a b : Nat} (hij : i < j) (ha : a < H.sectors) : sectorF H i a < sectorF H j b := by
  unfold sectorF
  have : (i + 1) * H.sectors ≤ j * H.sectors := Nat.mul_le_mul_right _ hij
  rw [Nat.add_mul, Nat.one_mul] at this
  omega
theorem sectorF_step (H : HotS) (i a : Nat) : sectorF H i a = sectorF H i 0 + (a : Nat) := by unfold sectorF; omega
section
variable {D : DevS} {H : HotS} {i fr : Nat} {l : List UInt8}
theorem hw_get (hl : ∀ i, (D.get i).length = 64) (hc : Calm D) (h0 : 0 ≤ sectorF H i 0) (h1 : sectorF H i 0 + (H.sectors : Nat) ≤ D.sectors) (hfit : fr + l.length ≤ H.sectors * 64) (j : Int) :
    (hwrite D H i fr l).get j = if sectorF H i (fr / 64) ≤ j ∧ j < sectorF H i (fr / 64) + (cnt (fr % 64 + l.length) : Nat) then padB (chunk (txtOf D H i fr l) (j - sectorF H i (fr / 64)).toNat) else D.get j := by
  have hs := sectorF_step H i (fr / 64)
  have hb : fr / 64 + cnt (fr % 64 + l.length) ≤ H.sectors ∨ l.length = 0 := by unfold cnt; omega
  have htl := txtOf_len hl H i fr l
  unfold hwrite
  rw [htl]
  rcases hb with hb | hb
  · exact wrN_get D (by omega) _ _ (by omega) (hc.wrN (by omega) _ _ (by omega)).up j
  · by_cases hz : fr % 64 = 0
    · have : cnt (fr % 64 + l.length) = 0 := by unfold cnt; omega
      rw [this]
      show D.get j = _
      rw [if_neg (by omega)]
    · have hb2 : fr / 64 + cnt (fr % 64 + l.length) ≤ H.sectors := by unfold cnt; omega
      exact wrN_get D (by omega) _ _ (by omega) (hc.wrN (by omega) _ _ (by omega)).up j
theorem hw_calm (hl : ∀ i, (D.get i).length = 64) (hc : Calm D) (h0 : 0 ≤ sectorF H i 0) (h1 : sectorF H i 0 + (H.sectors : Nat) ≤ D.sectors) (hfit : fr + l.length ≤ H.sectors * 64) (hp : 0 < l.length) : Calm (hwrite D H i fr l) := by
  have hs := sectorF_step H i (fr / 64)
  unfold hwrite
  rw [txtOf_len hl]
  exact hc.wrN (by omega) _ _ (by unfold cnt; omega)
theorem hw_sectors : (hwrite D H i fr l).sectors = D.sectors := wrN_sectors _ _ _ _
theorem padB_get {l : List UInt8} (q : Nat) (hq : q < l.length) : (padB l)[q]? = l[q]? := by
  unfold padB
  rw [List.getElem?_append_left hq]
theorem chunk_get (l : List UInt8) (k q : Nat) (hq : q < 64) : (chunk l k)[q]? = l[64 * k + q]? := by
  unfold chunk
  rw [List.getElem?_take_of_lt hq, List.getElem?_drop]
/-- a byte that was written, or stands ahead of it in its sector -/
theorem hw_in (hl : ∀ i, (D.get i).length = 64) (hc : Calm D) (h0 : 0 ≤ sectorF H i 0) (h1 : sectorF H i 0 + (H.sectors : Nat) ≤ D.sectors) (hfit : fr + l.length ≤ H.sectors * 64) (p : Nat) (hp1 : fr / 64 ≤ p / 64) (hp2 : p < fr + l.length) :
    ((hwrite D H i fr l).get (sectorF H i (p / 64)))[p % 64]? = (txtOf D H i fr l)[p - 64 * (fr / 64)]? := by
  have hs1 := sectorF_step H i (fr / 64)
  have hs2 := sectorF_step H i (p / 64)
  have htl := txtOf_len hl H i fr l
  rw [hw_get hl hc h0 h1 hfit, if_pos (by unfold cnt; omega), show (sectorF H i (p / 64) - sectorF H i (fr / 64)).toNat = p / 64 - fr / 64 by omega,
    padB_get _ (by rw [chunk_len]; omega), chunk_get _ _ _ (by omega), show 64 * (p / 64 - fr / 64) + p % 64 = p - 64 * (fr / 64) by omega]
theorem hw_new (hl : ∀ i, (D.get i).length = 64) (hc : Calm D) (h0 : 0 ≤ sectorF H i 0) (h1 : sectorF H i 0 + (H.sectors : Nat) ≤ D.sectors) (hfit : fr + l.length ≤ H.sectors * 64) (k : Nat) (hk : k < l.length) :
    ((hwrite D H i fr l).get (sectorF H i ((fr + k) / 64)))[(fr + k) % 64]? = l[k]? := by
  rw [hw_in hl hc h0 h1 hfit (fr + k) (by omega) (by omega)]
  unfold txtOf
  rw [List.getElem?_append_right (by rw [List.length_take, hl]; omega), List.length_take, hl]
  congr 1
  omega
theorem hw_old (hl : ∀ i, (D.get i).length = 64) (hc : Calm D) (h0 : 0 ≤ sectorF H i 0) (h1 : sectorF H i 0 + (H.sectors : Nat) ≤ D.sectors) (hfit : fr + l.length ≤ H.sectors * 64) (p : Nat) (hp : p < fr) :
    ((hwrite D H i fr l).get (sectorF H i (p / 64)))[p % 64]? = (D.get (sectorF H i (p / 64)))[p % 64]? := by
  by_cases hs : p / 64 = fr / 64
  · rw [hw_in hl hc h0 h1 hfit p (by omega) (by omega)]
    unfold txtOf
    rw [List.getElem?_append_left (by rw [List.length_take, hl]; omega), List.getElem?_take_of_lt (by omega), hs]
    congr 1
    omega
  · have hs1 := sectorF_step H i (fr / 64)
    have hs2 := sectorF_step H i (p / 64)
    rw [hw_get hl hc h0 h1 hfit, if_neg (by omega)]
theorem hw_far (hl : ∀ i, (D.get i).length = 64) (hc : Calm D) (h0 : 0 ≤ sectorF H i 0) (h1 : sectorF H i 0 + (H.sectors : Nat) ≤ D.sectors) (hfit : fr + l.length ≤ H.sectors * 64) (hp : 0 < l.length) (j a : Nat) (hj : j ≠ i) (ha : a < H.sectors) :
    (hwrite D H i fr l).get (sectorF H j a) = D.get (sectorF H j a) := by
  have hs1 := sectorF_step H i (fr / 64)
  rw [hw_get hl hc h0 h1 hfit, if_neg]
  rintro ⟨g1, g2⟩
  have hcn : fr / 64 + cnt (fr % 64 + l.length) ≤ H.sectors := by unfold cnt; omega
  rcases Nat.lt_or_gt_of_ne hj with h | h
  · have := sectorF_lt (H := H) (i := j) (j := i) (a := a) (b := fr / 64) h ha
    omega
  · have := sectorF_lt (H := H) (i := i) (j := j) (a := H.sectors - 1) (b := a) h (by omega)
    have h3 := sectorF_step H i (H.sectors - 1)
    omega
theorem hw_len (hl : ∀ i, (D.get i).length = 64) (hc : Calm D) (h0 : 0 ≤ sectorF H i 0) (h1 : sectorF H i 0 + (H.sectors : Nat) ≤ D.sectors) (hfit : fr + l.length ≤ H.sectors * 64) (j : Int) : ((hwrite D H i fr l).get j).length = 64 := by
  rw [hw_get hl hc h0 h1 hfit]
  split
  · unfold padB
    rw [List.length_append, List.length_replicate]
    have := chunk_len (txtOf D H i fr l) (j - sectorF H i (fr / 64)).toNat
    omega
  · exact hl j
/-- what was put is there -/
theorem bytesAt_new (hl : ∀ i, (D.get i).length = 64) (hc : Calm D) (h0 : 0 ≤ sectorF H i 0) (h1 : sectorF H i 0 + (H.sectors : Nat) ≤ D.sectors) (hfit : fr + l.length ≤ H.sectors * 64) : bytesAt (hwrite D H i fr l) H i fr l.length = l := by
  have hl2 := hw_len (D := D) (H := H) (i := i) (fr := fr) (l := l) hl hc h0 h1 hfit
  apply List.ext_getElem?
  intro k
  by_cases hk : k < l.length
  · rw [bytesAt_get hl2 H i fr _ k hk, hw_new hl hc h0 h1 hfit k hk]
  · rw [List.getElem?_eq_none (by rw [bytesAt_len hl2]; omega), List.getElem?_eq_none (by omega)]
/-- what lies elsewhere is as it was -/
theorem bytesAt_old (hl : ∀ i, (D.get i).length = 64) (hc : Calm D) (h0 : 0 ≤ sectorF H i 0) (h1 : sectorF H i 0 + (H.sectors : Nat) ≤ D.sectors) (hfit : fr + l.length ≤ H.sectors * 64) (hp : 0 < l.length) (j f n : Nat) (hn : f + n ≤ H.sectors * 64) (hj : j ≠ i ∨ f + n ≤ fr) :
    bytesAt (hwrite D H i fr l) H j f n = bytesAt D H j f n := by
  have hl2 := hw_len (D := D) (H := H) (i := i) (fr := fr) (l := l) hl hc h0 h1 hfit
  apply List.ext_getElem?
  intro k
  by_cases hk : k < n
  · rw [bytesAt_get hl2 H j f _ k hk, bytesAt_get hl H j f _ k hk]
    by_cases hji : j = i
    · subst hji
      exact hw_old hl hc h0 h1 hfit (f + k) (by omega)
    · rw [hw_far hl hc h0 h1 hfit hp j _ hji (by omega)]
  · rw [List.getElem?_eq_none (by rw [bytesAt_len hl2]; omega), List.getElem?_eq_none (by rw [bytesAt_len hl]; omega)]
end
theorem bytesAt_boxes (D : DevS) (H H' : HotS) (h1 : H'.first = H.first) (h2 : H'.sectors = H.sectors) (i f n : Nat) : bytesAt D H' i f n = bytesAt D H i f n := by
  unfold bytesAt sectorF
  rw [h1, h2]
end Go.Proofs.YtjfeibbghhjjeaaDoor

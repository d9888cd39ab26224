import Derived.Test.YthkcmafflbpfoaaLog4
namespace Go.Proofs.Ythkcmafflbpfoaa
open Go.RowKit
set_option linter.unusedVariables false
set_option linter.unusedSimpArgs false
set_option maxRecDepth 100000

/-! log: check, ring. -/
def areaV (fi se : Nat) : Value := .agg #[.int .i64 (fi : Int), .int .i64 (se : Int)]
set_option maxHeartbeats 1000000 in
theorem check_ok {w : World} {p m1 m2 : Nat} {D : DevS} (hD : DevAt w p m1 m2 D) (fi se at_ seq : Nat) (h1 : 2 ≤ se) (h2 : (fi : Int) + (se : Int) ≤ D.sectors) (h3 : at_ < se) (h4 : 1 ≤ seq) (h5 : seq ≤ 1099511627776) :
    Calls Try.prog 14 #[areaV fi se, ptr p, .int .i64 (at_ : Int), .int .i64 (seq : Int)] w fun e w' => e = .returned .nilIface ∧ Fr none_ w w' := by
  have hm := hD.most
  have k5 : ¬ D.sectors - (se : Int) < (fi : Int) := by omega
  obtain ⟨X, hX⟩ : ∃ X : Int, X = D.sectors - (se : Int) := ⟨_, rfl⟩
  rw [← hX] at k5
  have kX : wrap64 (D.sectors - (se : Int)) = X := by rw [IntWalk.wrap64_in _ (by omega)]; exact hX.symm
  have k1 : ¬ (fi : Int) < 0 := by omega
  have k2 : ¬ (se : Int) < 2 := by omega
  have k2n : ¬ se < 2 := by omega
  have k3 : ¬ D.sectors < (se : Int) := by omega
  have k4 : ¬ (at_ : Int) < 0 := by omega
  have k6 : ¬ (se : Int) ≤ (at_ : Int) := by omega
  have k6n : ¬ se ≤ at_ := by omega
  have k7 : ¬ (seq : Int) < 1 := by omega
  have k7n : ¬ seq < 1 := by omega
  have k8 : ¬ (1099511627776 : Int) < (seq : Int) := by omega
  have k8n : ¬ 1099511627776 < seq := by omega
  have hsc := sectors_any (hD.fr0 ((Fr.refl none_ w).alloc (.cells #[.int .i64 (fi : Int), .int .i64 (se : Int)] 30)))
  have HSC := Lib.hid hsc
  clear hm h1 h2 h3 h4 h5 hX hsc
  unfold areaV
  go_enter Try.func14, Try.ntmps14
  go_wp2_with fail
  (with_reducible refine HSC.out.mono ?_)
  rintro e w1 ⟨rfl, rfl⟩
  go_wp2_with fail
  go_ret
  exact ⟨rfl, (Fr.refl none_ w).alloc _⟩
def secA (fi se at_ i : Nat) : Nat := fi + (at_ + i) % se
theorem secA_lt {fi se at_ : Nat} (h : 2 ≤ se) (i : Nat) : secA fi se at_ i < fi + se := by
  unfold secA
  have := Nat.mod_lt (at_ + i) (show 0 < se by omega)
  omega
def ringB (D : DevS) (fi se at_ : Nat) (k : Nat) : List UInt8 := (List.range k).flatMap (fun i => D.get (secA fi se at_ i : Nat))
theorem ringB_succ (D : DevS) (fi se at_ k : Nat) : ringB D fi se at_ (k + 1) = ringB D fi se at_ k ++ D.get (secA fi se at_ k : Nat) := by
  unfold ringB; rw [List.range_succ, List.flatMap_append]; simp
theorem ringB_len (D : DevS) (fi se at_ : Nat) (hl : ∀ i, (D.get i).length = 64) (k : Nat) : (ringB D fi se at_ k).length = k * 64 := by
  induction k with
  | zero => rfl
  | succ k ih => rw [ringB_succ, List.length_append, ih, hl]; omega
structure RgL (w wr : World) (D : DevS) (fi se at_ k : Nat) (v : Value) : Prop where
  own : wr.ownsRow w.heap.size 5 1 v (k * 64) ((ringB D fi se at_ k).map byteV)
  fr : Fr none_ w wr
structure Ringed (w : World) (l : List UInt8) (e : Ending) (w' : World) : Prop where
  ret : ∃ A c, e = .returned (.tuple #[.slice A l.length c, errV 0]) ∧ CellsAt w' A (l.map byteV) ∧ l.length ≤ c ∧ (A = none → l.length = 0 ∧ c = 0) ∧ ∀ b, blkOf A b → w.heap.size ≤ b
  fr : Fr none_ w w'
theorem bytes_oneL (l : List UInt8) : ∀ u ∈ l.map byteV, u.oneCell' = true := by
  intro u hu; obtain ⟨x, _, rfl⟩ := List.mem_map.1 hu; rfl
theorem info_u8g : (Try.prog.info? 5).map (fun i => (i.zero, i.size, i.bytes)) = some (some (.int .u8 0), 1, 1) := by kernel_rfl
theorem sec_i1 (a b : Nat) (h : a + b ≤ 2000000) : IntKind.i64.wrap ((a : Int) + (b : Int)) = ((a + b : Nat) : Int) := by rw [IntWalk.i64_in _ (by omega)]; omega
theorem sec_i2 (a b : Nat) (h : a + b ≤ 2000000) : IntKind.i64.wrap ((a : Int) + (b : Int)) = ((a + b : Nat) : Int) := sec_i1 a b h
set_option maxHeartbeats 4000000 in
theorem ring_ok {w : World} {p m1 m2 : Nat} {D : DevS} (hD : DevAt w p m1 m2 D) (hup : D.down = false) (fi se at_ : Nat) (h1 : 2 ≤ se) (h2 : (fi : Int) + (se : Int) ≤ D.sectors) (h3 : at_ < se) :
    Calls Try.prog 15 #[areaV fi se, ptr p, .int .i64 (at_ : Int)] w fun e w' => Ringed w (ringB D fi se at_ se) e w' := by
  have hm := hD.most
  have hlen := hD.get_len
  have hfs : fi ≤ 16384 ∧ se ≤ 16384 := by omega
  have hFb := (Fr.refl none_ w).alloc (.cells #[.int .i64 (fi : Int), .int .i64 (se : Int)] 30)
  have hb0 : (w.alloc (.cells #[.int .i64 (fi : Int), .int .i64 (se : Int)] 30)).heap[w.heap.size]? = some (.cells #[.int .i64 (fi : Int), .int .i64 (se : Int)] 30 (0, 0)) := heap_alloc_new _ _
  unfold areaV
  go_enter Try.func15, Try.ntmps15
  go_wp2_with fail
  obtain ⟨wb, hwb⟩ : ∃ wb, wb = w.alloc (.cells #[.int .i64 (fi : Int), .int .i64 (se : Int)] 30) := ⟨_, rfl⟩
  rw [← hwb] at hFb hb0
  try rw [← hwb]
  have HFB := Lib.hid hFb
  have HB0 := Lib.hid hb0
  clear hFb hb0
  go_loopw [8, 14] (fun v i wr => ∃ k : Nat, k ≤ se ∧ i = .int .i64 (k : Int) ∧ RgL wb wr D fi se at_ k v) (fun _ i _ => se - (intOf i).toNat)
  case atStart => exact ⟨0, by omega, rfl, ⟨by simpa [ringB] using World.ownsRow_nil _ _ _ _, by rw [hwb]; exact Fr.refl _ _⟩⟩
  case round =>
    obtain ⟨k, hk, rfl, hR⟩ := hrel
    by_cases hlt : k < se
    · have k1 : (k : Int) < (se : Int) := by omega
      obtain ⟨e1, e2, e4⟩ := sec_ar fi se at_ k hfs.1 h1 hfs.2 h3 (by omega)
      have hsl := secA_lt (fi := fi) (at_ := at_) h1 k
      have hE : D.atE (secA fi se at_ k : Nat) = 0 := atE_up hup (by omega) (by omega)
      have hFw : Fr none_ w wr := HFB.out.trans hR.fr
      have hwx : IntKind.i64.wrap ((fi : Int) + (IntKind.i64.wrap ((at_ : Int) + (k : Int))).tmod (se : Int)) = ((secA fi se at_ k : Nat) : Int) := by
        have hl := Nat.mod_lt (at_ + k) (show 0 < se by omega)
        have f1 : IntKind.i64.wrap ((at_ : Int) + (k : Int)) = ((at_ + k : Nat) : Int) := sec_i1 at_ k (by omega)
        rw [f1, e2]
        unfold secA
        exact sec_i2 fi _ (by omega)
      have hrd : ∀ W, Fr none_ wr W → Calls Try.prog 30 #[ptr p, .int .i64 (IntKind.i64.wrap ((fi : Int) + (IntKind.i64.wrap ((at_ : Int) + (k : Int))).tmod (se : Int)))] W fun e w' => ReadOk W (D.get (secA fi se at_ k : Nat)) e w' := fun W hF => by
        rw [hwx]
        exact read_ok ((hD.fr0 hFw).fr0 hF) _ hE
      have hst : ∀ W, Fr none_ wr W → W.cell? ⟨w.heap.size, 0, none⟩ = some (.int .i64 (fi : Int)) ∧ W.cell? ⟨w.heap.size, 1, none⟩ = some (.int .i64 (se : Int)) := fun W hF => by
        have hb := (hF.heap0 (hR.fr.heap0 HB0.out))
        exact ⟨by rw [cell_of_blk hb]; rfl, by rw [cell_of_blk hb]; rfl⟩
      have hX0 : Fr none_ wr wr.drew := (Fr.refl _ _).drew
      have hs0 := hst _ hX0
      have hz : ¬ (se : Int) = 0 := by omega
      have hz2 : ¬ se = 0 := by omega
      have HRD := Lib.hid hrd
      have HST := Lib.hid hst
      have HFW := Lib.hid hFw
      have hse := hfs.2
      clear hrd hst hwx e1 e2 e4 hsl hE hm hfs h2 hFw
      go_wp2_with fail
      go_region_held3 (fun W => W.cell? ⟨w.heap.size, 0, none⟩ = some (.int .i64 (fi : Int)) ∧ W.cell? ⟨w.heap.size, 1, none⟩ = some (.int .i64 (se : Int))) (first | exact hs0 | exact HST.out _ hX1) (first
        | (go_at_call 30; (with_reducible refine (HRD.out _ hX0).mono ?_); rintro e x1 ⟨g, rfl, hg, hY1, hb2⟩; rw [errV_0]; have hX1 := hX0.trans hY1))
      have ho := ownsRow_fr0 hR.own hX1
      have hA2 : CellsAt x1 (some ⟨g, 0, none⟩) ((D.get (secA fi se at_ k : Nat)).map byteV) := CellsAt.whole hb2
      have hl2 := hlen (secA fi se at_ k : Nat)
      have hsz2 := hX1.size
      have hszw := hR.fr.size
      have hkb : k * 64 ≤ 1048576 := by omega
      clear hs0 HST hX0 hY1 hg
      go_wp2_with ((with_reducible refine at_append (.tmp 34) (.tmp 35) 36 wb.heap.size 5 (.int .u8 0) 1 1 (n := k * 64) (A := some ⟨g, 0, none⟩) (m := 64) (c := 64) (news := (D.get (secA fi se at_ k : Nat)).map byteV) Try.underlying36 info_u8g ?_ ?_ ?_ ?_ ho hA2 ?_ ?_ ?_ ?_ ?_ ?_ ?_); (focus rfl); (focus decide); (focus rfl); (focus rfl); (focus (intro h; cases h)); (focus simp [hl2]); (focus exact bytes_oneL _); (focus unfold maxLen; omega); (focus omega); (focus omega); intro v' w4 hown4 hg4)
      go_roundw
      case rel =>
        refine ⟨k + 1, by omega, by go_num, ⟨?_, Fr.grown (hR.fr.trans hX1) hg4 ho (Nat.le_refl _)⟩⟩
        rw [ringB_succ, List.map_append, show (k + 1) * 64 = k * 64 + 64 by omega]
        exact hown4
      case measure => simp [intOf]; omega
    · have hkk : k = se := by omega
      subst hkk
      obtain ⟨A, c, hv, hA, hkc, hnil, hblk⟩ := ownsRow_read hR.own
      have hz2 : ¬ (k : Int) < (k : Int) := by omega
      clear hm hfs h2
      go_wp2_with fail
      go_ret2
      have hrl := ringB_len D fi k at_ hlen k
      exact ⟨⟨A, c, by rw [hrl, ← hv]; rfl, hA, by omega, fun h => by have := hnil h; omega, fun b hb => by have := (hblk b hb).1; have := HFB.out.size; omega⟩, HFB.out.trans hR.fr⟩
end Go.Proofs.Ythkcmafflbpfoaa

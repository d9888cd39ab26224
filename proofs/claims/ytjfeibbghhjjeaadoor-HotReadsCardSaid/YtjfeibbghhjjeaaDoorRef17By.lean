import Derived.Test.YtjfeibbghhjjeaaDoorRef17Dec
import Derived.Test.YtjfeibbghhjjeaaDoorHBytes
namespace Go.Proofs.YtjfeibbghhjjeaaDoor
open Go.RowKit
set_option linter.unusedVariables false
set_option linter.unusedSimpArgs false
set_option maxRecDepth 100000

/-! The document's boxes: Bytes, on a new device. -/
def zsB (k : Nat) : ByteArray := ⟨(List.replicate k (0 : UInt8)).toArray⟩
theorem zsB_add (a b : Nat) : zsB a ++ zsB b = zsB (a + b) := by
  apply ByteArray.ext
  show (zsB a ++ zsB b).data = _
  rw [ByteArray.data_append]
  unfold zsB
  simp [List.replicate_append_replicate]
theorem zsB_size (a : Nat) : (zsB a).size = a := by
  show (List.replicate a (0 : UInt8)).toArray.size = a; simp
theorem zsB_ext (a u : Nat) (h : u ≤ a) : (zsB a).extract 0 u = zsB u := by
  apply ByteArray.ext
  rw [ByteArray.data_extract]
  unfold zsB
  simp [List.take_replicate]
  omega
set_option maxHeartbeats 8000000 in
theorem rread17 {w : World} {cs : Array Value} {m : Nat} (hd : RDV w cs (newRef m)) {v : Value} {b : Nat} {H : HotS} (hh : RHot w v b H) (i u : Nat) (hi : i < H.boxes.length) (hf : 0 ≤ H.first) (hfit : H.first + (H.boxes.length * H.sectors : Nat) ≤ (m : Int)) (hm : m ≤ 16384) (hsb : H.sectors ≤ 1024) (hu : 0 < u ∧ u ≤ H.sectors * 64) :
    Calls Tryd.prog 56 #[v, .agg cs, .int .i64 (i : Int), .int .i64 0, .int .i64 (u : Int)] w fun e w' => e = .returned (.tuple #[.string (zsB u), .int .i64 0]) ∧ Fr none_ w w' := by
  have hrd : ∀ W, Fr none_ w W → ∀ k : Nat, k < H.sectors → Calls Tryd.prog 74 #[.agg cs, .int .i64 (H.first + (i * H.sectors : Nat) + (k : Int))] W fun e w' => e = .returned (.tuple #[.string (zsB 64), .int .i64 0]) ∧ Fr none_ W w' := fun W hW k hk => by
    have h := ref_read (hd.fr0 hW) (H.first + (i * H.sectors : Nat) + (k : Int))
    have h3 : (i + 1) * H.sectors ≤ H.boxes.length * H.sectors := Nat.mul_le_mul_right _ (by omega)
    rw [Nat.add_mul, Nat.one_mul] at h3
    have hl : (newRef m).now.length = m := by simp [newRef]
    have hE : (newRef m).readE (H.first + (i * H.sectors : Nat) + (k : Int)) = 0 := by
      unfold RefD.readE
      rw [if_neg (by simp [newRef]), if_neg (by rw [hl]; omega)]
    have hB : (newRef m).readB (H.first + (i * H.sectors : Nat) + (k : Int)) = zeroB := by
      unfold RefD.readB
      rw [if_pos hE]
      have hlt : (H.first + (i * H.sectors : Nat) + (k : Int)).toNat < m := by omega
      show ((List.replicate m zeroB)[(H.first + (i * H.sectors : Nat) + (k : Int)).toNat]?).getD [] = zeroB
      rw [List.getElem?_replicate, if_pos hlt]; rfl
    rw [hE, hB] at h
    exact h
  have HRD := Lib.hid hrd
  have h3 : (i + 1) * H.sectors ≤ H.boxes.length * H.sectors := Nat.mul_le_mul_right _ (by omega)
  rw [Nat.add_mul, Nat.one_mul] at h3
  obtain ⟨hv, hblk⟩ := hh
  subst hv
  obtain ⟨⟨A1, c1, A2, c2, A3, c3, hcs, hrest⟩, l2, l3, m9⟩ := hd
  obtain ⟨P, hP⟩ : ∃ P, P = i * H.sectors := ⟨_, rfl⟩
  have hPi : (i : Int) * (H.sectors : Int) = (P : Int) := by rw [hP]; simp
  rw [← hP] at HRD h3
  have HP := Lib.hid hPi
  have hPb : P ≤ 16384 := by omega
  have hfb : H.first ≤ 16384 := by omega
  subst hcs
  clear hrd hrest l2 l3 hblk hP hPi
  go_enter Tryd.func56, Tryd.ntmps56
  go_wp2_with fail
  obtain ⟨V, hV, hFV, hbh, hbd⟩ := two_blocks w #[.int .i64 H.first, .int .i64 (H.boxes.length : Int), .int .i64 (H.sectors : Int), .slice (some ⟨b, 0, none⟩) H.boxes.length H.boxes.length] #[.slice A1 (newRef m).now.length c1, .slice A2 (newRef m).now.length c2, .slice A3 (newRef m).now.length c3, .int .i64 (newRef m).writes, .bool (newRef m).armed, .int .i64 (newRef m).left, .bool (newRef m).crashed, .bool (newRef m).gone] 42 33
  rw [← hV]
  clear hV
  have hub : u ≤ 65536 := by omega
  have hpw : wrap64 ((i : Int) * (H.sectors : Int)) = (P : Int) := by rw [HP.out, IntWalk.wrap64_in _ (by omega)]
  obtain ⟨S, hS⟩ : ∃ S, S = H.sectors := ⟨_, rfl⟩
  obtain ⟨fi, hfi⟩ : ∃ fi, fi = H.first := ⟨_, rfl⟩
  rw [← hS, ← hfi] at HRD
  rw [← hS] at hpw hu
  rw [← hfi] at hf hfb
  have v0 : V.cell? ⟨w.heap.size, 0, none⟩ = some (.int .i64 fi) := by rw [cell_of_blk hbh, hfi]; rfl
  have v2 : V.cell? ⟨w.heap.size, 2, none⟩ = some (.int .i64 (S : Int)) := by rw [cell_of_blk hbh, hS]; rfl
  clear hfit h3 hS hfi
  go_loopw [12, 13] (fun sv kv wr => ∃ k : Nat, k * 64 < u + 64 ∧ kv = .int .i64 (k : Int) ∧ sv = .string (zsB (k * 64)) ∧ Fr none_ V wr) (fun _ kv _ => u + 64 - (intOf kv).toNat * 64)
  case atStart => exact ⟨0, by omega, rfl, rfl, Fr.refl _ _⟩
  case round =>
    obtain ⟨k, hk, rfl, rfl, hF⟩ := hrel
    have hkb : k ≤ 1000000 := by omega
    by_cases hlt : 64 * k < u
    · have k1 : (64 : Int) * (k : Int) < (u : Int) := by omega
      have hks : k < S := by omega
      have w0 := hF.cell0 v0
      have w2 := hF.cell0 v2
      have hld := hF.heap0 hbd
      have hcall := HRD.out wr (hFV.trans hF) k hks
      have hz1 : (zsB (k * 64)).size = k * 64 := zsB_size _
      have hz2 : (zsB 64).size = 64 := zsB_size _
      obtain ⟨x, hx⟩ : ∃ x, x = zsB (k * 64) := ⟨_, rfl⟩
      obtain ⟨y, hy⟩ : ∃ y, y = zsB 64 := ⟨_, rfl⟩
      rw [← hx] at hz1 ⊢
      rw [← hy] at hz2 hcall
      have hxy : x ++ y = zsB ((k + 1) * 64) := by rw [hx, hy, zsB_add]; congr 1; omega
      have HC := Lib.hid hcall
      have HXY := Lib.hid hxy
      clear hcall hx hy hxy
      go_wp2_with (first | ((with_reducible refine at_load 33 (.tmp 6) (b := w.heap.size + 1) ?_ hld Tryd.underlying33 rfl (by kernel_rfl) ?_); (focus rfl)) | ((with_reducible refine HC.out.mono ?_); rintro e w1 ⟨rfl, hF1⟩))
      rw [HXY.out]
      go_roundw
      case rel => exact ⟨k + 1, by omega, by go_num, rfl, hF.trans hF1⟩
      case measure => simp [intOf]; omega
    · have k1 : ¬ (64 : Int) * (k : Int) < (u : Int) := by omega
      have hz1 : (zsB (k * 64)).size = k * 64 := zsB_size _
      have hext := zsB_ext (k * 64) u (by omega)
      obtain ⟨x, hx⟩ : ∃ x, x = zsB (k * 64) := ⟨_, rfl⟩
      rw [← hx] at hz1 hext ⊢
      have k2 : (u : Int) ≤ (x.size : Int) := by rw [hz1]; omega
      have k3 : u ≤ x.size := by rw [hz1]; omega
      have HEX := Lib.hid hext
      clear hx hz1 hext
      go_wp2_with fail
      go_ret2
      exact ⟨by rw [← HEX.out]; rfl, hFV.trans hF⟩
theorem rbytes17_bad {w : World} {cs : Array Value} {R : RefD} (hd : RDV w cs R) {v : Value} {b : Nat} {H : HotS} (hh : RHot w v b H) (i : Int) (hi : NoBox H i) :
    Calls Tryd.prog 30 #[v, .agg cs, .int .i64 i] w fun e w' => e = .returned (.tuple #[.string ⟨#[]⟩, .int .i64 4]) ∧ Fr none_ w w' := by
  obtain ⟨hv, hblk⟩ := hh
  subst hv
  obtain ⟨⟨A1, c1, A2, c2, A3, c3, hcs, hrest⟩, l2, l3, m9⟩ := hd
  subst hcs
  clear hrest l2 l3
  by_cases h0 : i < 0
  · clear hi hblk
    go_enter Tryd.func30, Tryd.ntmps30
    go_wp2_with fail
    go_ret2
    exact ⟨rfl, ((Fr.refl _ _).alloc _).alloc _⟩
  · by_cases h1 : (H.boxes.length : Int) ≤ i
    · clear hi hblk
      go_enter Tryd.func30, Tryd.ntmps30
      go_wp2_with fail
      go_ret2
      exact ⟨rfl, ((Fr.refl _ _).alloc _).alloc _⟩
    · obtain ⟨k, rfl⟩ : ∃ k : Nat, i = (k : Int) := ⟨i.toNat, by omega⟩
      have hk : k < H.boxes.length := by omega
      have hs : H.boxes[k].state = 0 := by
        rcases hi with h | h | h
        · omega
        · omega
        · rw [Int.toNat_natCast, bx_eq hk] at h; exact h
      have hb2 : ∀ o1 o2, ((w.alloc o1).alloc o2).cell? ⟨b, k * 3, none⟩ = some (.int .i64 0) := fun o1 o2 => by
        have := box_cells hblk k hk
        rw [hs] at this
        exact (((Fr.refl none_ w).alloc o1).alloc o2).cell0 this.1
      have hn2 : ¬ (H.boxes.length : Int) ≤ (k : Int) := by omega
      have hn3 : ¬ H.boxes.length ≤ k := by omega
      have hn1 : (k : Int) < (H.boxes.length : Int) := by omega
      have hn4 : (0 : Int) ≤ (k : Int) := by omega
      clear hi hs h0 h1 hblk
      go_enter Tryd.func30, Tryd.ntmps30
      go_wp2_with fail
      go_ret2
      exact ⟨rfl, ((Fr.refl _ _).alloc _).alloc _⟩
set_option maxHeartbeats 8000000 in
theorem rbytes17_ok {w : World} {cs : Array Value} {m : Nat} (hd : RDV w cs (newRef m)) {v : Value} {b : Nat} {H : HotS} (hh : RHot w v b H) (k : Nat) (hk : k < H.boxes.length) (hf : 0 ≤ H.first) (hfit : H.first + (H.boxes.length * H.sectors : Nat) ≤ (m : Int)) (hm : m ≤ 16384) (hsb : H.sectors ≤ 1024) (hs : H.boxes[k].state ≠ 0) (hu : H.boxes[k].used ≤ H.sectors * 64) :
    Calls Tryd.prog 30 #[v, .agg cs, .int .i64 (k : Int)] w fun e w' => e = .returned (.tuple #[.string (zsB H.boxes[k].used), .int .i64 0]) ∧ Fr none_ w w' := by
  have hrd : ∀ W, Fr none_ w W → ∀ u, 0 < u ∧ u ≤ H.sectors * 64 → Calls Tryd.prog 56 #[v, .agg cs, .int .i64 (k : Int), .int .i64 0, .int .i64 (u : Int)] W fun e w' => e = .returned (.tuple #[.string (zsB u), .int .i64 0]) ∧ Fr none_ W w' := fun W hW u hu2 => rread17 (hd.fr0 hW) ⟨hh.rep, hW.heap0 hh.blk⟩ k u hk hf hfit hm hsb hu2
  obtain ⟨hv, hblk⟩ := hh
  subst hv
  obtain ⟨⟨A1, c1, A2, c2, A3, c3, hcs, hrest⟩, l2, l3, m9⟩ := hd
  subst hcs
  have HRD := Lib.hid hrd
  obtain ⟨b0, b1, b2⟩ := box_cells hblk k hk
  obtain ⟨st, hst⟩ : ∃ st, st = H.boxes[k].state := ⟨_, rfl⟩
  obtain ⟨u, hue⟩ : ∃ u, u = H.boxes[k].used := ⟨_, rfl⟩
  rw [← hst] at b0 hs
  rw [← hue] at b1 hu ⊢
  obtain ⟨V, hV, hFV, hbh, hbd⟩ := two_blocks w #[.int .i64 H.first, .int .i64 (H.boxes.length : Int), .int .i64 (H.sectors : Int), .slice (some ⟨b, 0, none⟩) H.boxes.length H.boxes.length] #[.slice A1 (newRef m).now.length c1, .slice A2 (newRef m).now.length c2, .slice A3 (newRef m).now.length c3, .int .i64 (newRef m).writes, .bool (newRef m).armed, .int .i64 (newRef m).left, .bool (newRef m).crashed, .bool (newRef m).gone] 42 33
  have hst2 : ∀ W, Fr none_ V W → (((W.cell? ⟨w.heap.size, 0, none⟩ = some (.int .i64 H.first) ∧ W.cell? ⟨w.heap.size, 1, none⟩ = some (.int .i64 (H.boxes.length : Int)) ∧ W.cell? ⟨w.heap.size, 2, none⟩ = some (.int .i64 (H.sectors : Int)) ∧ W.cell? ⟨w.heap.size, 3, none⟩ = some (.slice (some ⟨b, 0, none⟩) H.boxes.length H.boxes.length)) ∧ W.cell? ⟨b, k * 3 + 1, none⟩ = some (.int .i64 (u : Int))) ∧ (W.cell? ⟨w.heap.size + 1, 0, none⟩ = some (.slice A1 (newRef m).now.length c1) ∧ W.cell? ⟨w.heap.size + 1, 1, none⟩ = some (.slice A2 (newRef m).now.length c2) ∧ W.cell? ⟨w.heap.size + 1, 2, none⟩ = some (.slice A3 (newRef m).now.length c3) ∧ W.cell? ⟨w.heap.size + 1, 3, none⟩ = some (.int .i64 (newRef m).writes) ∧ W.cell? ⟨w.heap.size + 1, 4, none⟩ = some (.bool (newRef m).armed) ∧ W.cell? ⟨w.heap.size + 1, 5, none⟩ = some (.int .i64 (newRef m).left) ∧ W.cell? ⟨w.heap.size + 1, 6, none⟩ = some (.bool (newRef m).crashed) ∧ W.cell? ⟨w.heap.size + 1, 7, none⟩ = some (.bool (newRef m).gone))) := fun W hW => by
    have h1 := hW.heap0 hbh
    exact ⟨⟨⟨by rw [cell_of_blk h1]; rfl, by rw [cell_of_blk h1]; rfl, by rw [cell_of_blk h1]; rfl, by rw [cell_of_blk h1]; rfl⟩, (hFV.trans hW).cell0 b1⟩, ⟨by rw [cell_of_blk (hW.heap0 hbd)]; rfl, by rw [cell_of_blk (hW.heap0 hbd)]; rfl, by rw [cell_of_blk (hW.heap0 hbd)]; rfl, by rw [cell_of_blk (hW.heap0 hbd)]; rfl, by rw [cell_of_blk (hW.heap0 hbd)]; rfl, by rw [cell_of_blk (hW.heap0 hbd)]; rfl, by rw [cell_of_blk (hW.heap0 hbd)]; rfl, by rw [cell_of_blk (hW.heap0 hbd)]; rfl⟩⟩
  have HST := Lib.hid hst2
  have HV := Lib.hid (And.intro hV hFV)
  have e0 := hFV.cell0 b0
  have e1 := hFV.cell0 b1
  obtain ⟨⟨⟨g0, g1, g2, g3⟩, _⟩, _⟩ := hst2 V (Fr.refl _ _)
  have hn2 : ¬ (H.boxes.length : Int) ≤ (k : Int) := by omega
  have hn3 : ¬ H.boxes.length ≤ k := by omega
  have hn1 : (k : Int) < (H.boxes.length : Int) := by omega
  have hn4 : (0 : Int) ≤ (k : Int) := by omega
  have hs2 : (st == 0) = false := by simpa using hs
  have hs0 := hst2 V.drew (Fr.refl none_ V).drew
  clear hrest l2 l3 hblk hV hbh hbd hst2 b0 b1 b2 hst hue hrd
  by_cases hu0 : u = 0
  · subst hu0
    go_enter Tryd.func30, Tryd.ntmps30
    go_upto_region 1 with fail
    rw [← HV.out.1]
    go_wp2_with fail
    go_ret2
    exact ⟨rfl, HV.out.2⟩
  · have hu1 : ((u : Int) == 0) = false := by simp; omega
    go_enter Tryd.func30, Tryd.ntmps30
    go_upto_region 1 with fail
    rw [← HV.out.1]
    go_upto_region 5 with fail
    go_region_held3 (fun W => (((W.cell? ⟨w.heap.size, 0, none⟩ = some (.int .i64 H.first) ∧ W.cell? ⟨w.heap.size, 1, none⟩ = some (.int .i64 (H.boxes.length : Int)) ∧ W.cell? ⟨w.heap.size, 2, none⟩ = some (.int .i64 (H.sectors : Int)) ∧ W.cell? ⟨w.heap.size, 3, none⟩ = some (.slice (some ⟨b, 0, none⟩) H.boxes.length H.boxes.length)) ∧ W.cell? ⟨b, k * 3 + 1, none⟩ = some (.int .i64 (u : Int))) ∧ (W.cell? ⟨w.heap.size + 1, 0, none⟩ = some (.slice A1 (newRef m).now.length c1) ∧ W.cell? ⟨w.heap.size + 1, 1, none⟩ = some (.slice A2 (newRef m).now.length c2) ∧ W.cell? ⟨w.heap.size + 1, 2, none⟩ = some (.slice A3 (newRef m).now.length c3) ∧ W.cell? ⟨w.heap.size + 1, 3, none⟩ = some (.int .i64 (newRef m).writes) ∧ W.cell? ⟨w.heap.size + 1, 4, none⟩ = some (.bool (newRef m).armed) ∧ W.cell? ⟨w.heap.size + 1, 5, none⟩ = some (.int .i64 (newRef m).left) ∧ W.cell? ⟨w.heap.size + 1, 6, none⟩ = some (.bool (newRef m).crashed) ∧ W.cell? ⟨w.heap.size + 1, 7, none⟩ = some (.bool (newRef m).gone)))) (first | exact hs0 | exact HST.out _ ((Fr.refl none_ V).drew.trans hF1)) ((go_at_call 56; (with_reducible refine (HRD.out _ (HV.out.2.trans (Fr.refl none_ V).drew) u ⟨by omega, hu⟩).mono ?_); rintro e x1 ⟨rfl, hF1⟩))
    go_wp2_with fail
    go_ret2
    exact ⟨rfl, (HV.out.2.trans (Fr.refl none_ V).drew).trans hF1⟩
end Go.Proofs.YtjfeibbghhjjeaaDoor

import Derived.Test.YtdkjmnhblepkaaaCold5
namespace Go.Proofs.Ytdkjmnhblepkaaa
open Go.RowKit
set_option linter.unusedVariables false
set_option linter.unusedSimpArgs false
set_option maxRecDepth 100000

/-! cold: places that are made; the first free one. -/
theorem made_places (n : Nat) : madeCells #[Value.int .i64 0, .int .i64 0, .slice none 0 0] (n * 3) = ((List.replicate n freeP).flatMap plC).toArray := by
  apply Array.toList_inj.1
  apply List.ext_getElem?
  intro i
  unfold madeCells
  simp only [Array.toList_map, Array.toList_range]
  by_cases hi : i < n * 3
  · obtain ⟨k, j, hk, hj, rfl⟩ : ∃ k j, k < n ∧ j < 3 ∧ i = k * 3 + j := ⟨i / 3, i % 3, by omega, by omega, by omega⟩
    rw [flatMap_get plC 3 plC_len _ k j (by simpa using hk) hj, List.getElem?_map, List.getElem?_range hi]
    simp only [List.getElem_replicate, Option.map_some]
    rw [show (k * 3 + j) % (#[Value.int .i64 0, .int .i64 0, .slice none 0 0] : Array Value).size = j by show (k * 3 + j) % 3 = j; omega]
    match j, hj with
    | 0, _ => rfl
    | 1, _ => rfl
    | 2, _ => rfl
  · rw [List.getElem?_eq_none (by simp; omega), List.getElem?_eq_none (by rw [flatMap_len plC 3 plC_len]; simp; omega)]
theorem info_place : (Try.prog.info? 60).map (fun i => (i.zero, i.size, i.bytes)) = some (some (.agg #[.int .i64 0, .int .i64 0, .slice none 0 0]), 3, 40) := by kernel_rfl
theorem mkPlaces (n : Nat) (hn : n ≤ 1024) (w : World) : (Instr.makeSlice 55 (.int .i64 (n : Int)) (.int .i64 (n : Int))).run Try.prog w = .ok (.slice (some ⟨w.heap.size, 0, none⟩) n n) (w.alloc (.cells ((List.replicate n freeP).flatMap plC).toArray 60)) := by
  obtain ⟨i, hi, hzz⟩ := Option.map_eq_some_iff.1 info_place
  simp only [Prod.mk.injEq] at hzz
  obtain ⟨hz, hs, hb⟩ := hzz
  have h := run_make (P := Try.prog) w 55 60 i _ Try.underlying55 hi hz .i64 .i64 n n (by omega) (by omega) (by rw [hb]; omega) (by omega)
  rw [hs, Int.toNat_natCast] at h
  rw [← made_places]
  exact h
theorem isfree_any (st nn : Nat) (A : Option Addr) (ns cs : Nat) (w : World) : Calls Try.prog 20 #[.agg #[.int .i64 (st : Int), .int .i64 (nn : Int), .slice A ns cs]] w fun e w' => e = .returned (.bool (decide (st = 0))) ∧ Fr none_ w w' := by
  by_cases h : st = 0
  · subst h
    go_enter Try.func20, Try.ntmps20
    go_wp2_with fail
    go_ret
    exact ⟨rfl, (Fr.refl _ _).alloc _⟩
  · have z1 : ((st : Int) == 0) = false := by simpa using (show ¬ (st : Int) = 0 by omega)
    rw [show decide (st = 0) = false by simpa using h]
    go_enter Try.func20, Try.ntmps20
    go_wp2_with fail
    go_ret
    exact ⟨rfl, (Fr.refl _ _).alloc _⟩
/-- the first free place of those from k on; none: -1 -/
def firstFree (l : List PlaceS) : Int := match l.findIdx? (fun p => p.st == 0) with | some k => (k : Int) | none => -1
theorem firstFree_some {l : List PlaceS} {k : Nat} (hk : k < l.length) (h0 : l[k].st = 0) (hl : ∀ j (h : j < k), (l[j]'(by omega)).st ≠ 0) : firstFree l = (k : Int) := by
  unfold firstFree
  rw [show l.findIdx? (fun p => p.st == 0) = some k by
    rw [List.findIdx?_eq_some_iff_getElem]
    exact ⟨hk, by simpa using h0, fun j hj => by simpa using hl j hj⟩]
theorem firstFree_none {l : List PlaceS} (hl : ∀ j (h : j < l.length), l[j].st ≠ 0) : firstFree l = -1 := by
  unfold firstFree
  rw [show l.findIdx? (fun p => p.st == 0) = none by
    rw [List.findIdx?_eq_none_iff]
    intro x hx
    obtain ⟨j, hj, rfl⟩ := List.mem_iff_getElem.1 hx
    simpa using hl j hj]
set_option maxHeartbeats 4000000 in
theorem index_any {w : World} {x lb pb c g : Nat} {ds : List Nat} {C : ColdS} {l : List (PlaceS × Value)} (h : ColdAt w x lb pb c g ds C l) :
    Calls Try.prog 19 #[.slice (some ⟨pb, 0, none⟩) l.length l.length, .func (.func 20) #[] #[]] w fun e w' => e = .returned (.int .i64 (firstFree C.places)) ∧ Fr none_ w w' := by
  have hlm : l.length ≤ 1024 := by have := h.len; have := h.most; omega
  have HLL := Lib.hid h.len
  have hm := h.most
  have H := Lib.hid h
  clear h
  go_enter Try.func19, Try.ntmps19
  go_wp2_with fail
  go_loopw [8] (fun i wr => ∃ k : Nat, k ≤ l.length ∧ i = .int .i64 k ∧ (∀ j (h : j < k) (h2 : j < l.length), l[j].1.st ≠ 0) ∧ Fr none_ w wr) (fun i _ => l.length - (intOf i).toNat)
  case atStart => exact ⟨0, by omega, rfl, fun j h => absurd h (by omega), Fr.refl _ _⟩
  case round =>
    obtain ⟨k, hk, rfl, hz, hF⟩ := hrel
    have HZ := Lib.hid hz
    clear hz
    have hst : ∀ j (h1 : j < l.length) (h2 : j < C.places.length), C.places[j] = l[j].1 := fun j h1 h2 => by
      have := H.out.isl
      simp [← this]
    have HST := Lib.hid hst
    clear hst
    by_cases hkl : k < l.length
    · have q1 : (k : Int) < (l.length : Int) := by omega
      have q2 : (0 : Int) ≤ (k : Int) ∧ (k : Int) < (l.length : Int) := by omega
      obtain ⟨p0, p1, p2⟩ := ((H.out.pls.fr0 hF).cells k hkl)
      obtain ⟨As, ns, cs, hsv⟩ := ((H.out.pls.fr0 hF).sums l[k] (List.getElem_mem _)).shape
      rw [hsv] at p2
      obtain ⟨st, hs⟩ : ∃ st, st = l[k].1.st := ⟨_, rfl⟩
      obtain ⟨nn, hn⟩ : ∃ nn, nn = l[k].1.n := ⟨_, rfl⟩
      rw [← hs] at p0
      rw [← hn] at p1
      have HS := Lib.hid hs
      clear hsv hs hn
      go_wp2_with fail
      (with_reducible refine (isfree_any st nn As ns cs _).mono ?_)
      rintro e w1 ⟨rfl, hF1⟩
      by_cases h0 : st = 0
      · rw [show decide (st = 0) = true by simpa using h0]
        have hfin : firstFree C.places = (k : Int) := firstFree_some (by have := HLL.out; omega) (by rw [HST.out k hkl (by have := HLL.out; omega), ← HS.out]; exact h0) (fun j hj => by rw [HST.out j (by omega) (by have := HLL.out; omega)]; exact HZ.out j hj (by omega))
        have HFI := Lib.hid hfin
        clear hfin h0
        go_wp2_with fail
        go_ret
        exact ⟨by rw [HFI.out]; rfl, hF.trans hF1⟩
      · rw [show decide (st = 0) = false by simpa using h0]
        have hz2 : ∀ j (h : j < k + 1) (h2 : j < l.length), l[j].1.st ≠ 0 := fun j hj h2 => by
          by_cases e : j = k
          · subst e; rw [← HS.out]; exact h0
          · exact HZ.out j (by omega) h2
        have HZ2 := Lib.hid hz2
        clear hz2 h0
        go_wp2_with fail
        go_roundw
        case rel => exact ⟨k + 1, by omega, by go_num, HZ2.out, hF.trans hF1⟩
        case measure => simp [intOf]; omega
    · have hk2 : k = l.length := by omega
      subst hk2
      have hfin : firstFree C.places = -1 := firstFree_none (fun j hj => by rw [HST.out j (by have := HLL.out; omega) hj]; exact HZ.out j (by have := HLL.out; omega) (by have := HLL.out; omega))
      have HFI := Lib.hid hfin
      clear hfin
      go_wp2_with fail
      go_ret
      exact ⟨by rw [HFI.out]; rfl, hF⟩
end Go.Proofs.Ytdkjmnhblepkaaa

import Derived.Test.YtdkjmnhblepkaaaRs7
import Derived.Test.YtdkjmnhblepkaaaDev3
namespace Go.Proofs.Ytdkjmnhblepkaaa
open Go.RowKit
set_option linter.unusedVariables false
set_option linter.unusedSimpArgs false
set_option maxRecDepth 100000

/-! cold: what it is in memory; down, box, Room, Used, Settle. -/
structure PlaceS where
  st : Nat
  n : Nat
  sums : List Nat
structure ColdS where
  d : Nat
  m : Nat
  first : Nat
  size : Nat
  places : List PlaceS
def SumsAt (w : World) (v : Value) (sums : List Nat) : Prop := (sums = [] ∧ v = .slice none 0 0) ∨ ∃ (b c : Nat) (full : List Value), v = .slice (some ⟨b, 0, none⟩) sums.length c ∧ w.heap[b]? = some (.cells full.toArray 70 (0, 0)) ∧ sums.map u32V = full.take sums.length ∧ sums.length ≤ full.length
theorem SumsAt.fr {w w' : World} {v : Value} {sums : List Nat} (h : SumsAt w v sums) {S : Nat → Prop} (hF : Fr S w w') (hS : ∀ b c, w.heap[b]? = some (.cells c 70 (0, 0)) → ¬ S b) : SumsAt w' v sums := by
  rcases h with h | ⟨b, c, full, h1, h2, h3, h4⟩
  · exact .inl h
  · exact .inr ⟨b, c, full, h1, hF.heap h2 (hS b _ h2), h3, h4⟩
theorem SumsAt.shape {w : World} {v : Value} {sums : List Nat} (h : SumsAt w v sums) : ∃ A n c, v = .slice A n c := by
  rcases h with ⟨_, rfl⟩ | ⟨b, c, full, rfl, _⟩
  · exact ⟨none, 0, 0, rfl⟩
  · exact ⟨_, _, _, rfl⟩
def plC (x : PlaceS × Value) : List Value := [.int .i64 (x.1.st : Int), .int .i64 (x.1.n : Int), x.2]
theorem plC_len (x : PlaceS × Value) : (plC x).length = 3 := rfl
/-- places in their block -/
structure PlAt (w : World) (pb : Nat) (l : List (PlaceS × Value)) : Prop where
  blk : w.heap[pb]? = some (.cells (l.flatMap plC).toArray 60 (0, 0))
  sums : ∀ x ∈ l, SumsAt w x.2 x.1.sums
theorem PlAt.cells {w : World} {pb : Nat} {l : List (PlaceS × Value)} (h : PlAt w pb l) (i : Nat) (hi : i < l.length) : w.cell? ⟨pb, i * 3, none⟩ = some (.int .i64 (l[i].1.st : Int)) ∧ w.cell? ⟨pb, i * 3 + 1, none⟩ = some (.int .i64 (l[i].1.n : Int)) ∧ w.cell? ⟨pb, i * 3 + 2, none⟩ = some l[i].2 := by
  have g := fun j hj => flatMap_get plC 3 plC_len l i j hi hj
  refine ⟨?_, ?_, ?_⟩
  · rw [cell_of_blk h.blk, List.getElem?_toArray]; exact g 0 (by omega)
  · rw [cell_of_blk h.blk, List.getElem?_toArray]; exact g 1 (by omega)
  · rw [cell_of_blk h.blk, List.getElem?_toArray]; exact g 2 (by omega)
theorem PlAt.fz {w : World} {pb : Nat} {l : List (PlaceS × Value)} (h : PlAt w pb l) (o : Nat) : w.frozen? ⟨pb, o, none⟩ = false := frozen_of_blk h.blk o
theorem PlAt.fr {w w' : World} {pb : Nat} {l : List (PlaceS × Value)} (h : PlAt w pb l) {S : Nat → Prop} (hF : Fr S w w') (h1 : ¬ S pb) (hS : ∀ b c, w.heap[b]? = some (.cells c 70 (0, 0)) → ¬ S b) : PlAt w' pb l :=
  ⟨hF.heap h.blk h1, fun x hx => (h.sums x hx).fr hF hS⟩
theorem PlAt.fr0 {w w' : World} {pb : Nat} {l : List (PlaceS × Value)} (h : PlAt w pb l) (hF : Fr none_ w w') : PlAt w' pb l := h.fr hF (fun h => h) (fun _ _ _ h => h)
theorem pl_flat_set : ∀ (l : List (PlaceS × Value)) (i : Nat) (hi : i < l.length) (y : PlaceS × Value), (((l.flatMap plC).set (i * 3) (.int .i64 (y.1.st : Int))).set (i * 3 + 1) (.int .i64 (y.1.n : Int))).set (i * 3 + 2) y.2 = (l.set i y).flatMap plC
  | [], i, hi, y => absurd hi (by simp)
  | x :: l, 0, _, y => by
    simp [List.flatMap_cons, plC]
  | x :: l, i + 1, hi, y => by
    have ih := pl_flat_set l i (by simpa using hi) y
    rw [List.set_cons_succ, List.flatMap_cons, List.flatMap_cons, ← ih]
    have e0 : (i + 1) * 3 = (plC x).length + i * 3 := by rw [plC_len]; omega
    rw [e0, List.set_append_right _ _ (by omega), Nat.add_sub_cancel_left, Nat.add_assoc, List.set_append_right _ _ (by omega), Nat.add_sub_cancel_left, Nat.add_assoc, List.set_append_right _ _ (by omega), Nat.add_sub_cancel_left]
theorem PlAt.put {w : World} {pb : Nat} {l : List (PlaceS × Value)} (h : PlAt w pb l) (i : Nat) (hi : i < l.length) (y : PlaceS × Value) (hy : SumsAt w y.2 y.1.sums) :
    PlAt (((w.setCell ⟨pb, i * 3, none⟩ (.int .i64 (y.1.st : Int))).setCell ⟨pb, i * 3 + 1, none⟩ (.int .i64 (y.1.n : Int))).setCell ⟨pb, i * 3 + 2, none⟩ y.2) pb (l.set i y) := by
  have hF : Fr (fun k => k = pb) w (((w.setCell ⟨pb, i * 3, none⟩ (.int .i64 (y.1.st : Int))).setCell ⟨pb, i * 3 + 1, none⟩ (.int .i64 (y.1.n : Int))).setCell ⟨pb, i * 3 + 2, none⟩ y.2) :=
    (((Fr.refl (fun k => k = pb) w).setCell (p := ⟨pb, i * 3, none⟩) (fun _ => rfl) _).setCell (p := ⟨pb, i * 3 + 1, none⟩) (fun _ => rfl) _).setCell (p := ⟨pb, i * 3 + 2, none⟩) (fun _ => rfl) _
  have hne : ∀ b c, w.heap[b]? = some (.cells c 70 (0, 0)) → ¬ (b = pb) := fun b c hb e => by
    subst e
    rw [h.blk] at hb
    exact absurd (Obj.cells.inj (Option.some.inj hb)).2.1 (by decide)
  refine ⟨?_, fun x hx => ?_⟩
  · rw [heap_setCell_same (heap_setCell_same (heap_setCell_same h.blk _) _) _, List.setIfInBounds_toArray, List.setIfInBounds_toArray, List.setIfInBounds_toArray, pl_flat_set l i hi y]
  · rcases List.mem_or_eq_of_mem_set hx with hx | rfl
    · exact (h.sums x hx).fr hF hne
    · exact hy.fr hF hne
/-- cold in memory: its block x, its devices' block lb, its places' block pb, its code c, the field g -/
structure ColdAt (w : World) (x lb pb c g : Nat) (ds : List Nat) (C : ColdS) (l : List (PlaceS × Value)) : Prop where
  blk : ∃ cl, w.heap[x]? = some (.cells #[.slice (some ⟨lb, 0, none⟩) ds.length cl, .int .i64 (C.d : Int), .int .i64 (C.m : Int), .int .i64 (C.first : Int), .int .i64 (C.places.length : Int), .int .i64 (C.size : Int), ptr c, .slice (some ⟨pb, 0, none⟩) l.length l.length] 57 (0, 0))
  code : CodeS w c C.d C.m g
  devs : ∃ rest : List Value, w.heap[lb]? = some (.cells (ds.map ptr ++ rest).toArray 46 (0, 0))
  pls : PlAt w pb l
  isl : l.map (·.1) = C.places
  dl : ds.length = C.d + C.m
  most : C.places.length ≤ 1024 ∧ 1 ≤ C.size ∧ C.size ≤ 65536
theorem ColdAt.fr {w w' : World} {x lb pb c g : Nat} {ds : List Nat} {C : ColdS} {l : List (PlaceS × Value)} (h : ColdAt w x lb pb c g ds C l) {S : Nat → Prop} (hF : Fr S w w') (hS : ∀ b c T, w.heap[b]? = some (.cells c T (0, 0)) → (T = 57 ∨ T = 80 ∨ T = 104 ∨ T = 46 ∨ T = 60 ∨ T = 70) → ¬ S b) : ColdAt w' x lb pb c g ds C l := by
  obtain ⟨cl, hb⟩ := h.blk
  obtain ⟨rest, hd⟩ := h.devs
  have hfd : ¬ S g := by
    rcases h.code.fd with hf | hf
    · exact hS g _ _ hf (by simp)
    · exact hS g _ _ hf (by simp)
  exact ⟨⟨cl, hF.heap hb (hS x _ _ hb (by simp))⟩, h.code.fr hF (hS c _ _ h.code.blk (by simp)) hfd, ⟨rest, hF.heap hd (hS lb _ _ hd (by simp))⟩, h.pls.fr hF (hS pb _ _ h.pls.blk (by simp)) (fun b c hb => hS b c _ hb (by simp)), h.isl, h.dl, h.most⟩
theorem ColdAt.fr0 {w w' : World} {x lb pb c g : Nat} {ds : List Nat} {C : ColdS} {l : List (PlaceS × Value)} (h : ColdAt w x lb pb c g ds C l) (hF : Fr none_ w w') : ColdAt w' x lb pb c g ds C l := h.fr hF (fun _ _ _ _ _ h => h)
theorem ColdAt.len {w : World} {x lb pb c g : Nat} {ds : List Nat} {C : ColdS} {l : List (PlaceS × Value)} (h : ColdAt w x lb pb c g ds C l) : l.length = C.places.length := by rw [← h.isl, List.length_map]
theorem ColdAt.cells {w : World} {x lb pb c g : Nat} {ds : List Nat} {C : ColdS} {l : List (PlaceS × Value)} (h : ColdAt w x lb pb c g ds C l) : (∃ cl, w.cell? ⟨x, 0, none⟩ = some (.slice (some ⟨lb, 0, none⟩) ds.length cl)) ∧ w.cell? ⟨x, 1, none⟩ = some (.int .i64 (C.d : Int)) ∧ w.cell? ⟨x, 2, none⟩ = some (.int .i64 (C.m : Int)) ∧ w.cell? ⟨x, 3, none⟩ = some (.int .i64 (C.first : Int)) ∧ w.cell? ⟨x, 4, none⟩ = some (.int .i64 (C.places.length : Int)) ∧ w.cell? ⟨x, 5, none⟩ = some (.int .i64 (C.size : Int)) ∧ w.cell? ⟨x, 6, none⟩ = some (ptr c) ∧ w.cell? ⟨x, 7, none⟩ = some (.slice (some ⟨pb, 0, none⟩) l.length l.length) := by
  obtain ⟨cl, hb⟩ := h.blk
  refine ⟨⟨cl, ?_⟩, ?_, ?_, ?_, ?_, ?_, ?_, ?_⟩ <;> rw [cell_of_blk hb] <;> rfl
def freeN (l : List PlaceS) (k : Nat) : Nat := ((l.take k).filter (fun p => p.st == 0)).length
theorem freeN_succ (l : List PlaceS) (k : Nat) (hk : k < l.length) : freeN l (k + 1) = freeN l k + if l[k].st = 0 then 1 else 0 := by
  unfold freeN
  rw [List.take_add_one, List.getElem?_eq_getElem hk, List.filter_append, List.length_append]
  by_cases h : l[k].st = 0 <;> simp [h]
theorem freeN_le (l : List PlaceS) (k : Nat) : freeN l k ≤ k := by
  unfold freeN
  exact Nat.le_trans (List.length_filter_le _ _) (List.length_take_le _ _)
set_option maxHeartbeats 4000000 in
theorem room_any {w : World} {x lb pb c g : Nat} {ds : List Nat} {C : ColdS} {l : List (PlaceS × Value)} (h : ColdAt w x lb pb c g ds C l) :
    Calls Try.prog 9 #[ptr x] w fun e w' => e = .returned (.int .i64 (freeN C.places C.places.length : Nat)) ∧ Fr none_ w w' := by
  obtain ⟨_, _, _, _, _, _, _, c7⟩ := h.cells
  have hl := h.len
  have hm := h.most
  have H := Lib.hid h
  clear h
  go_enter Try.func9, Try.ntmps9
  go_wp2_with fail
  go_loopw [3, 14] (fun v i wr => ∃ k : Nat, k ≤ l.length ∧ i = .int .i64 k ∧ v = .int .i64 (freeN C.places k : Nat) ∧ Fr none_ w wr) (fun _ i _ => l.length - (intOf i).toNat)
  case atStart => exact ⟨0, by omega, rfl, rfl, Fr.refl _ _⟩
  case round =>
    obtain ⟨k, hk, rfl, rfl, hF⟩ := hrel
    by_cases hkl : k < l.length
    · have q1 : (k : Int) < (l.length : Int) := by omega
      have q2 : (0 : Int) ≤ (k : Int) ∧ (k : Int) < (l.length : Int) := by omega
      obtain ⟨p0, p1, p2⟩ := ((H.out.pls.fr0 hF).cells k hkl)
      have hsu := freeN_succ C.places k (by omega)
      have hle := freeN_le C.places k
      have hpk : C.places[k]'(by omega) = l[k].1 := by
        have := H.out.isl
        simp [← this]
      rw [hpk] at hsu
      obtain ⟨y, hy⟩ : ∃ y, y = l[k] := ⟨_, rfl⟩
      rw [← hy] at p0 p1 p2 hsu
      obtain ⟨As, ns, cs, hsv⟩ := ((H.out.pls.fr0 hF).sums l[k] (List.getElem_mem _)).shape
      rw [← hy] at hsv
      obtain ⟨⟨st, nn, sums⟩, sv⟩ := y
      replace hsv : sv = .slice As ns cs := hsv
      subst hsv
      replace p0 : wr.cell? ⟨pb, k * 3, none⟩ = some (.int .i64 (st : Int)) := p0
      replace p1 : wr.cell? ⟨pb, k * 3 + 1, none⟩ = some (.int .i64 (nn : Int)) := p1
      replace p2 : wr.cell? ⟨pb, k * 3 + 2, none⟩ = some (.slice As ns cs) := p2
      replace hsu : freeN C.places (k + 1) = freeN C.places k + if st = 0 then 1 else 0 := hsu
      have HS := Lib.hid hsu
      obtain ⟨q, hq⟩ : ∃ q, q = freeN C.places k := ⟨_, rfl⟩
      rw [← hq] at HS hle ⊢
      clear hsu hpk hy hq
      by_cases hst : st = 0
      · subst hst
        go_wp2_with fail
        go_roundw
        case rel => exact ⟨k + 1, by omega, by go_num, by rw [HS.out, if_pos rfl]; go_num, by first | exact hF.alloc _ | exact (hF.alloc _).drew⟩
        case measure => simp [intOf]; omega
      · have z1 : ((st : Int) == 0) = false := by simpa using (show ¬ (st : Int) = 0 by omega)
        go_wp2_with fail
        go_roundw
        case rel => exact ⟨k + 1, by omega, by go_num, by rw [HS.out, if_neg hst]; rfl, by first | exact hF.alloc _ | exact (hF.alloc _).drew⟩
        case measure => simp [intOf]; omega
    · have hk2 : k = l.length := by omega
      subst hk2
      go_wp2_with fail
      go_ret
      exact ⟨by rw [hl] <;> rfl, hF⟩
end Go.Proofs.Ytdkjmnhblepkaaa

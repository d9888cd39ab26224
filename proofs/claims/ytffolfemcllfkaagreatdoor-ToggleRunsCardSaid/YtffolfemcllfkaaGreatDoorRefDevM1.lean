import Derived.Test.YtffolfemcllfkaaGreatDoorWrN
import Derived.Lib.BufferWrite
import Derived.Deep.OwnRows
namespace Go.Proofs.YtffolfemcllfkaaGreatDoor
open Go.RowKit
set_option linter.unusedVariables false
set_option linter.unusedSimpArgs false
set_option maxRecDepth 100000

/-! The document's device (drydockref01), plain. -/
structure RefD where
  now : List (List UInt8)
  safe : List (List UInt8)
  loose : List Bool
  writes : Int
  armed : Bool
  left : Int
  crashed : Bool
  gone : Bool
def RefD.readE (R : RefD) (s : Int) : Int := if R.crashed = true ∨ R.gone = true then 13 else if s < 0 ∨ (R.now.length : Int) ≤ s then 4 else 0
def RefD.writeE (R : RefD) (s : Int) (n : Nat) : Int := if R.readE s ≠ 0 then R.readE s else if 64 < n then 2 else if R.armed = true ∧ R.left = 0 then 13 else 0
def RefD.write (R : RefD) (s : Int) (b : List UInt8) : RefD :=
  if R.readE s ≠ 0 ∨ 64 < b.length then R else if R.armed = true ∧ R.left = 0 then { R with crashed := true } else
    { R with left := wrap64 (R.left - 1), writes := wrap64 (R.writes + 1), now := R.now.set s.toNat (padB b), loose := R.loose.set s.toNat true }
def RefD.flush (R : RefD) : RefD := if R.crashed = true ∨ R.gone = true then R else { R with safe := R.now, loose := R.loose.map (fun _ => false) }
/-- a new device -/
def newRef (n : Nat) : RefD := ⟨List.replicate n zeroB, List.replicate n zeroB, List.replicate n false, 0, false, 0, false, false⟩
def RefD.rank (R : RefD) (j : Nat) : Nat := ((List.range j).filter (fun i => decide (R.loose[i]? = some true))).length
def RefD.startB (R : RefD) (kept : List Bool) (j : Nat) : List UInt8 := if R.loose[j]? = some true ∧ ¬ kept[R.rank j]? = some true then (R.safe[j]?).getD [] else (R.now[j]?).getD []
def RefD.startL (R : RefD) (kept : List Bool) : List (List UInt8) := (List.range R.now.length).map (R.startB kept)
def RefD.start (R : RefD) (kept : List Bool) : RefD := if R.gone = true then R else { R with now := R.startL kept, safe := R.startL kept, loose := R.loose.map (fun _ => false), crashed := false, armed := false }
def RefD.lose (R : RefD) : RefD := { R with safe := R.now, loose := R.loose.map (fun _ => false), gone := true }
def RefD.replace (R : RefD) : RefD := if R.gone = true then { newRef R.now.length with writes := R.writes } else R
end Go.Proofs.YtffolfemcllfkaaGreatDoor
namespace Go.Proofs.YtffolfemcllfkaaGreatDoor
open Go.RowKit
set_option linter.unusedVariables false
set_option linter.unusedSimpArgs false
set_option maxRecDepth 100000

/-! The document's device, walked: Read. -/
structure RDV (w : World) (cs : Array Value) (R : RefD) : Prop where
  rep : ∃ A1 c1 A2 c2 A3 c3, cs = #[.slice A1 R.now.length c1, .slice A2 R.now.length c2, .slice A3 R.now.length c3, .int .i64 R.writes, .bool R.armed, .int .i64 R.left, .bool R.crashed, .bool R.gone] ∧ CellsAt w A1 (R.now.map strOf) ∧ CellsAt w A2 (R.safe.map strOf) ∧ CellsAt w A3 (R.loose.map Value.bool) ∧ R.now.length ≤ c1 ∧ R.now.length ≤ c2 ∧ R.now.length ≤ c3 ∧ (A1 = none → R.now.length = 0 ∧ c1 = 0) ∧ (A2 = none → R.now.length = 0 ∧ c2 = 0) ∧ (A3 = none → R.now.length = 0 ∧ c3 = 0)
  len2 : R.safe.length = R.now.length
  len3 : R.loose.length = R.now.length
  most : R.now.length ≤ 16384
theorem RDV.fr0 {w w' : World} {cs : Array Value} {R : RefD} (h : RDV w cs R) (hF : Fr none_ w w') : RDV w' cs R := by
  obtain ⟨⟨A1, c1, A2, c2, A3, c3, e, h1, h2, h3, r⟩, l2, l3, m⟩ := h
  exact ⟨⟨A1, c1, A2, c2, A3, c3, e, h1.fr0 hF, h2.fr0 hF, h3.fr0 hF, r⟩, l2, l3, m⟩
/-- its rows lie from B on -/
structure RDB (w : World) (B : Nat) (cs : Array Value) (R : RefD) : Prop where
  rep : ∃ A1 c1 A2 c2 A3 c3, cs = #[.slice A1 R.now.length c1, .slice A2 R.now.length c2, .slice A3 R.now.length c3, .int .i64 R.writes, .bool R.armed, .int .i64 R.left, .bool R.crashed, .bool R.gone] ∧ (CellsAt w A1 (R.now.map strOf) ∧ CellsAt w A2 (R.safe.map strOf) ∧ CellsAt w A3 (R.loose.map Value.bool)) ∧ (R.now.length ≤ c1 ∧ R.now.length ≤ c2 ∧ R.now.length ≤ c3 ∧ (A1 = none → R.now.length = 0 ∧ c1 = 0) ∧ (A2 = none → R.now.length = 0 ∧ c2 = 0) ∧ (A3 = none → R.now.length = 0 ∧ c3 = 0)) ∧ (∀ b, blkOf A1 b → B ≤ b) ∧ (∀ b, blkOf A2 b → B ≤ b) ∧ (∀ b, blkOf A3 b → B ≤ b)
  len2 : R.safe.length = R.now.length
  len3 : R.loose.length = R.now.length
  most : R.now.length ≤ 16384
theorem RDB.toV {w : World} {B : Nat} {cs : Array Value} {R : RefD} (h : RDB w B cs R) : RDV w cs R := by
  obtain ⟨⟨A1, c1, A2, c2, A3, c3, e, ⟨h1, h2, h3⟩, ⟨r1, r2, r3, r4, r5, r6⟩, _⟩, l2, l3, m⟩ := h
  exact ⟨⟨A1, c1, A2, c2, A3, c3, e, h1, h2, h3, r1, r2, r3, r4, r5, r6⟩, l2, l3, m⟩
theorem RDB.fr {w w' : World} {B : Nat} {cs : Array Value} {R : RefD} (h : RDB w B cs R) {S : Nat → Prop} (hF : Fr S w w') (hn : ∀ k, B ≤ k → ¬ S k) : RDB w' B cs R := by
  obtain ⟨⟨A1, c1, A2, c2, A3, c3, e, ⟨h1, h2, h3⟩, r, b1, b2, b3⟩, l2, l3, m⟩ := h
  exact ⟨⟨A1, c1, A2, c2, A3, c3, e, ⟨h1.fr hF (fun b hb => hn b (b1 b hb)), h2.fr hF (fun b hb => hn b (b2 b hb)), h3.fr hF (fun b hb => hn b (b3 b hb))⟩, r, b1, b2, b3⟩, l2, l3, m⟩
theorem RDB.le {w : World} {B C : Nat} {cs : Array Value} {R : RefD} (h : RDB w B cs R) (hb : C ≤ B) : RDB w C cs R := by
  obtain ⟨⟨A1, c1, A2, c2, A3, c3, e, hc, r, b1, b2, b3⟩, l2, l3, m⟩ := h
  exact ⟨⟨A1, c1, A2, c2, A3, c3, e, hc, r, fun b hx => Nat.le_trans hb (b1 b hx), fun b hx => Nat.le_trans hb (b2 b hx), fun b hx => Nat.le_trans hb (b3 b hx)⟩, l2, l3, m⟩
def RefD.readB (R : RefD) (s : Int) : List UInt8 := if R.readE s = 0 then (R.now[s.toNat]?).getD [] else []
theorem ref_read {w : World} {cs : Array Value} {R : RefD} (h : RDV w cs R) (s : Int) : Calls Tryz.prog 24 #[.agg cs, .int .i64 s] w fun e w' => e = .returned (.tuple #[strOf (R.readB s), .int .i64 (R.readE s)]) ∧ Fr none_ w w' := by
  obtain ⟨⟨A1, c1, A2, c2, A3, c3, rfl, h1, h2, h3, _⟩, l2, l3, m⟩ := h
  by_cases hc : R.crashed = true
  · have hE : R.readE s = 13 := by unfold RefD.readE; rw [if_pos (.inl hc)]
    have hB : R.readB s = [] := by unfold RefD.readB; rw [hE, if_neg (by decide)]
    rw [hE, hB, hc]
    clear hE hB hc h1 h2 h3
    go_enter Tryz.func24, Tryz.ntmps24
    go_wp2_with fail
    go_ret2
    exact ⟨rfl, (Fr.refl _ _).alloc _⟩
  · have hc2 : R.crashed = false := by simpa using hc
    by_cases hg : R.gone = true
    · have hE : R.readE s = 13 := by unfold RefD.readE; rw [if_pos (.inr hg)]
      have hB : R.readB s = [] := by unfold RefD.readB; rw [hE, if_neg (by decide)]
      rw [hE, hB, hc2, hg]
      clear hE hB hc hc2 hg h1 h2 h3
      go_enter Tryz.func24, Tryz.ntmps24
      go_wp2_with fail
      go_ret2
      exact ⟨rfl, (Fr.refl _ _).alloc _⟩
    · have hg2 : R.gone = false := by simpa using hg
      have hne : ¬ (R.crashed = true ∨ R.gone = true) := by rw [hc2, hg2]; simp
      by_cases h0 : s < 0
      · have hE : R.readE s = 4 := by unfold RefD.readE; rw [if_neg hne, if_pos (.inl h0)]
        have hB : R.readB s = [] := by unfold RefD.readB; rw [hE, if_neg (by decide)]
        rw [hE, hB, hc2, hg2]
        clear hE hB hc hc2 hg hg2 hne h1 h2 h3
        go_enter Tryz.func24, Tryz.ntmps24
        go_wp2_with fail
        go_ret2
        exact ⟨rfl, (Fr.refl _ _).alloc _⟩
      · by_cases h9 : (R.now.length : Int) ≤ s
        · have hE : R.readE s = 4 := by unfold RefD.readE; rw [if_neg hne, if_pos (.inr h9)]
          have hB : R.readB s = [] := by unfold RefD.readB; rw [hE, if_neg (by decide)]
          rw [hE, hB, hc2, hg2]
          clear hE hB hc hc2 hg hg2 hne h1 h2 h3
          go_enter Tryz.func24, Tryz.ntmps24
          go_wp2_with fail
          go_ret2
          exact ⟨rfl, (Fr.refl _ _).alloc _⟩
        · have hE : R.readE s = 0 := by unfold RefD.readE; rw [if_neg hne, if_neg (by omega)]
          obtain ⟨k, rfl⟩ : ∃ k : Nat, s = (k : Int) := ⟨s.toNat, by omega⟩
          have hk : k < R.now.length := by omega
          obtain ⟨b, hb⟩ : ∃ b, b = R.now[k] := ⟨_, rfl⟩
          have hB : R.readB (k : Int) = b := by unfold RefD.readB; rw [if_pos hE, Int.toNat_natCast, List.getElem?_eq_getElem hk, hb]; rfl
          obtain ⟨g, o, rfl⟩ := h1.addr (by rw [List.length_map]; omega)
          have hcell := (h1.alloc (.cells #[.slice (some ⟨g, o, none⟩) R.now.length c1, .slice A2 R.now.length c2, .slice A3 R.now.length c3, .int .i64 R.writes, .bool false, .int .i64 R.left, .bool false, .bool false] 33)).get k (by rw [List.length_map]; exact hk)
          rw [List.getElem_map, ← hb] at hcell
          have hcw : w.cell? ⟨g, o + k, none⟩ = some (strOf b) := by
            have := h1.get k (by rw [List.length_map]; exact hk)
            rw [List.getElem_map, ← hb] at this
            exact this
          have hal : ∀ o2, (w.alloc o2).cell? ⟨g, o + k, none⟩ = some (strOf b) := fun o2 => ((Fr.refl none_ w).alloc o2).cell0 hcw
          rw [hE, hB, hc2, hg2]
          have hkn : k < R.now.length := hk
          clear hE hB hc hc2 hg hg2 hne h1 h2 h3 hb hcell hcw
          unfold strOf at *
          go_enter Tryz.func24, Tryz.ntmps24
          go_wp2_with fail
          go_ret2
          exact ⟨rfl, (Fr.refl _ _).alloc _⟩
end Go.Proofs.YtffolfemcllfkaaGreatDoor
namespace Go.Proofs.YtffolfemcllfkaaGreatDoor
open Go.RowKit
set_option linter.unusedVariables false
set_option linter.unusedSimpArgs false
set_option maxRecDepth 100000

/-! The document's device, walked: blank, Twin. -/
theorem mkR64 (w : World) : (Instr.makeSlice 37 (.int .i64 64) (.int .i64 64)).run Tryz.prog w = .ok (.slice (some ⟨w.heap.size, 0, none⟩) 64 64) (w.alloc (.cells (zeroB.map byteV).toArray 5)) := by
  have h := run_make_row' (P := Tryz.prog) 37 5 (.int .u8 0) 1 Tryz.underlying37 (show (Tryz.prog.info? 5).map (fun i => (i.zero, i.size, i.bytes)) = some (some (.int .u8 0), 1, 1) by kernel_rfl) rfl .i64 .i64 64 (by omega) (by omega) w
  rw [show madeCells #[Value.int .u8 0] 64 = (zeroB.map byteV).toArray by kernel_rfl] at h
  exact h
theorem ref_blank (l : List UInt8) (hl : l.length ≤ 64) (w : World) : Calls Tryz.prog 47 #[strOf l] w fun e w' => e = .returned (strOf (padB l)) ∧ Fr none_ w w' := by
  have kmk := mkR64 w
  obtain ⟨V, hV⟩ : ∃ V, V = w.alloc (.cells (zeroB.map byteV).toArray 5) := ⟨_, rfl⟩
  have hb : V.heap[w.heap.size]? = some (.cells (zeroB.map byteV).toArray 5 (0, 0)) := by rw [hV]; exact heap_alloc_new _ _
  have hF : Fr none_ w V := by rw [hV]; exact (Fr.refl _ _).alloc _
  rw [← hV] at kmk
  have hz : (zeroB.map byteV).toArray.size = 64 := by simp [zeroB]
  have kcp : ∀ ty, (Builtin.copy_ #[37, 9] ty #[.slice (some ⟨w.heap.size, 0, none⟩) 64 64, .string ⟨l.toArray⟩]).run Tryz.prog V = .ok (goInt l.length) (V.setRow w.heap.size ((padB l).map byteV).toArray) := fun ty => by
    have := Lib.run_copy_row_string (P := Tryz.prog) V 37 9 ty 5 w.heap.size 0 64 64 ⟨l.toArray⟩ (zeroB.map byteV).toArray 5 Tryz.underlying37 (by kernel_rfl) hb (by show l.toArray.size ≤ 64; simpa using hl) (by rw [hz]; show 0 + l.toArray.size ≤ 64; simpa using hl)
    rw [this]
    have he : ((zeroB.map byteV).toArray.toList.take 0 ++ Lib.byteCells (⟨l.toArray⟩ : ByteArray).data.toList ++ (zeroB.map byteV).toArray.toList.drop (0 + (⟨l.toArray⟩ : ByteArray).size)) = (padB l).map byteV := by
      show [] ++ l.map byteV ++ (zeroB.map byteV).drop (0 + l.toArray.size) = _
      rw [List.nil_append, Nat.zero_add, List.size_toArray, ← List.map_drop, ← List.map_append]
      unfold padB zeroB
      rw [List.drop_replicate]
    rw [he]
    rfl
  obtain ⟨W, hW⟩ : ∃ W, W = V.setRow w.heap.size ((padB l).map byteV).toArray := ⟨_, rfl⟩
  have hFW : Fr (fun i => i = w.heap.size) V W := by rw [hW]; exact ⟨rfl, rfl, rfl, by simp [World.setRow], fun k _ hk => setRow_other V w.heap.size k _ hk⟩
  have hbW : W.heap[w.heap.size]? = some (.cells ((padB l).map byteV).toArray 5 (0, 0)) := by rw [hW]; exact setRow_heap V w.heap.size _ _ _ _ hb
  rw [← hW] at kcp
  have hpl : (padB l).length = 64 := by unfold padB; simp; omega
  have kcv : (convert 37 9 (.slice (some ⟨w.heap.size, 0, none⟩) 64 64)).run Tryz.prog W = .ok (.string ⟨(padB l).toArray⟩) W := conv_bytes (P := Tryz.prog) (src := 37) (dst := 9) (w := W) Tryz.underlying37 Tryz.underlying5 Tryz.underlying9 hpl.symm (CellsAt.whole hbW) (fun h => by cases h)
  have HF := Lib.hid (hF.own hFW (Nat.le_refl _))
  clear hF hFW hb hbW hV hW hz hpl hl
  unfold strOf
  go_enter Tryz.func47, Tryz.ntmps47
  go_wp2_with fail
  go_ret
  exact ⟨rfl, HF.out⟩
theorem info_str : (Tryz.prog.info? 9).map (fun i => (i.zero, i.size, i.bytes)) = some (some (.string ⟨#[]⟩), 1, 16) := by kernel_rfl
theorem info_boo : (Tryz.prog.info? 4).map (fun i => (i.zero, i.size, i.bytes)) = some (some (.bool false), 1, 1) := by kernel_rfl
end Go.Proofs.YtffolfemcllfkaaGreatDoor
namespace Go.Proofs.YtffolfemcllfkaaGreatDoor
open Go.RowKit
set_option linter.unusedVariables false
set_option linter.unusedSimpArgs false
set_option maxRecDepth 100000

/-! The document's device, walked: Twin. -/
structure RDO (w : World) (base : Nat) (cs : Array Value) (R : RefD) : Prop where
  rep : ∃ v1 v2 v3 b2 b3, cs = #[v1, v2, v3, .int .i64 R.writes, .bool R.armed, .int .i64 R.left, .bool R.crashed, .bool R.gone] ∧ w.ownsRow base 9 1 v1 R.now.length (R.now.map strOf) ∧ w.ownsRow b2 9 1 v2 R.now.length (R.safe.map strOf) ∧ w.ownsRow b3 4 1 v3 R.now.length (R.loose.map Value.bool) ∧ base ≤ b2 ∧ b2 ≤ b3 ∧ (∀ k, v1.ownBlock = some k → k < b2) ∧ (∀ k, v2.ownBlock = some k → k < b3)
  len2 : R.safe.length = R.now.length
  len3 : R.loose.length = R.now.length
  most : R.now.length ≤ 16384
theorem RDO.toV {w : World} {base : Nat} {cs : Array Value} {R : RefD} (h : RDO w base cs R) : RDV w cs R := by
  obtain ⟨⟨v1, v2, v3, b2, b3, rfl, o1, o2, o3, _⟩, l2, l3, m⟩ := h
  obtain ⟨A1, c1, rfl, h1, n1, z1, _⟩ := ownsRow_read o1
  obtain ⟨A2, c2, rfl, h2, n2, z2, _⟩ := ownsRow_read o2
  obtain ⟨A3, c3, rfl, h3, n3, z3, _⟩ := ownsRow_read o3
  exact ⟨⟨A1, c1, A2, c2, A3, c3, rfl, h1, h2, h3, n1, n2, n3, z1, z2, z3⟩, l2, l3, m⟩
theorem ownsRow_mono0 {w : World} {b b' : Nat} {e : TypeId} {size n : Nat} {v : Value} {xs : List Value} (h : w.ownsRow b' e size v n xs) (hb : b ≤ b') : w.ownsRow b e size v n xs := by
  obtain ⟨h1, h2⟩ := h
  refine ⟨h1, ?_⟩
  rcases h2 with h2 | ⟨g, cap, cur, hv, hg, r⟩
  · exact .inl h2
  · exact .inr ⟨g, cap, cur, hv, Nat.le_trans hb hg, r⟩
theorem own_set {w : World} {base g c n : Nat} {e : TypeId} {xs : List Value} (h : w.ownsRow base e 1 (.slice (some ⟨g, 0, none⟩) n c) n xs) (k : Nat) (x : Value) : (w.setCell ⟨g, k, none⟩ x).ownsRow base e 1 (.slice (some ⟨g, 0, none⟩) n c) n (xs.set k x) := by
  obtain ⟨hl, hr⟩ := h
  refine ⟨by simpa using hl, ?_⟩
  rcases hr with ⟨hv, _⟩ | ⟨g', cap, cur, hv, hb, hg, h1, h2, h3, h4⟩
  · cases hv
  · cases hv
    refine .inr ⟨g, c, cur.setIfInBounds k x, rfl, hb, heap_setCell_same hg (o := k) x, h1, h2, by simpa using h3, ?_⟩
    rw [Array.toList_setIfInBounds, List.take_set, h4]
theorem own_cell {w : World} {base g c n : Nat} {e : TypeId} {xs : List Value} (h : w.ownsRow base e 1 (.slice (some ⟨g, 0, none⟩) n c) n xs) (k : Nat) (hk : k < n) : w.cell? ⟨g, k, none⟩ = xs[k]? ∧ w.frozen? ⟨g, k, none⟩ = false := by
  obtain ⟨hl, hr⟩ := h
  rcases hr with ⟨hv, _⟩ | ⟨g', cap, cur, hv, hb, hg, h1, h2, h3, h4⟩
  · cases hv
  · cases hv
    refine ⟨?_, frozen_of_blk hg k⟩
    rw [cell_of_blk hg, ← h4, List.getElem?_take, if_pos (by omega)]
    simp
theorem own_some {w : World} {base n : Nat} {e : TypeId} {v : Value} {xs : List Value} (h : w.ownsRow base e 1 v n xs) (hn : 0 < n) : ∃ g c, v = .slice (some ⟨g, 0, none⟩) n c ∧ base ≤ g ∧ n ≤ c := by
  obtain ⟨hl, hr⟩ := h
  rcases hr with ⟨hv, h0⟩ | ⟨g', cap, cur, hv, hb, hg, h1, h2, h3, h4⟩
  · omega
  · exact ⟨g', cap, hv, hb, h1⟩
theorem str_one (l : List (List UInt8)) : ∀ u ∈ l.map strOf, u.oneCell' = true := by
  intro u hu; obtain ⟨x, _, rfl⟩ := List.mem_map.1 hu; rfl
theorem boo_one (l : List Bool) : ∀ u ∈ l.map Value.bool, u.oneCell' = true := by
  intro u hu; obtain ⟨x, _, rfl⟩ := List.mem_map.1 hu; rfl
theorem res_twin {W : World} {b : Nat} {c : Array Value} {v0 v1 v2 v3 v4 v5 v6 v7 : Value} {T : TypeId} {F : Nat × Nat} {tmps : Array Value} (h : W.heap[b]? = some (.cells c T F)) (h0 : c[0]? = some v0) (h1 : c[1]? = some v1) (h2 : c[2]? = some v2) (h3 : c[3]? = some v3) (h4 : c[4]? = some v4) (h5 : c[5]? = some v5) (h6 : c[6]? = some v6) (h7 : c[7]? = some v7) (t2 : tmps[2]?.getD undef = ptr b) :
    (results Tryz.f49 tmps).run Tryz.prog W = .ok (.agg #[v0, v1, v2, v3, v4, v5, v6, v7]) W := by
  have c0 : W.cell? ⟨b, 0, none⟩ = some v0 := by rw [cell_of_blk h, h0]
  have c1 : W.cell? ⟨b, 1, none⟩ = some v1 := by rw [cell_of_blk h, h1]
  have c2 : W.cell? ⟨b, 2, none⟩ = some v2 := by rw [cell_of_blk h, h2]
  have c3 : W.cell? ⟨b, 3, none⟩ = some v3 := by rw [cell_of_blk h, h3]
  have c4 : W.cell? ⟨b, 4, none⟩ = some v4 := by rw [cell_of_blk h, h4]
  have c5 : W.cell? ⟨b, 5, none⟩ = some v5 := by rw [cell_of_blk h, h5]
  have c6 : W.cell? ⟨b, 6, none⟩ = some v6 := by rw [cell_of_blk h, h6]
  have c7 : W.cell? ⟨b, 7, none⟩ = some v7 := by rw [cell_of_blk h, h7]
  simp [results, Tryz.results49, go_sem, t2, c0, c1, c2, c3, c4, c5, c6, c7]
set_option maxHeartbeats 2000000 in
theorem ref_twin {w : World} {cs : Array Value} {R : RefD} (h : RDV w cs R) : Calls Tryz.prog 49 #[.agg cs] w fun e w' => ∃ cs', e = .returned (.agg cs') ∧ RDO w' w.heap.size cs' R ∧ Fr none_ w w' := by
  obtain ⟨⟨A1, c1, A2, c2, A3, c3, rfl, h1, h2, h3, r1, r2, r3, z1, z2, z3⟩, l2, l3, m⟩ := h
  have HH := Lib.hid (And.intro h1 (And.intro h2 (And.intro h3 (And.intro z1 (And.intro z2 (And.intro z3 (And.intro l2 l3)))))))
  obtain ⟨n, hn⟩ : ∃ n, n = R.now.length := ⟨_, rfl⟩
  rw [← hn] at r1 r2 r3 m
  have HN := Lib.hid hn
  clear h1 h2 h3 z1 z2 z3 l2 l3 hn
  go_enter Tryz.func49, Tryz.ntmps49
  go_upto_region 3 with fail
  obtain ⟨V, hV⟩ : ∃ V, V = (w.alloc (.cells #[.slice A1 R.now.length c1, .slice A2 R.now.length c2, .slice A3 R.now.length c3, .int .i64 R.writes, .bool R.armed, .int .i64 R.left, .bool R.crashed, .bool R.gone] 33)).alloc (.cells #[.slice none 0 0, .slice none 0 0, .slice none 0 0, .int .i64 0, .bool false, .int .i64 0, .bool false, .bool false] 33) := ⟨_, rfl⟩
  have hFV : Fr none_ w V := by rw [hV]; exact ((Fr.refl _ _).alloc _).alloc _
  have hz1 : (w.alloc (.cells #[.slice A1 R.now.length c1, .slice A2 R.now.length c2, .slice A3 R.now.length c3, .int .i64 R.writes, .bool R.armed, .int .i64 R.left, .bool R.crashed, .bool R.gone] 33)).heap.size = w.heap.size + 1 := by rw [World.size_alloc]
  have hbV : V.heap[w.heap.size]? = some (.cells #[.slice A1 R.now.length c1, .slice A2 R.now.length c2, .slice A3 R.now.length c3, .int .i64 R.writes, .bool R.armed, .int .i64 R.left, .bool R.crashed, .bool R.gone] 33 (0, 0)) := by rw [hV]; exact ((Fr.refl none_ (w.alloc (.cells #[.slice A1 R.now.length c1, .slice A2 R.now.length c2, .slice A3 R.now.length c3, .int .i64 R.writes, .bool R.armed, .int .i64 R.left, .bool R.crashed, .bool R.gone] 33))).alloc (.cells #[.slice none 0 0, .slice none 0 0, .slice none 0 0, .int .i64 0, .bool false, .int .i64 0, .bool false, .bool false] 33)).heap0 (heap_alloc_new _ _)
  have hbZ : V.heap[w.heap.size + 1]? = some (.cells #[.slice none 0 0, .slice none 0 0, .slice none 0 0, .int .i64 0, .bool false, .int .i64 0, .bool false, .bool false] 33 (0, 0)) := by rw [hV]; have := heap_alloc_new (w.alloc (.cells #[.slice A1 R.now.length c1, .slice A2 R.now.length c2, .slice A3 R.now.length c3, .int .i64 R.writes, .bool R.armed, .int .i64 R.left, .bool R.crashed, .bool R.gone] 33)) (.cells #[.slice none 0 0, .slice none 0 0, .slice none 0 0, .int .i64 0, .bool false, .int .i64 0, .bool false, .bool false] 33); rw [hz1] at this; exact this
  have hVs : w.heap.size + 1 < V.heap.size := blk_lt hbZ
  rw [← hV]
  clear hV hz1
  have a0 : V.cell? ⟨w.heap.size, 0, none⟩ = some (.slice A1 R.now.length c1) := by rw [cell_of_blk hbV]; rfl
  have f0 := frozen_of_blk hbV 0
  have HB := Lib.hid (And.intro hFV (And.intro hbV hbZ))
  have HA1 := Lib.hid (HH.out.1.fr0 hFV)
  have HN0 : Hid (V.ownsRow V.heap.size 9 1 (.slice none 0 0) 0 []) := Lib.hid (World.ownsRow_nil _ _ _ _)
  have hm2 : R.now.length ≤ 16384 := by have := HN.out; omega
  clear hFV hbV hbZ
  go_upto_region 6 with (first | ((with_reducible refine at_append (.tmp 6) (.tmp 8) 30 V.heap.size 9 (.string ⟨#[]⟩) 1 16 (v := .slice none 0 0) (n := 0) (xs := []) (A := A1) (m := R.now.length) (c := c1) (news := R.now.map strOf) Tryz.underlying30 info_str ?_ ?_ ?_ ?_ HN0.out HA1.out HH.out.2.2.2.1 ?_ ?_ ?_ ?_ ?_ ?_); (focus rfl); (focus decide); (focus rfl); (focus rfl); (focus simp); (focus exact str_one _); (focus unfold maxLen; omega); (focus omega); (focus exact Nat.le_refl _); intro v1 w1 hown1 hg1; rw [Nat.zero_add, List.nil_append] at hown1; have hF1 : Fr none_ V w1 := (Fr.of_grown hg1).mono (fun k _ e => by cases e); have hb1 := hF1.heap0 HB.out.2.1; have b1 : w1.cell? ⟨w.heap.size, 1, none⟩ = some (.slice A2 R.now.length c2) := (by rw [cell_of_blk hb1]; rfl); have g0 := frozen_of_blk hb1 0; have g00 : w1.cell? ⟨w.heap.size, 0, none⟩ = some (.slice A1 R.now.length c1) := (by rw [cell_of_blk hb1]; rfl); obtain ⟨B1, d1, hv1, _, _, _, _⟩ := ownsRow_read hown1; subst hv1; have HO1 := Lib.hid (And.intro hown1 hF1); have HS1 := Lib.hid (show Fr none_ w (w1.setCell ⟨w.heap.size, 0, none⟩ (.slice B1 R.now.length d1)) from ((HB.out.1.trans hF1).setCell (fun h => absurd h (by simp)) _)); have HV1 := Nat.le_trans hF1.size (Fr.set w1 w.heap.size 0 (.slice B1 R.now.length d1)).size; have HB1 := Lib.hid (heap_setCell_same hb1 (o := 0) (.slice B1 R.now.length d1)); have HZ1 := Lib.hid (((Fr.refl (fun i => i = w.heap.size) w1).setCell (p := ⟨w.heap.size, 0, none⟩) (fun _ => rfl) (.slice B1 R.now.length d1)).heap (hF1.heap0 HB.out.2.2) (by omega)); clear hown1 hg1 hF1 hb1) | ((with_reducible refine at_append (.tmp 11) (.tmp 13) 30 (w1.setCell ⟨w.heap.size, 0, none⟩ (.slice B1 R.now.length d1)).heap.size 9 (.string ⟨#[]⟩) 1 16 (v := .slice none 0 0) (n := 0) (xs := []) (A := A2) (m := R.now.length) (c := c2) (news := R.safe.map strOf) Tryz.underlying30 info_str ?_ ?_ ?_ ?_ (World.ownsRow_nil _ _ _ _) (HH.out.2.1.fr0 HS1.out) HH.out.2.2.2.2.1 ?_ ?_ ?_ ?_ ?_ ?_); (focus rfl); (focus decide); (focus rfl); (focus rfl); (focus (rw [List.length_map, HH.out.2.2.2.2.2.2.1, Nat.mul_one])); (focus exact str_one _); (focus unfold maxLen; omega); (focus omega); (focus exact Nat.le_refl _); intro v2 w2 hown2 hg2; rw [Nat.zero_add, List.nil_append] at hown2; have hF2 := (Fr.of_grown hg2).mono (S2 := none_) (fun k _ e => by cases e); have hb2 := hF2.heap0 HB1.out; have b2 : w2.cell? ⟨w.heap.size, 2, none⟩ = some (.slice A3 R.now.length c3) := (by rw [cell_of_blk hb2]; rfl); have q1 := frozen_of_blk hb2 1; have q11 : w2.cell? ⟨w.heap.size, 1, none⟩ = some (.slice A2 R.now.length c2) := (by rw [cell_of_blk hb2]; rfl); obtain ⟨B2, d2, hv2, _, _, _, _⟩ := ownsRow_read hown2; subst hv2; have HO2 := Lib.hid (And.intro hown2 hF2); have HS2 := Lib.hid (show Fr none_ w (w2.setCell ⟨w.heap.size, 1, none⟩ (.slice B2 R.now.length d2)) from ((HS1.out.trans hF2).setCell (fun h => absurd h (by simp)) _)); have HV2 := Nat.le_trans (Nat.le_trans HV1 hF2.size) (Fr.set w2 w.heap.size 1 (.slice B2 R.now.length d2)).size; have HB2 := Lib.hid (heap_setCell_same hb2 (o := 1) (.slice B2 R.now.length d2)); have HZ2 := Lib.hid (((Fr.refl (fun i => i = w.heap.size) w2).setCell (p := ⟨w.heap.size, 1, none⟩) (fun _ => rfl) (.slice B2 R.now.length d2)).heap (hF2.heap0 HZ1.out) (by omega)); clear hown2 hg2 hF2 hb2) | ((with_reducible refine at_append (.tmp 16) (.tmp 18) 31 (w2.setCell ⟨w.heap.size, 1, none⟩ (.slice B2 R.now.length d2)).heap.size 4 (.bool false) 1 1 (v := .slice none 0 0) (n := 0) (xs := []) (A := A3) (m := R.now.length) (c := c3) (news := R.loose.map Value.bool) Tryz.underlying31 info_boo ?_ ?_ ?_ ?_ (World.ownsRow_nil _ _ _ _) (HH.out.2.2.1.fr0 HS2.out) HH.out.2.2.2.2.2.1 ?_ ?_ ?_ ?_ ?_ ?_); (focus rfl); (focus decide); (focus rfl); (focus rfl); (focus (rw [List.length_map, HH.out.2.2.2.2.2.2.2, Nat.mul_one])); (focus exact boo_one _); (focus unfold maxLen; omega); (focus omega); (focus exact Nat.le_refl _); intro v3 w3 hown3 hg3; rw [Nat.zero_add, List.nil_append] at hown3; have hF3 := (Fr.of_grown hg3).mono (S2 := none_) (fun k _ e => by cases e); have hb3 := hF3.heap0 HB2.out; have q2 := frozen_of_blk hb3 2; have q22 : w3.cell? ⟨w.heap.size, 2, none⟩ = some (.slice A3 R.now.length c3) := (by rw [cell_of_blk hb3]; rfl); obtain ⟨B3, d3, hv3, _, _, _, _⟩ := ownsRow_read hown3; subst hv3; have HO3 := Lib.hid (And.intro hown3 hF3); have HS3 := Lib.hid (show Fr none_ w (w3.setCell ⟨w.heap.size, 2, none⟩ (.slice B3 R.now.length d3)) from ((HS2.out.trans hF3).setCell (fun h => absurd h (by simp)) _)); have HB3 := Lib.hid (heap_setCell_same hb3 (o := 2) (.slice B3 R.now.length d3)); have HZ3 := Lib.hid (((Fr.refl (fun i => i = w.heap.size) w3).setCell (p := ⟨w.heap.size, 2, none⟩) (fun _ => rfl) (.slice B3 R.now.length d3)).heap (hF3.heap0 HZ2.out) (by omega)); clear hown3 hg3 hF3 hb3))
  have HS3o := HS3.out
  have HO1o := HO1.out
  have HO2o := HO2.out
  have HO3o := HO3.out
  obtain ⟨w6, hw6⟩ : ∃ w6, w6 = w3.setCell ⟨w.heap.size, 2, none⟩ (.slice B3 R.now.length d3) := ⟨_, rfl⟩
  have hb6 := HB3.out
  have hz6 := HZ3.out
  have hF36 : Fr (fun i => i = w.heap.size) w3 w6 := by rw [hw6]; exact (Fr.set w3 w.heap.size 2 (.slice B3 R.now.length d3))
  rw [← hw6] at hb6 hz6 HS3o ⊢
  have hFix := Lib.hid (And.intro HS3o (And.intro HO1o (And.intro HO2o (And.intro HO3o hF36))))
  clear HS3o HO1o HO2o HO3o hF36
  clear HN HA1 HB HZ1 HZ2 HB1 HB2 HB3 HZ3 HO1 HO2 HO3 HS1 HS2 HS3 hw6
  clear a0 f0 b1 b2 g0 g00 q1 q11 q2 q22
  go_step
  refine at_load 33 (.tmp 1) (b := w.heap.size) ?_ hb6 Tryz.underlying33 rfl (by kernel_rfl) ?_
  · rfl
  go_simp
  refine at_store 33 (.tmp 2) (.tmp 21) (b := w.heap.size + 1) (c' := #[.slice B1 R.now.length d1, .slice B2 R.now.length d2, .slice B3 R.now.length d3, .int .i64 R.writes, .bool R.armed, .int .i64 R.left, .bool R.crashed, .bool R.gone]) ?_ ?_ hz6 ?_ ?_ ?_ ?_
  · rfl
  · rfl
  · rfl
  · kernel_rfl
  · intro u hu; simp at hu; rcases hu with rfl | rfl | rfl | rfl | rfl | rfl | rfl | rfl <;> rfl
  intro w7 hF7 hb7
  go_wp2_with fail
  refine bodyPost_ret (res_twin (b := w.heap.size + 1) hb7 rfl rfl rfl rfl rfl rfl rfl rfl rfl) rfl ?_
  obtain ⟨fS, ⟨o1, f1⟩, ⟨o2, f2⟩, ⟨o3, f3⟩, f36⟩ := hFix.out
  have s1 : V.heap.size ≤ w1.heap.size := f1.size
  have s1' := (Fr.set w1 w.heap.size 0 (.slice B1 R.now.length d1))
  have s2' := (Fr.set w2 w.heap.size 1 (.slice B2 R.now.length d2))
  have e1 : ∀ k, (Value.slice B1 R.now.length d1).ownBlock = some k → V.heap.size ≤ k ∧ k < w1.heap.size := fun k hk => ownsRow_lt o1 hk
  have e2 := fun k (hk : (Value.slice B2 R.now.length d2).ownBlock = some k) => ownsRow_lt o2 hk
  have e3 := fun k (hk : (Value.slice B3 R.now.length d3).ownBlock = some k) => ownsRow_lt o3 hk
  have z1 := s1'.size
  have z2 := s2'.size
  have z3 := f2.size
  have o1' := ownsRow_fr (ownsRow_fr (ownsRow_fr0 (ownsRow_fr (ownsRow_fr0 (ownsRow_fr o1 s1' (fun k hk e => by have := e1 k hk; omega)) f2) s2' (fun k hk e => by have := e1 k hk; omega)) f3) f36 (fun k hk e => by have := e1 k hk; omega)) hF7 (fun k hk e => by have := e1 k hk; omega)
  have o2' := ownsRow_fr (ownsRow_fr (ownsRow_fr0 (ownsRow_fr o2 s2' (fun k hk e => by have := e2 k hk; omega)) f3) f36 (fun k hk e => by have := e2 k hk; omega)) hF7 (fun k hk e => by have := e2 k hk; omega)
  have o3' := ownsRow_fr (ownsRow_fr o3 f36 (fun k hk e => by have := e3 k hk; omega)) hF7 (fun k hk e => by have := e3 k hk; omega)
  refine ⟨_, rfl, ⟨⟨_, _, _, _, _, rfl, ownsRow_mono0 o1' (by omega), o2', o3', by omega, by omega, fun k hk => ?_, fun k hk => ?_⟩, HH.out.2.2.2.2.2.2.1, HH.out.2.2.2.2.2.2.2, hm2⟩, fS.own hF7 (by omega)⟩
  · have := e1 k hk; omega
  · have := e2 k hk; omega
end Go.Proofs.YtffolfemcllfkaaGreatDoor
namespace Go.Proofs.YtffolfemcllfkaaGreatDoor
open Go.RowKit
set_option linter.unusedVariables false
set_option linter.unusedSimpArgs false
set_option maxRecDepth 100000

/-! The document's device, walked: Write. -/
theorem two_alloc (w : World) (o1 o2 : Array Value) (T : TypeId) : ∃ V, V = (w.alloc (.cells o1 T)).alloc (.cells o2 T) ∧ Fr none_ w V ∧ V.heap[w.heap.size]? = some (.cells o1 T (0, 0)) ∧ V.heap[w.heap.size + 1]? = some (.cells o2 T (0, 0)) ∧ w.heap.size + 1 < V.heap.size := by
  have h1 : (w.alloc (.cells o1 T)).heap.size = w.heap.size + 1 := World.size_alloc _ _
  have h2 := heap_alloc_new (w.alloc (.cells o1 T)) (.cells o2 T)
  rw [h1] at h2
  exact ⟨_, rfl, ((Fr.refl _ _).alloc _).alloc _, ((Fr.refl none_ (w.alloc (.cells o1 T))).alloc (.cells o2 T)).heap0 (heap_alloc_new _ _), h2, blk_lt h2⟩
theorem res_write {W : World} {b : Nat} {c : Array Value} {v0 v1 v2 v3 v4 v5 v6 v7 er : Value} {T : TypeId} {F : Nat × Nat} {tmps : Array Value} (h : W.heap[b]? = some (.cells c T F)) (h0 : c[0]? = some v0) (h1 : c[1]? = some v1) (h2 : c[2]? = some v2) (h3 : c[3]? = some v3) (h4 : c[4]? = some v4) (h5 : c[5]? = some v5) (h6 : c[6]? = some v6) (h7 : c[7]? = some v7) (t6 : tmps[6]?.getD undef = ptr b) (t7 : tmps[7]?.getD undef = er) :
    (results Tryz.f9 tmps).run Tryz.prog W = .ok (.tuple #[.agg #[v0, v1, v2, v3, v4, v5, v6, v7], er]) W := by
  have c0 : W.cell? ⟨b, 0, none⟩ = some v0 := by rw [cell_of_blk h, h0]
  have c1 : W.cell? ⟨b, 1, none⟩ = some v1 := by rw [cell_of_blk h, h1]
  have c2 : W.cell? ⟨b, 2, none⟩ = some v2 := by rw [cell_of_blk h, h2]
  have c3 : W.cell? ⟨b, 3, none⟩ = some v3 := by rw [cell_of_blk h, h3]
  have c4 : W.cell? ⟨b, 4, none⟩ = some v4 := by rw [cell_of_blk h, h4]
  have c5 : W.cell? ⟨b, 5, none⟩ = some v5 := by rw [cell_of_blk h, h5]
  have c6 : W.cell? ⟨b, 6, none⟩ = some v6 := by rw [cell_of_blk h, h6]
  have c7 : W.cell? ⟨b, 7, none⟩ = some v7 := by rw [cell_of_blk h, h7]
  simp [results, Tryz.results9, go_sem, t6, t7, c0, c1, c2, c3, c4, c5, c6, c7]

set_option maxHeartbeats 4000000 in
theorem ref_write_err {w : World} {cs : Array Value} {R : RefD} (h : RDV w cs R) (s : Int) (b : List UInt8) (hE : R.readE s ≠ 0) : Calls Tryz.prog 9 #[.agg cs, .int .i64 s, strOf b] w fun e w' => e = .returned (.tuple #[.agg cs, .int .i64 (R.readE s)]) ∧ Fr none_ w w' := by
  obtain ⟨⟨A1, c1, A2, c2, A3, c3, rfl, hrest⟩, l2, l3, m⟩ := id h
  obtain ⟨x, hx⟩ : ∃ x, x = R.readE s := ⟨_, rfl⟩
  rw [← hx] at hE ⊢
  have HX := Lib.hid hx
  have x1 : (x == 0) = false := by simpa using hE
  have x2 : (x != 0) = true := by simpa using hE
  have HH := Lib.hid h
  clear hrest l2 l3 h hx
  unfold strOf
  go_enter Tryz.func9, Tryz.ntmps9
  go_upto_region 1 with fail
  obtain ⟨V, hV, hF, hbp, hbq, hsz⟩ := two_alloc w #[.slice A1 R.now.length c1, .slice A2 R.now.length c2, .slice A3 R.now.length c3, .int .i64 R.writes, .bool R.armed, .int .i64 R.left, .bool R.crashed, .bool R.gone] #[.slice none 0 0, .slice none 0 0, .slice none 0 0, .int .i64 0, .bool false, .int .i64 0, .bool false, .bool false] 33
  rw [← hV]
  have HRV := Lib.hid (HH.out.fr0 hF)
  have HB := Lib.hid (And.intro hF (And.intro hbp hbq))
  clear hV hF hbp hbq hsz
  go_wp2_with (first | ((with_reducible refine at_load 33 (.tmp 3) (b := w.heap.size) ?_ HB.out.2.1 Tryz.underlying33 rfl (by kernel_rfl) ?_); (focus rfl)) | ((with_reducible refine (ref_read (R := R) HRV.out s).mono ?_); rintro e w1 ⟨rfl, hF1⟩; rw [← HX.out]; have HB1 := Lib.hid (And.intro (HB.out.1.trans hF1) (And.intro (hF1.heap0 HB.out.2.1) (hF1.heap0 HB.out.2.2))); clear hF1) | ((with_reducible refine at_load 33 (.tmp 3) (b := w.heap.size) ?_ HB1.out.2.1 Tryz.underlying33 rfl (by kernel_rfl) ?_); (focus rfl)) | ((with_reducible refine at_store 33 (.tmp 6) (.tmp 19) (b := w.heap.size + 1) (c' := #[.slice A1 R.now.length c1, .slice A2 R.now.length c2, .slice A3 R.now.length c3, .int .i64 R.writes, .bool R.armed, .int .i64 R.left, .bool R.crashed, .bool R.gone]) ?_ ?_ HB1.out.2.2 ?_ ?_ ?_ ?_); (focus rfl); (focus rfl); (focus rfl); (focus kernel_rfl); (focus (intro u hu; simp at hu; rcases hu with rfl | rfl | rfl | rfl | rfl | rfl | rfl | rfl <;> rfl)); intro w2 hF2 hb2; have HB2 := Lib.hid (And.intro (HB1.out.1.own hF2 (by omega)) hb2); clear hF2 hb2))
  refine bodyPost_ret (res_write (b := w.heap.size + 1) HB2.out.2 rfl rfl rfl rfl rfl rfl rfl rfl rfl rfl) rfl ?_
  exact ⟨rfl, HB2.out.1⟩
set_option maxHeartbeats 4000000 in
theorem ref_write_long {w : World} {cs : Array Value} {R : RefD} (h : RDV w cs R) (s : Int) (b : List UInt8) (hE : R.readE s = 0) (hl : 64 < b.length) : Calls Tryz.prog 9 #[.agg cs, .int .i64 s, strOf b] w fun e w' => e = .returned (.tuple #[.agg cs, .int .i64 2]) ∧ Fr none_ w w' := by
  obtain ⟨⟨A1, c1, A2, c2, A3, c3, rfl, hrest⟩, l2, l3, m⟩ := id h
  have HX := Lib.hid hE
  have HH := Lib.hid h
  have hsz0 : (⟨b.toArray⟩ : ByteArray).size = b.length := by show b.toArray.size = _; simp
  have hl2 : (64 : Int) < ((⟨b.toArray⟩ : ByteArray).size : Int) := by rw [hsz0]; omega
  have hl3 : 64 < (⟨b.toArray⟩ : ByteArray).size := by rw [hsz0]; omega
  obtain ⟨B, hB⟩ : ∃ B, B = (⟨b.toArray⟩ : ByteArray) := ⟨_, rfl⟩
  rw [← hB] at hl2 hl3
  clear hrest l2 l3 h hsz0 hl
  unfold strOf
  rw [← hB]
  clear hB hE
  go_enter Tryz.func9, Tryz.ntmps9
  go_upto_region 1 with fail
  obtain ⟨V, hV, hF, hbp, hbq, hsz⟩ := two_alloc w #[.slice A1 R.now.length c1, .slice A2 R.now.length c2, .slice A3 R.now.length c3, .int .i64 R.writes, .bool R.armed, .int .i64 R.left, .bool R.crashed, .bool R.gone] #[.slice none 0 0, .slice none 0 0, .slice none 0 0, .int .i64 0, .bool false, .int .i64 0, .bool false, .bool false] 33
  rw [← hV]
  have HRV := Lib.hid (HH.out.fr0 hF)
  have HB := Lib.hid (And.intro hF (And.intro hbp hbq))
  clear hV hF hbp hbq hsz
  go_wp2_with (first | ((with_reducible refine at_load 33 (.tmp 3) (b := w.heap.size) ?_ HB.out.2.1 Tryz.underlying33 rfl (by kernel_rfl) ?_); (focus rfl)) | ((with_reducible refine (ref_read (R := R) HRV.out s).mono ?_); rintro e w1 ⟨rfl, hF1⟩; rw [HX.out]; have HB1 := Lib.hid (And.intro (HB.out.1.trans hF1) (And.intro (hF1.heap0 HB.out.2.1) (hF1.heap0 HB.out.2.2))); clear hF1) | ((with_reducible refine at_load 33 (.tmp 3) (b := w.heap.size) ?_ HB1.out.2.1 Tryz.underlying33 rfl (by kernel_rfl) ?_); (focus rfl)) | ((with_reducible refine at_store 33 (.tmp 6) (.tmp 25) (b := w.heap.size + 1) (c' := #[.slice A1 R.now.length c1, .slice A2 R.now.length c2, .slice A3 R.now.length c3, .int .i64 R.writes, .bool R.armed, .int .i64 R.left, .bool R.crashed, .bool R.gone]) ?_ ?_ HB1.out.2.2 ?_ ?_ ?_ ?_); (focus rfl); (focus rfl); (focus rfl); (focus kernel_rfl); (focus (intro u hu; simp at hu; rcases hu with rfl | rfl | rfl | rfl | rfl | rfl | rfl | rfl <;> rfl)); intro w2 hF2 hb2; have HB2 := Lib.hid (And.intro (HB1.out.1.own hF2 (by omega)) hb2); clear hF2 hb2))
  refine bodyPost_ret (res_write (b := w.heap.size + 1) HB2.out.2 rfl rfl rfl rfl rfl rfl rfl rfl rfl rfl) rfl ?_
  exact ⟨rfl, HB2.out.1⟩
end Go.Proofs.YtffolfemcllfkaaGreatDoor
namespace Go.Proofs.YtffolfemcllfkaaGreatDoor
open Go.RowKit
set_option linter.unusedVariables false
set_option linter.unusedSimpArgs false
set_option maxRecDepth 100000

/-! The document's device, walked: Write, that writes or crashes. -/
theorem RDO.fr {w w' : World} {base : Nat} {cs : Array Value} {R : RefD} (h : RDO w base cs R) {S : Nat → Prop} (hF : Fr S w w') (hn : ∀ k, base ≤ k → k < w.heap.size → ¬ S k) : RDO w' base cs R := by
  obtain ⟨⟨v1, v2, v3, b2, b3, rfl, o1, o2, o3, e1, e2, e3, e4⟩, l2, l3, m⟩ := h
  exact ⟨⟨v1, v2, v3, b2, b3, rfl, ownsRow_fr o1 hF (fun k hk => hn k (ownsRow_lt o1 hk).1 (ownsRow_lt o1 hk).2), ownsRow_fr o2 hF (fun k hk => hn k (by have := (ownsRow_lt o2 hk).1; omega) (ownsRow_lt o2 hk).2), ownsRow_fr o3 hF (fun k hk => hn k (by have := (ownsRow_lt o3 hk).1; omega) (ownsRow_lt o3 hk).2), e1, e2, e3, e4⟩, l2, l3, m⟩
set_option maxHeartbeats 4000000 in
theorem ref_write_down {w : World} {cs : Array Value} {R : RefD} (h : RDV w cs R) (s : Int) (b : List UInt8) (hE : R.readE s = 0) (hl : b.length ≤ 64) (ha : R.armed = true) (h0 : R.left = 0) : Calls Tryz.prog 9 #[.agg cs, .int .i64 s, strOf b] w fun e w' => ∃ cs', e = .returned (.tuple #[.agg cs', .int .i64 13]) ∧ RDV w' cs' { R with crashed := true } ∧ Fr none_ w w' := by
  obtain ⟨⟨A1, c1, A2, c2, A3, c3, rfl, hrest⟩, l2, l3, m⟩ := id h
  have HX := Lib.hid hE
  have HH := Lib.hid h
  have HAR := Lib.hid (And.intro ha h0)
  have hsz0 : (⟨b.toArray⟩ : ByteArray).size = b.length := by show b.toArray.size = _; simp
  have hl2 : ¬ (64 : Int) < ((⟨b.toArray⟩ : ByteArray).size : Int) := by rw [hsz0]; omega
  have hl3 : (⟨b.toArray⟩ : ByteArray).size ≤ 64 := by rw [hsz0]; omega
  obtain ⟨B, hB⟩ : ∃ B, B = (⟨b.toArray⟩ : ByteArray) := ⟨_, rfl⟩
  rw [← hB] at hl2 hl3
  clear hrest l2 l3 h hsz0 hl ha h0
  unfold strOf
  rw [← hB]
  clear hB hE
  go_enter Tryz.func9, Tryz.ntmps9
  go_upto_region 1 with fail
  obtain ⟨V, hV, hF, hbp, hbq, hsz⟩ := two_alloc w #[.slice A1 R.now.length c1, .slice A2 R.now.length c2, .slice A3 R.now.length c3, .int .i64 R.writes, .bool R.armed, .int .i64 R.left, .bool R.crashed, .bool R.gone] #[.slice none 0 0, .slice none 0 0, .slice none 0 0, .int .i64 0, .bool false, .int .i64 0, .bool false, .bool false] 33
  rw [← hV]
  have HRV := Lib.hid (HH.out.fr0 hF)
  have HB := Lib.hid (And.intro hF (And.intro hbp hbq))
  clear hV hF hbp hbq
  go_upto_region 7 with (first | ((with_reducible refine at_load 33 (.tmp 3) (b := w.heap.size) ?_ HB.out.2.1 Tryz.underlying33 rfl (by kernel_rfl) ?_); (focus rfl)) | ((with_reducible refine (ref_read (R := R) HRV.out s).mono ?_); rintro e w1 ⟨rfl, hF1⟩; rw [HX.out]; have HB1 := Lib.hid (And.intro (HB.out.1.trans hF1) (And.intro (hF1.heap0 HB.out.2.1) (hF1.heap0 HB.out.2.2))); have hs1 := hF1.size; have HR1 := Lib.hid (HRV.out.fr0 hF1); clear hF1) | ((with_reducible refine at_load 33 (.tmp 3) (b := w.heap.size) ?_ HB1.out.2.1 Tryz.underlying33 rfl (by kernel_rfl) ?_); (focus rfl)) | ((with_reducible refine (ref_twin (R := R) HR1.out).mono ?_); rintro e w2 ⟨cs2, rfl, hO, hF2⟩; obtain ⟨v1, v2, v3, b2, b3, rfl, o1, o2, o3, hO2⟩ := id hO.rep; obtain ⟨B1, d1, rfl, -⟩ := ownsRow_read o1; obtain ⟨B2, d2, rfl, -⟩ := ownsRow_read o2; obtain ⟨B3, d3, rfl, -⟩ := ownsRow_read o3; clear hO2 o1 o2 o3; have HB2 := Lib.hid (And.intro (HB1.out.1.trans hF2) (And.intro (hF2.heap0 HB1.out.2.1) (And.intro (hF2.heap0 HB1.out.2.2) hO))); have hs2 := hF2.size; clear hF2 hO) | ((with_reducible refine at_store 33 (.tmp 3) (.tmp 27) (b := w.heap.size) (c' := #[.slice B1 R.now.length d1, .slice B2 R.now.length d2, .slice B3 R.now.length d3, .int .i64 R.writes, .bool R.armed, .int .i64 R.left, .bool R.crashed, .bool R.gone]) ?_ ?_ HB2.out.2.1 ?_ ?_ ?_ ?_); (focus rfl); (focus rfl); (focus rfl); (focus kernel_rfl); (focus (intro u hu; simp at hu; rcases hu with rfl | rfl | rfl | rfl | rfl | rfl | rfl | rfl <;> rfl)); intro w3 hF3 hb3; have HB3 := Lib.hid (And.intro (HB2.out.1.own hF3 (Nat.le_refl _)) (And.intro hb3 (And.intro (hF3.heap HB2.out.2.2.1 (by omega)) (HB2.out.2.2.2.fr hF3 (fun k h1 h2 e => by omega))))); have hs3 := hF3.size; clear hF3 hb3))
  have hbp3 := HB3.out.2.1
  have m4 : w3.cell? ⟨w.heap.size, 4, none⟩ = some (.bool true) := by rw [cell_of_blk hbp3]; show some (Value.bool R.armed) = _; rw [HAR.out.1]
  have m5 : w3.cell? ⟨w.heap.size, 5, none⟩ = some (.int .i64 0) := by rw [cell_of_blk hbp3]; show some (Value.int .i64 R.left) = _; rw [HAR.out.2]
  have m6 : w3.cell? ⟨w.heap.size, 6, none⟩ = some (.bool R.crashed) := by rw [cell_of_blk hbp3]; rfl
  have f6 := frozen_of_blk hbp3 6
  clear hbp3
  go_upto_region 9 with fail
  obtain ⟨w4, hw4⟩ : ∃ w4, w4 = w3.setCell ⟨w.heap.size, 6, none⟩ (.bool true) := ⟨_, rfl⟩
  have hF4 : Fr (fun i => i = w.heap.size) w3 w4 := by rw [hw4]; exact Fr.set w3 w.heap.size 6 (.bool true)
  have hbp4 : w4.heap[w.heap.size]? = some (.cells #[.slice B1 R.now.length d1, .slice B2 R.now.length d2, .slice B3 R.now.length d3, .int .i64 R.writes, .bool R.armed, .int .i64 R.left, .bool true, .bool R.gone] 33 (0, 0)) := by rw [hw4]; exact heap_setCell_same HB3.out.2.1 (o := 6) (.bool true)
  have hbq4 : w4.heap[w.heap.size + 1]? = some (.cells #[.slice none 0 0, .slice none 0 0, .slice none 0 0, .int .i64 0, .bool false, .int .i64 0, .bool false, .bool false] 33 (0, 0)) := hF4.heap HB3.out.2.2.1 (by omega)
  rw [← hw4]
  clear m4 m5 m6 f6 hw4
  go_wp2_with (first | ((with_reducible refine at_load 33 (.tmp 3) (b := w.heap.size) ?_ hbp4 Tryz.underlying33 rfl (by kernel_rfl) ?_); (focus rfl)) | ((with_reducible refine at_store 33 (.tmp 6) (.tmp 36) (b := w.heap.size + 1) (c' := #[.slice B1 R.now.length d1, .slice B2 R.now.length d2, .slice B3 R.now.length d3, .int .i64 R.writes, .bool R.armed, .int .i64 R.left, .bool true, .bool R.gone]) ?_ ?_ hbq4 ?_ ?_ ?_ ?_); (focus rfl); (focus rfl); (focus rfl); (focus kernel_rfl); (focus (intro u hu; simp at hu; rcases hu with rfl | rfl | rfl | rfl | rfl | rfl | rfl | rfl <;> rfl)); intro w5 hF5 hb5))
  have hend := hF5.heap hbp4
  refine bodyPost_ret (res_write (b := w.heap.size + 1) hb5 rfl rfl rfl rfl rfl rfl rfl rfl rfl rfl) rfl ?_
  have hO5 := (HB3.out.2.2.2.fr hF4 (fun k h1 h2 e => by omega)).fr hF5 (fun k h1 h2 e => by omega)
  obtain ⟨⟨v1', v2', v3', b2', b3', e0, o1, o2, o3, e1⟩, l2, l3, m⟩ := hO5
  refine ⟨_, rfl, RDO.toV ⟨⟨v1', v2', v3', b2', b3', ?_, o1, o2, o3, e1⟩, l2, l3, m⟩, (HB3.out.1.own hF4 (Nat.le_refl _)).own hF5 (by omega)⟩
  simp only [Array.mk.injEq, List.cons.injEq] at e0
  obtain ⟨e1, e2, e3, _⟩ := e0
  rw [e1, e2, e3]
  rfl
end Go.Proofs.YtffolfemcllfkaaGreatDoor
namespace Go.Proofs.YtffolfemcllfkaaGreatDoor
open Go.RowKit
set_option linter.unusedVariables false
set_option linter.unusedSimpArgs false
set_option maxRecDepth 100000

/-! The document's device: its three rows while they are written. -/
structure RW (w : World) (base n g1 d1 g2 d2 g3 d3 : Nat) (a s : List (List UInt8)) (lo : List Bool) : Prop where
  o1 : w.ownsRow base 9 1 (.slice (some ⟨g1, 0, none⟩) n d1) n (a.map strOf)
  o2 : w.ownsRow base 9 1 (.slice (some ⟨g2, 0, none⟩) n d2) n (s.map strOf)
  o3 : w.ownsRow base 4 1 (.slice (some ⟨g3, 0, none⟩) n d3) n (lo.map Value.bool)
  n12 : g1 ≠ g2
  n13 : g1 ≠ g3
  n23 : g2 ≠ g3
theorem RDO.rw {w : World} {base : Nat} {cs : Array Value} {R : RefD} (h : RDO w base cs R) (hn : 0 < R.now.length) : ∃ g1 d1 g2 d2 g3 d3, cs = #[.slice (some ⟨g1, 0, none⟩) R.now.length d1, .slice (some ⟨g2, 0, none⟩) R.now.length d2, .slice (some ⟨g3, 0, none⟩) R.now.length d3, .int .i64 R.writes, .bool R.armed, .int .i64 R.left, .bool R.crashed, .bool R.gone] ∧ RW w base R.now.length g1 d1 g2 d2 g3 d3 R.now R.safe R.loose := by
  obtain ⟨⟨v1, v2, v3, b2, b3, rfl, o1, o2, o3, e1, e2, e3, e4⟩, l2, l3, m⟩ := h
  obtain ⟨g1, d1, rfl, h1, _⟩ := own_some o1 hn
  obtain ⟨g2, d2, rfl, h2, _⟩ := own_some o2 hn
  obtain ⟨g3, d3, rfl, h3, _⟩ := own_some o3 hn
  have p1 := e3 g1 rfl
  have p2 := e4 g2 rfl
  exact ⟨g1, d1, g2, d2, g3, d3, rfl, o1, ownsRow_mono0 o2 e1, ownsRow_mono0 o3 (Nat.le_trans e1 e2), by omega, by omega, by omega⟩
theorem RW.fr {w w' : World} {base n g1 d1 g2 d2 g3 d3 : Nat} {a s : List (List UInt8)} {lo : List Bool} (h : RW w base n g1 d1 g2 d2 g3 d3 a s lo) {S : Nat → Prop} (hF : Fr S w w') (hn : ∀ k, base ≤ k → k < w.heap.size → ¬ S k) : RW w' base n g1 d1 g2 d2 g3 d3 a s lo :=
  ⟨ownsRow_fr h.o1 hF (fun k hk => hn k (ownsRow_lt h.o1 hk).1 (ownsRow_lt h.o1 hk).2), ownsRow_fr h.o2 hF (fun k hk => hn k (ownsRow_lt h.o2 hk).1 (ownsRow_lt h.o2 hk).2), ownsRow_fr h.o3 hF (fun k hk => hn k (ownsRow_lt h.o3 hk).1 (ownsRow_lt h.o3 hk).2), h.n12, h.n13, h.n23⟩
theorem RW.fr0 {w w' : World} {base n g1 d1 g2 d2 g3 d3 : Nat} {a s : List (List UInt8)} {lo : List Bool} (h : RW w base n g1 d1 g2 d2 g3 d3 a s lo) (hF : Fr none_ w w') : RW w' base n g1 d1 g2 d2 g3 d3 a s lo := h.fr hF (fun _ _ _ h => h)
theorem RW.ge {w : World} {base n g1 d1 g2 d2 g3 d3 : Nat} {a s : List (List UInt8)} {lo : List Bool} (h : RW w base n g1 d1 g2 d2 g3 d3 a s lo) : (base ≤ g1 ∧ g1 < w.heap.size) ∧ (base ≤ g2 ∧ g2 < w.heap.size) ∧ (base ≤ g3 ∧ g3 < w.heap.size) := ⟨ownsRow_lt h.o1 rfl, ownsRow_lt h.o2 rfl, ownsRow_lt h.o3 rfl⟩
theorem own_blk_eq {n c g k : Nat} (h : (Value.slice (some ⟨g, 0, none⟩) n c).ownBlock = some k) : g = k := by simpa [Value.ownBlock] using h
theorem RW.set1 {w : World} {base n g1 d1 g2 d2 g3 d3 : Nat} {a s : List (List UInt8)} {lo : List Bool} (h : RW w base n g1 d1 g2 d2 g3 d3 a s lo) (k : Nat) (x : List UInt8) : RW (w.setCell ⟨g1, k, none⟩ (strOf x)) base n g1 d1 g2 d2 g3 d3 (a.set k x) s lo := by
  have hF := Fr.set w g1 k (strOf x)
  refine ⟨?_, ownsRow_fr h.o2 hF (fun j hj e => ?_), ownsRow_fr h.o3 hF (fun j hj e => ?_), h.n12, h.n13, h.n23⟩
  · rw [List.map_set]; exact own_set h.o1 k (strOf x)
  · have := own_blk_eq hj; have := h.n12; omega
  · have := own_blk_eq hj; have := h.n13; omega
theorem RW.set2 {w : World} {base n g1 d1 g2 d2 g3 d3 : Nat} {a s : List (List UInt8)} {lo : List Bool} (h : RW w base n g1 d1 g2 d2 g3 d3 a s lo) (k : Nat) (x : List UInt8) : RW (w.setCell ⟨g2, k, none⟩ (strOf x)) base n g1 d1 g2 d2 g3 d3 a (s.set k x) lo := by
  have hF := Fr.set w g2 k (strOf x)
  refine ⟨ownsRow_fr h.o1 hF (fun j hj e => ?_), ?_, ownsRow_fr h.o3 hF (fun j hj e => ?_), h.n12, h.n13, h.n23⟩
  · have := own_blk_eq hj; have := h.n12; omega
  · rw [List.map_set]; exact own_set h.o2 k (strOf x)
  · have := own_blk_eq hj; have := h.n23; omega
theorem RW.set3 {w : World} {base n g1 d1 g2 d2 g3 d3 : Nat} {a s : List (List UInt8)} {lo : List Bool} (h : RW w base n g1 d1 g2 d2 g3 d3 a s lo) (k : Nat) (x : Bool) : RW (w.setCell ⟨g3, k, none⟩ (.bool x)) base n g1 d1 g2 d2 g3 d3 a s (lo.set k x) := by
  have hF := Fr.set w g3 k (.bool x)
  refine ⟨ownsRow_fr h.o1 hF (fun j hj e => ?_), ownsRow_fr h.o2 hF (fun j hj e => ?_), ?_, h.n12, h.n13, h.n23⟩
  · have := own_blk_eq hj; have := h.n13; omega
  · have := own_blk_eq hj; have := h.n23; omega
  · rw [List.map_set]; exact own_set h.o3 k (.bool x)
theorem RW.cells {w : World} {base n g1 d1 g2 d2 g3 d3 : Nat} {a s : List (List UInt8)} {lo : List Bool} (h : RW w base n g1 d1 g2 d2 g3 d3 a s lo) (k : Nat) (hk : k < n) :
    ((∃ x, w.cell? ⟨g1, k, none⟩ = some x) ∧ w.frozen? ⟨g1, k, none⟩ = false) ∧ ((∃ x, w.cell? ⟨g2, k, none⟩ = some x) ∧ w.frozen? ⟨g2, k, none⟩ = false) ∧ ((∃ x, w.cell? ⟨g3, k, none⟩ = some x) ∧ w.frozen? ⟨g3, k, none⟩ = false) := by
  have l1 := h.o1.1
  have l2 := h.o2.1
  have l3 := h.o3.1
  obtain ⟨c1, f1⟩ := own_cell h.o1 k hk
  obtain ⟨c2, f2⟩ := own_cell h.o2 k hk
  obtain ⟨c3, f3⟩ := own_cell h.o3 k hk
  exact ⟨⟨⟨_, c1.trans (List.getElem?_eq_getElem (by rw [l1]; omega))⟩, f1⟩, ⟨⟨_, c2.trans (List.getElem?_eq_getElem (by rw [l2]; omega))⟩, f2⟩, ⟨⟨_, c3.trans (List.getElem?_eq_getElem (by rw [l3]; omega))⟩, f3⟩⟩
theorem RW.toV {w : World} {base g1 d1 g2 d2 g3 d3 : Nat} {R : RefD} (h : RW w base R.now.length g1 d1 g2 d2 g3 d3 R.now R.safe R.loose) (l2 : R.safe.length = R.now.length) (l3 : R.loose.length = R.now.length) (m : R.now.length ≤ 16384) :
    RDV w #[.slice (some ⟨g1, 0, none⟩) R.now.length d1, .slice (some ⟨g2, 0, none⟩) R.now.length d2, .slice (some ⟨g3, 0, none⟩) R.now.length d3, .int .i64 R.writes, .bool R.armed, .int .i64 R.left, .bool R.crashed, .bool R.gone] R := by
  obtain ⟨A1, c1, e1, h1, n1, z1, _⟩ := ownsRow_read h.o1
  obtain ⟨A2, c2, e2, h2, n2, z2, _⟩ := ownsRow_read h.o2
  obtain ⟨A3, c3, e3, h3, n3, z3, _⟩ := ownsRow_read h.o3
  cases e1; cases e2; cases e3
  exact ⟨⟨_, _, _, _, _, _, rfl, h1, h2, h3, n1, n2, n3, z1, z2, z3⟩, l2, l3, m⟩
end Go.Proofs.YtffolfemcllfkaaGreatDoor

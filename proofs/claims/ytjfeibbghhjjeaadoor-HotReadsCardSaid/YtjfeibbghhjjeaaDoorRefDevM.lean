import Derived.Test.YtjfeibbghhjjeaaDoorWrN
import Derived.Lib.BufferWrite
import Derived.Deep.OwnRows
import Derived.Deep.AppendLies
import Derived.Deep.RegionHeld3
import Derived.Deep.DeepCutAuto
namespace Go.Proofs.YtjfeibbghhjjeaaDoor
open Go.RowKit
set_option linter.unusedVariables false
set_option linter.unusedSimpArgs false
set_option maxRecDepth 100000

/-! The document's device (drydockref01), plain. -/
structure RefD where
  now : List (List UInt8)
  safe : List (List UInt8)
  loose : List Bool
  writes : Int
  armed : Bool
  left : Int
  crashed : Bool
  gone : Bool
def RefD.readE (R : RefD) (s : Int) : Int := if R.crashed = true ∨ R.gone = true then 13 else if s < 0 ∨ (R.now.length : Int) ≤ s then 4 else 0
def RefD.writeE (R : RefD) (s : Int) (n : Nat) : Int := if R.readE s ≠ 0 then R.readE s else if 64 < n then 2 else if R.armed = true ∧ R.left = 0 then 13 else 0
def RefD.write (R : RefD) (s : Int) (b : List UInt8) : RefD :=
  if R.readE s ≠ 0 ∨ 64 < b.length then R else if R.armed = true ∧ R.left = 0 then { R with crashed := true } else
    { R with left := wrap64 (R.left - 1), writes := wrap64 (R.writes + 1), now := R.now.set s.toNat (padB b), loose := R.loose.set s.toNat true }
def RefD.flush (R : RefD) : RefD := if R.crashed = true ∨ R.gone = true then R else { R with safe := R.now, loose := R.loose.map (fun _ => false) }
/-- a new device -/
def newRef (n : Nat) : RefD := ⟨List.replicate n zeroB, List.replicate n zeroB, List.replicate n false, 0, false, 0, false, false⟩
end Go.Proofs.YtjfeibbghhjjeaaDoor
namespace Go.Proofs.YtjfeibbghhjjeaaDoor
open Go.RowKit
set_option linter.unusedVariables false
set_option linter.unusedSimpArgs false
set_option maxRecDepth 100000

/-! The document's device, walked: Read. -/
structure RDV (w : World) (cs : Array Value) (R : RefD) : Prop where
  rep : ∃ A1 c1 A2 c2 A3 c3, cs = #[.slice A1 R.now.length c1, .slice A2 R.now.length c2, .slice A3 R.now.length c3, .int .i64 R.writes, .bool R.armed, .int .i64 R.left, .bool R.crashed, .bool R.gone] ∧ CellsAt w A1 (R.now.map strOf) ∧ CellsAt w A2 (R.safe.map strOf) ∧ CellsAt w A3 (R.loose.map Value.bool) ∧ R.now.length ≤ c1 ∧ R.now.length ≤ c2 ∧ R.now.length ≤ c3 ∧ (A1 = none → R.now.length = 0 ∧ c1 = 0) ∧ (A2 = none → R.now.length = 0 ∧ c2 = 0) ∧ (A3 = none → R.now.length = 0 ∧ c3 = 0)
  len2 : R.safe.length = R.now.length
  len3 : R.loose.length = R.now.length
  most : R.now.length ≤ 16384
theorem RDV.fr0 {w w' : World} {cs : Array Value} {R : RefD} (h : RDV w cs R) (hF : Fr none_ w w') : RDV w' cs R := by
  obtain ⟨⟨A1, c1, A2, c2, A3, c3, e, h1, h2, h3, r⟩, l2, l3, m⟩ := h
  exact ⟨⟨A1, c1, A2, c2, A3, c3, e, h1.fr0 hF, h2.fr0 hF, h3.fr0 hF, r⟩, l2, l3, m⟩
def RefD.readB (R : RefD) (s : Int) : List UInt8 := if R.readE s = 0 then (R.now[s.toNat]?).getD [] else []
theorem ref_read {w : World} {cs : Array Value} {R : RefD} (h : RDV w cs R) (s : Int) : Calls Tryd.prog 74 #[.agg cs, .int .i64 s] w fun e w' => e = .returned (.tuple #[strOf (R.readB s), .int .i64 (R.readE s)]) ∧ Fr none_ w w' := by
  obtain ⟨⟨A1, c1, A2, c2, A3, c3, rfl, h1, h2, h3, _⟩, l2, l3, m⟩ := h
  by_cases hc : R.crashed = true
  · have hE : R.readE s = 13 := by unfold RefD.readE; rw [if_pos (.inl hc)]
    have hB : R.readB s = [] := by unfold RefD.readB; rw [hE, if_neg (by decide)]
    rw [hE, hB, hc]
    clear hE hB hc h1 h2 h3
    go_enter Tryd.func74, Tryd.ntmps74
    go_wp2_with fail
    go_ret2
    exact ⟨rfl, (Fr.refl _ _).alloc _⟩
  · have hc2 : R.crashed = false := by simpa using hc
    by_cases hg : R.gone = true
    · have hE : R.readE s = 13 := by unfold RefD.readE; rw [if_pos (.inr hg)]
      have hB : R.readB s = [] := by unfold RefD.readB; rw [hE, if_neg (by decide)]
      rw [hE, hB, hc2, hg]
      clear hE hB hc hc2 hg h1 h2 h3
      go_enter Tryd.func74, Tryd.ntmps74
      go_wp2_with fail
      go_ret2
      exact ⟨rfl, (Fr.refl _ _).alloc _⟩
    · have hg2 : R.gone = false := by simpa using hg
      have hne : ¬ (R.crashed = true ∨ R.gone = true) := by rw [hc2, hg2]; simp
      by_cases h0 : s < 0
      · have hE : R.readE s = 4 := by unfold RefD.readE; rw [if_neg hne, if_pos (.inl h0)]
        have hB : R.readB s = [] := by unfold RefD.readB; rw [hE, if_neg (by decide)]
        rw [hE, hB, hc2, hg2]
        clear hE hB hc hc2 hg hg2 hne h1 h2 h3
        go_enter Tryd.func74, Tryd.ntmps74
        go_wp2_with fail
        go_ret2
        exact ⟨rfl, (Fr.refl _ _).alloc _⟩
      · by_cases h9 : (R.now.length : Int) ≤ s
        · have hE : R.readE s = 4 := by unfold RefD.readE; rw [if_neg hne, if_pos (.inr h9)]
          have hB : R.readB s = [] := by unfold RefD.readB; rw [hE, if_neg (by decide)]
          rw [hE, hB, hc2, hg2]
          clear hE hB hc hc2 hg hg2 hne h1 h2 h3
          go_enter Tryd.func74, Tryd.ntmps74
          go_wp2_with fail
          go_ret2
          exact ⟨rfl, (Fr.refl _ _).alloc _⟩
        · have hE : R.readE s = 0 := by unfold RefD.readE; rw [if_neg hne, if_neg (by omega)]
          obtain ⟨k, rfl⟩ : ∃ k : Nat, s = (k : Int) := ⟨s.toNat, by omega⟩
          have hk : k < R.now.length := by omega
          obtain ⟨b, hb⟩ : ∃ b, b = R.now[k] := ⟨_, rfl⟩
          have hB : R.readB (k : Int) = b := by unfold RefD.readB; rw [if_pos hE, Int.toNat_natCast, List.getElem?_eq_getElem hk, hb]; rfl
          obtain ⟨g, o, rfl⟩ := h1.addr (by rw [List.length_map]; omega)
          have hcell := (h1.alloc (.cells #[.slice (some ⟨g, o, none⟩) R.now.length c1, .slice A2 R.now.length c2, .slice A3 R.now.length c3, .int .i64 R.writes, .bool false, .int .i64 R.left, .bool false, .bool false] 33)).get k (by rw [List.length_map]; exact hk)
          rw [List.getElem_map, ← hb] at hcell
          have hcw : w.cell? ⟨g, o + k, none⟩ = some (strOf b) := by
            have := h1.get k (by rw [List.length_map]; exact hk)
            rw [List.getElem_map, ← hb] at this
            exact this
          have hal : ∀ o2, (w.alloc o2).cell? ⟨g, o + k, none⟩ = some (strOf b) := fun o2 => ((Fr.refl none_ w).alloc o2).cell0 hcw
          rw [hE, hB, hc2, hg2]
          have hkn : k < R.now.length := hk
          clear hE hB hc hc2 hg hg2 hne h1 h2 h3 hb hcell hcw
          unfold strOf at *
          go_enter Tryd.func74, Tryd.ntmps74
          go_wp2_with fail
          go_ret2
          exact ⟨rfl, (Fr.refl _ _).alloc _⟩
end Go.Proofs.YtjfeibbghhjjeaaDoor
namespace Go.Proofs.YtjfeibbghhjjeaaDoor
open Go.RowKit
set_option linter.unusedVariables false
set_option linter.unusedSimpArgs false
set_option maxRecDepth 100000

/-! The document's device, walked: blank, Twin. -/
theorem mkR64 (w : World) : (Instr.makeSlice 24 (.int .i64 64) (.int .i64 64)).run Tryd.prog w = .ok (.slice (some ⟨w.heap.size, 0, none⟩) 64 64) (w.alloc (.cells (zeroB.map byteV).toArray 5)) := by
  have h := run_make_row' (P := Tryd.prog) 24 5 (.int .u8 0) 1 Tryd.underlying24 (show (Tryd.prog.info? 5).map (fun i => (i.zero, i.size, i.bytes)) = some (some (.int .u8 0), 1, 1) by kernel_rfl) rfl .i64 .i64 64 (by omega) (by omega) w
  rw [show madeCells #[Value.int .u8 0] 64 = (zeroB.map byteV).toArray by kernel_rfl] at h
  exact h
theorem ref_blank (l : List UInt8) (hl : l.length ≤ 64) (w : World) : Calls Tryd.prog 12 #[strOf l] w fun e w' => e = .returned (strOf (padB l)) ∧ Fr none_ w w' := by
  have kmk := mkR64 w
  obtain ⟨V, hV⟩ : ∃ V, V = w.alloc (.cells (zeroB.map byteV).toArray 5) := ⟨_, rfl⟩
  have hb : V.heap[w.heap.size]? = some (.cells (zeroB.map byteV).toArray 5 (0, 0)) := by rw [hV]; exact heap_alloc_new _ _
  have hF : Fr none_ w V := by rw [hV]; exact (Fr.refl _ _).alloc _
  rw [← hV] at kmk
  have hz : (zeroB.map byteV).toArray.size = 64 := by simp [zeroB]
  have kcp : ∀ ty, (Builtin.copy_ #[24, 9] ty #[.slice (some ⟨w.heap.size, 0, none⟩) 64 64, .string ⟨l.toArray⟩]).run Tryd.prog V = .ok (goInt l.length) (V.setRow w.heap.size ((padB l).map byteV).toArray) := fun ty => by
    have := Lib.run_copy_row_string (P := Tryd.prog) V 24 9 ty 5 w.heap.size 0 64 64 ⟨l.toArray⟩ (zeroB.map byteV).toArray 5 Tryd.underlying24 (by kernel_rfl) hb (by show l.toArray.size ≤ 64; simpa using hl) (by rw [hz]; show 0 + l.toArray.size ≤ 64; simpa using hl)
    rw [this]
    have he : ((zeroB.map byteV).toArray.toList.take 0 ++ Lib.byteCells (⟨l.toArray⟩ : ByteArray).data.toList ++ (zeroB.map byteV).toArray.toList.drop (0 + (⟨l.toArray⟩ : ByteArray).size)) = (padB l).map byteV := by
      show [] ++ l.map byteV ++ (zeroB.map byteV).drop (0 + l.toArray.size) = _
      rw [List.nil_append, Nat.zero_add, List.size_toArray, ← List.map_drop, ← List.map_append]
      unfold padB zeroB
      rw [List.drop_replicate]
    rw [he]
    rfl
  obtain ⟨W, hW⟩ : ∃ W, W = V.setRow w.heap.size ((padB l).map byteV).toArray := ⟨_, rfl⟩
  have hFW : Fr (fun i => i = w.heap.size) V W := by rw [hW]; exact ⟨rfl, rfl, rfl, by simp [World.setRow], fun k _ hk => setRow_other V w.heap.size k _ hk⟩
  have hbW : W.heap[w.heap.size]? = some (.cells ((padB l).map byteV).toArray 5 (0, 0)) := by rw [hW]; exact setRow_heap V w.heap.size _ _ _ _ hb
  rw [← hW] at kcp
  have hpl : (padB l).length = 64 := by unfold padB; simp; omega
  have kcv : (convert 24 9 (.slice (some ⟨w.heap.size, 0, none⟩) 64 64)).run Tryd.prog W = .ok (.string ⟨(padB l).toArray⟩) W := conv_bytes (P := Tryd.prog) (src := 24) (dst := 9) (w := W) Tryd.underlying24 Tryd.underlying5 Tryd.underlying9 hpl.symm (CellsAt.whole hbW) (fun h => by cases h)
  have HF := Lib.hid (hF.own hFW (Nat.le_refl _))
  clear hF hFW hb hbW hV hW hz hpl hl
  unfold strOf
  go_enter Tryd.func12, Tryd.ntmps12
  go_wp2_with fail
  go_ret
  exact ⟨rfl, HF.out⟩
theorem info_str : (Tryd.prog.info? 9).map (fun i => (i.zero, i.size, i.bytes)) = some (some (.string ⟨#[]⟩), 1, 16) := by kernel_rfl
theorem info_boo : (Tryd.prog.info? 4).map (fun i => (i.zero, i.size, i.bytes)) = some (some (.bool false), 1, 1) := by kernel_rfl
end Go.Proofs.YtjfeibbghhjjeaaDoor
namespace Go.Proofs.YtjfeibbghhjjeaaDoor
open Go.RowKit
set_option linter.unusedVariables false
set_option linter.unusedSimpArgs false
set_option maxRecDepth 100000

/-! The document's device, walked: New. -/
structure NwR (w wr : World) (q k1 k2 k3 : Nat) (v1 v2 v3 : Value) : Prop where
  fr : Fr none_ w wr
  hq : q = w.heap.size + 1
  blk : wr.heap[q]? = some (.cells #[v1, v2, v3, .int .i64 0, .bool false, .int .i64 0, .bool false, .bool false] 33 (0, 0))
  res : wr.heap[w.heap.size]? = some (.cells #[.slice none 0 0, .slice none 0 0, .slice none 0 0, .int .i64 0, .bool false, .int .i64 0, .bool false, .bool false] 33 (0, 0))
  o1 : wr.ownsRow (q + 1) 9 1 v1 k1 (List.replicate k1 (strOf zeroB : Value))
  o2 : wr.ownsRow (q + 1) 9 1 v2 k2 (List.replicate k2 (strOf zeroB : Value))
  o3 : wr.ownsRow (q + 1) 4 1 v3 k3 (List.replicate k3 (.bool false : Value))
  n12 : ∀ i, v1.ownBlock = some i → v2.ownBlock ≠ some i
  n13 : ∀ i, v1.ownBlock = some i → v3.ownBlock ≠ some i
  n23 : ∀ i, v2.ownBlock = some i → v3.ownBlock ≠ some i
theorem NwR.fr0 {w wr x : World} {q k1 k2 k3 : Nat} {v1 v2 v3 : Value} (h : NwR w wr q k1 k2 k3 v1 v2 v3) (hF : Fr none_ wr x) : NwR w x q k1 k2 k3 v1 v2 v3 :=
  ⟨h.fr.trans hF, h.hq, hF.heap0 h.blk, hF.heap0 h.res, ownsRow_fr0 h.o1 hF, ownsRow_fr0 h.o2 hF, ownsRow_fr0 h.o3 hF, h.n12, h.n13, h.n23⟩
theorem NwR.app1 {w x y : World} {q k1 k2 k3 : Nat} {v1 v2 v3 : Value} (h : NwR w x q k1 k2 k3 v1 v2 v3) {g cap : Nat} (ho : y.ownsRow (q + 1) 9 1 (.slice (some ⟨g, 0, none⟩) (k1 + 1) cap) (k1 + 1) ((List.replicate k1 (strOf zeroB : Value)) ++ [strOf zeroB])) (hg : x.grownBy y v1.ownBlock) (hat : v1.ownBlock = some g ∨ g = x.heap.size) :
    NwR w (y.setCell ⟨q, 0, none⟩ (.slice (some ⟨g, 0, none⟩) (k1 + 1) cap)) q (k1 + 1) k2 k3 (.slice (some ⟨g, 0, none⟩) (k1 + 1) cap) v2 v3 ∧ Fr none_ w (y.setCell ⟨q, 0, none⟩ (.slice (some ⟨g, 0, none⟩) (k1 + 1) cap)) := by
  have hgr := Fr.of_grown hg
  have hge : ∀ i, v1.ownBlock = some i → q + 1 ≤ i ∧ i < x.heap.size := fun i hi => ownsRow_lt h.o1 hi
  have hq := h.hq
  have hF2 : Fr (fun i => i = q) y (y.setCell ⟨q, 0, none⟩ (.slice (some ⟨g, 0, none⟩) (k1 + 1) cap)) := Fr.set y q 0 _
  have hgb : q + 1 ≤ g ∧ g < y.heap.size := ownsRow_lt ho rfl
  have hFr : Fr none_ w (y.setCell ⟨q, 0, none⟩ (.slice (some ⟨g, 0, none⟩) (k1 + 1) cap)) := (h.fr.trans' hgr (fun k hk e => by have := hge k e; omega)).own hF2 (by omega)
  have hb := hgr.heap h.blk (fun e => by have := hge q e; omega)
  have hr := hgr.heap h.res (fun e => by have := hge _ e; omega)
  have l1 : ∀ i, v1.ownBlock = some i → q + 1 ≤ i ∧ i < x.heap.size := fun i hi => ownsRow_lt h.o1 hi
  have l2 : ∀ i, v2.ownBlock = some i → q + 1 ≤ i ∧ i < x.heap.size := fun i hi => ownsRow_lt h.o2 hi
  have l3 : ∀ i, v3.ownBlock = some i → q + 1 ≤ i ∧ i < x.heap.size := fun i hi => ownsRow_lt h.o3 hi
  refine ⟨⟨hFr, hq, heap_setCell_same hb (o := 0) _, hF2.heap hr (by omega), ?_, ?_, ?_, ?_, ?_, ?_⟩, hFr⟩
  · rw [← List.replicate_append_replicate (n := k1) (m := 1)]
    exact ownsRow_fr ho hF2 (fun k hk e => by have := ownsRow_lt ho hk; omega)
  · exact ownsRow_fr (ownsRow_fr h.o2 hgr (fun k hk e => h.n12 k e hk)) hF2 (fun k hk e => by have := l2 k hk; omega)
  · exact ownsRow_fr (ownsRow_fr h.o3 hgr (fun k hk e => h.n13 k e hk)) hF2 (fun k hk e => by have := l3 k hk; omega)
  · intro i hi h2
    have hi : g = i := by simpa [Value.ownBlock] using hi
    subst hi
    rcases hat with e | e
    · exact h.n12 g e h2
    · have := l2 g h2; omega
  · intro i hi h2
    have hi : g = i := by simpa [Value.ownBlock] using hi
    subst hi
    rcases hat with e | e
    · exact h.n13 g e h2
    · have := l3 g h2; omega
  · exact h.n23
theorem NwR.app2 {w x y : World} {q k1 k2 k3 : Nat} {v1 v2 v3 : Value} (h : NwR w x q k1 k2 k3 v1 v2 v3) {g cap : Nat} (ho : y.ownsRow (q + 1) 9 1 (.slice (some ⟨g, 0, none⟩) (k2 + 1) cap) (k2 + 1) ((List.replicate k2 (strOf zeroB : Value)) ++ [strOf zeroB])) (hg : x.grownBy y v2.ownBlock) (hat : v2.ownBlock = some g ∨ g = x.heap.size) :
    NwR w (y.setCell ⟨q, 1, none⟩ (.slice (some ⟨g, 0, none⟩) (k2 + 1) cap)) q k1 (k2 + 1) k3 v1 (.slice (some ⟨g, 0, none⟩) (k2 + 1) cap) v3 ∧ Fr none_ w (y.setCell ⟨q, 1, none⟩ (.slice (some ⟨g, 0, none⟩) (k2 + 1) cap)) := by
  have hgr := Fr.of_grown hg
  have hge : ∀ i, v2.ownBlock = some i → q + 1 ≤ i ∧ i < x.heap.size := fun i hi => ownsRow_lt h.o2 hi
  have hq := h.hq
  have hF2 : Fr (fun i => i = q) y (y.setCell ⟨q, 1, none⟩ (.slice (some ⟨g, 0, none⟩) (k2 + 1) cap)) := Fr.set y q 1 _
  have hgb : q + 1 ≤ g ∧ g < y.heap.size := ownsRow_lt ho rfl
  have hFr : Fr none_ w (y.setCell ⟨q, 1, none⟩ (.slice (some ⟨g, 0, none⟩) (k2 + 1) cap)) := (h.fr.trans' hgr (fun k hk e => by have := hge k e; omega)).own hF2 (by omega)
  have hb := hgr.heap h.blk (fun e => by have := hge q e; omega)
  have hr := hgr.heap h.res (fun e => by have := hge _ e; omega)
  have l1 : ∀ i, v1.ownBlock = some i → q + 1 ≤ i ∧ i < x.heap.size := fun i hi => ownsRow_lt h.o1 hi
  have l2 : ∀ i, v2.ownBlock = some i → q + 1 ≤ i ∧ i < x.heap.size := fun i hi => ownsRow_lt h.o2 hi
  have l3 : ∀ i, v3.ownBlock = some i → q + 1 ≤ i ∧ i < x.heap.size := fun i hi => ownsRow_lt h.o3 hi
  refine ⟨⟨hFr, hq, heap_setCell_same hb (o := 1) _, hF2.heap hr (by omega), ?_, ?_, ?_, ?_, ?_, ?_⟩, hFr⟩
  · exact ownsRow_fr (ownsRow_fr h.o1 hgr (fun k hk e => h.n12 k hk e)) hF2 (fun k hk e => by have := l1 k hk; omega)
  · rw [← List.replicate_append_replicate (n := k2) (m := 1)]
    exact ownsRow_fr ho hF2 (fun k hk e => by have := ownsRow_lt ho hk; omega)
  · exact ownsRow_fr (ownsRow_fr h.o3 hgr (fun k hk e => h.n23 k e hk)) hF2 (fun k hk e => by have := l3 k hk; omega)
  · intro i h2 hi
    have hi : g = i := by simpa [Value.ownBlock] using hi
    subst hi
    rcases hat with e | e
    · exact h.n12 g h2 e
    · have := l1 g h2; omega
  · exact h.n13
  · intro i hi h2
    have hi : g = i := by simpa [Value.ownBlock] using hi
    subst hi
    rcases hat with e | e
    · exact h.n23 g e h2
    · have := l3 g h2; omega
theorem NwR.app3 {w x y : World} {q k1 k2 k3 : Nat} {v1 v2 v3 : Value} (h : NwR w x q k1 k2 k3 v1 v2 v3) {g cap : Nat} (ho : y.ownsRow (q + 1) 4 1 (.slice (some ⟨g, 0, none⟩) (k3 + 1) cap) (k3 + 1) ((List.replicate k3 (.bool false : Value)) ++ [.bool false])) (hg : x.grownBy y v3.ownBlock) (hat : v3.ownBlock = some g ∨ g = x.heap.size) :
    NwR w (y.setCell ⟨q, 2, none⟩ (.slice (some ⟨g, 0, none⟩) (k3 + 1) cap)) q k1 k2 (k3 + 1) v1 v2 (.slice (some ⟨g, 0, none⟩) (k3 + 1) cap) ∧ Fr none_ w (y.setCell ⟨q, 2, none⟩ (.slice (some ⟨g, 0, none⟩) (k3 + 1) cap)) := by
  have hgr := Fr.of_grown hg
  have hge : ∀ i, v3.ownBlock = some i → q + 1 ≤ i ∧ i < x.heap.size := fun i hi => ownsRow_lt h.o3 hi
  have hq := h.hq
  have hF2 : Fr (fun i => i = q) y (y.setCell ⟨q, 2, none⟩ (.slice (some ⟨g, 0, none⟩) (k3 + 1) cap)) := Fr.set y q 2 _
  have hgb : q + 1 ≤ g ∧ g < y.heap.size := ownsRow_lt ho rfl
  have hFr : Fr none_ w (y.setCell ⟨q, 2, none⟩ (.slice (some ⟨g, 0, none⟩) (k3 + 1) cap)) := (h.fr.trans' hgr (fun k hk e => by have := hge k e; omega)).own hF2 (by omega)
  have hb := hgr.heap h.blk (fun e => by have := hge q e; omega)
  have hr := hgr.heap h.res (fun e => by have := hge _ e; omega)
  have l1 : ∀ i, v1.ownBlock = some i → q + 1 ≤ i ∧ i < x.heap.size := fun i hi => ownsRow_lt h.o1 hi
  have l2 : ∀ i, v2.ownBlock = some i → q + 1 ≤ i ∧ i < x.heap.size := fun i hi => ownsRow_lt h.o2 hi
  have l3 : ∀ i, v3.ownBlock = some i → q + 1 ≤ i ∧ i < x.heap.size := fun i hi => ownsRow_lt h.o3 hi
  refine ⟨⟨hFr, hq, heap_setCell_same hb (o := 2) _, hF2.heap hr (by omega), ?_, ?_, ?_, ?_, ?_, ?_⟩, hFr⟩
  · exact ownsRow_fr (ownsRow_fr h.o1 hgr (fun k hk e => h.n13 k hk e)) hF2 (fun k hk e => by have := l1 k hk; omega)
  · exact ownsRow_fr (ownsRow_fr h.o2 hgr (fun k hk e => h.n23 k hk e)) hF2 (fun k hk e => by have := l2 k hk; omega)
  · rw [← List.replicate_append_replicate (n := k3) (m := 1)]
    exact ownsRow_fr ho hF2 (fun k hk e => by have := ownsRow_lt ho hk; omega)
  · exact h.n12
  · intro i h2 hi
    have hi : g = i := by simpa [Value.ownBlock] using hi
    subst hi
    rcases hat with e | e
    · exact h.n13 g h2 e
    · have := l1 g h2; omega
  · intro i h2 hi
    have hi : g = i := by simpa [Value.ownBlock] using hi
    subst hi
    rcases hat with e | e
    · exact h.n23 g h2 e
    · have := l2 g h2; omega
theorem own_types_ne {w : World} {b1 b2 n1 n2 s1 s2 : Nat} {e1 e2 : TypeId} {v1 v2 : Value} {xs1 xs2 : List Value} (h1 : w.ownsRow b1 e1 s1 v1 n1 xs1) (h2 : w.ownsRow b2 e2 s2 v2 n2 xs2) (hne : e1 ≠ e2) : ∀ i, v1.ownBlock = some i → v2.ownBlock ≠ some i := by
  intro i hi hj
  rcases h1.2 with ⟨rfl, _⟩ | ⟨g, cap, cur, rfl, _, hg, _⟩
  · cases hi
  · simp [Value.ownBlock] at hi
    subst hi
    rcases h2.2 with ⟨rfl, _⟩ | ⟨g2, cap2, cur2, rfl, _, hg2, _⟩
    · cases hj
    · simp [Value.ownBlock] at hj
      subst hj
      rw [hg] at hg2
      cases hg2
      exact hne rfl
theorem NwR.app3' {w x y : World} {q k1 k2 k3 : Nat} {v1 v2 v3 v' : Value} (h : NwR w x q k1 k2 k3 v1 v2 v3) (ho : y.ownsRow (q + 1) 4 1 v' (k3 + 1) (List.replicate k3 (.bool false : Value) ++ [.bool false])) (hg : x.grownBy y v3.ownBlock) :
    NwR w (y.setCell ⟨q, 2, none⟩ v') q k1 k2 (k3 + 1) v1 v2 v' := by
  have hgr := Fr.of_grown hg
  have hge : ∀ i, v3.ownBlock = some i → q + 1 ≤ i ∧ i < x.heap.size := fun i hi => ownsRow_lt h.o3 hi
  have hq := h.hq
  have hF2 : Fr (fun i => i = q) y (y.setCell ⟨q, 2, none⟩ v') := Fr.set y q 2 _
  have hFr : Fr none_ w (y.setCell ⟨q, 2, none⟩ v') := (h.fr.trans' hgr (fun k hk e => by have := hge k e; omega)).own hF2 (by omega)
  have hb := hgr.heap h.blk (fun e => by have := hge q e; omega)
  have hr := hgr.heap h.res (fun e => by have := hge _ e; omega)
  have l1 : ∀ i, v1.ownBlock = some i → q + 1 ≤ i ∧ i < x.heap.size := fun i hi => ownsRow_lt h.o1 hi
  have l2 : ∀ i, v2.ownBlock = some i → q + 1 ≤ i ∧ i < x.heap.size := fun i hi => ownsRow_lt h.o2 hi
  have o1 := ownsRow_fr (ownsRow_fr h.o1 hgr (fun k hk e => h.n13 k hk e)) hF2 (fun k hk e => by have := l1 k hk; omega)
  have o2 := ownsRow_fr (ownsRow_fr h.o2 hgr (fun k hk e => h.n23 k hk e)) hF2 (fun k hk e => by have := l2 k hk; omega)
  have o3 : (y.setCell ⟨q, 2, none⟩ v').ownsRow (q + 1) 4 1 v' (k3 + 1) (List.replicate (k3 + 1) (.bool false : Value)) := by
    rw [← List.replicate_append_replicate (n := k3) (m := 1)]
    exact ownsRow_fr ho hF2 (fun k hk e => by have := ownsRow_lt ho hk; omega)
  exact ⟨hFr, hq, heap_setCell_same hb (o := 2) _, hF2.heap hr (by omega), o1, o2, o3, h.n12, own_types_ne o1 o3 (by decide), own_types_ne o2 o3 (by decide)⟩
end Go.Proofs.YtjfeibbghhjjeaaDoor
namespace Go.Proofs.YtjfeibbghhjjeaaDoor
open Go.RowKit
set_option linter.unusedVariables false
set_option linter.unusedSimpArgs false
set_option maxRecDepth 100000

/-! The document's device, walked: New. -/
theorem own_oneCell {w : World} {base : Nat} {e : TypeId} {size n : Nat} {v : Value} {xs : List Value} (h : w.ownsRow base e size v n xs) : v.oneCell' = true := by
  obtain ⟨A, c, rfl, _⟩ := ownsRow_read h; rfl
theorem res_dev {f : Func} {W : World} {b i j : Nat} {v0 v1 v2 v3 v4 v5 v6 v7 er : Value} {T : TypeId} {F : Nat × Nat} {tmps : Array Value} (hr : f.results = #[.cell i 33, .tmp j]) (h : W.heap[b]? = some (.cells #[v0, v1, v2, v3, v4, v5, v6, v7] T F)) (t6 : tmps[i]?.getD undef = ptr b) (t7 : tmps[j]?.getD undef = er) :
    (results f tmps).run Tryd.prog W = .ok (.tuple #[.agg #[v0, v1, v2, v3, v4, v5, v6, v7], er]) W := by
  have c0 : W.cell? ⟨b, 0, none⟩ = some v0 := by rw [cell_of_blk h]; rfl
  have c1 : W.cell? ⟨b, 1, none⟩ = some v1 := by rw [cell_of_blk h]; rfl
  have c2 : W.cell? ⟨b, 2, none⟩ = some v2 := by rw [cell_of_blk h]; rfl
  have c3 : W.cell? ⟨b, 3, none⟩ = some v3 := by rw [cell_of_blk h]; rfl
  have c4 : W.cell? ⟨b, 4, none⟩ = some v4 := by rw [cell_of_blk h]; rfl
  have c5 : W.cell? ⟨b, 5, none⟩ = some v5 := by rw [cell_of_blk h]; rfl
  have c6 : W.cell? ⟨b, 6, none⟩ = some v6 := by rw [cell_of_blk h]; rfl
  have c7 : W.cell? ⟨b, 7, none⟩ = some v7 := by rw [cell_of_blk h]; rfl
  simp [results, hr, go_sem, t6, t7, c0, c1, c2, c3, c4, c5, c6, c7]
theorem NwR.qsz {w x : World} {q k1 k2 k3 : Nat} {v1 v2 v3 : Value} (h : NwR w x q k1 k2 k3 v1 v2 v3) : q + 1 ≤ x.heap.size := by
  have := blk_lt h.blk; omega
theorem NwR.cell1 {w x : World} {q k1 k2 k3 : Nat} {v1 v2 v3 : Value} (h : NwR w x q k1 k2 k3 v1 v2 v3) : x.cell? ⟨q, 0, none⟩ = some v1 := by rw [cell_of_blk h.blk]; rfl
theorem NwR.cellg1 {w x y : World} {q k1 k2 k3 : Nat} {v1 v2 v3 : Value} (h : NwR w x q k1 k2 k3 v1 v2 v3) (hg : x.grownBy y v1.ownBlock) : y.cell? ⟨q, 0, none⟩ = some v1 ∧ y.frozen? ⟨q, 0, none⟩ = false := by
  have hb := (Fr.of_grown hg).heap h.blk (fun e => by have := ownsRow_lt h.o1 e; omega)
  exact ⟨by rw [cell_of_blk hb]; rfl, frozen_of_blk hb 0⟩
theorem NwR.cell2 {w x : World} {q k1 k2 k3 : Nat} {v1 v2 v3 : Value} (h : NwR w x q k1 k2 k3 v1 v2 v3) : x.cell? ⟨q, 1, none⟩ = some v2 := by rw [cell_of_blk h.blk]; rfl
theorem NwR.cellg2 {w x y : World} {q k1 k2 k3 : Nat} {v1 v2 v3 : Value} (h : NwR w x q k1 k2 k3 v1 v2 v3) (hg : x.grownBy y v2.ownBlock) : y.cell? ⟨q, 1, none⟩ = some v2 ∧ y.frozen? ⟨q, 1, none⟩ = false := by
  have hb := (Fr.of_grown hg).heap h.blk (fun e => by have := ownsRow_lt h.o2 e; omega)
  exact ⟨by rw [cell_of_blk hb]; rfl, frozen_of_blk hb 1⟩
theorem NwR.cell3 {w x : World} {q k1 k2 k3 : Nat} {v1 v2 v3 : Value} (h : NwR w x q k1 k2 k3 v1 v2 v3) : x.cell? ⟨q, 2, none⟩ = some v3 := by rw [cell_of_blk h.blk]; rfl
theorem NwR.cellg3 {w x y : World} {q k1 k2 k3 : Nat} {v1 v2 v3 : Value} (h : NwR w x q k1 k2 k3 v1 v2 v3) (hg : x.grownBy y v3.ownBlock) : y.cell? ⟨q, 2, none⟩ = some v3 ∧ y.frozen? ⟨q, 2, none⟩ = false := by
  have hb := (Fr.of_grown hg).heap h.blk (fun e => by have := ownsRow_lt h.o3 e; omega)
  exact ⟨by rw [cell_of_blk hb]; rfl, frozen_of_blk hb 2⟩
set_option maxHeartbeats 8000000 in
theorem ref_new {n : Nat} (hn : 1 ≤ n ∧ n ≤ 16384) (w : World) : Calls Tryd.prog 5 #[.int .i64 (n : Int)] w fun e w' => ∃ cs, e = .returned (.tuple #[.agg cs, .int .i64 0]) ∧ RDV w' cs (newRef n) ∧ Fr none_ w w' := by
  have hbl : ∀ W, Calls Tryd.prog 12 #[.string ⟨#[]⟩] W fun e w' => e = .returned (.string ⟨zeroB.toArray⟩) ∧ Fr none_ W w' := fun W => ref_blank [] (by decide) W
  have HBL := Lib.hid hbl
  have n1 : ¬ (n : Int) < 1 := by omega
  have n2 : ¬ (16384 : Int) < (n : Int) := by omega
  have n3 : ¬ 16384 < n := by omega
  obtain ⟨i0, hi0, hz0, hz1, hz2⟩ := info_parts info_str
  obtain ⟨i1, hi1, hy0, hy1, hy2⟩ := info_parts info_boo
  clear hbl
  go_enter Tryd.func5, Tryd.ntmps5
  go_wp2_with fail
  obtain ⟨q, hq⟩ : ∃ q, q = w.heap.size + 1 := ⟨_, rfl⟩
  have hN0 : NwR w ((w.alloc (.cells #[.slice none 0 0, .slice none 0 0, .slice none 0 0, .int .i64 0, .bool false, .int .i64 0, .bool false, .bool false] 33)).alloc (.cells #[.slice none 0 0, .slice none 0 0, .slice none 0 0, .int .i64 0, .bool false, .int .i64 0, .bool false, .bool false] 33)) q 0 0 0 (.slice none 0 0) (.slice none 0 0) (.slice none 0 0) := by
    refine ⟨((Fr.refl _ _).alloc _).alloc _, hq, ?_, ?_, World.ownsRow_nil _ _ _ _, World.ownsRow_nil _ _ _ _, World.ownsRow_nil _ _ _ _, (fun i h => by cases h), (fun i h => by cases h), (fun i h => by cases h)⟩
    · have h2 := heap_alloc_new (w.alloc (.cells #[.slice none 0 0, .slice none 0 0, .slice none 0 0, .int .i64 0, .bool false, .int .i64 0, .bool false, .bool false] 33)) (.cells #[.slice none 0 0, .slice none 0 0, .slice none 0 0, .int .i64 0, .bool false, .int .i64 0, .bool false, .bool false] 33)
      rw [World.size_alloc, ← hq] at h2
      exact h2
    · exact ((Fr.refl none_ (w.alloc (.cells #[.slice none 0 0, .slice none 0 0, .slice none 0 0, .int .i64 0, .bool false, .int .i64 0, .bool false, .bool false] 33))).alloc _).heap0 (heap_alloc_new _ _)
  have HN0 := Lib.hid hN0
  rw [← hq]
  have HQ := Lib.hid hq
  clear hN0 hq
  go_loopw [5] (fun i wr => ∃ k : Nat, ∃ v1 v2 v3 : Value, k ≤ n ∧ i = .int .i64 (k : Int) ∧ NwR w wr q k k k v1 v2 v3) (fun i _ => n - (intOf i).toNat)
  case atStart => exact ⟨0, _, _, _, by omega, rfl, HN0.out⟩
  case round =>
    obtain ⟨k, v1, v2, v3, hk, rfl, hR⟩ := hrel
    clear HN0
    have HR := Lib.hid hR
    by_cases hlt : k < n
    · have k1 : (k : Int) < (n : Int) := by omega
      have c0 := hR.cell1
      have d0 : wr.drew.cell? ⟨q, 0, none⟩ = some v1 := c0
      clear hR
      go_upto_region 7 with fail
      go_cut [] (fun wx => ∃ g cap, NwR w wx q (k + 1) k k (.slice (some ⟨g, 0, none⟩) (k + 1) cap) v2 v3)
      case first =>
        refine wp_region_held_drew (S := fun _ => True) (by kernel_rfl) trivial (fun hHeld0 => ?_)
        refine wpAnyH_take (i := 0) (oi := _) (v := ?va1) rfl (by kernel_rfl) (by kernel_rfl) (by kernel_rfl) (fun _ _ _ h => h) (Or.inl ⟨by rfl, ?hya1⟩) trivial ?resta1
        case hya1 => (intro w hSw; (try dsimp only at hSw); go_simp; try with_reducible rfl)
        try simp only [List.getElem_toArray, List.getElem_cons_zero, List.getElem_cons_succ, Act.put, List.setIfInBounds_toArray, List.set_cons_zero, List.set_cons_succ]
        refine wpAnyH_ready (rs := [1, 2]) (by kernel_rfl) (by simp) ?_
        refine AllReadyH.cons (o := _) rfl (fun KK hKK => ?_) (AllReadyH.cons (o := _) rfl (fun KK hKK => ?_) (AllReadyH.nil))
        · go_simp
          refine hKK.out _ _ ?hSa2 (fun hHelda2 => ?resta2)
          case hSa2 => exact trivial
          clear hKK KK
          try simp only [List.getElem_toArray, List.getElem_cons_zero, List.getElem_cons_succ, Act.put, List.setIfInBounds_toArray, List.set_cons_zero, List.set_cons_succ]
          refine wpAnyH_ready (rs := [2]) (by kernel_rfl) (by simp) ?_
          refine AllReadyH.cons (o := _) rfl (fun KK hKK => ?_) (AllReadyH.nil)
          go_simp
          (go_at_call 12; (with_reducible refine (HBL.out _).mono ?_); rintro e x1 ⟨rfl, hY1⟩; have hX1 := (Fr.refl none_ wr).drew.trans hY1; have hX2 := hX1.alloc (.cells #[.string ⟨zeroB.toArray⟩] 9); have hn1 := HR.out.fr0 hX1; have hn2 := HR.out.fr0 hX2; have c1 := hn1.cell1; have c2 := hn2.cell1; have HN2 := Lib.hid hn2; have hXs : x1.heap.size < (x1.alloc (.cells #[.string ⟨zeroB.toArray⟩] 9)).heap.size := (by rw [World.size_alloc]; omega); have hXq : q + 1 ≤ x1.heap.size := hn1.qsz; have hb1 := heap_alloc_new x1 (.cells #[.string ⟨zeroB.toArray⟩] 9); have HAT := Lib.hid hb1; clear hn1 hn2 hb1)
          go_wp2_with fail
          refine hKK.out _ _ ?hSa3 (fun hHelda3 => ?resta3)
          case hSa3 => exact trivial
          clear hKK KK
          try simp only [List.getElem_toArray, List.getElem_cons_zero, List.getElem_cons_succ, Act.put, List.setIfInBounds_toArray, List.set_cons_zero, List.set_cons_succ]
          refine wpAnyH_ready (rs := [3]) (by kernel_rfl) (by simp) ?_
          refine AllReadyH.cons (o := _) rfl (fun KK hKK => ?_) (AllReadyH.nil)
          go_simp
          refine hKK.out _ _ ?hSa4 (fun hHelda4 => ?resta4)
          case hSa4 => exact trivial
          clear hKK KK
          try simp only [List.getElem_toArray, List.getElem_cons_zero, List.getElem_cons_succ, Act.put, List.setIfInBounds_toArray, List.set_cons_zero, List.set_cons_succ]
          refine wpAnyH_ready (rs := [4]) (by kernel_rfl) (by simp) ?_
          refine AllReadyH.cons (o := _) rfl (fun KK hKK => ?_) (AllReadyH.nil)
          (refine step_append_lies _ (by rfl) _ _ _ (by rfl) (q + 1) 9 i0 _ 1 16 Tryd.underlying30 hi0 hz0 hz1 hz2 rfl (by omega) v1 k (List.replicate k (strOf zeroB)) (by rfl) HN2.out.o1 ⟨x1.heap.size, 0, none⟩ 1 1 [strOf zeroB] (by rfl) (by rfl) (World.news_of_block HAT.out) (by intro u hu; simp at hu; subst hu; rfl) (by omega) (by unfold maxLen; omega) (by omega) (by omega) _ rfl ?_; intro ga capa ya hy1 hy2 hy3 hy4; have hcy := HN2.out.cellg1 hy2; have hfy1 := hcy.1; have hfy2 := hcy.2; have HYa := Lib.hid (HN2.out.app1 hy1 hy2 hy3))
          refine hKK.out _ _ ?hSa5 (fun hHelda5 => ?resta5)
          case hSa5 => exact trivial
          clear hKK KK
          try simp only [List.getElem_toArray, List.getElem_cons_zero, List.getElem_cons_succ, Act.put, List.setIfInBounds_toArray, List.set_cons_zero, List.set_cons_succ]
          refine wpAnyH_take (i := 5) (oi := _) (v := ?va6) rfl (by kernel_rfl) (by kernel_rfl) (by kernel_rfl) (fun _ _ _ h => h) (Or.inl ⟨by rfl, ?hya6⟩) trivial ?resta6
          case hya6 => (intro w hSw; (try dsimp only at hSw); go_simp; try with_reducible rfl)
          try simp only [List.getElem_toArray, List.getElem_cons_zero, List.getElem_cons_succ, Act.put, List.setIfInBounds_toArray, List.set_cons_zero, List.set_cons_succ]
          refine wpAnyH_ready (rs := [6]) (by kernel_rfl) (by simp) ?_
          refine AllReadyH.cons (o := _) rfl (fun KK hKK => ?_) (AllReadyH.nil)
          go_simp
          refine hKK.out _ _ ?hSa7 (fun hHelda7 => ?resta7)
          case hSa7 => exact trivial
          clear hKK KK
          try simp only [List.getElem_toArray, List.getElem_cons_zero, List.getElem_cons_succ, Act.put, List.setIfInBounds_toArray, List.set_cons_zero, List.set_cons_succ]
          refine wpAnyH_done (by kernel_rfl) ?_ _
          go_wp2_with fail
          go_meet
          exact ⟨_, _, HYa.out.1⟩
        · go_simp
          (go_at_call 12; (with_reducible refine (HBL.out _).mono ?_); rintro e x1 ⟨rfl, hY1⟩; have hX1 := (Fr.refl none_ wr).drew.trans hY1; have hX2 := hX1.alloc (.cells #[.string ⟨zeroB.toArray⟩] 9); have hn1 := HR.out.fr0 hX1; have hn2 := HR.out.fr0 hX2; have c1 := hn1.cell1; have c2 := hn2.cell1; have HN2 := Lib.hid hn2; have hXs : x1.heap.size < (x1.alloc (.cells #[.string ⟨zeroB.toArray⟩] 9)).heap.size := (by rw [World.size_alloc]; omega); have hXq : q + 1 ≤ x1.heap.size := hn1.qsz; have hb1 := heap_alloc_new x1 (.cells #[.string ⟨zeroB.toArray⟩] 9); have HAT := Lib.hid hb1; clear hn1 hn2 hb1)
          go_wp2_with fail
          refine hKK.out _ _ ?hSa8 (fun hHelda8 => ?resta8)
          case hSa8 => exact trivial
          clear hKK KK
          try simp only [List.getElem_toArray, List.getElem_cons_zero, List.getElem_cons_succ, Act.put, List.setIfInBounds_toArray, List.set_cons_zero, List.set_cons_succ]
          refine wpAnyH_ready (rs := [1, 3]) (by kernel_rfl) (by simp) ?_
          refine AllReadyH.cons (o := _) rfl (fun KK hKK => ?_) (AllReadyH.cons (o := _) rfl (fun KK hKK => ?_) (AllReadyH.nil))
          · go_simp
            refine hKK.out _ _ ?hSa9 (fun hHelda9 => ?resta9)
            case hSa9 => exact trivial
            clear hKK KK
            try simp only [List.getElem_toArray, List.getElem_cons_zero, List.getElem_cons_succ, Act.put, List.setIfInBounds_toArray, List.set_cons_zero, List.set_cons_succ]
            refine wpAnyH_ready (rs := [3]) (by kernel_rfl) (by simp) ?_
            refine AllReadyH.cons (o := _) rfl (fun KK hKK => ?_) (AllReadyH.nil)
            go_simp
            refine hKK.out _ _ ?hSa10 (fun hHelda10 => ?resta10)
            case hSa10 => exact trivial
            clear hKK KK
            try simp only [List.getElem_toArray, List.getElem_cons_zero, List.getElem_cons_succ, Act.put, List.setIfInBounds_toArray, List.set_cons_zero, List.set_cons_succ]
            refine wpAnyH_ready (rs := [4]) (by kernel_rfl) (by simp) ?_
            refine AllReadyH.cons (o := _) rfl (fun KK hKK => ?_) (AllReadyH.nil)
            (refine step_append_lies _ (by rfl) _ _ _ (by rfl) (q + 1) 9 i0 _ 1 16 Tryd.underlying30 hi0 hz0 hz1 hz2 rfl (by omega) v1 k (List.replicate k (strOf zeroB)) (by rfl) HN2.out.o1 ⟨x1.heap.size, 0, none⟩ 1 1 [strOf zeroB] (by rfl) (by rfl) (World.news_of_block HAT.out) (by intro u hu; simp at hu; subst hu; rfl) (by omega) (by unfold maxLen; omega) (by omega) (by omega) _ rfl ?_; intro ga capa ya hy1 hy2 hy3 hy4; have hcy := HN2.out.cellg1 hy2; have hfy1 := hcy.1; have hfy2 := hcy.2; have HYa := Lib.hid (HN2.out.app1 hy1 hy2 hy3))
            refine hKK.out _ _ ?hSa11 (fun hHelda11 => ?resta11)
            case hSa11 => exact trivial
            clear hKK KK
            try simp only [List.getElem_toArray, List.getElem_cons_zero, List.getElem_cons_succ, Act.put, List.setIfInBounds_toArray, List.set_cons_zero, List.set_cons_succ]
            refine wpAnyH_take (i := 5) (oi := _) (v := ?va12) rfl (by kernel_rfl) (by kernel_rfl) (by kernel_rfl) (fun _ _ _ h => h) (Or.inl ⟨by rfl, ?hya12⟩) trivial ?resta12
            case hya12 => (intro w hSw; (try dsimp only at hSw); go_simp; try with_reducible rfl)
            try simp only [List.getElem_toArray, List.getElem_cons_zero, List.getElem_cons_succ, Act.put, List.setIfInBounds_toArray, List.set_cons_zero, List.set_cons_succ]
            refine wpAnyH_ready (rs := [6]) (by kernel_rfl) (by simp) ?_
            refine AllReadyH.cons (o := _) rfl (fun KK hKK => ?_) (AllReadyH.nil)
            go_simp
            refine hKK.out _ _ ?hSa13 (fun hHelda13 => ?resta13)
            case hSa13 => exact trivial
            clear hKK KK
            try simp only [List.getElem_toArray, List.getElem_cons_zero, List.getElem_cons_succ, Act.put, List.setIfInBounds_toArray, List.set_cons_zero, List.set_cons_succ]
            refine wpAnyH_done (by kernel_rfl) ?_ _
            go_wp2_with fail
            go_meet
            exact ⟨_, _, HYa.out.1⟩
          · go_simp
            refine hKK.out _ _ ?hSa14 (fun hHelda14 => ?resta14)
            case hSa14 => exact trivial
            clear hKK KK
            try simp only [List.getElem_toArray, List.getElem_cons_zero, List.getElem_cons_succ, Act.put, List.setIfInBounds_toArray, List.set_cons_zero, List.set_cons_succ]
            refine wpAnyH_ready (rs := [1]) (by kernel_rfl) (by simp) ?_
            refine AllReadyH.cons (o := _) rfl (fun KK hKK => ?_) (AllReadyH.nil)
            go_simp
            refine hKK.out _ _ ?hSa15 (fun hHelda15 => ?resta15)
            case hSa15 => exact trivial
            clear hKK KK
            try simp only [List.getElem_toArray, List.getElem_cons_zero, List.getElem_cons_succ, Act.put, List.setIfInBounds_toArray, List.set_cons_zero, List.set_cons_succ]
            refine wpAnyH_ready (rs := [4]) (by kernel_rfl) (by simp) ?_
            refine AllReadyH.cons (o := _) rfl (fun KK hKK => ?_) (AllReadyH.nil)
            (refine step_append_lies _ (by rfl) _ _ _ (by rfl) (q + 1) 9 i0 _ 1 16 Tryd.underlying30 hi0 hz0 hz1 hz2 rfl (by omega) v1 k (List.replicate k (strOf zeroB)) (by rfl) HN2.out.o1 ⟨x1.heap.size, 0, none⟩ 1 1 [strOf zeroB] (by rfl) (by rfl) (World.news_of_block HAT.out) (by intro u hu; simp at hu; subst hu; rfl) (by omega) (by unfold maxLen; omega) (by omega) (by omega) _ rfl ?_; intro ga capa ya hy1 hy2 hy3 hy4; have hcy := HN2.out.cellg1 hy2; have hfy1 := hcy.1; have hfy2 := hcy.2; have HYa := Lib.hid (HN2.out.app1 hy1 hy2 hy3))
            refine hKK.out _ _ ?hSa16 (fun hHelda16 => ?resta16)
            case hSa16 => exact trivial
            clear hKK KK
            try simp only [List.getElem_toArray, List.getElem_cons_zero, List.getElem_cons_succ, Act.put, List.setIfInBounds_toArray, List.set_cons_zero, List.set_cons_succ]
            refine wpAnyH_take (i := 5) (oi := _) (v := ?va17) rfl (by kernel_rfl) (by kernel_rfl) (by kernel_rfl) (fun _ _ _ h => h) (Or.inl ⟨by rfl, ?hya17⟩) trivial ?resta17
            case hya17 => (intro w hSw; (try dsimp only at hSw); go_simp; try with_reducible rfl)
            try simp only [List.getElem_toArray, List.getElem_cons_zero, List.getElem_cons_succ, Act.put, List.setIfInBounds_toArray, List.set_cons_zero, List.set_cons_succ]
            refine wpAnyH_ready (rs := [6]) (by kernel_rfl) (by simp) ?_
            refine AllReadyH.cons (o := _) rfl (fun KK hKK => ?_) (AllReadyH.nil)
            go_simp
            refine hKK.out _ _ ?hSa18 (fun hHelda18 => ?resta18)
            case hSa18 => exact trivial
            clear hKK KK
            try simp only [List.getElem_toArray, List.getElem_cons_zero, List.getElem_cons_succ, Act.put, List.setIfInBounds_toArray, List.set_cons_zero, List.set_cons_succ]
            refine wpAnyH_done (by kernel_rfl) ?_ _
            go_wp2_with fail
            go_meet
            exact ⟨_, _, HYa.out.1⟩
      case rest =>
        obtain ⟨ga, capa, hRa⟩ := hcut
        have HRa := Lib.hid hRa
        have e0 := hRa.cell2
        have f0 : wc.drew.cell? ⟨q, 1, none⟩ = some v2 := e0
        clear hRa c0 d0
        go_upto_region 8 with fail
        go_cut [] (fun wx => ∃ g cap, NwR w wx q (k + 1) (k + 1) k (.slice (some ⟨ga, 0, none⟩) (k + 1) capa) (.slice (some ⟨g, 0, none⟩) (k + 1) cap) v3)
        case first =>
          refine wp_region_held_drew (S := fun _ => True) (by kernel_rfl) trivial (fun hHeld0 => ?_)
          refine wpAnyH_take (i := 0) (oi := _) (v := ?vb1) rfl (by kernel_rfl) (by kernel_rfl) (by kernel_rfl) (fun _ _ _ h => h) (Or.inl ⟨by rfl, ?hyb1⟩) trivial ?restb1
          case hyb1 => (intro w hSw; (try dsimp only at hSw); go_simp; try with_reducible rfl)
          try simp only [List.getElem_toArray, List.getElem_cons_zero, List.getElem_cons_succ, Act.put, List.setIfInBounds_toArray, List.set_cons_zero, List.set_cons_succ]
          refine wpAnyH_ready (rs := [1, 2]) (by kernel_rfl) (by simp) ?_
          refine AllReadyH.cons (o := _) rfl (fun KK hKK => ?_) (AllReadyH.cons (o := _) rfl (fun KK hKK => ?_) (AllReadyH.nil))
          · go_simp
            refine hKK.out _ _ ?hSb2 (fun hHeldb2 => ?restb2)
            case hSb2 => exact trivial
            clear hKK KK
            try simp only [List.getElem_toArray, List.getElem_cons_zero, List.getElem_cons_succ, Act.put, List.setIfInBounds_toArray, List.set_cons_zero, List.set_cons_succ]
            refine wpAnyH_ready (rs := [2]) (by kernel_rfl) (by simp) ?_
            refine AllReadyH.cons (o := _) rfl (fun KK hKK => ?_) (AllReadyH.nil)
            go_simp
            (go_at_call 12; (with_reducible refine (HBL.out _).mono ?_); rintro e x1 ⟨rfl, hY1⟩; have hX1 := (Fr.refl none_ wc).drew.trans hY1; have hX2 := hX1.alloc (.cells #[.string ⟨zeroB.toArray⟩] 9); have hn1 := HRa.out.fr0 hX1; have hn2 := HRa.out.fr0 hX2; have c1 := hn1.cell2; have c2 := hn2.cell2; have HN2 := Lib.hid hn2; have hXs : x1.heap.size < (x1.alloc (.cells #[.string ⟨zeroB.toArray⟩] 9)).heap.size := (by rw [World.size_alloc]; omega); have hXq : q + 1 ≤ x1.heap.size := hn1.qsz; have hb1 := heap_alloc_new x1 (.cells #[.string ⟨zeroB.toArray⟩] 9); have HAT := Lib.hid hb1; clear hn1 hn2 hb1)
            go_wp2_with fail
            refine hKK.out _ _ ?hSb3 (fun hHeldb3 => ?restb3)
            case hSb3 => exact trivial
            clear hKK KK
            try simp only [List.getElem_toArray, List.getElem_cons_zero, List.getElem_cons_succ, Act.put, List.setIfInBounds_toArray, List.set_cons_zero, List.set_cons_succ]
            refine wpAnyH_ready (rs := [3]) (by kernel_rfl) (by simp) ?_
            refine AllReadyH.cons (o := _) rfl (fun KK hKK => ?_) (AllReadyH.nil)
            go_simp
            refine hKK.out _ _ ?hSb4 (fun hHeldb4 => ?restb4)
            case hSb4 => exact trivial
            clear hKK KK
            try simp only [List.getElem_toArray, List.getElem_cons_zero, List.getElem_cons_succ, Act.put, List.setIfInBounds_toArray, List.set_cons_zero, List.set_cons_succ]
            refine wpAnyH_ready (rs := [4]) (by kernel_rfl) (by simp) ?_
            refine AllReadyH.cons (o := _) rfl (fun KK hKK => ?_) (AllReadyH.nil)
            (refine step_append_lies _ (by rfl) _ _ _ (by rfl) (q + 1) 9 i0 _ 1 16 Tryd.underlying30 hi0 hz0 hz1 hz2 rfl (by omega) v2 k (List.replicate k (strOf zeroB)) (by rfl) HN2.out.o2 ⟨x1.heap.size, 0, none⟩ 1 1 [strOf zeroB] (by rfl) (by rfl) (World.news_of_block HAT.out) (by intro u hu; simp at hu; subst hu; rfl) (by omega) (by unfold maxLen; omega) (by omega) (by omega) _ rfl ?_; intro gb capb yb hy1 hy2 hy3 hy4; have hcy := HN2.out.cellg2 hy2; have hfy1 := hcy.1; have hfy2 := hcy.2; have HYb := Lib.hid (HN2.out.app2 hy1 hy2 hy3))
            refine hKK.out _ _ ?hSb5 (fun hHeldb5 => ?restb5)
            case hSb5 => exact trivial
            clear hKK KK
            try simp only [List.getElem_toArray, List.getElem_cons_zero, List.getElem_cons_succ, Act.put, List.setIfInBounds_toArray, List.set_cons_zero, List.set_cons_succ]
            refine wpAnyH_take (i := 5) (oi := _) (v := ?vb6) rfl (by kernel_rfl) (by kernel_rfl) (by kernel_rfl) (fun _ _ _ h => h) (Or.inl ⟨by rfl, ?hyb6⟩) trivial ?restb6
            case hyb6 => (intro w hSw; (try dsimp only at hSw); go_simp; try with_reducible rfl)
            try simp only [List.getElem_toArray, List.getElem_cons_zero, List.getElem_cons_succ, Act.put, List.setIfInBounds_toArray, List.set_cons_zero, List.set_cons_succ]
            refine wpAnyH_ready (rs := [6]) (by kernel_rfl) (by simp) ?_
            refine AllReadyH.cons (o := _) rfl (fun KK hKK => ?_) (AllReadyH.nil)
            go_simp
            refine hKK.out _ _ ?hSb7 (fun hHeldb7 => ?restb7)
            case hSb7 => exact trivial
            clear hKK KK
            try simp only [List.getElem_toArray, List.getElem_cons_zero, List.getElem_cons_succ, Act.put, List.setIfInBounds_toArray, List.set_cons_zero, List.set_cons_succ]
            refine wpAnyH_done (by kernel_rfl) ?_ _
            go_wp2_with fail
            go_meet
            exact ⟨_, _, HYb.out.1⟩
          · go_simp
            (go_at_call 12; (with_reducible refine (HBL.out _).mono ?_); rintro e x1 ⟨rfl, hY1⟩; have hX1 := (Fr.refl none_ wc).drew.trans hY1; have hX2 := hX1.alloc (.cells #[.string ⟨zeroB.toArray⟩] 9); have hn1 := HRa.out.fr0 hX1; have hn2 := HRa.out.fr0 hX2; have c1 := hn1.cell2; have c2 := hn2.cell2; have HN2 := Lib.hid hn2; have hXs : x1.heap.size < (x1.alloc (.cells #[.string ⟨zeroB.toArray⟩] 9)).heap.size := (by rw [World.size_alloc]; omega); have hXq : q + 1 ≤ x1.heap.size := hn1.qsz; have hb1 := heap_alloc_new x1 (.cells #[.string ⟨zeroB.toArray⟩] 9); have HAT := Lib.hid hb1; clear hn1 hn2 hb1)
            go_wp2_with fail
            refine hKK.out _ _ ?hSb8 (fun hHeldb8 => ?restb8)
            case hSb8 => exact trivial
            clear hKK KK
            try simp only [List.getElem_toArray, List.getElem_cons_zero, List.getElem_cons_succ, Act.put, List.setIfInBounds_toArray, List.set_cons_zero, List.set_cons_succ]
            refine wpAnyH_ready (rs := [1, 3]) (by kernel_rfl) (by simp) ?_
            refine AllReadyH.cons (o := _) rfl (fun KK hKK => ?_) (AllReadyH.cons (o := _) rfl (fun KK hKK => ?_) (AllReadyH.nil))
            · go_simp
              refine hKK.out _ _ ?hSb9 (fun hHeldb9 => ?restb9)
              case hSb9 => exact trivial
              clear hKK KK
              try simp only [List.getElem_toArray, List.getElem_cons_zero, List.getElem_cons_succ, Act.put, List.setIfInBounds_toArray, List.set_cons_zero, List.set_cons_succ]
              refine wpAnyH_ready (rs := [3]) (by kernel_rfl) (by simp) ?_
              refine AllReadyH.cons (o := _) rfl (fun KK hKK => ?_) (AllReadyH.nil)
              go_simp
              refine hKK.out _ _ ?hSb10 (fun hHeldb10 => ?restb10)
              case hSb10 => exact trivial
              clear hKK KK
              try simp only [List.getElem_toArray, List.getElem_cons_zero, List.getElem_cons_succ, Act.put, List.setIfInBounds_toArray, List.set_cons_zero, List.set_cons_succ]
              refine wpAnyH_ready (rs := [4]) (by kernel_rfl) (by simp) ?_
              refine AllReadyH.cons (o := _) rfl (fun KK hKK => ?_) (AllReadyH.nil)
              (refine step_append_lies _ (by rfl) _ _ _ (by rfl) (q + 1) 9 i0 _ 1 16 Tryd.underlying30 hi0 hz0 hz1 hz2 rfl (by omega) v2 k (List.replicate k (strOf zeroB)) (by rfl) HN2.out.o2 ⟨x1.heap.size, 0, none⟩ 1 1 [strOf zeroB] (by rfl) (by rfl) (World.news_of_block HAT.out) (by intro u hu; simp at hu; subst hu; rfl) (by omega) (by unfold maxLen; omega) (by omega) (by omega) _ rfl ?_; intro gb capb yb hy1 hy2 hy3 hy4; have hcy := HN2.out.cellg2 hy2; have hfy1 := hcy.1; have hfy2 := hcy.2; have HYb := Lib.hid (HN2.out.app2 hy1 hy2 hy3))
              refine hKK.out _ _ ?hSb11 (fun hHeldb11 => ?restb11)
              case hSb11 => exact trivial
              clear hKK KK
              try simp only [List.getElem_toArray, List.getElem_cons_zero, List.getElem_cons_succ, Act.put, List.setIfInBounds_toArray, List.set_cons_zero, List.set_cons_succ]
              refine wpAnyH_take (i := 5) (oi := _) (v := ?vb12) rfl (by kernel_rfl) (by kernel_rfl) (by kernel_rfl) (fun _ _ _ h => h) (Or.inl ⟨by rfl, ?hyb12⟩) trivial ?restb12
              case hyb12 => (intro w hSw; (try dsimp only at hSw); go_simp; try with_reducible rfl)
              try simp only [List.getElem_toArray, List.getElem_cons_zero, List.getElem_cons_succ, Act.put, List.setIfInBounds_toArray, List.set_cons_zero, List.set_cons_succ]
              refine wpAnyH_ready (rs := [6]) (by kernel_rfl) (by simp) ?_
              refine AllReadyH.cons (o := _) rfl (fun KK hKK => ?_) (AllReadyH.nil)
              go_simp
              refine hKK.out _ _ ?hSb13 (fun hHeldb13 => ?restb13)
              case hSb13 => exact trivial
              clear hKK KK
              try simp only [List.getElem_toArray, List.getElem_cons_zero, List.getElem_cons_succ, Act.put, List.setIfInBounds_toArray, List.set_cons_zero, List.set_cons_succ]
              refine wpAnyH_done (by kernel_rfl) ?_ _
              go_wp2_with fail
              go_meet
              exact ⟨_, _, HYb.out.1⟩
            · go_simp
              refine hKK.out _ _ ?hSb14 (fun hHeldb14 => ?restb14)
              case hSb14 => exact trivial
              clear hKK KK
              try simp only [List.getElem_toArray, List.getElem_cons_zero, List.getElem_cons_succ, Act.put, List.setIfInBounds_toArray, List.set_cons_zero, List.set_cons_succ]
              refine wpAnyH_ready (rs := [1]) (by kernel_rfl) (by simp) ?_
              refine AllReadyH.cons (o := _) rfl (fun KK hKK => ?_) (AllReadyH.nil)
              go_simp
              refine hKK.out _ _ ?hSb15 (fun hHeldb15 => ?restb15)
              case hSb15 => exact trivial
              clear hKK KK
              try simp only [List.getElem_toArray, List.getElem_cons_zero, List.getElem_cons_succ, Act.put, List.setIfInBounds_toArray, List.set_cons_zero, List.set_cons_succ]
              refine wpAnyH_ready (rs := [4]) (by kernel_rfl) (by simp) ?_
              refine AllReadyH.cons (o := _) rfl (fun KK hKK => ?_) (AllReadyH.nil)
              (refine step_append_lies _ (by rfl) _ _ _ (by rfl) (q + 1) 9 i0 _ 1 16 Tryd.underlying30 hi0 hz0 hz1 hz2 rfl (by omega) v2 k (List.replicate k (strOf zeroB)) (by rfl) HN2.out.o2 ⟨x1.heap.size, 0, none⟩ 1 1 [strOf zeroB] (by rfl) (by rfl) (World.news_of_block HAT.out) (by intro u hu; simp at hu; subst hu; rfl) (by omega) (by unfold maxLen; omega) (by omega) (by omega) _ rfl ?_; intro gb capb yb hy1 hy2 hy3 hy4; have hcy := HN2.out.cellg2 hy2; have hfy1 := hcy.1; have hfy2 := hcy.2; have HYb := Lib.hid (HN2.out.app2 hy1 hy2 hy3))
              refine hKK.out _ _ ?hSb16 (fun hHeldb16 => ?restb16)
              case hSb16 => exact trivial
              clear hKK KK
              try simp only [List.getElem_toArray, List.getElem_cons_zero, List.getElem_cons_succ, Act.put, List.setIfInBounds_toArray, List.set_cons_zero, List.set_cons_succ]
              refine wpAnyH_take (i := 5) (oi := _) (v := ?vb17) rfl (by kernel_rfl) (by kernel_rfl) (by kernel_rfl) (fun _ _ _ h => h) (Or.inl ⟨by rfl, ?hyb17⟩) trivial ?restb17
              case hyb17 => (intro w hSw; (try dsimp only at hSw); go_simp; try with_reducible rfl)
              try simp only [List.getElem_toArray, List.getElem_cons_zero, List.getElem_cons_succ, Act.put, List.setIfInBounds_toArray, List.set_cons_zero, List.set_cons_succ]
              refine wpAnyH_ready (rs := [6]) (by kernel_rfl) (by simp) ?_
              refine AllReadyH.cons (o := _) rfl (fun KK hKK => ?_) (AllReadyH.nil)
              go_simp
              refine hKK.out _ _ ?hSb18 (fun hHeldb18 => ?restb18)
              case hSb18 => exact trivial
              clear hKK KK
              try simp only [List.getElem_toArray, List.getElem_cons_zero, List.getElem_cons_succ, Act.put, List.setIfInBounds_toArray, List.set_cons_zero, List.set_cons_succ]
              refine wpAnyH_done (by kernel_rfl) ?_ _
              go_wp2_with fail
              go_meet
              exact ⟨_, _, HYb.out.1⟩
        case rest =>
          obtain ⟨gb, capb, hRb⟩ := hcut
          have HRb := Lib.hid hRb
          have g0 := hRb.cell3
          have hsz := hRb.qsz
          clear hRb e0 f0
          obtain ⟨X, hX⟩ : ∃ X, X = wc.alloc (.cells #[.bool false] 4) := ⟨_, rfl⟩
          have hFX : Fr none_ wc X := by rw [hX]; exact (Fr.refl _ _).alloc _
          have hat : CellsAt X (some ⟨wc.heap.size, 0, none⟩) [.bool false] := by rw [hX]; exact CellsAt.whole (l := [Value.bool false]) (heap_alloc_new wc (.cells #[.bool false] 4))
          have hnil : (some (⟨wc.heap.size, 0, none⟩ : Addr)) = none → (1 : Nat) = 0 ∧ (1 : Nat) = 0 := fun h => by cases h
          have hXs : X.heap.size = wc.heap.size + 1 := by rw [hX, World.size_alloc]
          have HXN := Lib.hid (HRb.out.fr0 hFX)
          have hox := HXN.out.o3
          rw [hX] at hox hat hXs
          have HX := Lib.hid hX
          clear hX hFX
          go_wp2_with ((with_reducible refine at_append (.tmp 32) (.tmp 33) 31 (q + 1) 4 (.bool false) 1 1 (v := v3) (n := k) (xs := List.replicate k (.bool false)) (A := some ⟨wc.heap.size, 0, none⟩) (m := 1) (c := 1) (news := [.bool false]) Tryd.underlying31 info_boo ?_ ?_ ?_ ?_ hox hat hnil ?_ ?_ ?_ ?_ ?_ ?_); (focus rfl); (focus decide); (focus rfl); (focus rfl); (focus rfl); (focus (intro u hu; simp at hu; subst hu; rfl)); (focus unfold maxLen; omega); (focus omega); (focus omega); intro vc yc hown3 hg3; rw [← HX.out] at hg3; have hcy := HXN.out.cellg3 hg3; have hfy1 := hcy.1; have hfy2 := hcy.2; have HY := Lib.hid (HXN.out.app3' hown3 hg3); obtain ⟨Ac, cc, hvc, _⟩ := ownsRow_read hown3; subst hvc; clear hown3 hg3)
          go_roundw
          case rel => exact ⟨k + 1, _, _, _, by omega, by go_num, HY.out⟩
          case measure => simp [intOf]; omega
    · have k1 : ¬ (k : Int) < (n : Int) := by omega
      have hkn : k = n := by omega
      have hblk := hR.blk
      have hres := hR.res
      have hq := HQ.out
      clear hR
      go_wp2_with (first | ((with_reducible refine at_load 33 (.tmp 4) (b := q) ?_ hblk Tryd.underlying33 rfl (by kernel_rfl) ?_); (focus rfl)) | ((with_reducible refine at_store 33 (.tmp 2) (.tmp 36) (b := w.heap.size) (c' := #[v1, v2, v3, .int .i64 0, .bool false, .int .i64 0, .bool false, .bool false]) ?_ ?_ hres ?_ ?_ ?_ ?_); (focus rfl); (focus rfl); (focus rfl); (focus kernel_rfl); (focus (intro u hu; simp at hu; rcases hu with rfl | rfl | rfl | rfl | rfl | rfl | rfl | rfl <;> first | rfl | exact own_oneCell HR.out.o1 | exact own_oneCell HR.out.o2 | exact own_oneCell HR.out.o3)); intro w7 hF7 hb7; have HZ := Lib.hid (And.intro hF7 hb7); clear hF7 hb7))
      refine bodyPost_ret (res_dev Tryd.results5 HZ.out.2 rfl rfl) rfl ?_
      obtain ⟨hF7, hb7⟩ := HZ.out
      have hN := HR.out
      subst hkn
      have o1 := ownsRow_fr hN.o1 hF7 (fun i hi e => by have := ownsRow_lt hN.o1 hi; omega)
      have o2 := ownsRow_fr hN.o2 hF7 (fun i hi e => by have := ownsRow_lt hN.o2 hi; omega)
      have o3 := ownsRow_fr hN.o3 hF7 (fun i hi e => by have := ownsRow_lt hN.o3 hi; omega)
      obtain ⟨A1, c1, rfl, a1, b1, d1, _⟩ := ownsRow_read o1
      obtain ⟨A2, c2, rfl, a2, b2, d2, _⟩ := ownsRow_read o2
      obtain ⟨A3, c3, rfl, a3, b3, d3, _⟩ := ownsRow_read o3
      have hl : (newRef k).now.length = k := by simp [newRef]
      refine ⟨_, rfl, ⟨⟨A1, c1, A2, c2, A3, c3, by rw [hl]; rfl, ?_, ?_, ?_, by rw [hl]; exact b1, by rw [hl]; exact b2, by rw [hl]; exact b3, by rw [hl]; exact d1, by rw [hl]; exact d2, by rw [hl]; exact d3⟩, by simp [newRef], by simp [newRef], by rw [hl]; omega⟩, hN.fr.own hF7 (Nat.le_refl _)⟩
      · show CellsAt _ A1 ((List.replicate k zeroB).map strOf)
        rw [List.map_replicate]; exact a1
      · show CellsAt _ A2 ((List.replicate k zeroB).map strOf)
        rw [List.map_replicate]; exact a2
      · show CellsAt _ A3 ((List.replicate k false).map Value.bool)
        rw [List.map_replicate]; exact a3
end Go.Proofs.YtjfeibbghhjjeaaDoor

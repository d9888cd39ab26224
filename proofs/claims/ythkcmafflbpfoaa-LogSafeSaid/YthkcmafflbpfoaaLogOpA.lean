import Derived.Test.YthkcmafflbpfoaaLogOne
import Derived.Test.YthkcmafflbpfoaaLogP2
import Derived.ArgAppend
namespace Go.Proofs.Ythkcmafflbpfoaa
open Go.RowKit
set_option linter.unusedVariables false
set_option linter.unusedSimpArgs false
set_option maxRecDepth 100000

/-! log: Open, what holds from record to record. -/
def outC : Nat → List Value → List Value
  | _, [] => []
  | s, v :: vs => .int .i64 (s : Int) :: v :: outC (s + 1) vs
theorem outC_append (s : Nat) (vs : List Value) (v : Value) : outC s (vs ++ [v]) = outC s vs ++ [.int .i64 ((s + vs.length : Nat) : Int), v] := by
  induction vs generalizing s with
  | nil => rfl
  | cons x vs ih => rw [List.cons_append, outC, outC, ih, List.length_cons, show s + 1 + vs.length = s + (vs.length + 1) by omega]; rfl
theorem outC_len (s : Nat) (vs : List Value) : (outC s vs).length = vs.length * 2 := by
  induction vs generalizing s with
  | nil => rfl
  | cons x vs ih => rw [outC, List.length_cons, List.length_cons, ih, List.length_cons]; omega
theorem outC_get (s : Nat) (vs : List Value) (i : Nat) (v : Value) (h : vs[i]? = some v) : (outC s vs)[i * 2]? = some (.int .i64 ((s + i : Nat) : Int)) ∧ (outC s vs)[i * 2 + 1]? = some v := by
  induction vs generalizing s i with
  | nil => simp at h
  | cons x vs ih =>
    cases i with
    | zero =>
      have : x = v := by simpa using h
      subst this
      exact ⟨rfl, rfl⟩
    | succ i =>
      obtain ⟨h1, h2⟩ := ih (s + 1) i (by simpa using h)
      rw [show (i + 1) * 2 = i * 2 + 1 + 1 by omega, outC, List.getElem?_cons_succ, List.getElem?_cons_succ, List.getElem?_cons_succ, List.getElem?_cons_succ, h1, h2, show s + 1 + i = s + (i + 1) by omega]
      exact ⟨rfl, rfl⟩
theorem info_rec : (Try.prog.info? 49).map (fun i => (i.zero, i.size, i.bytes)) = some (some (.agg #[.int .i64 0, .slice none 0 0]), 2, 32) := by kernel_rfl
theorem own_type {w : World} {base : Nat} {e : TypeId} {size n : Nat} {v : Value} {xs : List Value} (h : w.ownsRow base e size v n xs) {k : Nat} (hk : v.ownBlock = some k) : ∃ c, w.heap[k]? = some (.cells c e (0, 0)) := by
  rcases h.2 with ⟨rfl, _⟩ | ⟨g, cap, cur, rfl, _, hg, _⟩
  · cases hk
  · cases hk; exact ⟨_, hg⟩
/-- records as Open tells them: their numbers and their bytes -/
structure OutAt (w : World) (base : Nat) (v : Value) (seq : Nat) (rs : List (List UInt8 × Nat)) : Prop where
  vs : ∃ vs : List Value, vs.length = rs.length ∧ w.ownsRow base 49 2 v rs.length (outC seq vs) ∧ ∀ i (hi : i < rs.length), ∃ vi, vs[i]? = some vi ∧ w.ownsRow base 5 1 vi (rs[i].1.length) (rs[i].1.map byteV)
theorem OutAt.nil (w : World) (base seq : Nat) : OutAt w base (.slice none 0 0) seq [] := ⟨[], rfl, World.ownsRow_nil _ _ _ _, fun i hi => absurd hi (by simp)⟩
theorem OutAt.fr {S : Nat → Prop} {w w' : World} {base seq : Nat} {v : Value} {rs : List (List UInt8 × Nat)} (h : OutAt w base v seq rs) (hF : Fr S w w') (hS : ∀ k, S k → k < base ∨ ∃ c T, w.heap[k]? = some (.cells c T (0, 0)) ∧ T ≠ 49 ∧ T ≠ 5) : OutAt w' base v seq rs := by
  obtain ⟨vs, h1, h2, h3⟩ := h
  have key : ∀ {e : TypeId} {size n : Nat} {v : Value} {xs : List Value}, w.ownsRow base e size v n xs → (e = 49 ∨ e = 5) → w'.ownsRow base e size v n xs := fun {e size n v xs} hr he => ownsRow_fr hr hF (fun k hk hs => by
    rcases hS k hs with hb | ⟨c, T, g1, g2, g3⟩
    · have := (ownsRow_lt hr hk).1; omega
    · exact own_ne hr g1 (by rcases he with rfl | rfl <;> assumption) hk)
  exact ⟨vs, h1, key h2 (.inl rfl), fun i hi => by
    obtain ⟨vi, g1, g2⟩ := h3 i hi
    exact ⟨vi, g1, key g2 (.inr rfl)⟩⟩
theorem OutAt.fr0 {w w' : World} {base seq : Nat} {v : Value} {rs : List (List UInt8 × Nat)} (h : OutAt w base v seq rs) (hF : Fr none_ w w') : OutAt w' base v seq rs := h.fr hF (fun k hk => hk.elim)
theorem OutAt.mono {w : World} {base base' seq : Nat} {v : Value} {rs : List (List UInt8 × Nat)} (h : OutAt w base v seq rs) (hb : base' ≤ base) : OutAt w base' v seq rs := by
  obtain ⟨vs, h1, h2, h3⟩ := h
  exact ⟨vs, h1, ownsRow_mono h2 hb, fun i hi => by
    obtain ⟨vi, g1, g2⟩ := h3 i hi
    exact ⟨vi, g1, ownsRow_mono g2 hb⟩⟩
theorem OutAt.push {w w' : World} {base seq : Nat} {v v' vd : Value} {rs : List (List UInt8 × Nat)} {vs : List Value} {d : List UInt8} {n : Nat} (h1 : vs.length = rs.length) (h2 : w.ownsRow base 49 2 v rs.length (outC seq vs))
    (h3 : ∀ i (hi : i < rs.length), ∃ vi, vs[i]? = some vi ∧ w.ownsRow base 5 1 vi (rs[i].1.length) (rs[i].1.map byteV)) (hd : w.ownsRow base 5 1 vd d.length (d.map byteV))
    (hown : w'.ownsRow base 49 2 v' (rs.length + 1) (outC seq vs ++ [.int .i64 ((seq + rs.length : Nat) : Int), vd])) (hg : w.grownBy w' v.ownBlock) : OutAt w' base v' seq (rs ++ [(d, n)]) := by
  have hF := Fr.of_grown hg
  have key : ∀ {u : Value} {l : List UInt8}, w.ownsRow base 5 1 u l.length (l.map byteV) → w'.ownsRow base 5 1 u l.length (l.map byteV) := fun {u l} hr => ownsRow_fr hr hF (fun k hk hs => by
    obtain ⟨c, hc⟩ := own_type h2 hs
    exact own_ne hr hc (by decide) hk)
  refine ⟨vs ++ [vd], by rw [List.length_append, List.length_append, h1]; rfl, ?_, fun i hi => ?_⟩
  · rw [List.length_append, outC_append, h1]
    exact hown
  · by_cases hlt : i < rs.length
    · obtain ⟨vi, g1, g2⟩ := h3 i hlt
      refine ⟨vi, by rw [List.getElem?_append_left (by omega)]; exact g1, ?_⟩
      rw [List.getElem_append_left hlt]
      exact key g2
    · have hi2 : i = rs.length := by rw [List.length_append, List.length_singleton] at hi; omega
      subst hi2
      refine ⟨vd, by rw [← h1, List.getElem?_append_right (by omega)]; simp, ?_⟩
      rw [List.getElem_append_right (by omega)]
      simp
      exact key hd
theorem Scan.sum_le {R : List UInt8} {seq : Nat} {rs : List (List UInt8 × Nat)} (h : Scan R seq rs) : ∀ M, R.length = M * 64 → sumN (sizesOf rs) ≤ M ∧ rs.length ≤ M ∧ ∀ x ∈ sizesOf rs, 1 ≤ x ∧ x ≤ M := by
  induction h with
  | none h h1 => intro M hM; exact ⟨Nat.zero_le _, Nat.zero_le _, by simp [sizesOf]⟩
  | over h => intro M hM; exact ⟨Nat.zero_le _, Nat.zero_le _, by simp [sizesOf]⟩
  | @step R seq k0 n d rs hs h h1 h2 ih =>
    intro M hM
    have hle := h.le
    obtain ⟨n1, n2⟩ := oneF_le (K := k0) h1 (by rw [preB_len R k0 hle]; omega)
    obtain ⟨i1, i2, i3⟩ := ih (M - n) (by rw [List.length_drop, hM, Nat.sub_mul])
    refine ⟨?_, ?_, ?_⟩
    · show sumN (n :: sizesOf rs) ≤ M
      rw [sumN_cons]; omega
    · rw [List.length_cons]; omega
    · intro x hx
      rcases List.mem_cons.1 hx with rfl | hx
      · exact ⟨n1, by omega⟩
      · have := i3 x hx; omega
theorem Scan.seq_le {R : List UInt8} {seq : Nat} {rs : List (List UInt8 × Nat)} (h : Scan R seq rs) : seq ≤ 1099511627777 → seq + rs.length ≤ 1099511627777 := by
  induction h with
  | none h h1 => intro hs; simpa using hs
  | over h => intro hs; simpa using hs
  | step hs h h1 h2 ih => intro _; have := ih (by omega); rw [List.length_cons]; omega
def logR (fi se at_ seq : Nat) (ns : List Nat) : LogS := ⟨fi, se, at_, seq, ns, 0⟩
structure OpR (Z wr : World) (b p fi se at_ seq : Nat) (R : List UInt8) (rs : List (List UInt8 × Nat)) (A0 : Option Addr) (k : Nat) (vo r : Value) : Prop where
  out : OutAt wr Z.heap.size vo seq (rs.take k)
  log : ∃ v, wr.heap[b]? = some (.cells ((logR fi se at_ seq ((sizesOf rs).take k)).cells p v) 60 (0, 0)) ∧ SzAt wr v ((sizesOf rs).take k) ∧ ∀ i, szB v i → Z.heap.size ≤ i
  rest : ∃ A c, r = .slice A (R.length - sumN ((sizesOf rs).take k) * 64) c ∧ CellsAt Z A ((R.drop (sumN ((sizesOf rs).take k) * 64)).map byteV) ∧ R.length - sumN ((sizesOf rs).take k) * 64 ≤ c ∧ (A = none → R.length - sumN ((sizesOf rs).take k) * 64 = 0 ∧ c = 0) ∧ ∀ g, blkOf A g → 0 < R.length - sumN ((sizesOf rs).take k) * 64 → blkOf A0 g
  fr : Fr (fun i => i = b) Z wr
theorem SzAt.frT {S : Nat → Prop} {w w' : World} {v : Value} {l : List Nat} (h : SzAt w v l) (hF : Fr S w w') (hS : ∀ k, S k → ∀ c F, w.heap[k]? = some (.cells c 3 F) → False) : SzAt w' v l := by
  rcases h.rep with h | ⟨g, o, cap, full, r1, r2, r3⟩
  · exact ⟨.inl h⟩
  · exact ⟨.inr ⟨g, o, cap, full, r1, hF.heap r2 (fun hs => hS _ hs _ _ r2), r3⟩⟩
theorem szB_int {w : World} {v : Value} {l : List Nat} (h : SzAt w v l) {i : Nat} (hi : szB v i) : ∃ c, w.heap[i]? = some (.cells c 3 (0, 0)) := by
  obtain ⟨o, n, c, hv⟩ := hi
  rcases h.rep with ⟨h1, _⟩ | ⟨g, o2, cap, full, h1, h2, _⟩
  · rw [hv] at h1; cases h1
  · rw [hv] at h1; cases h1; exact ⟨_, h2⟩
theorem op_step {Z wr zz w5 w2 : World} {b p fi se at_ seq k n : Nat} {R : List UInt8} {rs : List (List UInt8 × Nat)} {A0 A5 A6 A7 Ad : Option Addr} {c6 cd cap5 cap7 : Nat} {ns : List Nat} {vs : List Value} {d : List UInt8} {v5 r : Value}
    (hlt : k < rs.length) (hdn : rs[k] = (d, n)) (hns : ns = (sizesOf rs).take k) (hnl : ns.length = k) (hFr : Fr (fun i => i = b) Z wr) (hbZ : b < Z.heap.size) (hal2 : Fr none_ wr zz) (hvl : vs.length = k) (hrow : wr.ownsRow Z.heap.size 49 2 (.slice A6 k c6) k (outC seq vs))
    (hdat : ∀ i (hi : i < (rs.take k).length), ∃ vi, vs[i]? = some vi ∧ wr.ownsRow Z.heap.size 5 1 vi ((rs.take k)[i].1.length) ((rs.take k)[i].1.map byteV)) (hd : zz.ownsRow Z.heap.size 5 1 (.slice Ad d.length cd) d.length (d.map byteV))
    (hown5 : w5.ownsRow Z.heap.size 49 2 v5 (k + 1) (outC seq vs ++ [.int .i64 ((seq : Int) + (k : Int)), .slice Ad d.length cd])) (hg5 : zz.grownBy w5 (Value.slice A6 k c6).ownBlock)
    (hSA : SzAt (w5.alloc (.cells #[.int .i64 (n : Int)] 3)) (.slice A5 ns.length cap5) ns) (hszn : ∀ i, szB (.slice A5 ns.length cap5) i → Z.heap.size ≤ i)
    (hsz2 : SzAt w2 (.slice A7 (ns ++ [n]).length cap7) (ns ++ [n])) (hF2 : Fr (szB (.slice A5 ns.length cap5)) (w5.alloc (.cells #[.int .i64 (n : Int)] 3)) w2) (hsn2 : ∀ i, szB (.slice A7 (ns ++ [n]).length cap7) i → szB (.slice A5 ns.length cap5) i ∨ (w5.alloc (.cells #[.int .i64 (n : Int)] 3)).heap.size ≤ i)
    (hb2 : w2.heap[b]? = some (.cells ((logR fi se at_ seq ns).cells p (.slice A5 ns.length cap5)) 60 (0, 0)))
    (hrest : ∃ A c, r = .slice A (R.length - sumN ((sizesOf rs).take (k + 1)) * 64) c ∧ CellsAt Z A ((R.drop (sumN ((sizesOf rs).take (k + 1)) * 64)).map byteV) ∧ R.length - sumN ((sizesOf rs).take (k + 1)) * 64 ≤ c ∧ (A = none → R.length - sumN ((sizesOf rs).take (k + 1)) * 64 = 0 ∧ c = 0) ∧ ∀ g, blkOf A g → 0 < R.length - sumN ((sizesOf rs).take (k + 1)) * 64 → blkOf A0 g) :
    OpR Z (w2.setCell ⟨b, 5, none⟩ (.slice A7 (ns.length + 1) cap7)) b p fi se at_ seq R rs A0 (k + 1) v5 r := by
  have htl : (rs.take k).length = k := by rw [List.length_take]; omega
  have htk : rs.take (k + 1) = rs.take k ++ [(d, n)] := by rw [List.take_succ_eq_append_getElem hlt, hdn]
  have hnk : (sizesOf rs).take (k + 1) = ns ++ [n] := by
    rw [hns]; unfold sizesOf; rw [← List.map_take, ← List.map_take, htk, List.map_append]; rfl
  have hF5 : Fr (fun i => i = b) Z w5 := Fr.grown (hFr.trans0 hal2) hg5 (ownsRow_fr0 hrow hal2) (Nat.le_refl _)
  have hFa : Fr (fun i => i = b) Z (w5.alloc (.cells #[.int .i64 (n : Int)] 3)) := hF5.alloc _
  have hFs := Fr.set w2 b 5 (.slice A7 (ns.length + 1) cap7)
  have hO5 : OutAt w5 Z.heap.size v5 seq (rs.take k ++ [(d, n)]) := OutAt.push (rs := rs.take k) (vs := vs) (v := .slice A6 k c6) (by rw [htl]; exact hvl) (by rw [htl]; exact ownsRow_fr0 hrow hal2) (fun i hi => by
    obtain ⟨vi, g1, g2⟩ := hdat i hi
    exact ⟨vi, g1, ownsRow_fr0 g2 hal2⟩) hd (by rw [htl, show ((seq + k : Nat) : Int) = (seq : Int) + (k : Int) by omega]; exact hown5) hg5
  have hO2 := (hO5.fr0 ((Fr.refl none_ w5).alloc (.cells #[.int .i64 (n : Int)] 3))).fr hF2 (fun k' hk' => .inr (by
    obtain ⟨c, hc⟩ := szB_int hSA hk'
    exact ⟨c, _, hc, by decide, by decide⟩))
  have hO := hO2.fr hFs (fun k' hk' => .inr (by subst hk'; exact ⟨_, 60, hb2, by decide, by decide⟩))
  refine ⟨by rw [htk]; exact hO, ⟨.slice A7 (ns.length + 1) cap7, ?_, ?_, ?_⟩, hrest, ?_⟩
  · rw [heap_setCell_same hb2]; rfl
  · rw [hnk]
    rw [List.length_append] at hsz2
    exact hsz2.frL hb2 (by decide) hFs
  · intro i hi
    rw [List.length_append] at hsn2
    rcases hsn2 i hi with h | h
    · exact hszn i h
    · exact Nat.le_trans hFa.size h
  · exact ((hFa.trans' hF2 (fun i hi e => by have := hszn i e; omega))).trans hFs
theorem OpR.fr0 {Z wr w' : World} {b p fi se at_ seq k : Nat} {R : List UInt8} {rs : List (List UInt8 × Nat)} {A0 : Option Addr} {vo r : Value} (h : OpR Z wr b p fi se at_ seq R rs A0 k vo r) (hF : Fr none_ wr w') : OpR Z w' b p fi se at_ seq R rs A0 k vo r := by
  obtain ⟨h1, ⟨v, h2, h3, h4⟩, h5, h6⟩ := h
  exact ⟨h1.fr0 hF, ⟨v, hF.heap0 h2, h3.fr0 hF, h4⟩, h5, h6.trans0 hF⟩
end Go.Proofs.Ythkcmafflbpfoaa

import Derived.Test.YthkcmafflbpfoaaLogCalm
import Derived.Test.YthkcmafflbpfoaaLogArg
namespace Go.Proofs.Ythkcmafflbpfoaa
open Go.RowKit
set_option linter.unusedVariables false
set_option linter.unusedSimpArgs false
set_option maxRecDepth 100000

/-! LogTrims: what holds from record to record. -/
theorem LogAt.frT {S : Nat → Prop} {w w' : World} {b p : Nat} {l : LogS} (h : LogAt w b p l) (hF : Fr S w w') (hS : ∀ i, S i → ∃ c T, w.heap[i]? = some (.cells c T (0, 0)) ∧ T ≠ 60 ∧ T ≠ 3) : LogAt w' b p l := by
  obtain ⟨⟨v, h1, h2⟩, h3⟩ := h
  refine ⟨⟨v, hF.heap h1 (fun e => ?_), h2.frT hF (fun k hk c F hc => ?_)⟩, h3⟩
  · obtain ⟨c, T, g1, g2, g3⟩ := hS b e
    rw [h1] at g1; cases g1; exact g2 rfl
  · obtain ⟨c2, T, g1, g2, g3⟩ := hS k hk
    rw [hc] at g1; cases g1; exact g3 rfl
theorem LrG.other {W wr w' : World} {p m1 m2 b : Nat} {l : LogS} {D : DevS} {S : Nat → Prop} (h : LrG W wr p m1 m2 b l D) (hF : Fr S wr w') (hS : ∀ i, S i → W.heap.size ≤ i ∧ ∃ c T, wr.heap[i]? = some (.cells c T (0, 0)) ∧ T ≠ 54 ∧ T ≠ 60 ∧ T ≠ 3) : LrG W w' p m1 m2 b l D := by
  have hn : ∀ i, S i → ¬ (devBlks p m1 m2 i ∨ i = b ∨ szBlk wr b i) := fun i hi => by
    obtain ⟨_, c, T, g1, g2, g3, g4⟩ := hS i hi
    exact h.not g1 g2 g3 g4
  refine ⟨h.dev.fr hF (fun i hi e => hn i e (.inl hi)), h.log.frT hF (fun i hi => ?_), h.fr.trans' hF (fun i hi e => by have := (hS i e).1; omega), h.nd, h.nb, fun i hi => h.ns i (szBlk_fr h.log hF (fun e => hn b e (.inr (.inl rfl))) i hi)⟩
  obtain ⟨_, c, T, g1, g2, g3, g4⟩ := hS i hi
  exact ⟨c, T, g1, g3, g4⟩
/-- the log of LogTrims -/
def ltL (ds : List (List UInt8)) : LogS := ⟨3, 30, 5, 7, szs 7 ds, 0⟩
structure LtP (D : DevS) (ds : List (List UInt8)) : Prop where
  calm : Calm D
  secs : D.sectors = 40
  lies : Lies (ringV D 3 30 5) 0 7 ds
  rest : ∀ i, sumN (szs 7 ds) ≤ i → i < 30 → ringV D 3 30 5 i = zeroB
  room : sumN (szs 7 ds) < 30
  len : ∀ d ∈ ds, d.length ≤ 65536
  many : ds.length ≤ 12
theorem LtP.push {D : DevS} {ds : List (List UInt8)} (h : LtP D ds) (d : List UInt8) (hd : d.length ≤ 65536) (hN : recN d (7 + ds.length) + sumN (szs 7 ds) + 1 ≤ 30) (hm : ds.length < 12) :
    LtP (apN D (ltL ds) (sumN (szs 7 ds)) (7 + ds.length) (seaB d (7 + ds.length)) (recN d (7 + ds.length))) (ds ++ [d]) := by
  have hfit : (((ltL ds).first + (ltL ds).secs : Nat) : Int) ≤ D.sectors := by rw [h.secs]; show ((3 + 30 : Nat) : Int) ≤ 40; decide
  have hg := fun i hi => apN_get h.calm (ltL ds) (by show 2 ≤ 30; omega) (by show 5 < 30; omega) hfit (sumN (szs 7 ds)) (7 + ds.length) (seaB d (7 + ds.length)) (recN d (7 + ds.length)) (by show _ ≤ 30; omega) i hi
  have hs : szs 7 (ds ++ [d]) = szs 7 ds ++ [recN d (7 + ds.length)] := by rw [szs_append]; rfl
  have hsum : sumN (szs 7 (ds ++ [d])) = sumN (szs 7 ds) + recN d (7 + ds.length) := by rw [hs, sumN_append]; simp [sumN]
  refine ⟨apN_calm h.calm (ltL ds) (by show 2 ≤ 30; omega) hfit _ _ _ _, (apN_sectors _ _ _ _ _ _).trans h.secs, ?_, ?_, by rw [hsum]; omega, ?_, by rw [List.length_append, List.length_singleton]; omega⟩
  · refine Lies.append (h.lies.mono (fun i h1 h2 => ?_)) (fun j hj => ?_)
    · have := hg i (by show i < 30; omega)
      rw [if_neg (by omega)] at this
      exact this
    · have := hg (0 + sumN (szs 7 ds) + j) (by show _ < 30; omega)
      rw [if_pos (by omega), show 0 + sumN (szs 7 ds) + j - sumN (szs 7 ds) = j by omega] at this
      exact this
  · intro i h1 h2
    rw [hsum] at h1
    have := hg i h2
    rw [if_neg (by omega)] at this
    exact this.trans (h.rest i (by omega) h2)
  · intro x hx
    rcases List.mem_append.1 hx with hx | hx
    · exact h.len x hx
    · rw [List.mem_singleton.1 hx]; exact hd
/-- what is read behind a trim -/
theorem LtP.scan {D : DevS} {ds : List (List UInt8)} (h : LtP D ds) (hl : ∀ i, (D.get i).length = 64) (k : Nat) (hk : k ≤ ds.length) :
    Scan (ringB D 3 30 ((5 + sumN ((szs 7 ds).take k)) % 30) 30) (7 + k) ((ds.drop k).zip (szs (7 + k) (ds.drop k))) := by
  have hsp : sumN ((szs 7 ds).take k) + sumN (szs (7 + k) (ds.drop k)) = sumN (szs 7 ds) := by
    rw [← szs_drop, ← sumN_append, List.take_append_drop]
  have hr := h.room
  have hm := h.many
  have hv := ringV_shift D 3 30 5 (sumN ((szs 7 ds).take k))
  have hL : Lies (ringV D 3 30 ((5 + sumN ((szs 7 ds).take k)) % 30)) 0 (7 + k) (ds.drop k) := by
    rw [hv]
    have := h.lies.drop k
    rw [Nat.zero_add] at this
    exact Lies.shift (s := sumN ((szs 7 ds).take k)) (u := 0) this
  have := scan_lies (g := ringV D 3 30 ((5 + sumN ((szs 7 ds).take k)) % 30)) (fun i => hl _) 30 (ds.drop k) (fun x hx => h.len x (List.mem_of_mem_drop hx)) 0 (7 + k) (by rw [List.length_drop]; omega) hL (by omega) (fun hlt => ⟨0, by omega, by
    rw [hv]
    show (ringV D 3 30 5 (sumN ((szs 7 ds).take k) + (0 + sumN (szs (7 + k) (ds.drop k))))).take 8 = _
    rw [h.rest _ (by omega) (by omega)]
    exact zero_tag⟩)
  rw [Nat.zero_mul, List.drop_zero] at this
  exact this
/-- the texts that were appended -/
structure AllAt (W wr : World) (base : Nat) (v : Value) (ds : List (List UInt8)) : Prop where
  row : ∃ vs : List Value, vs.length = ds.length ∧ wr.ownsRow base 36 1 v ds.length vs ∧ ∀ j (hj : j < ds.length), ∃ A n c, vs[j]? = some (.slice A n c) ∧ LArg W A n c ds[j]
structure LtS (W wr : World) (p m1 m2 b base : Nat) (D : DevS) (ds : List (List UInt8)) (v : Value) : Prop where
  g : LrG W wr p m1 m2 b (ltL ds) D
  pl : LtP D ds
  all : AllAt W wr base v ds
  le : W.heap.size ≤ base ∧ base ≤ wr.heap.size
theorem AllAt.fr {S : Nat → Prop} {W w w' : World} {base : Nat} {v : Value} {ds : List (List UInt8)} (h : AllAt W w base v ds) (hF : Fr S w w') (hS : ∀ k c, S k → w.heap[k]? = some (.cells c 36 (0, 0)) → False) : AllAt W w' base v ds := by
  obtain ⟨vs, h1, h2, h3⟩ := h
  exact ⟨vs, h1, ownsRow_fr h2 hF (fun k hk hs => by
    obtain ⟨c, hc⟩ := own_type h2 hk
    exact hS k c hs hc), h3⟩
theorem LtS.fr0 {W wr w' : World} {p m1 m2 b base : Nat} {D : DevS} {ds : List (List UInt8)} {v : Value} (h : LtS W wr p m1 m2 b base D ds v) (hF : Fr none_ wr w') : LtS W w' p m1 m2 b base D ds v :=
  ⟨h.g.fr0 hF, h.pl, h.all.fr hF (fun k c e => e.elim), h.le.1, Nat.le_trans h.le.2 hF.size⟩
theorem AllAt.frG {S : Nat → Prop} {W wr w' : World} {p m1 m2 b base : Nat} {D : DevS} {l : LogS} {ds : List (List UInt8)} {v : Value} (h : AllAt W wr base v ds) (hg : LrG W wr p m1 m2 b l D) (hF : Fr S wr w') (hS : ∀ i, S i → devBlks p m1 m2 i ∨ i = b ∨ szBlk wr b i) : AllAt W w' base v ds :=
  h.fr hF (fun k c hk hc => hg.not hc (by decide) (by decide) (by decide) (hS k hk))
theorem info_txt : (Try.prog.info? 36).map (fun i => (i.zero, i.size, i.bytes)) = some (some (.slice none 0 0), 1, 24) := by kernel_rfl
/-- a text is laid behind the others -/
theorem LtS.pushed {W wr w' : World} {p m1 m2 b base n c : Nat} {D : DevS} {ds : List (List UInt8)} {d : List UInt8} {v v' : Value} {A : Option Addr} {vs : List Value} (hg : LrG W wr p m1 m2 b (ltL (ds ++ [d])) D) (hp : LtP D (ds ++ [d])) (hb : W.heap.size ≤ base ∧ base ≤ wr.heap.size)
    (h1 : vs.length = ds.length) (h2 : wr.ownsRow base 36 1 v ds.length vs) (h3 : ∀ j (hj : j < ds.length), ∃ A n c, vs[j]? = some (.slice A n c) ∧ LArg W A n c ds[j]) (hA : LArg W A n c d) (hown : w'.ownsRow base 36 1 v' (ds.length + 1) (vs ++ [.slice A n c])) (hgr : wr.grownBy w' v.ownBlock) : LtS W w' p m1 m2 b base D (ds ++ [d]) v' := by
  have hF := Fr.of_grown hgr
  refine ⟨hg.other hF (fun i hi => ⟨Nat.le_trans hb.1 (ownsRow_lt h2 hi).1, ?_⟩), hp, ⟨vs ++ [.slice A n c], by simp [h1], by rw [List.length_append]; exact hown, fun j hj => ?_⟩, hb.1, Nat.le_trans hb.2 hF.size⟩
  · obtain ⟨c2, hc⟩ := own_type h2 hi
    exact ⟨c2, 36, hc, by decide, by decide, by decide⟩
  · by_cases hlt : j < ds.length
    · obtain ⟨A2, n2, c2, g1, g2⟩ := h3 j hlt
      exact ⟨A2, n2, c2, by rw [List.getElem?_append_left (by omega)]; exact g1, by rw [List.getElem_append_left hlt]; exact g2⟩
    · have hj2 : j = ds.length := by rw [List.length_append, List.length_singleton] at hj; omega
      subst hj2
      exact ⟨A, n, c, by rw [← h1, List.getElem?_append_right (by omega)]; simp, by rw [List.getElem_append_right (by omega)]; simpa using hA⟩
theorem lt_k (x : Int) (q : Nat) (hq : q ≤ 12) : ∃ k : Nat, k ≤ q ∧ wrap64 ((IntKind.u64.wrap x).tmod ((q : Int) + 1)) = (k : Int) := by
  have h : 0 ≤ IntKind.u64.wrap x := by rw [IntKind.wrap_u64]; omega
  generalize IntKind.u64.wrap x = y at *
  have h1 : y.tmod ((q : Int) + 1) = y % ((q : Int) + 1) := Int.tmod_eq_emod_of_nonneg h
  have h2 := Int.emod_nonneg y (show (q : Int) + 1 ≠ 0 by omega)
  have h3 := Int.emod_lt_of_pos y (show 0 < (q : Int) + 1 by omega)
  rw [h1]
  generalize y % ((q : Int) + 1) = z at *
  rw [IntWalk.wrap64_in z (by omega)]
  exact ⟨z.toNat, by omega, by omega⟩
theorem ltp_new (D : DevS) (hc : Calm D) (hs : D.sectors = 40) (hz : ∀ s, D.get s = zeroB) : LtP D [] := ⟨hc, hs, trivial, fun i _ _ => hz _, by decide, (fun d hd => by cases hd), by decide⟩
theorem lopen_new {w : World} {p m1 m2 : Nat} (hD : DevAt w p m1 m2 (newD 40)) :
    Calls Try.prog 5 #[ptr p, .agg #[.int .i64 3, .int .i64 30], .int .i64 5, .int .i64 7] w fun e w' => (∃ b vo D', e = .returned (.tuple #[ptr b, vo, .nilIface]) ∧ LogAt w' b p (ltL []) ∧ w.heap.size ≤ b ∧ (∀ i, szBlk w' b i → w.heap.size ≤ i) ∧ DevAt w' p m1 m2 D' ∧ LtP D' []) ∧ Fr (devBlks p m1 m2) w w' := by
  have hfit : (((opL 3 30 5 7 []).first + (opL 3 30 5 7 []).secs : Nat) : Int) ≤ (newD 40).sectors := by decide
  refine (open_any hD rfl 3 30 5 7 (by omega) (by decide) (by omega) (by omega) (by omega) [] (scan_none (fun i => rfl) 3 30 5 7 0 (tags_new _) (by omega) (by omega) (by omega))).mono ?_
  rintro e w' ⟨⟨b, vo, rfl, hL, hb, hs, hO⟩, hDv, hF⟩
  rw [(clN_calm (calm_new 40) (opL 3 30 5 7 []) (by show 2 ≤ 30; omega) hfit (opU []) _ _).up, if_neg (by simp), errV_0]
  refine ⟨⟨b, vo, _, rfl, hL, hb, hs, hDv, ltp_new _ (cleanF_calm (calm_new 40) _ (by show 2 ≤ 30; omega) hfit _ _ _) (cleanF_sectors _ _ _ _ _) (fun s => ?_)⟩, hF⟩
  rcases cleanF_get (calm_new 40) (opL 3 30 5 7 []) (by show 2 ≤ 30; omega) hfit (opU []) ((ringB (newD 40) 3 30 5 30).drop (opU [] * 64)) (30 - opU []) s with e | e
  · rw [e]; rfl
  · exact e
end Go.Proofs.Ythkcmafflbpfoaa

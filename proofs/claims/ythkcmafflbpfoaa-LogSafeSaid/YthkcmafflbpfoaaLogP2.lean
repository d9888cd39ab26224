import Derived.Test.YthkcmafflbpfoaaLogP
namespace Go.Proofs.Ythkcmafflbpfoaa
open Go.RowKit
set_option linter.unusedVariables false
set_option linter.unusedSimpArgs false
set_option maxRecDepth 100000

/-! log: records that lie on a ring are those that are read (plain). -/
def recN (d : List UInt8) (seq : Nat) : Nat := secN (seaB d seq).length
/-- records, sector by sector, from a sector on -/
def Lies (g : Nat → List UInt8) : Nat → Nat → List (List UInt8) → Prop
  | _, _, [] => True
  | u, seq, d :: ds => (∀ j, j < recN d seq → g (u + j) = padB (secB seq (seaB d seq) j)) ∧ Lies g (u + recN d seq) (seq + 1) ds
def szs : Nat → List (List UInt8) → List Nat
  | _, [] => []
  | seq, d :: ds => recN d seq :: szs (seq + 1) ds
theorem szs_len (seq : Nat) (ds : List (List UInt8)) : (szs seq ds).length = ds.length := by
  induction ds generalizing seq with
  | nil => rfl
  | cons d ds ih => rw [szs, List.length_cons, List.length_cons, ih]
theorem szs_append (seq : Nat) (ds es : List (List UInt8)) : szs seq (ds ++ es) = szs seq ds ++ szs (seq + ds.length) es := by
  induction ds generalizing seq with
  | nil => rfl
  | cons d ds ih => rw [List.cons_append, szs, szs, ih, List.cons_append, List.length_cons, show seq + 1 + ds.length = seq + (ds.length + 1) by omega]
theorem szs_drop (seq : Nat) (ds : List (List UInt8)) (k : Nat) : (szs seq ds).drop k = szs (seq + k) (ds.drop k) := by
  induction k generalizing seq ds with
  | zero => rfl
  | succ k ih =>
    cases ds with
    | nil => rfl
    | cons d ds => rw [szs, List.drop_succ_cons, List.drop_succ_cons, ih, show seq + 1 + k = seq + (k + 1) by omega]
theorem Lies.append {g : Nat → List UInt8} {u seq : Nat} {ds : List (List UInt8)} {d : List UInt8} (h : Lies g u seq ds) (hd : ∀ j, j < recN d (seq + ds.length) → g (u + sumN (szs seq ds) + j) = padB (secB (seq + ds.length) (seaB d (seq + ds.length)) j)) : Lies g u seq (ds ++ [d]) := by
  induction ds generalizing u seq with
  | nil => exact ⟨hd, trivial⟩
  | cons x ds ih =>
    refine ⟨h.1, ih h.2 (fun j hj => ?_)⟩
    rw [List.length_cons, show seq + (ds.length + 1) = seq + 1 + ds.length by omega, szs, sumN_cons] at hd
    have := hd j hj
    rw [show u + (recN x seq + sumN (szs (seq + 1) ds)) + j = u + recN x seq + sumN (szs (seq + 1) ds) + j by omega] at this
    exact this
theorem Lies.mono {g g' : Nat → List UInt8} {u seq : Nat} {ds : List (List UInt8)} (h : Lies g u seq ds) (hg : ∀ i, u ≤ i → i < u + sumN (szs seq ds) → g' i = g i) : Lies g' u seq ds := by
  induction ds generalizing u seq with
  | nil => trivial
  | cons x ds ih =>
    rw [szs, sumN_cons] at hg
    exact ⟨fun j hj => by rw [hg _ (by omega) (by omega)]; exact h.1 j hj, ih h.2 (fun i h1 h2 => hg i (by omega) (by omega))⟩
theorem Lies.shift {g : Nat → List UInt8} {s u seq : Nat} {ds : List (List UInt8)} (h : Lies g (s + u) seq ds) : Lies (fun i => g (s + i)) u seq ds := by
  induction ds generalizing u seq with
  | nil => trivial
  | cons x ds ih => exact ⟨fun j hj => by show g (s + (u + j)) = _; rw [← Nat.add_assoc]; exact h.1 j hj, ih (by rw [← Nat.add_assoc]; exact h.2)⟩
theorem Lies.drop {g : Nat → List UInt8} {u seq : Nat} {ds : List (List UInt8)} (h : Lies g u seq ds) (k : Nat) : Lies g (u + sumN ((szs seq ds).take k)) (seq + k) (ds.drop k) := by
  induction k generalizing u seq ds with
  | zero => exact h
  | succ k ih =>
    cases ds with
    | nil => trivial
    | cons x ds =>
      have := ih h.2
      rw [szs, List.take_succ_cons, sumN_cons, List.drop_succ_cons, show u + (recN x seq + sumN ((szs (seq + 1) ds).take k)) = u + recN x seq + sumN ((szs (seq + 1) ds).take k) by omega, show seq + (k + 1) = seq + 1 + k by omega]
      exact this
/-- a record's sectors, one behind the other, begin with its bytes -/
theorem padS_len (seq : Nat) (B : List UInt8) (i : Nat) : ((padB (secB seq B i)).drop 8).length = 56 := by
  have h := secB_len seq B i
  unfold padB
  rw [List.length_drop, List.length_append, List.length_replicate]
  omega
theorem tagL_len (n : Nat) : (tagL n).length = 8 := by simp [tagL]
theorem padS (seq : Nat) (B : List UInt8) (i : Nat) : (padB (secB seq B i)).take 8 = tagL seq ∧ (padB (secB seq B i)).drop 8 = (B.drop (i * 56)).take 56 ++ List.replicate (56 - ((B.drop (i * 56)).take 56).length) 0 := by
  have h8 := tagL_len seq
  unfold padB secB
  rw [List.append_assoc]
  constructor
  · rw [← h8, List.take_left']; rfl
  · rw [List.drop_append, h8, List.drop_eq_nil_of_le (by omega), List.nil_append, Nat.sub_self, List.drop_zero, List.length_append, h8]
    congr 2
    omega
theorem joinS (seq : Nat) (B : List UInt8) (k : Nat) (hk : k ≤ secN B.length) : ∃ pad, (List.range k).flatMap (fun i => (padB (secB seq B i)).drop 8) = B.take (k * 56) ++ pad ∧ (k < secN B.length → pad = []) := by
  induction k with
  | zero => exact ⟨[], by simp, fun _ => rfl⟩
  | succ k ih =>
    obtain ⟨pad, h1, h2⟩ := ih (by omega)
    have hp := h2 (by omega)
    subst hp
    rw [List.append_nil] at h1
    refine ⟨List.replicate (56 - ((B.drop (k * 56)).take 56).length) 0, ?_, fun h => ?_⟩
    · rw [List.range_succ, List.flatMap_append, h1, List.flatMap_singleton, (padS seq B k).2, ← List.append_assoc, show (k + 1) * 56 = k * 56 + 56 by omega, List.take_add]
    · unfold secN at h
      rw [List.length_take, List.length_drop, show 56 - min 56 (B.length - k * 56) = 0 by omega]; rfl
theorem joinS_all (seq : Nat) (B : List UInt8) : ∃ pad, (List.range (secN B.length)).flatMap (fun i => (padB (secB seq B i)).drop 8) = B ++ pad := by
  obtain ⟨pad, h, _⟩ := joinS seq B (secN B.length) (Nat.le_refl _)
  refine ⟨pad, ?_⟩
  rw [h, List.take_of_length_le (by unfold secN; omega)]
def ringG (g : Nat → List UInt8) (k : Nat) : List UInt8 := (List.range k).flatMap g
theorem ringG_len (g : Nat → List UInt8) (hg : ∀ i, (g i).length = 64) (k : Nat) : (ringG g k).length = k * 64 := by
  induction k with
  | zero => rfl
  | succ k ih =>
    unfold ringG at ih ⊢
    rw [List.range_succ, List.flatMap_append, List.length_append, ih, List.flatMap_singleton, hg]; omega
theorem ringG_at (g : Nat → List UInt8) (hg : ∀ i, (g i).length = 64) (k i o n : Nat) (hi : i < k) (ho : o + n ≤ 64) : ((ringG g k).drop (i * 64 + o)).take n = ((g i).drop o).take n := by
  induction k with
  | zero => omega
  | succ k ih =>
    have hl := ringG_len g hg k
    have hs : ringG g (k + 1) = ringG g k ++ g k := by unfold ringG; rw [List.range_succ, List.flatMap_append, List.flatMap_singleton]
    rw [hs]
    by_cases hk : i < k
    · rw [List.drop_append_of_le_length (by omega), List.take_append_of_le_length (by rw [List.length_drop]; omega)]
      exact ih hk
    · obtain rfl : i = k := by omega
      rw [List.drop_append, List.drop_eq_nil_of_le (by omega), List.nil_append, hl, Nat.add_sub_cancel_left]
theorem tagL_inj {a b : Nat} (ha : a < 18446744073709551616) (hb : b < 18446744073709551616) (h : tagL a = tagL b) : a = b := by
  have hk : ∀ k, k < 8 → tagK a k = tagK b k := fun k hk => by
    have := congrArg (·[k]?) h
    simpa [tagL, hk] using this
  have hi : ∀ i, i < 8 → (a / 2 ^ (8 * i)) % 256 = (b / 2 ^ (8 * i)) % 256 := fun i hi => by
    have := hk (7 - i) (by omega)
    unfold tagK lastI at this
    rw [show 7 - (7 - i) = i by omega] at this
    have := congrArg UInt8.toNat this
    simpa using this
  have h0 := hi 0 (by omega); have h1 := hi 1 (by omega); have h2 := hi 2 (by omega); have h3 := hi 3 (by omega)
  have h4 := hi 4 (by omega); have h5 := hi 5 (by omega); have h6 := hi 6 (by omega); have h7 := hi 7 (by omega)
  simp only [Nat.reduceMul, Nat.reducePow, Nat.div_one] at h0 h1 h2 h3 h4 h5 h6 h7
  omega
theorem lies_tags {g : Nat → List UInt8} {u seq : Nat} {d : List UInt8} {ds : List (List UInt8)} (h : Lies g u seq (d :: ds)) (j : Nat) (hj : j < recN d seq) : (g (u + j)).take 8 = tagL seq := by
  rw [h.1 j hj]; exact (padS seq _ j).1
theorem recN_pos (d : List UInt8) (seq : Nat) : 1 ≤ recN d seq := by unfold recN secN; rw [seaB_len]; omega
/-- what is read, is what lies there -/
theorem scan_lies {g : Nat → List UInt8} (hg : ∀ i, (g i).length = 64) (se : Nat) (ds : List (List UInt8)) (hd : ∀ d ∈ ds, d.length ≤ 65536) : ∀ (u seq : Nat), seq + ds.length ≤ 1099511627776 → Lies g u seq ds → u + sumN (szs seq ds) ≤ se →
    (u + sumN (szs seq ds) < se → ∃ t, t < seq ∧ (g (u + sumN (szs seq ds))).take 8 = tagL t) →
    Scan ((ringG g se).drop (u * 64)) seq (ds.zip (szs seq ds)) := by
  have hrl := ringG_len g hg se
  induction ds with
  | nil =>
    intro u seq hs hL hu hend
    rw [show sumN (szs seq []) = 0 from rfl, Nat.add_zero] at hu hend
    have hT : TagK ((ringG g se).drop (u * 64)) seq 0 := by
      refine ⟨by omega, fun i hi => by omega, ?_⟩
      by_cases hus : u < se
      · right
        obtain ⟨t, h1, h3⟩ := hend hus
        rw [Nat.zero_mul, List.drop_zero]
        have := ringG_at g hg se u 0 8 hus (by omega)
        rw [Nat.add_zero, List.drop_zero] at this
        rw [this, h3]
        simp only [List.length_nil, Nat.add_zero] at hs
        intro e
        have := tagL_inj (by omega) (by omega) e
        omega
      · left; rw [List.length_drop, hrl]; omega
    refine Scan.none hT ?_
    show oneF [] seq = none
    unfold oneF
    rw [if_neg]
    rintro ⟨-, h2, -⟩
    unfold oneR at h2
    simp at h2
  | cons d ds ih =>
    intro u seq hs hL hu hend
    rw [szs, sumN_cons] at hu hend
    have hp := recN_pos d seq
    rw [List.length_cons] at hs
    have hdl := hd d (by simp)
    have hG : ∀ i o n, i < recN d seq → o + n ≤ 64 → (((ringG g se).drop (u * 64)).drop (i * 64 + o)).take n = ((g (u + i)).drop o).take n := fun i o n hi ho => by
      have := ringG_at g hg se (u + i) o n (by omega) ho
      rw [List.drop_drop, show u * 64 + (i * 64 + o) = (u + i) * 64 + o by omega]
      exact this
    have hT : TagK ((ringG g se).drop (u * 64)) seq (recN d seq) := by
      refine ⟨by rw [List.length_drop, hrl]; omega, fun i hi => ?_, ?_⟩
      · have := hG i 0 8 hi (by omega)
        rw [Nat.add_zero, List.drop_zero] at this
        rw [this]; exact lies_tags hL i hi
      · by_cases hus : u + recN d seq < se
        · right
          have := ringG_at g hg se (u + recN d seq) 0 8 hus (by omega)
          rw [Nat.add_zero, List.drop_zero] at this
          rw [List.drop_drop, show u * 64 + recN d seq * 64 = (u + recN d seq) * 64 by omega, this]
          cases ds with
          | nil =>
            rw [show sumN (szs (seq + 1) []) = 0 from rfl, Nat.add_zero] at hend
            obtain ⟨t, h1, h3⟩ := hend hus
            rw [h3]; intro e; have := tagL_inj (by omega) (by omega) e; omega
          | cons x xs =>
            have h5 := lies_tags hL.2 0 (recN_pos x (seq + 1))
            rw [Nat.add_zero] at h5
            rw [h5]; intro e; have := tagL_inj (by omega) (by omega) e; omega
        · left; rw [List.length_drop, hrl]; omega
    have hpre : ∃ pad, preB ((ringG g se).drop (u * 64)) (recN d seq) = seaB d seq ++ pad := by
      obtain ⟨pad, hp2⟩ := joinS_all seq (seaB d seq)
      refine ⟨pad, ?_⟩
      rw [← hp2]
      unfold preB recN
      rw [List.flatMap_def, List.flatMap_def]
      congr 1
      apply List.map_congr_left
      intro i hi
      have hi2 := List.mem_range.1 hi
      rw [hG i 8 56 hi2 (by omega), hL.1 i hi2, List.take_of_length_le (by rw [padS_len]; omega)]
    obtain ⟨pad, hpre⟩ := hpre
    have h1 : oneF (preB ((ringG g se).drop (u * 64)) (recN d seq)) seq = some (d, recN d seq) := by rw [hpre]; exact oneF_rec d seq hdl (by omega) pad
    have hrest := ih (fun x hx => hd x (by simp [hx])) (u + recN d seq) (seq + 1) (by omega) hL.2 (by omega) (fun hlt => by
      obtain ⟨t, k1, k3⟩ := hend (by omega)
      exact ⟨t, by omega, by rw [Nat.add_assoc]; exact k3⟩)
    rw [show szs seq (d :: ds) = recN d seq :: szs (seq + 1) ds from rfl, List.zip_cons_cons]
    refine Scan.step (by omega) hT h1 ?_
    rw [List.drop_drop, show u * 64 + recN d seq * 64 = (u + recN d seq) * 64 by omega]
    exact hrest
end Go.Proofs.Ythkcmafflbpfoaa

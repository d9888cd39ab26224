import Derived.Test.YthkcmafflbpfoaaLogArg
import Derived.Test.YthkcmafflbpfoaaLawTrimsA
import Derived.Test.YthkcmafflbpfoaaLogSAll
namespace Go.Proofs.Ythkcmafflbpfoaa
open Go.RowKit
set_option linter.unusedVariables false
set_option linter.unusedSimpArgs false

/-! drydocklaw16's acts among a law's arguments. -/
structure KArg (w : World) (A : Option Addr) (n : Nat) (kept : List Bool) : Prop where
  len : n = kept.length
  most : kept.length ≤ 140737488351232
  cells : CellsAt w A (kept.map Value.bool)
def SActsAt (w : World) (L : Option Addr) (m : Nat) : Prop := ∀ i, i < m → ∃ b o kd nn aa A n c l Ak nk ck kept, L = some ⟨b, o, none⟩ ∧ w.cell? ⟨b, o + i * 5, none⟩ = some (.int .i64 kd) ∧ w.cell? ⟨b, o + i * 5 + 1, none⟩ = some (.int .i64 nn) ∧ w.cell? ⟨b, o + i * 5 + 2, none⟩ = some (.int .i64 aa) ∧ w.cell? ⟨b, o + i * 5 + 3, none⟩ = some (.slice A n c) ∧ w.cell? ⟨b, o + i * 5 + 4, none⟩ = some (.slice Ak nk ck) ∧ LArg w A n c l ∧ KArg w Ak nk kept
theorem sa_bool : Try.prog.cellsOf 4 = 1 := by kernel_rfl
theorem sa_bb : 1 ≤ Try.prog.bytesOf 4 := by rw [show Try.prog.bytesOf 4 = 1 by kernel_rfl]; exact Nat.le_refl _
theorem sa_int : Try.prog.cellsOf 3 = 1 := by kernel_rfl
theorem sa_bools : Try.prog.cellsOf 37 = 1 := by kernel_rfl
theorem sa_act : Try.prog.cellsOf 39 = 5 := by kernel_rfl
theorem five_of_len {α : Type} (r : List α) (h : r.length = 5) : ∃ a b c d e, r = [a, b, c, d, e] := by
  match r, h with
  | [a, b, c, d, e], _ => exact ⟨a, b, c, d, e, rfl⟩
theorem sacts_of_rows {W : World} {v : Value} {A : Option Addr} {n c : Nat} {rows : List (List Value)} (hR : RowsArg Try.prog W 39 v A n c 5 rows) : SActsAt W A n := by
  intro i hi
  have hi2 : i < rows.length := by have := hR.len; omega
  obtain ⟨b, o, hA, hc⟩ := hR.cells i hi2
  obtain ⟨hlen, hrd⟩ := hR.rd rows[i] (List.getElem_mem _)
  obtain ⟨_, hf⟩ := hrd.struct Try.underlying39
  clear hrd
  obtain ⟨r, hr⟩ : ∃ r, r = rows[i] := ⟨_, rfl⟩
  rw [← hr] at hlen hf hc
  clear hr
  have h0 : Rd Try.prog W 3 ((r.drop 0).take (Try.prog.cellsOf 3)) := hf 0 (by simp)
  have h1 : Rd Try.prog W 3 ((r.drop 1).take (Try.prog.cellsOf 3)) := hf 1 (by simp)
  have h2 : Rd Try.prog W 3 ((r.drop 2).take (Try.prog.cellsOf 3)) := hf 2 (by simp)
  have h3 : Rd Try.prog W 36 ((r.drop 3).take (Try.prog.cellsOf 36)) := hf 3 (by simp)
  have h4 : Rd Try.prog W 37 ((r.drop 4).take (Try.prog.cellsOf 37)) := hf 4 (by simp)
  clear hf
  rw [sa_int] at h0 h1 h2
  rw [la_sl] at h3
  rw [sa_bools] at h4
  obtain ⟨u0, u1, u2, u3, u4, rfl⟩ := five_of_len r hlen
  obtain ⟨k0, e0⟩ := rd_int Try.underlying3 u0 h0
  obtain ⟨k1, e1⟩ := rd_int Try.underlying3 u1 h1
  obtain ⟨k2, e2⟩ := rd_int Try.underlying3 u2 h2
  obtain ⟨Ad, nd, cd, l, hB⟩ := (h3.sl Try.underlying36).ones byteV la_u8 la_b8 (fun u hu => by
    obtain ⟨n, hn, hw⟩ := hu.int Try.underlying5
    obtain ⟨x, hx⟩ := u8_of_wf hw
    exact ⟨x, by simp at hn; rw [hn, hx]⟩)
  obtain ⟨Ak, nk, ck, kept, hK⟩ := (h4.sl Try.underlying37).ones Value.bool sa_bool sa_bb (rd_bool Try.underlying4)
  obtain ⟨e3, hn, hcap, hm, hC, hnil⟩ := hB
  obtain ⟨e4, hn2, hcap2, hm2, hC2, hnil2⟩ := hK
  subst e0 e1 e2 e3 e4
  exact ⟨b, o, k0, k1, k2, Ad, nd, cd, l, Ak, nk, ck, kept, hA, hc 0 _ rfl, hc 1 _ rfl, hc 2 _ rfl, hc 3 _ rfl, hc 4 _ rfl, ⟨hn, hcap, Nat.le_trans hm (by omega), hC, hnil⟩, ⟨hn2, by omega, hC2⟩⟩
end Go.Proofs.Ythkcmafflbpfoaa
namespace Go.Proofs.Ythkcmafflbpfoaa
open Go.RowKit
set_option linter.unusedVariables false
set_option linter.unusedSimpArgs false
set_option maxRecDepth 100000

/-! LogSafe: what holds from act to act. -/
def lsL (n at_ first : Nat) (ds : List (List UInt8)) : LogS := ⟨0, n, at_, first, szs first ds, 0⟩
/-- the records from the first one on -/
def recs (all : List (List UInt8)) (first : Nat) : List (List UInt8) := all.drop (first - 1)
abbrev KP := Nat → Array Value → TypeId → Prop
/-- blocks that none of the device, the log and the texts has -/
structure Keep (w : World) (K : KP) : Prop where
  at_ : ∀ g c T, K g c T → w.heap[g]? = some (.cells c T (0, 0))
  ty : ∀ g c T, K g c T → T ≠ 54 ∧ T ≠ 60 ∧ T ≠ 3 ∧ T ≠ 36
theorem Keep.fr {S : Nat → Prop} {w w' : World} {K : KP} (h : Keep w K) (hF : Fr S w w') (hS : ∀ g c T, w.heap[g]? = some (.cells c T (0, 0)) → T ≠ 54 → T ≠ 60 → T ≠ 3 → T ≠ 36 → ¬ S g) : Keep w' K :=
  ⟨fun g c T hk => hF.heap (h.at_ g c T hk) (hS g c T (h.at_ g c T hk) (h.ty g c T hk).1 (h.ty g c T hk).2.1 (h.ty g c T hk).2.2.1 (h.ty g c T hk).2.2.2), h.ty⟩
def kpA (ab n : Nat) : KP := fun g c T => g = ab ∧ c = #[.int .i64 0, .int .i64 (n : Int)] ∧ T = 30
def kpX (ab n x : Nat) (cs : Array Value) : KP := fun g c T => kpA ab n g c T ∨ (g = x ∧ c = cs ∧ T = 39)
theorem kpA_ty (ab n g : Nat) (c : Array Value) (T : TypeId) (h : kpA ab n g c T) : T ≠ 54 ∧ T ≠ 60 ∧ T ≠ 3 ∧ T ≠ 36 := by
  obtain ⟨_, _, rfl⟩ := h; decide
theorem Keep.area {w : World} {ab n : Nat} (h : w.heap[ab]? = some (.cells #[.int .i64 0, .int .i64 (n : Int)] 30 (0, 0))) : Keep w (kpA ab n) := ⟨fun g c T hk => by obtain ⟨rfl, rfl, rfl⟩ := hk; exact h, fun g c T hk => kpA_ty ab n g c T hk⟩
theorem Keep.act {w : World} {ab n x : Nat} {cs : Array Value} (h : Keep w (kpA ab n)) (hx : w.heap[x]? = some (.cells cs 39 (0, 0))) : Keep w (kpX ab n x cs) := ⟨fun g c T hk => by
  rcases hk with hk | ⟨rfl, rfl, rfl⟩
  · exact h.at_ g c T hk
  · exact hx, fun g c T hk => by
  rcases hk with hk | ⟨rfl, rfl, rfl⟩
  · exact h.ty g c T hk
  · decide⟩
theorem Keep.less {w : World} {ab n x : Nat} {cs : Array Value} (h : Keep w (kpX ab n x cs)) : Keep w (kpA ab n) := ⟨fun g c T hk => h.at_ g c T (.inl hk), fun g c T hk => h.ty g c T (.inl hk)⟩
structure SfD (W wr : World) (p m1 m2 : Nat) (ab : KP) (base n at_ first safe : Nat) (all : List (List UInt8)) (v : Value) (D : DevS) : Prop where
  dev : DevAt wr p m1 m2 D
  fr : Fr none_ W wr
  nd : ∀ i, devBlks p m1 m2 i → W.heap.size ≤ i
  sub : Sub D n at_ first (recs all first) (safe + 1 - first)
  txt : AllAt W wr base v all
  le : W.heap.size ≤ base ∧ base ≤ wr.heap.size
  keep : Keep wr ab
  num : 1 ≤ first ∧ first ≤ safe + 1 ∧ safe ≤ all.length
structure SfS (W wr : World) (p m1 m2 b : Nat) (ab : KP) (base n at_ first safe : Nat) (all : List (List UInt8)) (v : Value) (D : DevS) : Prop where
  sd : SfD W wr p m1 m2 ab base n at_ first safe all v D
  g : LrG W wr p m1 m2 b (lsL n at_ first (recs all first)) D
  up : D.down = false
  full : Full D n at_ first (recs all first)
theorem recs_len {all : List (List UInt8)} {first : Nat} (h1 : 1 ≤ first) (h2 : first ≤ all.length + 1) : first + (recs all first).length = all.length + 1 := by
  unfold recs; rw [List.length_drop]; omega
theorem recs_app {all : List (List UInt8)} {first : Nat} (h1 : 1 ≤ first) (h2 : first ≤ all.length + 1) (d : List UInt8) : recs (all ++ [d]) first = recs all first ++ [d] := by
  unfold recs; rw [List.drop_append_of_le_length (by omega)]
theorem SfD.dev_step {W wr w' : World} {p m1 m2 base n at_ first safe : Nat} {ab : KP} {all : List (List UInt8)} {v : Value} {D D' : DevS} (h : SfD W wr p m1 m2 ab base n at_ first safe all v D) (hF : Fr (devBlks p m1 m2) wr w') (hD : DevAt w' p m1 m2 D') (hs : Sub D' n at_ first (recs all first) (safe + 1 - first)) : SfD W w' p m1 m2 ab base n at_ first safe all v D' :=
  ⟨hD, h.fr.trans' hF (fun i hi e => by have := h.nd i e; omega), h.nd, hs, h.txt.fr hF (fun k c hk hc => dev_cells h.dev hc (by decide) hk), ⟨h.le.1, Nat.le_trans h.le.2 hF.size⟩, h.keep.fr hF (fun g c T hg h1 _ _ _ => dev_cells h.dev hg h1), h.num⟩
theorem SfD.fr0 {W wr w' : World} {p m1 m2 base n at_ first safe : Nat} {ab : KP} {all : List (List UInt8)} {v : Value} {D : DevS} (h : SfD W wr p m1 m2 ab base n at_ first safe all v D) (hF : Fr none_ wr w') : SfD W w' p m1 m2 ab base n at_ first safe all v D :=
  h.dev_step (Fr.of0 hF) (h.dev.fr0 hF) h.sub
theorem SfD.rekeep {W wr : World} {p m1 m2 base n at_ first safe : Nat} {ab ab2 : KP} {all : List (List UInt8)} {v : Value} {D : DevS} (h : SfD W wr p m1 m2 ab base n at_ first safe all v D) (hk : Keep wr ab2) : SfD W wr p m1 m2 ab2 base n at_ first safe all v D :=
  ⟨h.dev, h.fr, h.nd, h.sub, h.txt, h.le, hk, h.num⟩
theorem SfS.rekeep {W wr : World} {p m1 m2 b base n at_ first safe : Nat} {ab ab2 : KP} {all : List (List UInt8)} {v : Value} {D : DevS} (h : SfS W wr p m1 m2 b ab base n at_ first safe all v D) (hk : Keep wr ab2) : SfS W wr p m1 m2 b ab2 base n at_ first safe all v D :=
  ⟨h.sd.rekeep hk, h.g, h.up, h.full⟩
theorem SfS.fr0 {W wr w' : World} {p m1 m2 b base n at_ first safe : Nat} {ab : KP} {all : List (List UInt8)} {v : Value} {D : DevS} (h : SfS W wr p m1 m2 b ab base n at_ first safe all v D) (hF : Fr none_ wr w') : SfS W w' p m1 m2 b ab base n at_ first safe all v D :=
  ⟨h.sd.fr0 hF, h.g.fr0 hF, h.up, h.full⟩
/-- the device alone, behind what the log's functions write -/
theorem SfS.step {S : Nat → Prop} {W wr w' : World} {p m1 m2 b base n at_ first safe at2 first2 safe2 : Nat} {ab : KP} {all : List (List UInt8)} {v : Value} {D D' : DevS} (h : SfS W wr p m1 m2 b ab base n at_ first safe all v D) (hF : Fr S wr w') (hS : ∀ i, S i → devBlks p m1 m2 i ∨ i = b ∨ szBlk wr b i) (hD : DevAt w' p m1 m2 D') (hs : Sub D' n at2 first2 (recs all first2) (safe2 + 1 - first2)) (hn : 1 ≤ first2 ∧ first2 ≤ safe2 + 1 ∧ safe2 ≤ all.length) : SfD W w' p m1 m2 ab base n at2 first2 safe2 all v D' :=
  ⟨hD, h.g.fr.trans' hF (fun i hi e => by
    rcases hS i e with e | e | e
    · have := h.g.nd i e; omega
    · have := h.g.nb; omega
    · have := h.g.ns i e; omega), h.sd.nd, hs, h.sd.txt.frG h.g hF hS, ⟨h.sd.le.1, Nat.le_trans h.sd.le.2 hF.size⟩, h.sd.keep.fr hF (fun g c T hg h1 h2 h3 _ e => h.g.not hg h1 h2 h3 (hS g e)), hn⟩
theorem SfD.started {W wr w' : World} {p m1 m2 base n at_ first safe : Nat} {ab : KP} {all : List (List UInt8)} {v : Value} {D : DevS} (h : SfD W wr p m1 m2 ab base n at_ first safe all v D) (kept : List Bool) (hF : Fr (devBlks p m1 m2) wr w') (hD : DevAt w' p m1 m2 (D.start kept)) : SfD W w' p m1 m2 ab base n at_ first safe all v (D.start kept) :=
  h.dev_step hF hD (h.sub.start kept).1
theorem Sub.armed {D : DevS} {n at_ seq : Nat} {ds : List (List UInt8)} {s : Nat} (h : Sub D n at_ seq ds s) (a : Bool) (k : Int) : Sub { D with armed := a, left := k } n at_ seq ds s := ⟨h.fits, h.secs, h.lost, ⟨h.al.now, h.al.old⟩⟩
/-- a text is laid behind the others: the device's sectors may hold it -/
theorem SfD.pushed {W wr w' : World} {p m1 m2 base n at_ first safe nn c : Nat} {ab : KP} {all : List (List UInt8)} {v v' : Value} {D : DevS} {d : List UInt8} {A : Option Addr} {vs : List Value}
    (hdev : DevAt wr p m1 m2 D) (hfr : Fr none_ W wr) (hnd : ∀ i, devBlks p m1 m2 i → W.heap.size ≤ i) (hsub : Sub D n at_ first (recs (all ++ [d]) first) (safe + 1 - first)) (hb : W.heap.size ≤ base ∧ base ≤ wr.heap.size) (hab : Keep wr ab) (hn : 1 ≤ first ∧ first ≤ safe + 1 ∧ safe ≤ all.length)
    (h1 : vs.length = all.length) (h2 : wr.ownsRow base 36 1 v all.length vs) (h3 : ∀ j (hj : j < all.length), ∃ A n c, vs[j]? = some (.slice A n c) ∧ LArg W A n c all[j]) (hA : LArg W A nn c d) (hown : w'.ownsRow base 36 1 v' (all.length + 1) (vs ++ [.slice A nn c])) (hgr : wr.grownBy w' v.ownBlock) : SfD W w' p m1 m2 ab base n at_ first safe (all ++ [d]) v' D := by
  have hF := Fr.of_grown hgr
  have ht : ∀ i, v.ownBlock = some i → W.heap.size ≤ i ∧ ∃ c2, wr.heap[i]? = some (.cells c2 36 (0, 0)) := fun i hi => ⟨Nat.le_trans hb.1 (ownsRow_lt h2 hi).1, own_type h2 hi⟩
  refine ⟨hdev.fr hF (fun i hi e => ?_), hfr.trans' hF (fun i hi e => by have := (ht i e).1; omega), hnd, hsub, ⟨vs ++ [.slice A nn c], by simp [h1], by rw [List.length_append]; exact hown, fun j hj => ?_⟩, ⟨hb.1, Nat.le_trans hb.2 hF.size⟩, hab.fr hF (fun g c T hg _ _ _ h4 e => ?_), ⟨hn.1, hn.2.1, by rw [List.length_append]; omega⟩⟩
  · obtain ⟨c2, hc⟩ := (ht i e).2
    exact dev_cells hdev hc (by decide) hi
  · by_cases hlt : j < all.length
    · obtain ⟨A2, n2, c2, g1, g2⟩ := h3 j hlt
      exact ⟨A2, n2, c2, by rw [List.getElem?_append_left (by omega)]; exact g1, by rw [List.getElem_append_left hlt]; exact g2⟩
    · have hj2 : j = all.length := by rw [List.length_append, List.length_singleton] at hj; omega
      subst hj2
      exact ⟨A, nn, c, by rw [← h1, List.getElem?_append_right (by omega)]; simp, by rw [List.getElem_append_right (by omega)]; simpa using hA⟩
  · obtain ⟨c2, hc⟩ := (ht g e).2
    rw [hc] at hg
    cases hg
    exact h4 rfl
/-- the texts, cut -/
theorem AllAt.take {W w : World} {base q g o c : Nat} {all : List (List UInt8)} (h : AllAt W w base (.slice (some ⟨g, o, none⟩) all.length c) all) (hq : q ≤ all.length) : AllAt W w base (.slice (some ⟨g, o, none⟩) q c) (all.take q) := by
  obtain ⟨vs, h1, h2, h3⟩ := h
  refine ⟨vs.take q, by simp [h1], ?_, fun j hj => ?_⟩
  · obtain ⟨x1, x2⟩ := h2
    rw [List.length_take, Nat.min_eq_left hq]
    refine ⟨by simp [h1, hq], ?_⟩
    rcases x2 with ⟨h0, _⟩ | ⟨g', cap, cur, hv, y1, y2, y3, y4, y5, y6⟩
    · cases h0
    · cases hv
      refine .inr ⟨g, c, cur, rfl, y1, y2, by omega, y4, y5, ?_⟩
      simp only [Nat.mul_one] at y6 ⊢
      rw [← y6, List.take_take, Nat.min_eq_left hq]
  · rw [List.length_take] at hj
    obtain ⟨A2, n2, c2, g1, g2⟩ := h3 j (by omega)
    exact ⟨A2, n2, c2, by rw [List.getElem?_take_of_lt (by omega)]; exact g1, by rw [List.getElem_take]; exact g2⟩
theorem sa_n (x : Int) : ∃ n : Nat, 3 ≤ n ∧ n ≤ 14 ∧ wrap64 (3 + wrap64 ((IntKind.u64.wrap x).tmod 12)) = (n : Int) := by
  have h : 0 ≤ IntKind.u64.wrap x := by rw [IntKind.wrap_u64]; omega
  generalize IntKind.u64.wrap x = y at *
  have h1 : y.tmod 12 = y % 12 := Int.tmod_eq_emod_of_nonneg h
  have h2 : 0 ≤ y % 12 ∧ y % 12 < 12 := by omega
  rw [h1]
  generalize y % 12 = z at *
  rw [IntWalk.wrap64_in z (by omega), IntWalk.wrap64_in _ (by omega)]
  exact ⟨(3 + z).toNat, by omega, by omega, by omega⟩
theorem sa_mod (x : Int) (q : Nat) (hq : 0 < q) (hq2 : q ≤ 100) : ∃ k : Nat, k < q ∧ wrap64 ((IntKind.u64.wrap x).tmod (q : Int)) = (k : Int) := by
  have h : 0 ≤ IntKind.u64.wrap x := by rw [IntKind.wrap_u64]; omega
  generalize IntKind.u64.wrap x = y at *
  have h1 : y.tmod (q : Int) = y % (q : Int) := Int.tmod_eq_emod_of_nonneg h
  have h2 := Int.emod_nonneg y (show (q : Int) ≠ 0 by omega)
  have h3 := Int.emod_lt_of_pos y (show 0 < (q : Int) by omega)
  rw [h1]
  generalize y % (q : Int) = z at *
  rw [IntWalk.wrap64_in z (by omega)]
  exact ⟨z.toNat, by omega, by omega⟩
theorem zip_opL (n at_ first : Nat) (ds : List (List UInt8)) : opL 0 n at_ first (ds.zip (szs first ds)) = lsL n at_ first ds := by
  unfold opL logR lsL
  rw [sizesOf_zip]
theorem zip_opU (first : Nat) (ds : List (List UInt8)) : opU (ds.zip (szs first ds)) = sumN (szs first ds) := by
  unfold opU
  rw [sizesOf_zip]
end Go.Proofs.Ythkcmafflbpfoaa
namespace Go.Proofs.Ythkcmafflbpfoaa
open Go.RowKit
set_option linter.unusedVariables false
set_option linter.unusedSimpArgs false
set_option maxRecDepth 100000

/-! LogSafe: each call of the law. -/
theorem recs_eq_drop (all : List (List UInt8)) (first k : Nat) (h : 1 ≤ first) : recs all (first + k) = (recs all first).drop k := by
  unfold recs
  rw [List.drop_drop]
  congr 1
  omega
theorem szs_take (seq : Nat) (ds : List (List UInt8)) (k : Nat) : (szs seq ds).take k = szs seq (ds.take k) := by
  induction k generalizing seq ds with
  | zero => rfl
  | succ k ih =>
    cases ds with
    | nil => rfl
    | cons d ds => rw [szs, List.take_succ_cons, List.take_succ_cons, szs, ih]
section
variable {W wr : World} {p m1 m2 b base n at_ first safe : Nat} {ab : KP} {all : List (List UInt8)} {v : Value} {D : DevS}
theorem SfS.recs (h : SfS W wr p m1 m2 b ab base n at_ first safe all v D) : first + (recs all first).length = all.length + 1 := recs_len h.sd.num.1 (by have := h.sd.num; omega)
theorem sf_flush (h : SfS W wr p m1 m2 b ab base n at_ first safe all v D) : Calls Try.prog 6 #[ptr b] wr fun e w' => e = .returned .nilIface ∧ SfS W w' p m1 m2 b ab base n at_ first all.length all v { D with loose := [] } := by
  refine (lflush_ok h.g.log rfl h.g.dev h.up).mono ?_
  rintro e w' ⟨rfl, hL, hD, hF, hz⟩
  rw [errV_0]
  have hS : ∀ i, (devBlks p m1 m2 i ∨ i = b) → devBlks p m1 m2 i ∨ i = b ∨ szBlk wr b i := fun i e => by rcases e with e | e <;> simp [e]
  obtain ⟨s1, s2⟩ := h.sd.sub.flushed h.full
  have hr := h.recs
  have hn := h.sd.num
  exact ⟨rfl, h.step hF hS hD (by rw [show all.length + 1 - first = (recs all first).length by omega]; exact s1) ⟨hn.1, by omega, Nat.le_refl _⟩, h.g.flushed hL hD hF hz, h.up, s2⟩
theorem sf_trim (h : SfS W wr p m1 m2 b ab base n at_ first safe all v D) (k : Nat) (hk : first + k ≤ safe + 1) : Calls Try.prog 7 #[ptr b, .int .i64 ((first + k : Nat) : Int)] wr fun e w' => e = .returned .nilIface ∧ SfS W w' p m1 m2 b ab base n ((at_ + sumN (szs first ((recs all first).take k))) % n) (first + k) safe all v D := by
  have hr := h.recs
  have hn := h.sd.num
  have hsl : (szs first (recs all first)).length = (recs all first).length := szs_len _ _
  have hm := h.sd.sub.fits.many
  refine (ltrim_ok h.g.log rfl k (by show k ≤ (szs first (recs all first)).length; omega) (by show first + (szs first (recs all first)).length ≤ _; omega)).mono ?_
  rintro e w' ⟨rfl, hL, hF, hz⟩
  have hS : ∀ i, i = b → devBlks p m1 m2 i ∨ i = b ∨ szBlk wr b i := fun i e => .inr (.inl e)
  have hd := recs_eq_drop all first k hn.1
  have hlt : trimL (lsL n at_ first (Go.Proofs.Ythkcmafflbpfoaa.recs all first)) k = lsL n ((at_ + sumN (szs first ((Go.Proofs.Ythkcmafflbpfoaa.recs all first).take k))) % n) (first + k) (Go.Proofs.Ythkcmafflbpfoaa.recs all (first + k)) := by
    unfold trimL lsL
    rw [hd, ← szs_drop]
    simp only
    rw [szs_take]
  have hg := h.g.trimmed hL hF hz
  rw [hlt] at hg
  have hs2 := h.sd.sub.trim k (by omega)
  rw [← hd, show safe + 1 - first - k = safe + 1 - (first + k) by omega] at hs2
  have hf2 := h.full.trim k (by omega)
  rw [← hd] at hf2
  exact ⟨rfl, h.step hF hS hg.dev hs2 ⟨by omega, hk, hn.2.2⟩, hg, h.up, hf2⟩
theorem sf_armS (h : SfS W wr p m1 m2 b ab base n at_ first safe all v D) (k : Int) (hk : 0 ≤ k) : Calls Try.prog 9 #[ptr p, .int .i64 k] wr fun e w' => e = .returned (errV 0) ∧ SfS W w' p m1 m2 b ab base n at_ first safe all v { D with armed := true, left := k } := by
  refine (arm_ok h.g.dev k hk h.up).mono ?_
  rintro e w' ⟨rfl, hF, hD⟩
  exact ⟨rfl, h.sd.dev_step hF hD (h.sd.sub.armed true k), h.g.dev_step hF hD, h.up, h.full⟩
theorem sf_armD (h : SfD W wr p m1 m2 ab base n at_ first safe all v D) (hup : D.down = false) (k : Int) (hk : 0 ≤ k) : Calls Try.prog 9 #[ptr p, .int .i64 k] wr fun e w' => e = .returned (errV 0) ∧ SfD W w' p m1 m2 ab base n at_ first safe all v { D with armed := true, left := k } := by
  refine (arm_ok h.dev k hk hup).mono ?_
  rintro e w' ⟨rfl, hF, hD⟩
  exact ⟨rfl, h.dev_step hF hD (h.sub.armed true k)⟩
theorem sf_start (h : SfD W wr p m1 m2 ab base n at_ first safe all v D) (A : Option Addr) (nk c : Nat) (kept : List Bool) (hK : KArg W A nk kept) : Calls Try.prog 10 #[ptr p, .slice A nk c] wr fun e w' => e = .returned (.tuple #[]) ∧ Fr (devBlks p m1 m2) wr w' ∧ SfD W w' p m1 m2 ab base n at_ first safe all v (D.start kept) := by
  refine (start_ok h.dev A nk c kept hK.len (hK.cells.fr0 h.fr) (fun x hx hl hd => ?_) hK.most h.sub.lost).mono ?_
  · have h1 := hK.cells.lt hx (by rw [List.length_map]; exact hl)
    have h2 := h.nd x hd
    omega
  · rintro e w' ⟨rfl, hF, hD⟩
    exact ⟨rfl, hF, h.started kept hF hD⟩
structure SfP (W w' : World) (p m1 m2 : Nat) (ab : KP) (base n at_ first safe : Nat) (all : List (List UInt8)) (d : List UInt8) (v : Value) (D' : DevS) : Prop where
  dev : DevAt w' p m1 m2 D'
  fr : Fr none_ W w'
  nd : ∀ i, devBlks p m1 m2 i → W.heap.size ≤ i
  sub : Sub D' n at_ first (Go.Proofs.Ythkcmafflbpfoaa.recs (all ++ [d]) first) (safe + 1 - first)
  txt : AllAt W w' base v all
  le : W.heap.size ≤ base ∧ base ≤ w'.heap.size
  keep : Keep w' ab
  num : 1 ≤ first ∧ first ≤ safe + 1 ∧ safe ≤ all.length
theorem sf_full (h : SfS W wr p m1 m2 b ab base n at_ first safe all v D) (A : Option Addr) (nn c : Nat) (d : List UInt8) (hA : LArg W A nn c d) (hd : d.length ≤ 65536) (hm : all.length ≤ 1000) (hfull : n < recN d (all.length + 1) + sumN (szs first (Go.Proofs.Ythkcmafflbpfoaa.recs all first)) + 1) :
    Calls Try.prog 11 #[ptr b, .slice A nn c] wr fun e w' => e = .returned (.tuple #[.int .i64 0, errV 10]) ∧ Fr none_ wr w' := by
  have hr := h.recs
  have hsl : (szs first (Go.Proofs.Ythkcmafflbpfoaa.recs all first)).length = (Go.Proofs.Ythkcmafflbpfoaa.recs all first).length := szs_len _ _
  exact append_full h.g.log rfl A nn c (by rw [hA.len]; exact hd) (all.length + 1) (by show _ = first + (szs first (Go.Proofs.Ythkcmafflbpfoaa.recs all first)).length; omega) (by omega) (recN d (all.length + 1)) (by rw [hA.len]; exact (needF_rec d (all.length + 1) hd (by omega) (by omega)).symm) (recN_le d _ hd) hfull
theorem sf_append (h : SfS W wr p m1 m2 b ab base n at_ first safe all v D) (A : Option Addr) (nn c : Nat) (d : List UInt8) (hA : LArg W A nn c d) (hd : d.length ≤ 65536) (hm : all.length ≤ 1000) (hroom : recN d (all.length + 1) + sumN (szs first (Go.Proofs.Ythkcmafflbpfoaa.recs all first)) + 1 ≤ n) :
    Calls Try.prog 11 #[ptr b, .slice A nn c] wr fun e w' => ∃ D', SfP W w' p m1 m2 ab base n at_ first safe all d v D' ∧ ((D'.down = false ∧ e = .returned (.tuple #[.int .i64 ((all.length : Int) + 1), .nilIface]) ∧ LrG W w' p m1 m2 b (lsL n at_ first (Go.Proofs.Ythkcmafflbpfoaa.recs (all ++ [d]) first)) D' ∧ Full D' n at_ first (Go.Proofs.Ythkcmafflbpfoaa.recs (all ++ [d]) first)) ∨ (D'.down = true ∧ e = .returned (.tuple #[.int .i64 0, errV 13]))) := by
  have hr := h.recs
  have hn := h.sd.num
  have hsl : (szs first (Go.Proofs.Ythkcmafflbpfoaa.recs all first)).length = (Go.Proofs.Ythkcmafflbpfoaa.recs all first).length := szs_len _ _
  have hseq : all.length + 1 = first + (Go.Proofs.Ythkcmafflbpfoaa.recs all first).length := by omega
  have hap := recs_app hn.1 (by omega) d (all := all)
  have hfit : (((lsL n at_ first (Go.Proofs.Ythkcmafflbpfoaa.recs all first)).first + (lsL n at_ first (Go.Proofs.Ythkcmafflbpfoaa.recs all first)).secs : Nat) : Int) ≤ D.sectors := by rw [h.sd.sub.secs]; show ((0 + n : Nat) : Int) ≤ _; omega
  refine (append_ok h.g.log rfl h.g.dev hfit A nn c d hA.len (hA.cells.fr0 h.g.fr) hA.nil hd (all.length + 1) (by show _ = first + (szs first (Go.Proofs.Ythkcmafflbpfoaa.recs all first)).length; omega) (by omega) (by omega) (recN d (all.length + 1)) rfl (needF_rec d (all.length + 1) hd (by omega) (by omega)).symm hroom (by show (szs first (Go.Proofs.Ythkcmafflbpfoaa.recs all first)).length < 16384; omega)).mono ?_
  rintro e w' ⟨hres, hdv, hfr, hsz⟩
  rw [hseq] at hroom
  have hs2 := h.sd.sub.append d hd (lsL n at_ first (Go.Proofs.Ythkcmafflbpfoaa.recs all first)) rfl rfl rfl hroom (by omega)
  rw [← hap, ← hseq] at hs2
  have hP : SfP W w' p m1 m2 ab base n at_ first safe all d v (apN D (lsL n at_ first (Go.Proofs.Ythkcmafflbpfoaa.recs all first)) (sumN (szs first (Go.Proofs.Ythkcmafflbpfoaa.recs all first))) (all.length + 1) (seaB d (all.length + 1)) (recN d (all.length + 1))) :=
    ⟨hdv, h.g.fr.trans' hfr (fun i hi e => by
      rcases e with e | e | e
      · have := h.g.nd i e; omega
      · have := h.g.nb; omega
      · have := h.g.ns i e; omega), h.sd.nd, hs2, h.sd.txt.frG h.g hfr (fun i e => e), ⟨h.sd.le.1, Nat.le_trans h.sd.le.2 hfr.size⟩, h.sd.keep.fr hfr (fun g c T hg h1 h2 h3 _ e => h.g.not hg h1 h2 h3 e), hn⟩
  refine ⟨_, hP, ?_⟩
  rcases hres with ⟨hdn, rfl, hL⟩ | ⟨hdn, rfl, hL⟩
  · refine .inl ⟨hdn, by rw [show ((all.length + 1 : Nat) : Int) = (all.length : Int) + 1 by omega], ?_, ?_⟩
    · have hl2 : ({ (lsL n at_ first (Go.Proofs.Ythkcmafflbpfoaa.recs all first)) with sizes := (lsL n at_ first (Go.Proofs.Ythkcmafflbpfoaa.recs all first)).sizes ++ [recN d (all.length + 1)] } : LogS) = lsL n at_ first (Go.Proofs.Ythkcmafflbpfoaa.recs (all ++ [d]) first) := by
        unfold lsL
        rw [hap, szs_append, ← hseq]; rfl
      have hg := h.g.step hfr (fun i e => e) hL hdv (hsz hdn)
      rw [hl2] at hg
      exact hg
    · have := h.full.append h.sd.sub.secs (by have := h.sd.sub.fits.n3; omega) h.sd.sub.fits.at_lt d (lsL n at_ first (Go.Proofs.Ythkcmafflbpfoaa.recs all first)) rfl rfl rfl hroom (by rw [← hseq]; exact hdn)
      rw [← hap, ← hseq] at this
      exact this
  · exact .inr ⟨hdn, rfl⟩
structure SfO (W w' : World) (p m1 m2 b base2 n at_ first safe c : Nat) (all : List (List UInt8)) (vo : Value) (D' : DevS) : Prop where
  up : D'.down = false
  loose : D'.loose = []
  lo : safe + 1 - first ≤ c
  hi : c ≤ (Go.Proofs.Ythkcmafflbpfoaa.recs all first).length
  out : OutAt w' base2 vo first (((Go.Proofs.Ythkcmafflbpfoaa.recs all first).take c).zip (szs first ((Go.Proofs.Ythkcmafflbpfoaa.recs all first).take c)))
  g : LrG W w' p m1 m2 b (lsL n at_ first ((Go.Proofs.Ythkcmafflbpfoaa.recs all first).take c)) D'
  sub : Sub D' n at_ first ((Go.Proofs.Ythkcmafflbpfoaa.recs all first).take c) c
  full : Full D' n at_ first ((Go.Proofs.Ythkcmafflbpfoaa.recs all first).take c)
  bl : ∀ i, devBlks p m1 m2 i → i < base2
theorem sf_open (h : SfD W wr p m1 m2 ab base n at_ first safe all v D) (hup : D.down = false) (hlo : D.loose = []) :
    Calls Try.prog 5 #[ptr p, .agg #[.int .i64 0, .int .i64 (n : Int)], .int .i64 (at_ : Int), .int .i64 (first : Int)] wr fun e w' => ∃ b vo D', SfD W w' p m1 m2 ab base n at_ first safe all v D' ∧ ((D.armed = true ∧ D'.down = true ∧ e = .returned (.tuple #[ptr b, vo, errV 13])) ∨ (∃ c, e = .returned (.tuple #[ptr b, vo, .nilIface]) ∧ SfO W w' p m1 m2 b wr.heap.size n at_ first safe c all vo D')) := by
  have hf := h.sub.fits
  obtain ⟨c, c1, c2, hsc, hfu⟩ := h.sub.scan h.dev.get_len
  have hle := szs_take_all first (Go.Proofs.Ythkcmafflbpfoaa.recs all first) c
  have hr := hf.room
  have hop := open_any h.dev hup 0 n at_ first (by have := hf.n3; omega) (by rw [h.sub.secs]; omega) hf.at_lt hf.seq1 (by have := hf.many; omega) _ hsc
  unfold areaV at hop
  refine hop.mono ?_
  rintro e w' ⟨⟨b, vo, rfl, hL, hb, hs, hO⟩, hDv, hF⟩
  rw [zip_opL] at hL
  rw [zip_opL, zip_opU] at hDv ⊢
  obtain ⟨l, hl⟩ : ∃ l, l = lsL n at_ first ((Go.Proofs.Ythkcmafflbpfoaa.recs all first).take c) := ⟨_, rfl⟩
  have hl1 : l.first = 0 := by rw [hl]; rfl
  have hl2 : l.secs = n := by rw [hl]; rfl
  have hl3 : l.at_ = at_ := by rw [hl]; rfl
  rw [← hl] at hL hDv ⊢
  have hsub := h.sub.clean l hl1 hl2 hl3 (sumN (szs first ((Go.Proofs.Ythkcmafflbpfoaa.recs all first).take c))) (szs_take_le first _ _ _ c1) (by omega) ((ringB D 0 n at_ n).drop (sumN (szs first ((Go.Proofs.Ythkcmafflbpfoaa.recs all first).take c)) * 64))
  have hsd := h.dev_step hF hDv hsub
  refine ⟨b, vo, _, hsd, ?_⟩
  by_cases hdn : (clN D l (sumN (szs first ((Go.Proofs.Ythkcmafflbpfoaa.recs all first).take c))) ((ringB D 0 n at_ n).drop (sumN (szs first ((Go.Proofs.Ythkcmafflbpfoaa.recs all first).take c)) * 64)) (n - sumN (szs first ((Go.Proofs.Ythkcmafflbpfoaa.recs all first).take c)))).down = true
  · left
    rw [if_pos hdn]
    refine ⟨?_, by rw [clean_dn]; exact hdn, rfl⟩
    cases ha : D.armed with
    | true => rfl
    | false =>
      have := (clN_calm ⟨hup, ha⟩ l (by have := hf.n3; omega) (by rw [h.sub.secs, hl1, hl2]; omega) (sumN (szs first ((Go.Proofs.Ythkcmafflbpfoaa.recs all first).take c))) ((ringB D 0 n at_ n).drop (sumN (szs first ((Go.Proofs.Ythkcmafflbpfoaa.recs all first).take c)) * 64)) (n - sumN (szs first ((Go.Proofs.Ythkcmafflbpfoaa.recs all first).take c)))).up
      rw [this] at hdn; cases hdn
  · right
    have hdn2 := Bool.eq_false_iff.2 hdn
    rw [if_neg hdn, errV_0]
    obtain ⟨s1, s2⟩ := h.sub.opened h.dev.get_len hlo c2 hfu l hl1 hl2 hl3 hdn2
    refine ⟨c, rfl, by rw [clean_dn]; exact hdn2, clean_loose hlo _ _ _ _ hdn2, c1, c2, hO, ⟨hDv, by rw [← hl]; exact hL, hsd.fr, h.nd, ?_, fun i hi => ?_⟩, s1, s2, h.dev.lt⟩
    · have := h.fr.size; omega
    · have := hs i hi; have := h.fr.size; omega
end
theorem SfP.fr0 {W w1 w2 : World} {p m1 m2 base n at_ first safe : Nat} {ab : KP} {all : List (List UInt8)} {d : List UInt8} {v : Value} {D : DevS} (h : SfP W w1 p m1 m2 ab base n at_ first safe all d v D) (hF : Fr none_ w1 w2) : SfP W w2 p m1 m2 ab base n at_ first safe all d v D :=
  ⟨h.dev.fr0 hF, h.fr.trans hF, h.nd, h.sub, h.txt.fr hF (fun k c e => e.elim), ⟨h.le.1, Nat.le_trans h.le.2 hF.size⟩, h.keep.fr hF (fun _ _ _ _ _ _ _ _ e => e), h.num⟩
/-- the text that was appended is laid behind the others -/
theorem SfP.push {W w1 w2 : World} {p m1 m2 base n at_ first safe nn c : Nat} {ab : KP} {all : List (List UInt8)} {d : List UInt8} {v v' : Value} {D : DevS} {A : Option Addr} {vs : List Value} (h : SfP W w1 p m1 m2 ab base n at_ first safe all d v D)
    (h1 : vs.length = all.length) (h2 : w1.ownsRow base 36 1 v all.length vs) (h3 : ∀ j (hj : j < all.length), ∃ A n c, vs[j]? = some (.slice A n c) ∧ LArg W A n c all[j]) (hA : LArg W A nn c d) (hown : w2.ownsRow base 36 1 v' (all.length + 1) (vs ++ [.slice A nn c])) (hgr : w1.grownBy w2 v.ownBlock) :
    SfD W w2 p m1 m2 ab base n at_ first safe (all ++ [d]) v' D ∧ ∀ b l, LrG W w1 p m1 m2 b l D → LrG W w2 p m1 m2 b l D := by
  refine ⟨SfD.pushed h.dev h.fr h.nd h.sub h.le h.keep h.num h1 h2 h3 hA hown hgr, fun b l hg => hg.other (Fr.of_grown hgr) (fun i hi => ⟨Nat.le_trans h.le.1 (ownsRow_lt h2 hi).1, ?_⟩)⟩
  obtain ⟨c2, hc⟩ := own_type h2 hi
  exact ⟨c2, 36, hc, by decide, by decide, by decide⟩
/-- the state behind a reopening -/
theorem sf_again {W wc y1 : World} {p m1 m2 b base base2 n at_ first safe c q c8 : Nat} {ab : KP} {all : List (List UInt8)} {A8 : Option Addr} {vo : Value} {D : DevS} (hO : SfO W wc p m1 m2 b base2 n at_ first safe c all vo D) (hl : D.lost = false) (hF : Fr (devBlks p m1 m2) wc y1) (hS : SfD W y1 p m1 m2 ab base n at_ first safe all (.slice A8 all.length c8) (D.start [])) (hq : q + 1 = first + c) :
    SfS W y1 p m1 m2 b ab base n at_ first q (all.take q) (.slice A8 q c8) (D.start []) ∧ (all.take q).length = q := by
  have hn := hS.num
  have hr := recs_len hn.1 (by omega : first ≤ all.length + 1)
  have hi := hO.hi
  have hqa : q ≤ all.length := by omega
  have hlq : (all.take q).length = q := by rw [List.length_take, Nat.min_eq_left hqa]
  have hrt : recs (all.take q) first = (recs all first).take c := by
    unfold recs
    rw [List.drop_take]
    congr 1
    omega
  have hget := start_nil hl hO.loose []
  obtain ⟨t1, t2, t3⟩ := hO.sub.start []
  have hfull : Full (D.start []) n at_ first ((recs all first).take c) := fun i x hx => by
    have := hO.full i x hx
    unfold ringV at this ⊢
    rw [hget]
    exact this
  have htx : AllAt W y1 base (.slice A8 q c8) (all.take q) := by
    cases A8 with
    | none =>
      obtain ⟨vs, h1, h2, h3⟩ := hS.txt
      obtain ⟨A, cc, hv, _, _, hnil, _⟩ := ownsRow_read h2
      cases hv
      obtain ⟨h0, hc0⟩ := hnil rfl
      have hq0 : q = 0 := by omega
      subst hq0
      subst hc0
      exact ⟨[], by simp, by simpa using World.ownsRow_nil _ _ _ _, fun j hj => absurd hj (by simp)⟩
    | some a =>
      obtain ⟨vs, h1, h2, h3⟩ := id hS.txt
      rcases h2.2 with ⟨h0, _⟩ | ⟨g', cap, cur, hv, _⟩
      · cases h0
      · cases hv
        exact hS.txt.take hqa
  refine ⟨⟨⟨hS.dev, hS.fr, hS.nd, ?_, htx, hS.le, hS.keep, ⟨hn.1, by omega, by omega⟩⟩, ?_, t2, ?_⟩, hlq⟩
  · rw [hrt, show q + 1 - first = c by omega]; exact t1
  · rw [hrt]; exact hO.g.dev_step hF hS.dev
  · rw [hrt]; exact hfull
end Go.Proofs.Ythkcmafflbpfoaa

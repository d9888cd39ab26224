import Derived.Test.YtdlhndbgmldeaaaThereP
import Derived.Test.YtdlhndbgmldeaaaHLocs
namespace Go.Proofs.Ytdlhndbgmldeaaa
open Go.RowKit
set_option linter.unusedVariables false
set_option linter.unusedSimpArgs false

/-! HotThere: what the walk keeps. -/
theorem modK (a : Int) (n : Nat) (hn : 0 < n) (hn2 : n ≤ 1000000) : ∃ k : Nat, k < n ∧ wrap64 ((IntKind.u64.wrap a).tmod (n : Int)) = (k : Int) := by
  have h : 0 ≤ IntKind.u64.wrap a := by rw [IntKind.wrap_u64]; omega
  have h1 := Int.emod_nonneg (IntKind.u64.wrap a) (show (n : Int) ≠ 0 by omega)
  have h2 := Int.emod_lt_of_pos (IntKind.u64.wrap a) (show (0 : Int) < (n : Int) by omega)
  refine ⟨((IntKind.u64.wrap a) % (n : Int)).toNat, by omega, ?_⟩
  rw [Int.tmod_eq_emod_of_nonneg h, IntWalk.wrap64_in _ (by omega)]
  omega
/-- an act, whole -/
structure ActAt (w : World) (b o : Nat) (kd nn : Int) (A : Option Addr) (n c : Nat) (l : List UInt8) (x0 x1 x2 x3 : Int) : Prop where
  c0 : w.cell? ⟨b, o, none⟩ = some (.int .i64 kd)
  c1 : w.cell? ⟨b, o + 1, none⟩ = some (.int .i64 nn)
  c2 : w.cell? ⟨b, o + 2, none⟩ = some (.slice A n c)
  c3 : w.cell? ⟨b, o + 3, none⟩ = some (.int .i64 x0)
  c4 : w.cell? ⟨b, o + 4, none⟩ = some (.int .i64 x1)
  c5 : w.cell? ⟨b, o + 5, none⟩ = some (.int .i64 x2)
  c6 : w.cell? ⟨b, o + 6, none⟩ = some (.int .u32 x3)
  arg : BArg w A n c l
def ActsAll (w : World) (L : Option Addr) (m : Nat) : Prop := ∀ i, i < m → ∃ b o kd nn A n c l x0 x1 x2 x3, L = some ⟨b, o, none⟩ ∧ ActAt w b (o + i * 7) kd nn A n c l x0 x1 x2 x3
theorem ha_loc : Try.prog.cellsOf 38 = 4 := by kernel_rfl
theorem ha_u32 : Try.prog.cellsOf 36 = 1 := by kernel_rfl
theorem acts_all {W : World} {v : Value} {A : Option Addr} {n c : Nat} {rows : List (List Value)} (hR : RowsArg Try.prog W 40 v A n c 7 rows) : ActsAll W A n := by
  intro i hi
  have hi2 : i < rows.length := by have := hR.len; omega
  obtain ⟨b, o, hA, hc⟩ := hR.cells i hi2
  obtain ⟨hlen, hrd⟩ := hR.rd rows[i] (List.getElem_mem _)
  obtain ⟨_, hf⟩ := hrd.struct Try.underlying40
  clear hrd
  obtain ⟨r, hr⟩ : ∃ r, r = rows[i] := ⟨_, rfl⟩
  rw [← hr] at hlen hf hc
  clear hr
  have h0 : Rd Try.prog W 3 ((r.drop 0).take (Try.prog.cellsOf 3)) := hf 0 (by simp)
  have h1 : Rd Try.prog W 3 ((r.drop 1).take (Try.prog.cellsOf 3)) := hf 1 (by simp)
  have h2 : Rd Try.prog W 35 ((r.drop 2).take (Try.prog.cellsOf 35)) := hf 2 (by simp)
  have h3 : Rd Try.prog W 38 ((r.drop 3).take (Try.prog.cellsOf 38)) := hf 3 (by simp)
  clear hf
  rw [ha_int] at h0 h1
  rw [ha_sl] at h2
  rw [ha_loc] at h3
  obtain ⟨u0, u1, u2, u3, u4, u5, u6, rfl⟩ := seven_of_len r hlen
  obtain ⟨k0, e0⟩ := rd_int Try.underlying3 u0 h0
  obtain ⟨k1, e1⟩ := rd_int Try.underlying3 u1 h1
  obtain ⟨_, hg⟩ := h3.struct Try.underlying38
  have g0 : Rd Try.prog W 3 (([u3, u4, u5, u6].drop 0).take (Try.prog.cellsOf 3)) := hg 0 (by simp)
  have g1 : Rd Try.prog W 3 (([u3, u4, u5, u6].drop 1).take (Try.prog.cellsOf 3)) := hg 1 (by simp)
  have g2 : Rd Try.prog W 3 (([u3, u4, u5, u6].drop 2).take (Try.prog.cellsOf 3)) := hg 2 (by simp)
  have g3 : Rd Try.prog W 36 (([u3, u4, u5, u6].drop 3).take (Try.prog.cellsOf 36)) := hg 3 (by simp)
  clear hg h3
  rw [ha_int] at g0 g1 g2
  rw [ha_u32] at g3
  obtain ⟨k3, e3⟩ := rd_int Try.underlying3 u3 g0
  obtain ⟨k4, e4⟩ := rd_int Try.underlying3 u4 g1
  obtain ⟨k5, e5⟩ := rd_int Try.underlying3 u5 g2
  obtain ⟨k6, e6⟩ := rd_int Try.underlying36 u6 g3
  obtain ⟨Ak, nk, ck, l, hB⟩ := (h2.sl Try.underlying35).ones byteV ha_u8 ha_b8 (fun u hu => by
    obtain ⟨n, hn, hw⟩ := hu.int Try.underlying5
    obtain ⟨x, hx⟩ := u8_of_wf hw
    exact ⟨x, by simp at hn; rw [hn, hx]⟩)
  obtain ⟨e2, hn, hcap, hm, hK, hnil⟩ := hB
  subst e0 e1 e2 e3 e4 e5 e6
  exact ⟨b, o, k0, k1, Ak, nk, ck, l, k3, k4, k5, k6, hA, hc 0 _ rfl, hc 1 _ rfl, hc 2 _ rfl, hc 3 _ rfl, hc 4 _ rfl, hc 5 _ rfl, hc 6 _ rfl, hn, hcap, hm, hK, hnil⟩
def strV (l : List UInt8) : Value := .string ⟨l.toArray⟩
theorem info_str : (Try.prog.info? 9).map (fun i => (i.zero, i.size, i.bytes)) = some (some (.string ⟨#[]⟩), 1, 16) := by kernel_rfl
theorem strV_one (ls : List (List UInt8)) : ∀ u ∈ ls.map strV, u.oneCell' = true := by
  intro u hu
  obtain ⟨x, _, rfl⟩ := List.mem_map.1 hu
  rfl
def locsC (zs : List (LocS × List UInt8)) : List Value := (zs.map (·.1)).flatMap locC
def textsC (zs : List (LocS × List UInt8)) : List Value := (zs.map (·.2)).map strV
theorem locsC_app (a b : List (LocS × List UInt8)) : locsC (a ++ b) = locsC a ++ locsC b := by unfold locsC; rw [List.map_append, List.flatMap_append]
theorem textsC_app (a b : List (LocS × List UInt8)) : textsC (a ++ b) = textsC a ++ textsC b := by unfold textsC; rw [List.map_append, List.map_append]
structure ThW (w : World) (B : Nat) (wr : World) (h bx p m1 m2 : Nat) (H : HotS) (D : DevS) (zs : List (LocS × List UInt8)) (vL vT : Value) : Prop where
  st : HS w wr h bx p m1 m2 H D
  inv : ThInv H D zs
  ownL : wr.ownsRow B 43 4 vL zs.length (locsC zs)
  ownT : wr.ownsRow B 9 1 vT zs.length (textsC zs)
  grow : B ≤ wr.heap.size
  sec : D.sectors = 12
section
variable {w wr w' : World} {B h bx p m1 m2 : Nat} {H : HotS} {D : DevS} {zs : List (LocS × List UInt8)} {vL vT : Value}
theorem ThW.step0 (R : ThW w B wr h bx p m1 m2 H D zs vL vT) (hF : Fr none_ wr w') : ThW w B w' h bx p m1 m2 H D zs vL vT :=
  ⟨R.st.step0 hF, R.inv, ownsRow_fr0 R.ownL hF, ownsRow_fr0 R.ownT hF, Nat.le_trans R.grow hF.size, R.sec⟩
theorem ThW.notL (R : ThW w B wr h bx p m1 m2 H D zs vL vT) (hd : ∀ i, devBlks p m1 m2 i → i < B) : ∀ k, vL.ownBlock = some k → ¬ (k = bx ∨ devBlks p m1 m2 k) := fun k hk e => by
  rcases e with e | e
  · subst e; exact own_ne R.ownL R.st.hd.hot.bxs (by decide) hk
  · have := hd k e; have := (ownsRow_lt R.ownL hk).1; omega
theorem ThW.notT (R : ThW w B wr h bx p m1 m2 H D zs vL vT) (hd : ∀ i, devBlks p m1 m2 i → i < B) : ∀ k, vT.ownBlock = some k → ¬ (k = bx ∨ devBlks p m1 m2 k) := fun k hk e => by
  rcases e with e | e
  · subst e; exact own_ne R.ownT R.st.hd.hot.bxs (by decide) hk
  · have := hd k e; have := (ownsRow_lt R.ownT hk).1; omega
/-- boxes change -/
theorem ThW.chB (R : ThW w B wr h bx p m1 m2 H D zs vL vT) (hd : ∀ i, devBlks p m1 m2 i → i < B) {H2 : HotS} (C : ChB wr h bx p H2 w') (I : ThInv H2 D zs) : ThW w B w' h bx p m1 m2 H2 D zs vL vT := by
  have hnb := R.st.nb
  refine ⟨⟨R.st.hd.setHot C.fr C.hot (I.first.trans R.inv.first.symm) (I.sectors.trans R.inv.sectors.symm) (I.len.trans R.inv.len.symm), I.snd.ok, R.st.calm, R.st.fr.trans' C.fr (fun k hk e => by omega), R.st.nh, R.st.nb, R.st.nd⟩, I,
    ownsRow_fr R.ownL C.fr (fun k hk e => R.notL hd k hk (.inl e)), ownsRow_fr R.ownT C.fr (fun k hk e => R.notT hd k hk (.inl e)), Nat.le_trans R.grow C.fr.size, R.sec⟩
/-- boxes change, and the places are not yet told anew -/
theorem ThW.stB (R : ThW w B wr h bx p m1 m2 H D zs vL vT) (hd : ∀ i, devBlks p m1 m2 i → i < B) {H2 : HotS} (C : ChB wr h bx p H2 w') {zs2 : List (LocS × List UInt8)} (I : ThInv H2 D zs2) : HS w w' h bx p m1 m2 H2 D ∧ w'.ownsRow B 43 4 vL zs.length (locsC zs) ∧ w'.ownsRow B 9 1 vT zs.length (textsC zs) ∧ B ≤ w'.heap.size := by
  have hnb := R.st.nb
  exact ⟨⟨R.st.hd.setHot C.fr C.hot (I.first.trans R.inv.first.symm) (I.sectors.trans R.inv.sectors.symm) (I.len.trans R.inv.len.symm), I.snd.ok, R.st.calm, R.st.fr.trans' C.fr (fun k hk e => by omega), R.st.nh, R.st.nb, R.st.nd⟩,
    ownsRow_fr R.ownL C.fr (fun k hk e => R.notL hd k hk (.inl e)), ownsRow_fr R.ownT C.fr (fun k hk e => R.notT hd k hk (.inl e)), Nat.le_trans R.grow C.fr.size⟩
/-- Put, whatever it answers -/
theorem ThW.putS (R : ThW w B wr h bx p m1 m2 H D zs vL vT) (hd : ∀ i, devBlks p m1 m2 i → i < B) {H2 : HotS} {D2 : DevS} (S : HS w w' h bx p m1 m2 H2 D2) (hF : Fr (fun k => k = bx ∨ devBlks p m1 m2 k) wr w') : w'.ownsRow B 43 4 vL zs.length (locsC zs) ∧ w'.ownsRow B 9 1 vT zs.length (textsC zs) ∧ B ≤ w'.heap.size :=
  ⟨ownsRow_fr R.ownL hF (R.notL hd), ownsRow_fr R.ownT hF (R.notT hd), Nat.le_trans R.grow hF.size⟩
end
/-- rows that are collected anew -/
structure StR (w5 wq : World) (zs : List (LocS × List UInt8)) (va vb : Value) : Prop where
  fr : Fr none_ w5 wq
  a : wq.ownsRow w5.heap.size 43 4 va zs.length (locsC zs)
  b : wq.ownsRow w5.heap.size 9 1 vb zs.length (textsC zs)
/-- a write into a row of the law's own leaves the boxes -/
theorem HS.off {w0 w w' : World} {h bx p m1 m2 : Nat} {H : HotS} {D : DevS} (S : HS w0 w h bx p m1 m2 H D) {T : Nat → Prop} (hF : Fr T w w') (h1 : ¬ T h) (h2 : ¬ T bx) (h3 : ∀ i, devBlks p m1 m2 i → ¬ T i) (h4 : ∀ k, T k → w0.heap.size ≤ k) : HS w0 w' h bx p m1 m2 H D :=
  ⟨⟨S.hd.hot.fr hF h1 h2, S.hd.dev.fr hF h3, S.hd.hd, S.hd.bd, S.hd.up, S.hd.fit⟩, S.ok, S.calm, S.fr.trans' hF (fun k hk e => by have := h4 k e; omega), S.nh, S.nb, S.nd⟩
theorem HS.row {w0 w w' : World} {B h bx p m1 m2 : Nat} {H : HotS} {D : DevS} (S : HS w0 w h bx p m1 m2 H D) (hd : ∀ i, devBlks p m1 m2 i → i < B) (hB : w0.heap.size ≤ B) {e : TypeId} {size n : Nat} {v : Value} {xs : List Value} (ho : w.ownsRow B e size v n xs) (he1 : 65 ≠ e) (he2 : 70 ≠ e) (hg : w.grownBy w' v.ownBlock) : HS w0 w' h bx p m1 m2 H D :=
  S.off (Fr.of_grown hg) (own_ne ho S.hd.hot.blk he1) (own_ne ho S.hd.hot.bxs he2) (fun i hi e => by have := hd i hi; have := (ownsRow_lt ho e).1; omega) (fun k e => by have := (ownsRow_lt ho e).1; omega)
/-- two rows of unlike elements lie in unlike blocks -/
theorem rows_apart {w : World} {B1 B2 : Nat} {e1 e2 : TypeId} {s1 s2 n1 n2 : Nat} {v1 v2 : Value} {x1 x2 : List Value} (h1 : w.ownsRow B1 e1 s1 v1 n1 x1) (h2 : w.ownsRow B2 e2 s2 v2 n2 x2) (he : e1 ≠ e2) : ∀ k, v1.ownBlock = some k → ¬ v2.ownBlock = some k := fun k hk => by
  obtain ⟨_, h3⟩ := h1
  rcases h3 with ⟨rfl, _⟩ | ⟨g, cap, cur, rfl, _, hb, _⟩
  · cases hk
  · simp [Value.ownBlock] at hk
    subst hk
    exact own_ne h2 hb he
end Go.Proofs.Ytdlhndbgmldeaaa

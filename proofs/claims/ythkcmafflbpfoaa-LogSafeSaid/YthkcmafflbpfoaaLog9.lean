import Derived.Test.YthkcmafflbpfoaaLog8
namespace Go.Proofs.Ythkcmafflbpfoaa
open Go.RowKit
set_option linter.unusedVariables false
set_option linter.unusedSimpArgs false
set_option maxRecDepth 100000

/-! log: Open, where no record lies. -/
def logO (fi se at_ seq : Nat) : LogS := ⟨fi, se, at_, seq, [], 0⟩
/-- the block that a slice lies in -/
def szB (v : Value) (i : Nat) : Prop := ∃ o n c, v = .slice (some ⟨i, o, none⟩) n c
/-- the block of a log's sizes -/
def szBlk (w : World) (b i : Nat) : Prop := ∃ l p v, w.heap[b]? = some (.cells (LogS.cells l p v) 60 (0, 0)) ∧ szB v i
theorem szBlk_nil {w : World} {b p fi se at_ seq : Nat} (h : w.heap[b]? = some (.cells #[ptr p, .int .i64 (fi : Int), .int .i64 (se : Int), .int .i64 (at_ : Int), .int .i64 (seq : Int), .slice none 0 0, .nilIface] 60 (0, 0))) (i : Nat) : ¬ szBlk w b i := by
  rintro ⟨l, p', v, h2, o, n, c, rfl⟩
  rw [h] at h2
  unfold LogS.cells at h2
  simp at h2
structure Opened0 (w : World) (p m1 m2 : Nat) (D : DevS) (fi se at_ seq : Nat) (e : Ending) (w' : World) : Prop where
  ret : ∃ b, e = .returned (.tuple #[ptr b, .slice none 0 0, errV (if (clN D (logO fi se at_ seq) 0 (ringB D fi se at_ se) se).down then 13 else 0)]) ∧ LogAt w' b p (logO fi se at_ seq) ∧ w.heap.size ≤ b ∧ ∀ i, ¬ szBlk w' b i
  dev : DevAt w' p m1 m2 (cleanF D (logO fi se at_ seq) 0 (ringB D fi se at_ se) se)
  fr : Fr (devBlks p m1 m2) w w'
abbrev logC (p fi se at_ seq : Nat) : Obj := .cells #[ptr p, .int .i64 (fi : Int), .int .i64 (se : Int), .int .i64 (at_ : Int), .int .i64 (seq : Int), .slice none 0 0, .nilIface] 60
theorem logO_at {w : World} {b p fi se at_ seq : Nat} (h : w.heap[b]? = some (.cells #[ptr p, .int .i64 (fi : Int), .int .i64 (se : Int), .int .i64 (at_ : Int), .int .i64 (seq : Int), .slice none 0 0, .nilIface] 60 (0, 0))) (h1 : fi ≤ 16384) (h2 : 2 ≤ se) (h3 : se ≤ 16384) (h4 : at_ < se) (h5 : seq ≤ 1099511627777) : LogAt w b p (logO fi se at_ seq) :=
  ⟨⟨.slice none 0 0, h, ⟨.inl ⟨rfl, rfl⟩⟩⟩, h1, h2, h3, h4, h5, by simp [logO], by simp [logO]⟩
set_option maxHeartbeats 4000000 in
theorem open_none {w : World} {p m1 m2 : Nat} {D : DevS} (hD : DevAt w p m1 m2 D) (hup : D.down = false) (fi se at_ seq : Nat) (h1 : 2 ≤ se) (h2 : (fi : Int) + (se : Int) ≤ D.sectors) (h3 : at_ < se) (h4 : 1 ≤ seq) (h5 : seq ≤ 1099511627776) (hno : (ringB D fi se at_ se).take 8 ≠ tagL seq) :
    Calls Try.prog 5 #[ptr p, areaV fi se, .int .i64 (at_ : Int), .int .i64 (seq : Int)] w fun e w' => Opened0 w p m1 m2 D fi se at_ seq e w' := by
  have hm := hD.most
  have hrl := ringB_len D fi se at_ hD.get_len se
  obtain ⟨R, hR⟩ : ∃ R, R = ringB D fi se at_ se := ⟨_, rfl⟩
  rw [← hR] at hno hrl
  have hfs : fi ≤ 16384 ∧ se ≤ 16384 := by omega
  have hFb := (Fr.refl none_ w).alloc (.cells #[.int .i64 (fi : Int), .int .i64 (se : Int)] 30)
  have hb0 : (w.alloc (.cells #[.int .i64 (fi : Int), .int .i64 (se : Int)] 30)).heap[w.heap.size]? = some (.cells #[.int .i64 (fi : Int), .int .i64 (se : Int)] 30 (0, 0)) := heap_alloc_new _ _
  have hck : ∀ W, Fr none_ w W → Calls Try.prog 14 #[areaV fi se, ptr p, .int .i64 (at_ : Int), .int .i64 (seq : Int)] W fun e w' => e = .returned .nilIface ∧ Fr none_ W w' := fun W hF => check_ok (hD.fr0 hF) fi se at_ seq h1 h2 h3 h4 h5
  have hrg : ∀ W, Fr none_ w W → Calls Try.prog 15 #[areaV fi se, ptr p, .int .i64 (at_ : Int)] W fun e w' => Ringed W R e w' := fun W hF => by rw [hR]; exact ring_ok (hD.fr0 hF) hup fi se at_ h1 h2 h3
  unfold areaV at hck hrg ⊢
  have HCK := Lib.hid hck
  have HRG := Lib.hid hrg
  have HR := Lib.hid hR
  have HNO := Lib.hid hno
  have HRL := Lib.hid hrl
  clear hck hrg hR hno hm hrl
  go_enter Try.func5, Try.ntmps5
  go_wp2_with fail
  obtain ⟨V, hV⟩ : ∃ V, V = w.alloc (.cells #[.int .i64 (fi : Int), .int .i64 (se : Int)] 30) := ⟨_, rfl⟩
  rw [← hV] at hFb hb0
  rw [← hV]
  clear hV
  (with_reducible refine (HCK.out V hFb).mono ?_)
  rintro e y1 ⟨rfl, hF1⟩
  have hb1 := hF1.heap0 hb0
  have ba0 : y1.cell? ⟨w.heap.size, 0, none⟩ = some (.int .i64 (fi : Int)) := by rw [cell_of_blk hb1]; rfl
  have ba1 : y1.cell? ⟨w.heap.size, 1, none⟩ = some (.int .i64 (se : Int)) := by rw [cell_of_blk hb1]; rfl
  have hF01 := hFb.trans hF1
  go_wp2_with fail
  (with_reducible refine (HRG.out y1 hF01).mono ?_)
  rintro e y2 ⟨⟨A, c, rfl, hA, hc, hnil, hbl⟩, hF2⟩
  rw [errV_0]
  have hb2 := hF2.heap0 hb1
  have bb0 : y2.cell? ⟨w.heap.size, 0, none⟩ = some (.int .i64 (fi : Int)) := by rw [cell_of_blk hb2]; rfl
  have bb1 : y2.cell? ⟨w.heap.size, 1, none⟩ = some (.int .i64 (se : Int)) := by rw [cell_of_blk hb2]; rfl
  have hF02 := hF01.trans hF2
  have hapn : ∀ b, blkOf A b → 0 < R.length → ¬ devBlks p m1 m2 b := fun b hb _ => hD.new (Nat.le_trans hF01.size (hbl b hb))
  have HX := Lib.hid (And.intro hF02 (And.intro hapn (And.intro hA (And.intro hc hnil))))
  clear hbl hapn hFb hF1 hF2 hF01 hF02 ba0 ba1 hb0 hb1 hA hnil hc
  go_wp2_with fail
  obtain ⟨Z, hZ⟩ : ∃ Z, Z = y2.alloc (.cells #[ptr p, .int .i64 (fi : Int), .int .i64 (se : Int), .int .i64 (at_ : Int), .int .i64 (seq : Int), .slice none 0 0, .nilIface] 60) := ⟨_, rfl⟩
  have hFZ : Fr none_ y2 Z := by rw [hZ]; exact (Fr.refl _ _).alloc _
  have hbZ : Z.heap[y2.heap.size]? = some (.cells #[ptr p, .int .i64 (fi : Int), .int .i64 (se : Int), .int .i64 (at_ : Int), .int .i64 (seq : Int), .slice none 0 0, .nilIface] 60 (0, 0)) := by rw [hZ]; exact heap_alloc_new _ _
  rw [← hZ]
  clear hZ
  go_loopw [15, 16] (fun o r wr => o = .slice none 0 0 ∧ r = .slice A R.length c ∧ Fr none_ Z wr) (fun _ _ _ => 0)
  case atStart => exact ⟨rfl, rfl, Fr.refl _ _⟩
  case round =>
    obtain ⟨rfl, rfl, hFr⟩ := hrel
    obtain ⟨hF02, hapn, hA, hc, hnil⟩ := HX.out
    have hrl := HRL.out
    have hFw : Fr none_ w wr := (hF02.trans hFZ).trans hFr
    have hon := one_none (w := wr) A R.length c R rfl (hA.fr0 (hFZ.trans hFr)) (fun h => by have := hnil h; omega) hc seq (by omega) (by omega) (.inr ⟨by omega, HNO.out⟩)
    have HON := Lib.hid hon
    have hL0 := logO_at (hFr.heap0 hbZ) hfs.1 h1 hfs.2 h3 (by omega : seq ≤ 1099511627777)
    obtain ⟨en, hen⟩ : ∃ en : Int, en = (if (clN D (logO fi se at_ seq) 0 R se).down then 13 else 0) := ⟨_, rfl⟩
    have hcn : ∀ W, Fr none_ wr W → Calls Try.prog 17 #[ptr y2.heap.size, .slice A R.length c] W fun e w' => e = .returned (errV en) ∧ DevAt w' p m1 m2 (cleanF D (logO fi se at_ seq) 0 R se) ∧ Fr (devBlks p m1 m2) W w' := fun W hF => by
      rw [hen]
      exact (clean_any (hL0.fr0 hF) (hD.fr0 (hFw.trans hF)) hup (by show ((fi + se : Nat) : Int) ≤ _; omega) 0 rfl (by omega) A R.length c R se (by omega) hfs.2 rfl (hA.fr0 ((hFZ.trans hFr).trans hF)) hc hapn).mono (fun e w' hC => ⟨hC.ret, hC.dev, hC.fr⟩)
    have HCN := Lib.hid hcn
    have HEN := Lib.hid hen
    clear hen
    have HW := Lib.hid hFw
    have hs1 : (seq : Int) ≤ 1099511627776 := by omega
    clear hF02 hapn hA hc hnil hon hcn hrl hfs h1 h2 h3 h4
    go_wp2_with fail
    (with_reducible refine HON.out.mono ?_)
    rintro e z1 ⟨rfl, hG1⟩
    go_wp2_with fail
    have hGa := hG1.alloc (.cells #[.int .i64 0, .slice none 0 0] 49)
    (with_reducible refine (HCN.out _ hGa).mono ?_)
    rintro e z2 ⟨he, hDv, hFd⟩
    subst he
    go_wp2_with fail
    go_ret3
    have hDw := hD.fr0 (HW.out.trans hGa)
    refine ⟨⟨y2.heap.size, by rw [← HR.out, ← HEN.out]; rfl, (hL0.fr0 hGa).frD hDw hFd, HX.out.1.size, szBlk_nil (hFd.heap (hGa.heap0 (hFr.heap0 hbZ)) (dev_cells hDw (hGa.heap0 (hFr.heap0 hbZ)) (by decide)))⟩, by rw [← HR.out]; exact hDv, (Fr.of0 (HW.out.trans hGa)).trans hFd⟩
end Go.Proofs.Ythkcmafflbpfoaa

import Derived.Test.YtjfeibbghhjjeaaDoorHotM4
namespace Go.Proofs.YtjfeibbghhjjeaaDoor
open Go.RowKit
set_option linter.unusedVariables false
set_option linter.unusedSimpArgs false
set_option maxRecDepth 100000

/-! hot: what holds between the calls of a law. -/
theorem ok_putB {H : HotS} (h : H.Ok) (i : Nat) (b : BoxS) (h1 : b.used ≤ H.sectors * 64) (h2 : b.live ≤ b.used) : (H.putB i b).Ok := by
  have key : ∀ j (hj : j < (H.putB i b).boxes.length), (H.putB i b).boxes[j] = b ∨ ∃ hj2 : j < H.boxes.length, (H.putB i b).boxes[j] = H.boxes[j] := fun j hj => by
    have hj2 : j < H.boxes.length := by rwa [putB_len] at hj
    by_cases e : i = j
    · subst e; left; simp [HotS.putB]
    · right; exact ⟨hj2, by simp [HotS.putB, List.getElem_set_ne e]⟩
  refine ⟨fun j hj => ?_, fun j hj => ?_⟩
  · rcases key j hj with e | ⟨hj2, e⟩
    · rw [e]; exact h1
    · rw [e]; exact h.used j hj2
  · rcases key j hj with e | ⟨hj2, e⟩
    · rw [e]; exact h2
    · rw [e]; exact h.live j hj2
theorem ok_bx {H : HotS} (h : H.Ok) (i : Nat) : (H.bx i).used ≤ H.sectors * 64 ∧ (H.bx i).live ≤ (H.bx i).used := by
  by_cases hi : i < H.boxes.length
  · rw [bx_eq hi]; exact ⟨h.used i hi, h.live i hi⟩
  · have : H.bx i = freeB := by simp [HotS.bx, List.getD_eq_getElem?_getD, List.getElem?_eq_none (by omega : H.boxes.length ≤ i)]
    rw [this]; exact ⟨Nat.zero_le _, Nat.le_refl _⟩
theorem ok_seal {H : HotS} (h : H.Ok) : H.seal.Ok := by
  unfold HotS.seal
  split
  · rename_i i hi
    exact ok_putB h i _ (ok_bx h i).1 (ok_bx h i).2
  · exact h
theorem ok_prep {H : HotS} (h : H.Ok) {n : Nat} {H1 : HotS} {i : Nat} (hp : H.prep n = some (H1, i)) : H1.Ok := by
  unfold HotS.prep at hp
  split at hp
  · cases hp; exact h
  · split at hp
    · cases hp; exact ok_putB (ok_seal h) i _ (Nat.zero_le _) (Nat.le_refl _)
    · cases hp
theorem ok_after {H : HotS} (h : H.Ok) {i n : Nat} (hf : (H.bx i).used + n ≤ H.sectors * 64) : (H.after i n).Ok := by
  have := (ok_bx h i).2
  exact ok_putB h i _ hf (show (H.bx i).live + n ≤ (H.bx i).used + n by omega)
theorem ok_new (f : Int) (n s : Nat) : (newH f n s).Ok := by
  have : ∀ i (hi : i < (newH f n s).boxes.length), (newH f n s).boxes[i] = freeB := fun i hi => by simp [newH]
  exact ⟨fun i hi => by rw [this i hi]; exact Nat.zero_le _, fun i hi => by rw [this i hi]; exact Nat.le_refl _⟩
structure HS (w0 w : World) (h bx p m1 m2 : Nat) (H : HotS) (D : DevS) : Prop where
  hd : Hd w h bx p m1 m2 H D
  ok : H.Ok
  calm : Calm D
  fr : Fr none_ w0 w
  nh : w0.heap.size ≤ h
  nb : w0.heap.size ≤ bx
  nd : ∀ i, devBlks p m1 m2 i → w0.heap.size ≤ i
theorem HS.step0 {w0 w w' : World} {h bx p m1 m2 : Nat} {H : HotS} {D : DevS} (S : HS w0 w h bx p m1 m2 H D) (hF : Fr none_ w w') : HS w0 w' h bx p m1 m2 H D :=
  ⟨S.hd.fr0 hF, S.ok, S.calm, S.fr.trans hF, S.nh, S.nb, S.nd⟩
/-- a slice that a call may be handed: it lies not in what Put writes -/
def Apart (bx p m1 m2 : Nat) (A : Option Addr) : Prop := ∀ b, blkOf A b → b ≠ bx ∧ ¬ devBlks p m1 m2 b
theorem HS.apart_old {w0 w : World} {h bx p m1 m2 : Nat} {H : HotS} {D : DevS} (S : HS w0 w h bx p m1 m2 H D) {A : Option Addr} (hb : ∀ b, blkOf A b → b < w0.heap.size) : Apart bx p m1 m2 A := fun b h => by
  have h1 := hb b h
  have h2 := S.nb
  exact ⟨by omega, fun hd => by have := S.nd b hd; omega⟩
theorem HS.apart_new {w0 w : World} {h bx p m1 m2 : Nat} {H : HotS} {D : DevS} (S : HS w0 w h bx p m1 m2 H D) {A : Option Addr} (hb : ∀ b, blkOf A b → w.heap.size ≤ b) : Apart bx p m1 m2 A := fun b h => by
  have h1 := hb b h
  have h2 := blk_lt S.hd.hot.bxs
  exact ⟨by omega, S.hd.dev.new h1⟩
structure PutS (w0 w : World) (h bx p m1 m2 : Nat) (H2 : HotS) (D2 : DevS) (v : Value) (n : Int) (e : Ending) (w' : World) : Prop where
  ret : e = .returned (.tuple #[v, errV n])
  st : HS w0 w' h bx p m1 m2 H2 D2
  fr : Fr (fun k => k = bx ∨ devBlks p m1 m2 k) w w'
theorem HS.put {w0 w : World} {h bx p m1 m2 : Nat} {H : HotS} {D : DevS} (S : HS w0 w h bx p m1 m2 H D) (A : Option Addr) (n c : Nat) (l : List UInt8) (hnl : n = l.length) (hn : 0 < n) (hl : n ≤ H.sectors * 64)
    (hA : CellsAt w A (l.map byteV)) (hap : Apart bx p m1 m2 A) (H1 : HotS) (i_ : Nat) (hp : H.prep n = some (H1, i_)) :
    Calls Tryd.prog 25 #[ptr h, .slice A n c] w fun e w' => PutS w0 w h bx p m1 m2 (H1.after i_ n) (hwrite D H1 i_ (H1.bx i_).used l) (locV i_ (H1.bx i_).used n (sumF l)) 0 e w' := by
  have hP := prep_some S.ok hl hp
  refine (hput_ok S.hd S.ok S.calm A n c l hnl hn hl hA hap H1 i_ hp).mono fun e w' hh => ⟨hh.ret, ⟨hh.hd, ok_after (ok_prep S.ok hp) hP.fit, ?_, ?_, S.nh, S.nb, S.nd⟩, hh.fr⟩
  · have hbox : 0 ≤ sectorF H1 i_ 0 ∧ sectorF H1 i_ 0 + (H1.sectors : Nat) ≤ D.sectors := by
      have := S.hd.box i_ (by rw [← hP.len]; exact hP.lt)
      unfold sectorF at this ⊢
      rw [hP.first, hP.sectors]
      exact this
    exact hw_calm S.hd.dev.get_len S.calm hbox.1 hbox.2 (by have := hP.fit; omega) (by omega)
  · have h1 := S.nb
    exact S.fr.trans' hh.fr (fun k hk e => by
      rcases e with e | e
      · omega
      · have := S.nd k e; omega)
theorem HS.put_long {w0 w : World} {h bx p m1 m2 : Nat} {H : HotS} {D : DevS} (S : HS w0 w h bx p m1 m2 H D) (A : Option Addr) (n c : Nat) (hl : n = 0 ∨ H.sectors * 64 < n) :
    Calls Tryd.prog 25 #[ptr h, .slice A n c] w fun e w' => PutS w0 w h bx p m1 m2 H D (locV 0 0 0 0) 2 e w' :=
  (hput_long S.hd.hot A n c hl).mono fun e w' hh => ⟨hh.1, S.step0 hh.2, Fr.of0 hh.2⟩
theorem HS.put_full {w0 w : World} {h bx p m1 m2 : Nat} {H : HotS} {D : DevS} (S : HS w0 w h bx p m1 m2 H D) (A : Option Addr) (n c : Nat) (hn : 0 < n) (hl : n ≤ H.sectors * 64) (hp : H.prep n = none) :
    Calls Tryd.prog 25 #[ptr h, .slice A n c] w fun e w' => PutS w0 w h bx p m1 m2 H D (locV 0 0 0 0) 10 e w' := by
  have hr : H.roomO n = none ∧ H.inO 0 = none := by
    unfold HotS.prep at hp
    split at hp
    · cases hp
    · rename_i hr
      split at hp
      · cases hp
      · rename_i hi
        exact ⟨hr, hi⟩
  exact (hput_full S.hd.hot S.ok A n c hn hl hr.1 hr.2).mono fun e w' hh => ⟨hh.1, S.step0 hh.2, Fr.of0 hh.2⟩
/-- new boxes on a new device -/
theorem hs_new {w0 w w' : World} {p m1 m2 : Nat} {n : Int} (hd : DevAt w p m1 m2 (newD n)) (hF : Fr none_ w0 w) (hnd : ∀ i, devBlks p m1 m2 i → w0.heap.size ≤ i) {f : Int} {c s : Nat} (hfit : f + (c * s : Nat) ≤ n) {h bx : Nat} (hh : HotAt w' h bx p (newH f c s)) (h1 : w.heap.size ≤ h) (h2 : w.heap.size ≤ bx) (hF2 : Fr none_ w w') : HS w0 w' h bx p m1 m2 (newH f c s) (newD n) := by
  have hz := hF.size
  exact ⟨⟨hh, hd.fr0 hF2, hd.new h1, hd.new h2, rfl, by simpa [newH, newD] using hfit⟩, ok_new f c s, ⟨rfl, rfl⟩, hF.trans hF2, by omega, by omega, hnd⟩
theorem newD_get (n s : Int) : (newD n).get s = zeroB := rfl
end Go.Proofs.YtjfeibbghhjjeaaDoor

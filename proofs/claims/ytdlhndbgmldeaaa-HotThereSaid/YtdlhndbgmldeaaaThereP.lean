import Derived.Test.YtdlhndbgmldeaaaHotRel
import Derived.Test.YtdlhndbgmldeaaaHotDec
namespace Go.Proofs.Ytdlhndbgmldeaaa
open Go.RowKit
set_option linter.unusedVariables false
set_option linter.unusedSimpArgs false

/-! HotThere, plainly. -/
structure GoodB (z : Nat) (b : BoxS) : Prop where
  used : b.used ≤ z
  live : b.live ≤ b.used
  st0 : 0 ≤ b.state
  st3 : b.state ≤ 3
  limbo : b.state = 3 → b.live = 0
  free : b.state = 0 → b.used = 0
structure Snd (H : HotS) : Prop where
  good : ∀ i, GoodB (H.sectors * 64) (H.bx i)
  one : ∀ i j, (H.bx i).state = 1 → (H.bx j).state = 1 → i = j
theorem Snd.ok {H : HotS} (h : Snd H) : H.Ok := ⟨fun i hi => by rw [← bx_eq hi]; exact (h.good i).used, fun i hi => by rw [← bx_eq hi]; exact (h.good i).live⟩
theorem Snd.tidy {H : HotS} (h : Snd H) : Tidy H := ⟨h.one, fun i => (h.good i).free⟩
theorem Snd.sound {H : HotS} (h : Snd H) : Sound H := by
  refine ⟨h.ok, fun b hb => ?_, h.tidy, fun i => (h.good i).limbo⟩
  obtain ⟨i, hi, rfl⟩ := List.getElem_of_mem hb
  rw [← bx_eq hi]
  exact ⟨(h.good i).st0, (h.good i).st3⟩
theorem good_free (z : Nat) : GoodB z freeB := ⟨Nat.zero_le _, Nat.le_refl _, by decide, by decide, (fun _ => rfl), (fun _ => rfl)⟩
theorem snd_new (f : Int) (n s : Nat) : Snd (newH f n s) := ⟨(fun i => by rw [newH_bx]; exact good_free _), (tidy_new f n s).one⟩
/-- a place and its bytes -/
structure ThOne (H : HotS) (D : DevS) (y : LocS) (t : List UInt8) : Prop where
  lt : y.box < H.boxes.length
  st : (H.bx y.box).state ≠ 0
  pos : 1 ≤ y.n
  fit : y.fr + y.n ≤ (H.bx y.box).used
  sum : y.sum = sumF t
  got : bytesAt D H y.box y.fr y.n = t
structure ThInv (H : HotS) (D : DevS) (zs : List (LocS × List UInt8)) : Prop where
  first : H.first = 2
  sectors : H.sectors = 2
  len : H.boxes.length = 5
  snd : Snd H
  locs : ∀ z, z ∈ zs → ThOne H D z.1 z.2
  zero : D.get 0 = zeroB
/-- the same places and bytes, if boxes change in state and useful bytes alone -/
theorem ThOne.boxes {H H' : HotS} {D : DevS} {y : LocS} {t : List UInt8} (h : ThOne H D y t) (h1 : H'.first = H.first) (h2 : H'.sectors = H.sectors) (h3 : H'.boxes.length = H.boxes.length) (h4 : (H'.bx y.box).state ≠ 0) (h5 : (H'.bx y.box).used = (H.bx y.box).used) : ThOne H' D y t :=
  ⟨by rw [h3]; exact h.lt, h4, h.pos, by rw [h5]; exact h.fit, h.sum, by rw [bytesAt_boxes D H H' h1 h2]; exact h.got⟩
theorem ThInv.putB {H : HotS} {D : DevS} {zs : List (LocS × List UInt8)} (I : ThInv H D zs) (i : Nat) (hi : i < H.boxes.length) (b : BoxS) (hg : GoodB 128 b) (hs : b.state = 0 ↔ (H.bx i).state = 0) (hu : b.used = (H.bx i).used) (h1 : b.state = 1 → (H.bx i).state = 1) : ThInv (H.putB i b) D zs := by
  have hz : H.sectors * 64 = 128 := by rw [I.sectors]
  refine ⟨I.first, I.sectors, by rw [putB_len]; exact I.len, ⟨fun j => ?_, fun a c ha hc => ?_⟩, fun z hz => ?_, I.zero⟩
  · by_cases hj : j = i
    · subst hj; rw [putB_bx hi]; show GoodB (H.sectors * 64) b; rw [hz]; exact hg
    · rw [putB_bx_ne hj]; exact I.snd.good j
  · have key : ∀ j, ((H.putB i b).bx j).state = 1 → (H.bx j).state = 1 := fun j hj => by
      by_cases h : j = i
      · subst h; rw [putB_bx hi] at hj; exact h1 hj
      · rw [putB_bx_ne h] at hj; exact hj
    exact I.snd.one a c (key a ha) (key c hc)
  · have h := I.locs z hz
    refine h.boxes rfl rfl (putB_len _ _ _) ?_ ?_
    · by_cases hj : z.1.box = i
      · rw [hj, putB_bx hi]
        intro e
        exact h.st (hj ▸ hs.1 e)
      · rw [putB_bx_ne hj]; exact h.st
    · by_cases hj : z.1.box = i
      · rw [hj, putB_bx hi]; exact hu
      · rw [putB_bx_ne hj]
theorem ThInv.drop {H : HotS} {D : DevS} {zs : List (LocS × List UInt8)} (I : ThInv H D zs) (i n : Nat) (hi : i < H.boxes.length) (hn : 1 ≤ n) : ThInv (H.dropB i n) D zs := by
  have hz : H.sectors * 64 = 128 := by rw [I.sectors]
  unfold HotS.dropB
  by_cases h : (H.bx i).live < n
  · rw [if_pos h]; exact I
  · rw [if_neg h]
    have g := I.snd.good i
    rw [hz] at g
    refine I.putB i hi _ ⟨g.used, ?_, g.st0, g.st3, fun e => ?_, g.free⟩ Iff.rfl rfl (fun e => e)
    · show (H.bx i).live - n ≤ (H.bx i).used
      have := g.live; omega
    · have := g.limbo e
      omega
theorem ThInv.seal {H : HotS} {D : DevS} {zs : List (LocS × List UInt8)} (I : ThInv H D zs) : ThInv H.seal D zs := by
  have hz : H.sectors * 64 = 128 := by rw [I.sectors]
  unfold HotS.seal
  cases h : H.inO 1 with
  | none => exact I
  | some i =>
    obtain ⟨hi, hs⟩ := inO_some h
    have g := I.snd.good i
    rw [hz] at g
    refine I.putB i hi { (H.boxes.getD i freeB) with state := 2 } ⟨g.used, g.live, by show (0 : Int) ≤ 2; decide, by show (2 : Int) ≤ 3; decide, (fun e => absurd e (by show ¬ (2 : Int) = 3; decide)), (fun e => absurd e (by show ¬ (2 : Int) = 0; decide))⟩ ⟨(fun e => absurd e (by show ¬ (2 : Int) = 0; decide)), (fun e => by rw [hs] at e; cases e)⟩ rfl (fun e => absurd e (by show ¬ (2 : Int) = 1; decide))
theorem ThInv.release {H : HotS} {D : DevS} {zs : List (LocS × List UInt8)} (I : ThInv H D zs) (i : Nat) (hi : i < H.boxes.length) : ThInv (H.relB i) D zs := by
  have hz : H.sectors * 64 = 128 := by rw [I.sectors]
  unfold HotS.relB
  by_cases h : (H.bx i).state = 2
  · rw [if_pos h]
    have g := I.snd.good i
    rw [hz] at g
    exact I.putB i hi _ ⟨g.used, Nat.zero_le _, by show (0 : Int) ≤ 3; decide, by show (3 : Int) ≤ 3; decide, (fun _ => rfl), (fun e => absurd e (by show ¬ (3 : Int) = 0; decide))⟩ ⟨(fun e => absurd e (by show ¬ (3 : Int) = 0; decide)), (fun e => by rw [h] at e; cases e)⟩ rfl (fun e => absurd e (by show ¬ (3 : Int) = 1; decide))
  · rw [if_neg h]; exact I
theorem settle_len (H : HotS) : H.settle.boxes.length = H.boxes.length := by simp [HotS.settle]
theorem settle_bx (H : HotS) (i : Nat) : H.settle.bx i = setl (H.bx i) := by
  by_cases hi : i < H.boxes.length
  · rw [bx_eq hi, bx_eq (by simpa [HotS.settle] using hi)]
    simp [HotS.settle]
  · rw [bx_out (H := H) (by omega), bx_out (H := H.settle) (by rw [settle_len]; omega)]
    rfl
theorem ThInv.settle {H : HotS} {D : DevS} {zs : List (LocS × List UInt8)} (I : ThInv H D zs) : ThInv H.settle D (zs.filter (fun z => (H.settle.bx z.1.box).state != 0)) := by
  have key : ∀ i, (H.bx i).state = 3 ∧ H.settle.bx i = freeB ∨ (H.bx i).state ≠ 3 ∧ H.settle.bx i = H.bx i := fun i => by
    rw [settle_bx]
    unfold setl
    by_cases h : (H.bx i).state = 3
    · rw [if_pos h]; exact .inl ⟨h, rfl⟩
    · rw [if_neg h]; exact .inr ⟨h, rfl⟩
  refine ⟨I.first, I.sectors, by simp [HotS.settle, I.len], ⟨fun i => ?_, fun a c ha hc => ?_⟩, fun z hz => ?_, I.zero⟩
  · rcases key i with ⟨_, h⟩ | ⟨_, h⟩
    · rw [h]; exact good_free _
    · rw [h]; exact I.snd.good i
  · have k2 : ∀ j, (H.settle.bx j).state = 1 → (H.bx j).state = 1 := fun j hj => by
      rcases key j with ⟨_, h⟩ | ⟨_, h⟩
      · rw [h] at hj; cases hj
      · rw [h] at hj; exact hj
    exact I.snd.one a c (k2 a ha) (k2 c hc)
  · obtain ⟨h1, h2⟩ := List.mem_filter.1 hz
    have h2 : (H.settle.bx z.1.box).state ≠ 0 := by simpa using h2
    refine (I.locs z h1).boxes rfl rfl (by simp [HotS.settle]) h2 ?_
    rcases key z.1.box with ⟨_, h⟩ | ⟨_, h⟩
    · rw [h] at h2; exact absurd rfl h2
    · rw [h]
theorem ThInv.put {H : HotS} {D : DevS} {zs : List (LocS × List UInt8)} (I : ThInv H D zs) (hl : ∀ i, (D.get i).length = 64) (hc : Calm D) (hsec : D.sectors = 12) {l : List UInt8} (hp0 : 0 < l.length) (hp1 : l.length ≤ 128) {H1 : HotS} {i : Nat} (hp : H.prep l.length = some (H1, i)) :
    ThInv (H1.after i l.length) (hwrite D H1 i (H1.bx i).used l) (zs ++ [(⟨i, (H1.bx i).used, l.length, sumF l⟩, l)]) := by
  have hz : H.sectors * 64 = 128 := by rw [I.sectors]
  have P := putB_of I.snd.tidy hp
  have Q := prep_some I.snd.ok (by omega) hp
  have hi5 : i < 5 := by have := P.lt; rw [I.len] at this; exact this
  have h1s : H1.sectors = 2 := Q.sectors.trans I.sectors
  have h1f : H1.first = 2 := Q.first.trans I.first
  have hfit : (H1.bx i).used + l.length ≤ H1.sectors * 64 := Q.fit
  have hb0 : 0 ≤ sectorF H1 i 0 := by unfold sectorF; rw [h1f]; omega
  have hb1 : sectorF H1 i 0 + (H1.sectors : Nat) ≤ D.sectors := by unfold sectorF; rw [h1f, h1s, hsec]; omega
  have hlv : (H1.bx i).live ≤ (H1.bx i).used := Q.live
  have hfirst : (H1.after i l.length).first = H1.first := rfl
  have hsect : (H1.after i l.length).sectors = H1.sectors := rfl
  refine ⟨P.first.trans I.first, P.sectors.trans I.sectors, P.len.trans I.len, ⟨fun j => ?_, (tidy_put I.snd.tidy hp).one⟩, fun z hzz => ?_, ?_⟩
  · rw [hsect]
    by_cases hj : j = i
    · subst hj
      rw [P.at_]
      exact ⟨hfit, (show (H1.bx j).live + l.length ≤ (H1.bx j).used + l.length by omega), (by show (0 : Int) ≤ 1; decide), (by show (1 : Int) ≤ 3; decide), (fun e => absurd e (by show ¬ (1 : Int) = 3; decide)), (fun e => absurd e (by show ¬ (1 : Int) = 0; decide))⟩
    · have g := I.snd.good j
      have ho := P.other j hj
      rw [h1s, ← I.sectors]
      rcases (P.states j hj).1 with hs | ⟨hs, hw⟩
      · exact ⟨by rw [ho.1]; exact g.used, by rw [ho.1, ho.2]; exact g.live, by rw [hs]; exact g.st0, by rw [hs]; exact g.st3, (fun e => by rw [ho.2]; exact g.limbo (hs ▸ e)), (fun e => by rw [ho.1]; exact g.free (hs ▸ e))⟩
      · exact ⟨by rw [ho.1]; exact g.used, by rw [ho.1, ho.2]; exact g.live, by rw [hs]; decide, by rw [hs]; decide, (fun e => by rw [hs] at e; cases e), (fun e => by rw [hs] at e; cases e)⟩
  · rcases List.mem_append.1 hzz with hzz | hzz
    · have h := I.locs z hzz
      have hfz : z.1.fr + z.1.n ≤ H1.sectors * 64 := by rw [h1s]; have := h.fit; have := (I.snd.good z.1.box).used; omega
      have hgot : bytesAt (hwrite D H1 i (H1.bx i).used l) (H1.after i l.length) z.1.box z.1.fr z.1.n = z.2 := by
        have e1 : bytesAt (hwrite D H1 i (H1.bx i).used l) (H1.after i l.length) z.1.box z.1.fr z.1.n = bytesAt (hwrite D H1 i (H1.bx i).used l) H1 z.1.box z.1.fr z.1.n := bytesAt_boxes _ _ _ rfl rfl _ _ _
        rw [e1, bytesAt_old hl hc hb0 hb1 hfit hp0 z.1.box z.1.fr z.1.n hfz ?_, bytesAt_boxes D H H1 Q.first Q.sectors]
        · exact h.got
        · by_cases hj : z.1.box = i
          · right
            rw [P.used, ← hj]
            exact h.fit
          · exact .inl hj
      refine ⟨by rw [P.len]; exact h.lt, ?_, h.pos, ?_, h.sum, hgot⟩
      · by_cases hj : z.1.box = i
        · rw [hj, P.at_]; show ¬ (1 : Int) = 0; decide
        · rcases (P.states _ hj).1 with hs | ⟨hs, _⟩
          · rw [hs]; exact h.st
          · rw [hs]; decide
      · by_cases hj : z.1.box = i
        · rw [hj, P.at_]
          show z.1.fr + z.1.n ≤ (H1.bx i).used + l.length
          have := h.fit
          rw [hj] at this
          rw [P.used]; omega
        · rw [(P.other _ hj).1]; exact h.fit
    · simp at hzz
      subst hzz
      refine ⟨by rw [P.len]; exact P.lt, ?_, hp0, ?_, rfl, ?_⟩
      · show ((H1.after i l.length).bx i).state ≠ 0
        rw [P.at_]; show ¬ (1 : Int) = 0; decide
      · show (H1.bx i).used + l.length ≤ ((H1.after i l.length).bx i).used
        rw [P.at_]; exact Nat.le_refl _
      · exact (bytesAt_boxes _ H1 (H1.after i l.length) rfl rfl _ _ _).trans (bytesAt_new hl hc hb0 hb1 hfit)
  · rw [hw_get hl hc hb0 hb1 hfit, if_neg]
    · exact I.zero
    · rintro ⟨h, _⟩
      unfold sectorF at h
      rw [h1f] at h
      omega
theorem th_new : ThInv (newH 2 5 2) (newD 12) [] := ⟨rfl, rfl, rfl, snd_new _ _ _, (fun z hz => by cases hz), rfl⟩
end Go.Proofs.Ytdlhndbgmldeaaa

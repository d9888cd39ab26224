import Derived.Test.YthkcmafflbpfoaaLogQ
namespace Go.Proofs.Ythkcmafflbpfoaa
open Go.RowKit
set_option linter.unusedVariables false
set_option linter.unusedSimpArgs false
set_option maxRecDepth 100000

/-! log: Open, Append, Flush on a device that is neither down nor armed. -/
theorem szBlk_fr {S : Nat → Prop} {w w' : World} {b p : Nat} {l : LogS} (h : LogAt w b p l) (hF : Fr S w w') (hb : ¬ S b) (i : Nat) (hi : szBlk w' b i) : szBlk w b i := by
  obtain ⟨⟨v, h1, h2⟩, _⟩ := h
  obtain ⟨l', p', v', g1, g2⟩ := hi
  rw [hF.heap h1 hb] at g1
  exact ⟨l', p', v', h1.trans g1, g2⟩
theorem szBlk_dev {w w' : World} {b p m1 m2 : Nat} {l : LogS} {D : DevS} (h : LogAt w b p l) (hD : DevAt w p m1 m2 D) (hF : Fr (devBlks p m1 m2) w w') (i : Nat) (hi : szBlk w' b i) : szBlk w b i := by
  obtain ⟨v, h1, h2⟩ := h.blk
  exact szBlk_fr h hF (dev_cells hD h1 (by decide)) i hi
theorem log_nd {w : World} {b p m1 m2 : Nat} {l : LogS} {D : DevS} (h : LogAt w b p l) (hD : DevAt w p m1 m2 D) : ¬ devBlks p m1 m2 b := by
  obtain ⟨v, h1, h2⟩ := h.blk
  exact dev_cells hD h1 (by decide)
structure LOpen (w : World) (p m1 m2 : Nat) (D : DevS) (fi se at_ seq : Nat) (rs : List (List UInt8 × Nat)) (e : Ending) (w' : World) : Prop where
  ret : ∃ b vo D', e = .returned (.tuple #[ptr b, vo, .nilIface]) ∧ LogAt w' b p (opL fi se at_ seq rs) ∧ w.heap.size ≤ b ∧ (∀ i, szBlk w' b i → w.heap.size ≤ i) ∧ OutAt w' w.heap.size vo seq rs ∧ DevAt w' p m1 m2 D' ∧ Calm D' ∧ (∀ k, Tags D k → Tags D' k) ∧ D'.sectors = D.sectors
  fr : Fr (devBlks p m1 m2) w w'
theorem lopen_calm {w : World} {p m1 m2 : Nat} {D : DevS} (hD : DevAt w p m1 m2 D) (hc : Calm D) (fi se at_ seq : Nat) (h1 : 2 ≤ se) (h2 : (fi : Int) + (se : Int) ≤ D.sectors) (h3 : at_ < se) (h4 : 1 ≤ seq) (h5 : seq ≤ 1099511627776) (rs : List (List UInt8 × Nat)) (hsc : Scan (ringB D fi se at_ se) seq rs) :
    Calls Try.prog 5 #[ptr p, areaV fi se, .int .i64 (at_ : Int), .int .i64 (seq : Int)] w fun e w' => LOpen w p m1 m2 D fi se at_ seq rs e w' := by
  have hfit : (((opL fi se at_ seq rs).first + (opL fi se at_ seq rs).secs : Nat) : Int) ≤ D.sectors := by show ((fi + se : Nat) : Int) ≤ _; omega
  refine (open_any hD hc.up fi se at_ seq h1 h2 h3 h4 h5 rs hsc).mono ?_
  rintro e w' ⟨⟨b, vo, rfl, hL, hb, hs, hO⟩, hDv, hF⟩
  rw [(clN_calm hc (opL fi se at_ seq rs) h1 hfit (opU rs) _ _).up, if_neg (by simp), errV_0]
  exact ⟨⟨b, vo, _, rfl, hL, hb, hs, hO, hDv, cleanF_calm hc _ h1 hfit _ _ _, fun k hT => hT.clean hc _ h1 hfit _ _ _, cleanF_sectors _ _ _ _ _⟩, hF⟩
structure LApp (w : World) (p m1 m2 b : Nat) (l : LogS) (D : DevS) (seq N : Nat) (d : List UInt8) (e : Ending) (w' : World) : Prop where
  ret : e = .returned (.tuple #[.int .i64 (seq : Int), .nilIface])
  log : LogAt w' b p { l with sizes := l.sizes ++ [N] }
  dev : DevAt w' p m1 m2 (apN D l (sumN l.sizes) seq (seaB d seq) N)
  fr : Fr (fun i => devBlks p m1 m2 i ∨ i = b ∨ szBlk w b i) w w'
  sz : ∀ i, szBlk w' b i → szBlk w b i ∨ w.heap.size ≤ i
theorem lappend_calm {w : World} {b p m1 m2 : Nat} {l : LogS} {D : DevS} (h : LogAt w b p l) (hdead : l.dead = 0) (hD : DevAt w p m1 m2 D) (hc : Calm D) (hfit : ((l.first + l.secs : Nat) : Int) ≤ D.sectors) (A : Option Addr) (n c : Nat) (d : List UInt8) (hn : n = d.length) (hA : CellsAt w A (d.map byteV)) (hnil : A = none → n = 0 ∧ c = 0) (hm : d.length ≤ 65536)
    (seq : Nat) (hseq : seq = l.seq + l.sizes.length) (hs1 : 1 ≤ seq) (hs2 : seq ≤ 1099511627776) (hroom : recN d seq + sumN l.sizes + 1 ≤ l.secs) (hsz : l.sizes.length < 16384) :
    Calls Try.prog 11 #[ptr b, .slice A n c] w fun e w' => LApp w p m1 m2 b l D seq (recN d seq) d e w' := by
  have hup := (apN_calm hc l h.most.2.1 hfit (sumN l.sizes) seq (seaB d seq) (recN d seq)).up
  refine (append_ok h hdead hD hfit A n c d hn hA hnil hm seq hseq hs1 hs2 (recN d seq) rfl (needF_rec d seq hm hs1 hs2).symm hroom hsz).mono ?_
  rintro e w' ⟨hres, hdv, hfr, hsz⟩
  rcases hres with ⟨_, rfl, hL⟩ | ⟨hdn, _⟩
  · exact ⟨rfl, hL, hdv, hfr, hsz hup⟩
  · rw [hup] at hdn; cases hdn
/-- a law's own device and log, and an area beside them -/
structure LrG (W wr : World) (p m1 m2 b : Nat) (l : LogS) (D : DevS) : Prop where
  dev : DevAt wr p m1 m2 D
  log : LogAt wr b p l
  fr : Fr none_ W wr
  nd : ∀ i, devBlks p m1 m2 i → W.heap.size ≤ i
  nb : W.heap.size ≤ b
  ns : ∀ i, szBlk wr b i → W.heap.size ≤ i
def areaAt (w : World) (ab fi se : Nat) : Prop := w.heap[ab]? = some (.cells #[.int .i64 (fi : Int), .int .i64 (se : Int)] 30 (0, 0))
theorem szBlk_int {w : World} {b p : Nat} {l : LogS} (h : LogAt w b p l) {i : Nat} (hi : szBlk w b i) : ∃ c, w.heap[i]? = some (.cells c 3 (0, 0)) := by
  obtain ⟨⟨v, h1, h2⟩, _⟩ := h
  obtain ⟨l', p', v', g1, g2⟩ := hi
  rw [h1] at g1
  have hv : v = v' := by unfold LogS.cells at g1; simp at g1; exact g1.2.2.2.2.2.1
  rw [← hv] at g2
  exact szB_int h2 g2
theorem LrG.not {W wr : World} {p m1 m2 b : Nat} {l : LogS} {D : DevS} (h : LrG W wr p m1 m2 b l D) {g : Nat} {c : Array Value} {T : TypeId} (hg : wr.heap[g]? = some (.cells c T (0, 0))) (h1 : T ≠ 54) (h2 : T ≠ 60) (h3 : T ≠ 3) : ¬ (devBlks p m1 m2 g ∨ g = b ∨ szBlk wr b g) := by
  rintro (hd | rfl | hs)
  · exact dev_cells h.dev hg h1 hd
  · obtain ⟨v, g1, _⟩ := h.log.blk
    rw [hg] at g1; cases g1; exact h2 rfl
  · obtain ⟨c2, g1⟩ := szBlk_int h.log hs
    rw [hg] at g1; cases g1; exact h3 rfl
theorem LrG.step {W wr w' : World} {p m1 m2 b : Nat} {l l' : LogS} {D D' : DevS} {S : Nat → Prop} (h : LrG W wr p m1 m2 b l D) (hF : Fr S wr w') (hS : ∀ i, S i → devBlks p m1 m2 i ∨ i = b ∨ szBlk wr b i) (hL : LogAt w' b p l') (hD : DevAt w' p m1 m2 D') (hsz : ∀ i, szBlk w' b i → szBlk wr b i ∨ wr.heap.size ≤ i) : LrG W w' p m1 m2 b l' D' := by
  refine ⟨hD, hL, h.fr.trans' hF (fun i hi e => ?_), h.nd, h.nb, fun i hi => ?_⟩
  · rcases hS i e with e | e | e
    · have := h.nd i e; omega
    · have := h.nb; omega
    · have := h.ns i e; omega
  · rcases hsz i hi with e | e
    · exact h.ns i e
    · have := h.fr.size; omega
theorem LrG.fr0 {W wr w' : World} {p m1 m2 b : Nat} {l : LogS} {D : DevS} (h : LrG W wr p m1 m2 b l D) (hF : Fr none_ wr w') : LrG W w' p m1 m2 b l D :=
  h.step hF (fun i e => e.elim) (h.log.fr0 hF) (h.dev.fr0 hF) (fun i hi => .inl (szBlk_fr h.log hF (fun e => e) i hi))
theorem LrG.app {W wr w' : World} {p m1 m2 b seq N : Nat} {l : LogS} {D : DevS} {d : List UInt8} {e : Ending} (h : LrG W wr p m1 m2 b l D) (hA : LApp wr p m1 m2 b l D seq N d e w') : LrG W w' p m1 m2 b { l with sizes := l.sizes ++ [N] } (apN D l (sumN l.sizes) seq (seaB d seq) N) :=
  h.step hA.fr (fun i e => e) hA.log hA.dev hA.sz
theorem LrG.flushed {W wr w' : World} {p m1 m2 b : Nat} {l : LogS} {D D' : DevS} (h : LrG W wr p m1 m2 b l D) (hL : LogAt w' b p l) (hD : DevAt w' p m1 m2 D') (hF : Fr (fun i => devBlks p m1 m2 i ∨ i = b) wr w') (hsz : ∀ i, szBlk w' b i → szBlk wr b i) : LrG W w' p m1 m2 b l D' :=
  h.step hF (fun i e => by rcases e with e | e <;> simp [e]) hL hD (fun i hi => .inl (hsz i hi))
theorem LrG.dev_step {W wr w' : World} {p m1 m2 b : Nat} {l : LogS} {D D' : DevS} (h : LrG W wr p m1 m2 b l D) (hF : Fr (devBlks p m1 m2) wr w') (hD : DevAt w' p m1 m2 D') : LrG W w' p m1 m2 b l D' :=
  h.step hF (fun i e => .inl e) (h.log.frD h.dev hF) hD (fun i hi => .inl (szBlk_dev h.log h.dev hF i hi))
theorem LrG.trimmed {W wr w' : World} {p m1 m2 b : Nat} {l l' : LogS} {D : DevS} (h : LrG W wr p m1 m2 b l D) (hL : LogAt w' b p l') (hF : Fr (fun i => i = b) wr w') (hsz : ∀ i, szBlk w' b i → szBlk wr b i) : LrG W w' p m1 m2 b l' D :=
  h.step hF (fun i e => .inr (.inl e)) hL (h.dev.fr hF (fun i hi e => log_nd h.log h.dev (e ▸ hi))) (fun i hi => .inl (hsz i hi))
theorem LrG.area {W wr w' : World} {p m1 m2 b : Nat} {l : LogS} {D : DevS} {S : Nat → Prop} (h : LrG W wr p m1 m2 b l D) (hF : Fr S wr w') (hS : ∀ i, S i → devBlks p m1 m2 i ∨ i = b ∨ szBlk wr b i) {ab fi se : Nat} (ha : areaAt wr ab fi se) : areaAt w' ab fi se :=
  hF.heap ha (fun e => h.not ha (by decide) (by decide) (by decide) (hS _ e))
end Go.Proofs.Ythkcmafflbpfoaa

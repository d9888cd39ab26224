import Derived.Test.YtdkjmnhblepkaaaGf
import Derived.StillTailTactics
namespace Go.Proofs.Ytdkjmnhblepkaaa
open Go.RowKit
set_option linter.unusedVariables false
set_option linter.unusedSimpArgs false
set_option maxRecDepth 100000

/-! A field of 256 numbers: made once; Mul, Inv, Add. -/
abbrev tabV (g : Nat) : Value := .func (.func 56) #[ptr g] #[]
set_option maxHeartbeats 4000000 in
theorem slow_any {w : World} {g : Nat} (h : FieldC w g 0 0 0) :
    Calls Try.prog 58 #[ptr g, tabV g] w fun e w' => e = .returned (.tuple #[]) ∧ FieldC w' g 1 0 255 ∧ Fr (fun i => i = g) w w' := by
  have hnot : ∀ (x : Bool) (w : World), (Op.unary .not (.bool x)).run Try.prog w = .ok (.bool (!x)) w := fun _ _ => rfl
  have h1 := h.lock 1
  have hF1 := Fr.set w g 1 (.int .i32 1)
  have H := Lib.hid h
  have H1 := Lib.hid (And.intro h1 hF1)
  clear h h1 hF1
  go_enter_defers Try.func58, Try.ntmps58
  go_wp2_with (first | (go_at_call 60; refine (mu_lock ⟨g, 1, none⟩ _ H.out.c1 (H.out.fz _)).mono ?_; rintro e w' ⟨rfl, rfl⟩) | (go_at_call 57; refine (once_load ⟨g, 0, none⟩ 0 _ H1.out.1.c0).mono ?_; rintro e w' ⟨rfl, rfl⟩))
  (with_reducible refine (tables_any H1.out.1).mono ?_)
  rintro e w2 ⟨rfl, hC2, hF2⟩
  have hFt : Fr (fun i => i = g) w w2 := H1.out.2.trans hF2
  go_wp2_with fail
  refine leaves_cons (f := 62) (args := #[.pointer (some ⟨g, 0, none⟩), .bool true]) (by simp) (by simp [go_sem]) ?_
  refine (once_store ⟨g, 0, none⟩ (.int .u32 0) .returning _ hC2.c0 (hC2.fz _)).mono ?_
  rintro e u' w3 ⟨rfl, rfl, rfl⟩
  have hC3 : FieldC (w2.drew.setCell ⟨g, 0, none⟩ (.int .u32 1)) g 1 1 255 := FieldC.done (w := w2.drew) hC2 1
  refine leaves_cons (f := 61) (args := #[.pointer (some ⟨g, 1, none⟩)]) (by simp [settle]) (by simp [go_sem]) ?_
  refine (mu_unlock ⟨g, 1, none⟩ _ _ hC3.c1 (hC3.fz _)).mono ?_
  rintro e u' w4 ⟨rfl, rfl, rfl⟩
  have hC4 := hC3.lock 0
  simp [Leaves, settle, results, Try.results58]
  exact ⟨hC4, (hFt.drew.setCell (p := ⟨g, 0, none⟩) (fun _ => rfl) _).setCell (p := ⟨g, 1, none⟩) (fun _ => rfl) _⟩
/-- a field: its tables are made, or it is new -/
def FieldM (w : World) (g : Nat) : Prop := FieldC w g 1 0 255
def FieldAt (w : World) (g : Nat) : Prop := FieldC w g 0 0 0 ∨ FieldM w g
theorem FieldAt.fr {w w' : World} {g : Nat} (h : FieldAt w g) {S : Nat → Prop} (hF : Fr S w w') (hn : ¬ S g) : FieldAt w' g := h.imp (fun h => h.fr hF hn) (fun h => FieldC.fr h hF hn)
theorem FieldAt.lt {w : World} {g : Nat} (h : FieldAt w g) : g < w.heap.size := by
  rcases h with h | h
  · exact blk_lt h
  · exact blk_lt h
theorem do_any {w : World} {g : Nat} (h : FieldAt w g) :
    Calls Try.prog 55 #[ptr g, tabV g] w fun e w' => e = .returned (.tuple #[]) ∧ FieldM w' g ∧ Fr (fun i => i = g) w w' := by
  have hnot : ∀ (x : Bool) (w : World), (Op.unary .not (.bool x)).run Try.prog w = .ok (.bool (!x)) w := fun _ _ => rfl
  rcases h with h | h
  · have H := Lib.hid h
    clear h
    go_enter Try.func55, Try.ntmps55
    go_wp2_with (first | (go_at_call 57; refine (once_load ⟨g, 0, none⟩ 0 _ H.out.c0).mono ?_; rintro e w' ⟨rfl, rfl⟩))
    (with_reducible refine (slow_any H.out).mono ?_)
    rintro e w2 ⟨rfl, hC2, hF2⟩
    go_wp2_with fail
    go_end0
    exact ⟨rfl, hC2, hF2⟩
  · have H := Lib.hid h
    clear h
    go_enter Try.func55, Try.ntmps55
    go_wp2_with (first | (go_at_call 57; refine (once_load ⟨g, 0, none⟩ 1 _ (FieldC.c0 H.out)).mono ?_; rintro e w' ⟨rfl, rfl⟩))
    go_end0
    exact ⟨rfl, H.out, Fr.refl _ _⟩
theorem gfmade_any {w : World} {g : Nat} (h : FieldAt w g) :
    Calls Try.prog 54 #[ptr g] w fun e w' => e = .returned (ptr g) ∧ FieldM w' g ∧ Fr (fun i => i = g) w w' := by
  have hmf : ∀ (fn : Fn) (first cap : Array Value) (w : World), (Instr.makeFunc fn first cap).run Try.prog w = .ok (.func fn first cap) w := fun _ _ _ _ => rfl
  have H := Lib.hid h
  clear h
  go_enter Try.func54, Try.ntmps54
  go_wp2_with fail
  (with_reducible refine (do_any H.out).mono ?_)
  rintro e w2 ⟨rfl, hC2, hF2⟩
  go_wp2_with fail
  go_ret
  exact ⟨rfl, hC2, hF2⟩
theorem FieldM.log {w : World} {g : Nat} (h : FieldM w g) (x : UInt8) : w.cell? ⟨g, 513 + x.toNat, none⟩ = some (.int .i64 (glog 255 x.toNat : Nat)) := FieldC.cL h _ x.toNat_lt
theorem FieldM.exp {w : World} {g : Nat} (h : FieldM w g) (k : Nat) (hk : k < 510) : w.cell? ⟨g, 3 + k, none⟩ = some (.int .u8 (gexp k : Nat)) := FieldC.cE h k hk
theorem byteV_of (n : Nat) (h : n < 256) : byteV (UInt8.ofNat n) = .int .u8 (n : Int) := by
  unfold byteV
  rw [UInt8.toNat_ofNat_of_lt' (by simpa using h)]
set_option maxHeartbeats 4000000 in
theorem gfmul_any {w : World} {g : Nat} (h : FieldAt w g) (a b : UInt8) :
    Calls Try.prog 46 #[ptr g, byteV a, byteV b] w fun e w' => e = .returned (byteV (gmul a b)) ∧ FieldM w' g ∧ Fr (fun i => i = g) w w' := by
  have H := Lib.hid h
  clear h
  have hres : byteV (gmul a b) = .int .u8 (gmulN a.toNat b.toNat : Nat) := by
    unfold gmul
    refine byteV_of _ ?_
    unfold gmulN
    split
    · omega
    · exact gexpT_lt _ _
  rw [hres]
  have ha := a.toNat_lt
  have hb := b.toNat_lt
  have HR := Lib.hid (And.intro (rfl : gmulN a.toNat b.toNat = gmulN a.toNat b.toNat) hres)
  clear hres
  unfold byteV
  by_cases h0 : a.toNat = 0
  · have hg : gmulN a.toNat b.toNat = 0 := by unfold gmulN; rw [if_pos (.inl h0)]
    rw [hg, h0]
    clear hg
    go_enter Try.func46, Try.ntmps46
    go_wp2_with fail
    (with_reducible refine (gfmade_any H.out).mono ?_)
    rintro e w2 ⟨rfl, hC2, hF2⟩
    go_wp2_with fail
    go_ret
    exact ⟨rfl, hC2, hF2⟩
  · have k1 : ((a.toNat : Int) == 0) = false := by simpa using (show ¬ (a.toNat : Int) = 0 by omega)
    by_cases h1 : b.toNat = 0
    · have hg : gmulN a.toNat b.toNat = 0 := by unfold gmulN; rw [if_pos (.inr h1)]
      rw [hg, h1]
      clear hg
      go_enter Try.func46, Try.ntmps46
      go_wp2_with fail
      (with_reducible refine (gfmade_any H.out).mono ?_)
      rintro e w2 ⟨rfl, hC2, hF2⟩
      go_wp2_with fail
      go_ret
      exact ⟨rfl, hC2, hF2⟩
    · have k2 : ((b.toNat : Int) == 0) = false := by simpa using (show ¬ (b.toNat : Int) = 0 by omega)
      have hg : gmulN a.toNat b.toNat = gexp (glog 255 a.toNat + glog 255 b.toNat) := by unfold gmulN; rw [if_neg (by rintro (h | h); exact h0 h; exact h1 h)]
      rw [hg]
      have hla := glog_lt a.toNat
      have hlb := glog_lt b.toNat
      obtain ⟨x, hx⟩ : ∃ x, x = a.toNat := ⟨_, rfl⟩
      obtain ⟨y, hy⟩ : ∃ y, y = b.toNat := ⟨_, rfl⟩
      rw [← hx] at hg ha k1 hla ⊢
      rw [← hy] at hg hb k2 hlb ⊢
      obtain ⟨lx, hlx⟩ : ∃ lx, lx = glog 255 x := ⟨_, rfl⟩
      obtain ⟨ly, hly⟩ : ∃ ly, ly = glog 255 y := ⟨_, rfl⟩
      rw [← hlx] at hla ⊢
      rw [← hly] at hlb ⊢
      have HL := Lib.hid (And.intro hlx (And.intro hly (And.intro hx hy)))
      clear hlx hly hx hy hg HR h0 h1
      have w1 : IntKind.i64.wrap ((lx : Int) + (ly : Int)) = (lx : Int) + (ly : Int) := IntWalk.i64_in _ (by omega)
      have i1 : (0 : Int) ≤ (x : Int) ∧ (x : Int) < 256 := by omega
      have i2 : (0 : Int) ≤ (y : Int) ∧ (y : Int) < 256 := by omega
      have i3 : (0 : Int) ≤ (lx : Int) + (ly : Int) ∧ (lx : Int) + (ly : Int) < 510 := by omega
      have i4 : ((lx : Int) + (ly : Int)).toNat = lx + ly := by omega
      go_enter Try.func46, Try.ntmps46
      go_wp2_with fail
      (with_reducible refine (gfmade_any H.out).mono ?_)
      rintro e w2 ⟨rfl, hC2, hF2⟩
      have c1 : w2.drew.cell? ⟨g, 513 + x, none⟩ = some (.int .i64 (lx : Int)) := by rw [HL.out.1, HL.out.2.2.1]; exact hC2.log a
      have c2 : w2.drew.cell? ⟨g, 513 + y, none⟩ = some (.int .i64 (ly : Int)) := by rw [HL.out.2.1, HL.out.2.2.2]; exact hC2.log b
      have c3 : w2.drew.cell? ⟨g, 3 + (lx + ly), none⟩ = some (.int .u8 (gexp (lx + ly) : Nat)) := hC2.exp _ (by omega)
      go_wp2_with fail
      go_still (by kernel_rfl)
      go_wp2_with fail
      go_ret
      exact ⟨rfl, hC2, hF2.drew⟩
end Go.Proofs.Ytdkjmnhblepkaaa

import Derived.Test.YtffolfemcllfkaaGreatDoorTogSave
namespace Go.Proofs.YtffolfemcllfkaaGreatDoor
open Go.RowKit
set_option linter.unusedVariables false
set_option linter.unusedSimpArgs false

/-! toggle's Save and Load, each in one contract, at an area that holds nothing or a text. -/
theorem allZ_zeroB : allZ zeroB 64 = true := by decide +kernel
theorem TKept.tells {f s : Int} {D : DevS} {t : Text} (h : TKept f s D t) : Tells (D.get f) ((s - 1) / 2 * 64) t.n t.second t.text.length := ⟨h.n, h.room, h.tell⟩
/-- what Load gives of a text, and Save of an area -/
def LoadPost (w : World) (o : Option Text) (e : Ending) (w' : World) : Prop :=
  match o with
  | none => e = .returned (.tuple #[.slice none 0 0, .int .u64 0, errV 8]) ∧ Fr none_ w w'
  | some t => Loaded w t.text t.n e w'
theorem tload_any {w : World} {p m1 m2 : Nat} {D : DevS} (h : DevAt w p m1 m2 D) (f s : Int) (hd : D.down = false) (hf : 0 ≤ f) (hs : 3 ≤ s ∧ s ≤ 16384) (hfs : f + s ≤ D.sectors) {o : Option Text} (hg : Tg f s D o) :
    Calls Tryz.prog 20 #[ptr p, area f s] w fun e w' => LoadPost w o e w' := by
  cases o with
  | none => exact tload_none h f s hd hf hs hfs (by rw [show D.get f = zeroB from hg]; exact allZ_zeroB)
  | some t =>
    have hk : TKept f s D t := hg
    have := tload_ok h f s hd hf hs hfs hk.tells
    rw [joined_text D _ t.text hk.bytes] at this
    exact this
theorem tsave_any {w : World} {p m1 m2 : Nat} {D : DevS} (h : DevAt w p m1 m2 D) (f s : Int) (hd : D.down = false) (hf : 0 ≤ f) (hs : 3 ≤ s ∧ s ≤ 16384) (hfs : f + s ≤ D.sectors)
    (A : Option Addr) (n c : Nat) (l : List UInt8) (hn : n = l.length) (hA : CellsAt w A (l.map byteV)) (hap : ∀ b, blkOf A b → 0 < l.length → ¬ devBlks p m1 m2 b) (hcap : l.length ≤ c) (hl : (l.length : Int) ≤ (s - 1) / 2 * 64)
    {o : Option Text} (hg : Tg f s D o) :
    Calls Tryz.prog 18 #[ptr p, area f s, .slice A n c] w fun e w' => SavePost w p m1 m2 (saveT D f s (nextT o l)) e w' := by
  cases o with
  | none =>
    exact tsave_none h f s hd hf hs hfs A n c l hn hA hap hcap hl 0 0 (by decide) (fun w' h' => tread_none h' f s hd hf hs hfs (by rw [show D.get f = zeroB from hg]; exact allZ_zeroB))
  | some t =>
    have hk : TKept f s D t := hg
    obtain ⟨tn, ts, tt⟩ := t
    cases ts
    · exact tsave_first h f s hd hf hs hfs A n c l hn hA hap hcap hl tn tt.length hk.n.2 (fun w' h' => tread_ok h' f s hd hf hs hfs hk.tells)
    · exact tsave_second h f s hd hf hs hfs A n c l hn hA hap hcap hl tn tt.length hk.n.2 (fun w' h' => tread_ok h' f s hd hf hs hfs hk.tells)
theorem tsave_over {w : World} {p m1 m2 : Nat} {D : DevS} (h : DevAt w p m1 m2 D) (f s : Int) (hd : D.down = false) (hf : 0 ≤ f) (hs : 3 ≤ s ∧ s ≤ 16384) (hfs : f + s ≤ D.sectors)
    (A : Option Addr) (n c : Nat) (l : List UInt8) (hn : n = l.length) (hA : CellsAt w A (l.map byteV)) (hap : ∀ b, blkOf A b → 0 < l.length → ¬ devBlks p m1 m2 b) (hcap : l.length ≤ c) (hl : (s - 1) / 2 * 64 < (l.length : Int))
    {o : Option Text} (hg : Tg f s D o) :
    Calls Tryz.prog 18 #[ptr p, area f s, .slice A n c] w fun e w' => e = .returned (errV 2) ∧ Fr none_ w w' := by
  cases o with
  | none =>
    exact tsave_long_none h f s hd hf hs hfs A n c l hn hA hap hcap hl 0 0 (by decide) (fun w' h' => tread_none h' f s hd hf hs hfs (by rw [show D.get f = zeroB from hg]; exact allZ_zeroB))
  | some t =>
    have hk : TKept f s D t := hg
    obtain ⟨tn, ts, tt⟩ := t
    cases ts
    · exact tsave_long_first h f s hd hf hs hfs A n c l hn hA hap hcap hl tn tt.length hk.n.2 (fun w' h' => tread_ok h' f s hd hf hs hfs hk.tells)
    · exact tsave_long_second h f s hd hf hs hfs A n c l hn hA hap hcap hl tn tt.length hk.n.2 (fun w' h' => tread_ok h' f s hd hf hs hfs hk.tells)
end Go.Proofs.YtffolfemcllfkaaGreatDoor

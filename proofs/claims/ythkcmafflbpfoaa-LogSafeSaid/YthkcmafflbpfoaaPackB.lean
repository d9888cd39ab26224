import Derived.Test.YthkcmafflbpfoaaPack
namespace Go.Proofs.Ythkcmafflbpfoaa
open Go.RowKit
set_option linter.unusedVariables false
set_option linter.unusedSimpArgs false
/-! pack.Writer.Bytes -/
theorem wbytes_any {w : World} {base p : Nat} {l : List UInt8} (h : WriterAt w base p l) (A : Option Addr) (n c : Nat) (bs : List UInt8) (hA : CellsAt w A (bs.map byteV)) (hn : n = bs.length) (hnil : A = none → n = 0 ∧ c = 0) (hap : ∀ b, blkOf A b → 0 < bs.length → b < base) (hm : l.length + bs.length ≤ 140737488351232) (hb : base ≤ w.heap.size) :
    Calls Try.prog 45 #[ptr p, .slice A n c] w fun e w' => e = .returned (ptr p) ∧ Fr (fun k => base ≤ k) w w' ∧ WriterAt w' base p (l ++ (encF bs.length ++ bs)) := by
  subst hn
  have hle := behindF_le bs.length
  have hel := encF_len bs.length
  go_enter Try.func45, Try.ntmps45
  go_wp2_with fail
  (with_reducible refine (wuint_any h _ (by omega) (by omega) hb).mono ?_)
  rintro e w1 ⟨rfl, hF1, hW1⟩
  go_wp2_with fail
  (with_reducible refine (raw_any hW1 _ _ _ bs (hA.frp hF1 (fun b hb hl h2 => by have := hap b hb (by simpa using hl); omega)) rfl hnil (by rw [List.length_append]; omega) (by have := hF1.size; omega)).mono ?_)
  rintro e w2 ⟨rfl, hF2, hW2⟩
  go_wp2_with fail
  go_ret
  exact ⟨rfl, hF1.trans hF2, by simpa using hW2⟩
end Go.Proofs.Ythkcmafflbpfoaa

import Derived.Test.YtdkjmnhblepkaaaGfP
import Derived.Test.YtdkjmnhblepkaaaDev
import Derived.Laws.LoneSync
import Derived.Defers
import Derived.RegionCalls
namespace Go.Proofs.Ytdkjmnhblepkaaa
open Go.RowKit
set_option linter.unusedVariables false
set_option linter.unusedSimpArgs false
set_option maxRecDepth 100000

/-! sync.Once in a run of one goroutine, its lock free. -/
theorem mu_disable (w : World) : (callFunc 67 #[]).run Try.prog w = .ok (.value (.tuple #[])) w := run_call_mark0 Try.func67 (by kernel_rfl) (by kernel_rfl) (by kernel_rfl) .disable (by kernel_rfl) w
theorem mu_enable (w : World) : (callFunc 69 #[]).run Try.prog w = .ok (.value (.tuple #[])) w := run_call_mark0 Try.func69 (by kernel_rfl) (by kernel_rfl) (by kernel_rfl) .enable (by kernel_rfl) w
theorem mu_acquire (a : Addr) (w : World) : (callFunc 70 #[.pointer (some a)]).run Try.prog w = .ok (.value (.tuple #[])) w := run_call_marked Try.func70 (by kernel_rfl) (by kernel_rfl) (by kernel_rfl) .acquire (by kernel_rfl) a w
theorem mu_relMerge (a : Addr) (w : World) : (callFunc 72 #[.pointer (some a)]).run Try.prog w = .ok (.value (.tuple #[])) w := run_call_marked Try.func72 (by kernel_rfl) (by kernel_rfl) (by kernel_rfl) .releaseMerge (by kernel_rfl) a w
theorem mu_conv1 {a : Addr} {v : Value} {w : World} (hc : w.cell? a = some v) : (convert 125 132 (.pointer (some a))).run Try.prog w = .ok (.pointer (some a)) w :=
  run_convert_to_unsafe (P := Try.prog) Try.underlying125 Try.underlying132 (by kernel_rfl) hc
theorem mu_conv2 {a : Addr} {v : Value} {w : World} (hc : w.cell? a = some v) : (convert 128 132 (.pointer (some a))).run Try.prog w = .ok (.pointer (some a)) w :=
  run_convert_to_unsafe (P := Try.prog) Try.underlying128 Try.underlying132 (by kernel_rfl) hc
theorem once_store (a : Addr) (x : Value) (u : FrameMode) (w : World) (hc : w.cell? a = some x) (hz : w.frozen? a = false) :
    CallsD Try.prog 62 #[.pointer (some a), .bool true] u w fun e u' w' => u' = u ∧ (e = .returned (.tuple #[]) ∧ w' = w.drew.setCell a (.int .u32 1)) := by
  have hc' : w.drew.cell? a = some x := by go_simp
  have hz' : w.drew.frozen? a = false := by go_simp
  have hst := run_call_store (P := Try.prog) Try.func65 (by kernel_rfl) (by kernel_rfl) (by kernel_rfl) (by kernel_rfl) (k := .u32) (y := 1) hc' hz'
  go_enter_d Try.func62, Try.ntmps62
  go_wp2
  go_region_calls
  all_goals (go_end0; exact ⟨rfl, rfl⟩)
theorem mu_unlock (a : Addr) (u : FrameMode) (w : World) (hc : w.cell? a = some (.int .i32 1)) (hz : w.frozen? a = false) :
    CallsD Try.prog 61 #[.pointer (some a)] u w fun e u' w' => u' = u ∧ (e = .returned (.tuple #[]) ∧ w' = w.setCell a (.int .i32 0)) := by
  have hd := mu_disable
  have he := mu_enable
  have hr := mu_relMerge
  have hadd := run_call_add (P := Try.prog) Try.func73 (by kernel_rfl) (by kernel_rfl) (by kernel_rfl) .i32 (by kernel_rfl) (y := -1) (s := 0) hc hz (by simp [go_sem]; rfl)
  have hcv := mu_conv1 hc
  have hcv2 := mu_conv2 hc
  go_enter_d Try.func61, Try.ntmps61
  go_wp2
  go_end0
  go_wp2
  go_end0
  exact ⟨rfl, rfl⟩
theorem mu_lock (a : Addr) (w : World) (hc : w.cell? a = some (.int .i32 0)) (hz : w.frozen? a = false) :
    Calls Try.prog 60 #[.pointer (some a)] w fun e w' => e = .returned (.tuple #[]) ∧ w' = w.setCell a (.int .i32 1) := by
  have hd := mu_disable
  have he := mu_enable
  have ha := mu_acquire
  have hcas := run_call_cas_hit (P := Try.prog) Try.func68 (by kernel_rfl) (by kernel_rfl) (by kernel_rfl) .i32 (by kernel_rfl) (y := 1) hc hz
  have hc' : (w.setCell a (.int .i32 1)).cell? a = some (.int .i32 1) := World.cell?_setCell_same w a _ hc
  have hcv := mu_conv1 hc'
  have hcv2 := mu_conv2 hc'
  go_enter Try.func60, Try.ntmps60
  go_wp2
  first | go_end0 | (simp only [Exit.inBlock, Exit.then]; refine bodyPost_ret (results_none rfl _ _ _) rfl ?_) | refine bodyPost_ret (results_none rfl _ _ _) rfl ?_
  go_wp2
  go_end0
  exact ⟨rfl, rfl⟩
theorem once_load (a : Addr) (x : Int) (w : World) (h0 : w.cell? a = some (.int .u32 x)) :
    Calls Try.prog 57 #[.pointer (some a)] w fun e w' => e = .returned (.bool (x != 0)) ∧ w' = w := by
  have hl := run_call_load (P := Try.prog) Try.func59 (by kernel_rfl) (by kernel_rfl) (by kernel_rfl) .u32 (by kernel_rfl) h0
  go_enter Try.func57, Try.ntmps57
  go_wp2
  go_ret
  exact ⟨rfl, rfl⟩
/-- a field's cells: the Once (whether it is done, its lock), the powers, which power a number is -/
def expL (i : Nat) : List Value := (List.range 510).map (fun k => Value.int .u8 (gexpT i k : Nat))
def logL (i : Nat) : List Value := (List.range 256).map (fun x => Value.int .i64 (glog i x : Nat))
def fieldL (d m : Int) (i : Nat) : List Value := .int .u32 d :: .int .i32 m :: .int .u32 0 :: (expL i ++ logL i)
def FieldC (w : World) (g : Nat) (d m : Int) (i : Nat) : Prop := w.heap[g]? = some (.cells (fieldL d m i).toArray 104 (0, 0))
theorem expL_len (i : Nat) : (expL i).length = 510 := by simp [expL]
theorem logL_len (i : Nat) : (logL i).length = 256 := by simp [logL]
theorem fieldL_len (d m : Int) (i : Nat) : (fieldL d m i).length = 769 := by
  unfold fieldL
  rw [List.length_cons, List.length_cons, List.length_cons, List.length_append, expL_len, logL_len]
theorem fieldL_exp (d m : Int) (i k : Nat) (hk : k < 510) : (fieldL d m i)[3 + k]? = some (.int .u8 (gexpT i k : Nat)) := by
  unfold fieldL
  rw [show 3 + k = k + 1 + 1 + 1 by omega, List.getElem?_cons_succ, List.getElem?_cons_succ, List.getElem?_cons_succ, List.getElem?_append_left (by rw [expL_len]; exact hk)]
  unfold expL
  rw [List.getElem?_map, List.getElem?_range hk]
  rfl
theorem fieldL_log (d m : Int) (i x : Nat) (hx : x < 256) : (fieldL d m i)[513 + x]? = some (.int .i64 (glog i x : Nat)) := by
  unfold fieldL
  rw [show 513 + x = (510 + x) + 1 + 1 + 1 by omega, List.getElem?_cons_succ, List.getElem?_cons_succ, List.getElem?_cons_succ, List.getElem?_append_right (by rw [expL_len]; omega), expL_len, show 510 + x - 510 = x by omega]
  unfold logL
  rw [List.getElem?_map, List.getElem?_range hx]
  rfl
theorem FieldC.c0 {w : World} {g : Nat} {d m : Int} {i : Nat} (h : FieldC w g d m i) : w.cell? ⟨g, 0, none⟩ = some (.int .u32 d) := by rw [cell_of_blk h]; rfl
theorem FieldC.c1 {w : World} {g : Nat} {d m : Int} {i : Nat} (h : FieldC w g d m i) : w.cell? ⟨g, 1, none⟩ = some (.int .i32 m) := by rw [cell_of_blk h]; rfl
theorem FieldC.cE {w : World} {g : Nat} {d m : Int} {i : Nat} (h : FieldC w g d m i) (k : Nat) (hk : k < 510) : w.cell? ⟨g, 3 + k, none⟩ = some (.int .u8 (gexpT i k : Nat)) := by rw [cell_of_blk h, List.getElem?_toArray]; exact fieldL_exp d m i k hk
theorem FieldC.cL {w : World} {g : Nat} {d m : Int} {i : Nat} (h : FieldC w g d m i) (x : Nat) (hx : x < 256) : w.cell? ⟨g, 513 + x, none⟩ = some (.int .i64 (glog i x : Nat)) := by rw [cell_of_blk h, List.getElem?_toArray]; exact fieldL_log d m i x hx
theorem FieldC.fz {w : World} {g : Nat} {d m : Int} {i : Nat} (h : FieldC w g d m i) (o : Nat) : w.frozen? ⟨g, o, none⟩ = false := frozen_of_blk h o
theorem FieldC.lock {w : World} {g : Nat} {d m : Int} {i : Nat} (h : FieldC w g d m i) (m' : Int) : FieldC (w.setCell ⟨g, 1, none⟩ (.int .i32 m')) g d m' i := by
  unfold FieldC at h ⊢
  rw [heap_setCell_same h]
  simp [fieldL]
theorem FieldC.done {w : World} {g : Nat} {d m : Int} {i : Nat} (h : FieldC w g d m i) (d' : Int) : FieldC (w.setCell ⟨g, 0, none⟩ (.int .u32 d')) g d' m i := by
  unfold FieldC at h ⊢
  rw [heap_setCell_same h]
  simp [fieldL]
theorem FieldC.fr {w w' : World} {g : Nat} {d m : Int} {i : Nat} (h : FieldC w g d m i) {S : Nat → Prop} (hF : Fr S w w') (hn : ¬ S g) : FieldC w' g d m i := hF.heap h hn
/-- a round of the tables -/
theorem fieldL_round (d m : Int) (i : Nat) (hi : i < 255) : (((fieldL d m i).set (3 + i) (.int .u8 (gx i : Nat))).set (3 + (i + 255)) (.int .u8 (gx i : Nat))).set (513 + gx i) (.int .i64 (i : Nat)) = fieldL d m (i + 1) := by
  have hg := gx_in i
  apply List.ext_getElem?
  intro j
  by_cases h3 : j < 3
  · rw [List.getElem?_set_ne (by omega), List.getElem?_set_ne (by omega), List.getElem?_set_ne (by omega)]
    unfold fieldL
    match j, h3 with
    | 0, _ => rw [List.getElem?_cons_zero, List.getElem?_cons_zero]
    | 1, _ => rw [List.getElem?_cons_succ, List.getElem?_cons_zero, List.getElem?_cons_succ, List.getElem?_cons_zero]
    | 2, _ => rw [List.getElem?_cons_succ, List.getElem?_cons_succ, List.getElem?_cons_zero, List.getElem?_cons_succ, List.getElem?_cons_succ, List.getElem?_cons_zero]
  · by_cases h5 : j < 513
    · rw [List.getElem?_set_ne (by omega)]
      obtain ⟨k, hk⟩ : ∃ k, j = 3 + k := ⟨j - 3, by omega⟩
      subst hk
      rw [fieldL_exp d m (i + 1) k (by omega)]
      have hlen := fieldL_len d m i
      by_cases e1 : k = i + 255
      · subst e1
        rw [List.getElem?_set_self (by rw [List.length_set]; omega)]
        unfold gexpT
        rw [if_neg (by omega), if_pos (by omega), show i + 255 - 255 = i by omega]
      · rw [List.getElem?_set_ne (by omega)]
        by_cases e2 : k = i
        · subst e2
          rw [List.getElem?_set_self (by omega)]
          unfold gexpT
          rw [if_pos (by omega), if_pos (by omega)]
        · rw [List.getElem?_set_ne (by omega), fieldL_exp d m i k (by omega)]
          unfold gexpT
          by_cases h6 : k < 255
          · rw [if_pos h6, if_pos h6]
            by_cases h7 : k < i
            · rw [if_pos h7, if_pos (by omega)]
            · rw [if_neg h7, if_neg (by omega)]
          · rw [if_neg h6, if_neg h6]
            by_cases h7 : k - 255 < i
            · rw [if_pos h7, if_pos (by omega)]
            · rw [if_neg h7, if_neg (by omega)]
    · obtain ⟨x, hx⟩ : ∃ x, j = 513 + x := ⟨j - 513, by omega⟩
      subst hx
      have hlen := fieldL_len d m i
      by_cases h6 : x < 256
      · rw [fieldL_log d m (i + 1) x h6]
        by_cases e1 : x = gx i
        · subst e1
          rw [List.getElem?_set_self (by rw [List.length_set, List.length_set]; omega)]
          unfold glog
          rw [if_pos rfl]
        · rw [List.getElem?_set_ne (by omega), List.getElem?_set_ne (by omega), List.getElem?_set_ne (by omega), fieldL_log d m i x h6]
          show _ = some (Value.int .i64 ((if gx i = x then i else glog i x : Nat) : Int))
          rw [if_neg (fun h => e1 h.symm)]
      · have hlen2 := fieldL_len d m (i + 1)
        rw [List.getElem?_eq_none (by rw [List.length_set, List.length_set, List.length_set]; omega), List.getElem?_eq_none (by omega)]
end Go.Proofs.Ytdkjmnhblepkaaa

import Derived.Test.YtdkjmnhblepkaaaGf2
namespace Go.Proofs.Ytdkjmnhblepkaaa
open Go.RowKit
set_option linter.unusedVariables false
set_option linter.unusedSimpArgs false
set_option maxRecDepth 100000

/-! A field of 256 numbers: Inv, Add, New. -/
def errZ : Value := .iface 52 (.int .i64 14)
def ginvV (a : UInt8) : Value := if a.toNat = 0 then .tuple #[.int .u8 0, errZ] else .tuple #[byteV (ginv a), .nilIface]
set_option maxHeartbeats 4000000 in
theorem gfinv_any {w : World} {g : Nat} (h : FieldAt w g) (a : UInt8) :
    Calls Try.prog 49 #[ptr g, byteV a] w fun e w' => e = .returned (ginvV a) ∧ FieldM w' g ∧ Fr (fun i => i = g) w w' := by
  have H := Lib.hid h
  clear h
  have hres : byteV (ginv a) = .int .u8 (ginvN a.toNat : Nat) := byteV_of _ (gexpT_lt _ _)
  unfold ginvV errZ
  rw [hres]
  clear hres
  have ha := a.toNat_lt
  unfold byteV
  by_cases h0 : a.toNat = 0
  · rw [if_pos h0, h0]
    go_enter Try.func49, Try.ntmps49
    go_wp2_with fail
    (with_reducible refine (gfmade_any H.out).mono ?_)
    rintro e w2 ⟨rfl, hC2, hF2⟩
    go_wp2_with fail
    go_ret2
    exact ⟨rfl, hC2, hF2⟩
  · have k1 : ((a.toNat : Int) == 0) = false := by simpa using (show ¬ (a.toNat : Int) = 0 by omega)
    rw [if_neg h0]
    have hla := glog_lt a.toNat
    unfold ginvN
    obtain ⟨x, hx⟩ : ∃ x, x = a.toNat := ⟨_, rfl⟩
    rw [← hx] at ha k1 hla ⊢
    obtain ⟨lx, hlx⟩ : ∃ lx, lx = glog 255 x := ⟨_, rfl⟩
    rw [← hlx] at hla ⊢
    have HL := Lib.hid (And.intro hlx hx)
    clear hlx hx h0
    obtain ⟨t, ht⟩ : ∃ t, t = 255 - lx := ⟨_, rfl⟩
    have w1 : IntKind.i64.wrap (255 - (lx : Int)) = (t : Int) := by rw [IntWalk.i64_in _ (by omega)]; omega
    have i3 : (0 : Int) ≤ (t : Int) ∧ (t : Int) < 510 := by omega
    rw [← ht]
    clear ht
    have i1 : (0 : Int) ≤ (x : Int) ∧ (x : Int) < 256 := by omega
    go_enter Try.func49, Try.ntmps49
    go_wp2_with fail
    (with_reducible refine (gfmade_any H.out).mono ?_)
    rintro e w2 ⟨rfl, hC2, hF2⟩
    have c1 : w2.drew.cell? ⟨g, 513 + x, none⟩ = some (.int .i64 (lx : Int)) := by rw [HL.out.1, HL.out.2]; exact hC2.log a
    have c3 : w2.drew.cell? ⟨g, 3 + t, none⟩ = some (.int .u8 (gexp t : Nat)) := hC2.exp _ (by omega)
    go_wp2_with fail
    go_still_tail 12, (by kernel_rfl)
    go_wp2_with fail
    go_ret2
    exact ⟨rfl, hC2, hF2.drew⟩
theorem gfadd_any (g : Nat) (a b : UInt8) (w : World) :
    Calls Try.prog 45 #[ptr g, byteV a, byteV b] w fun e w' => e = .returned (byteV (a ^^^ b)) ∧ w' = w := by
  have hx : bits .xor .u8 (a.toNat : Int) (b.toNat : Int) = ((a.toNat ^^^ b.toNat : Nat) : Int) := u8_xor_nat _ _ a.toNat_lt b.toNat_lt
  have hw : IntKind.u8.wrap ((a.toNat ^^^ b.toNat : Nat) : Int) = ((a.toNat ^^^ b.toNat : Nat) : Int) := by
    have := (a ^^^ b).toNat_lt
    rw [UInt8.toNat_xor] at this
    rw [IntKind.wrap_u8]; omega
  unfold byteV
  rw [UInt8.toNat_xor]
  go_enter Try.func45, Try.ntmps45
  go_wp2_with fail
  go_ret
  exact ⟨rfl, rfl⟩
theorem fieldL_zero : fieldL 0 0 0 = .int .u32 0 :: .int .i32 0 :: .int .u32 0 :: (List.replicate 510 (.int .u8 0) ++ List.replicate 256 (.int .i64 0)) := by
  have h1 : expL 0 = List.replicate 510 (.int .u8 0) := by
    unfold expL
    rw [List.eq_replicate_iff]
    refine ⟨by simp, fun b hb => ?_⟩
    obtain ⟨k, hk, rfl⟩ := List.mem_map.1 hb
    unfold gexpT
    split <;> simp
  have h2 : logL 0 = List.replicate 256 (.int .i64 0) := by
    unfold logL
    rw [List.eq_replicate_iff]
    refine ⟨by simp, fun b hb => ?_⟩
    obtain ⟨k, hk, rfl⟩ := List.mem_map.1 hb
    rfl
  unfold fieldL
  rw [h1, h2]
def fieldZ : Array Value := (fieldL 0 0 0).toArray
theorem field_build : Try.zeroCells104 = (fieldL 0 0 0).toArray := by
  rw [fieldL_zero]
  kernel_rfl
theorem gfnew_any (w : World) :
    Calls Try.prog 28 #[] w fun e w' => e = .returned (ptr w.heap.size) ∧ FieldAt w' w.heap.size ∧ Fr none_ w w' := by
  go_enter Try.func28, Try.ntmps28
  go_wp2_with fail
  go_ret
  refine ⟨rfl, .inl ?_, (Fr.refl _ _).alloc _⟩
  unfold FieldC
  rw [← field_build]
  exact heap_alloc_new _ _
end Go.Proofs.Ytdkjmnhblepkaaa

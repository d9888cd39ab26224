import Derived.Test.YtdkjmnhblepkaaaRs5
namespace Go.Proofs.Ytdkjmnhblepkaaa
open Go.RowKit
set_option linter.unusedVariables false
set_option linter.unusedSimpArgs false
set_option maxRecDepth 100000

/-! rs: Join. -/
theorem info_u8J : (Try.prog.info? 5).map (fun i => (i.zero, i.size, i.bytes)) = some (some (.int .u8 0), 1, 1) := by kernel_rfl
theorem CellsAt.takeN {w : World} {A : Option Addr} {vs : List Value} (h : CellsAt w A vs) (n : Nat) : CellsAt w A (vs.take n) := fun k hk => by
  rw [List.length_take] at hk
  obtain ⟨b, o, h1, h2⟩ := h k (by omega)
  exact ⟨b, o, h1, by rw [List.getElem_take]; exact h2⟩
theorem flat_len (rows : List (List UInt8)) (N : Nat) (h : ∀ r ∈ rows, r.length = N) : rows.flatten.length = rows.length * N := by
  induction rows with
  | nil => simp
  | cons r rows ih =>
    rw [List.flatten_cons, List.length_append, ih (fun x hx => h x (List.mem_cons_of_mem _ hx)), h r (List.mem_cons_self ..), List.length_cons, Nat.add_mul]
    omega
theorem flat_take (rows : List (List UInt8)) (k : Nat) (hk : k < rows.length) : (rows.take (k + 1)).flatten = (rows.take k).flatten ++ rows[k] := by
  rw [List.take_add_one, List.getElem?_eq_getElem hk, List.flatten_append]
  simp
def JoinPost (w : World) (l : List UInt8) (e : Ending) (w' : World) : Prop := ∃ A c, e = .returned (.tuple #[.slice A l.length c, .nilIface]) ∧ CellsAt w' A (l.map byteV) ∧ (A = none → l.length = 0 ∧ c = 0) ∧ Fr none_ w w'
set_option maxHeartbeats 8000000 in
theorem join_any {w : World} {c d m g : Nat} (h : CodeS w c d m g) (Ap : Option Addr) (cp nr : Nat) (rows : List (List UInt8)) (hR : RowsV w g Ap rows) (hnr : rows.length = nr) (hd : d ≤ nr) (hcap : nr ≤ cp) (N : Nat) (hN : N ≤ 1000000) (hall : ∀ r ∈ rows, r.length = N) (n : Nat) (hn : n ≤ d * N) :
    Calls Try.prog 38 #[ptr c, .slice Ap nr cp, .int .i64 (n : Int)] w fun e w' => JoinPost w (((rows.take d).flatten).take n) e w' := by
  have hm := h.most
  obtain ⟨c0, c1, c2⟩ := h.cells
  have hfl : ∀ k, k ≤ d → ((rows.take k).flatten).length = k * N := fun k hk => by
    rw [flat_len _ N (fun r hr => hall r (List.mem_of_mem_take hr)), List.length_take]
    rw [show min k rows.length = k by omega]
  have hkN : ∀ k, k ≤ d → k * N ≤ 32 * 1000000 := fun k hk => Nat.mul_le_mul (by omega) hN
  obtain ⟨pa, po, _, _, hAe, _⟩ := hR.row 0 (by omega)
  subst hAe
  have hdN : d * N ≤ 32000000 := hkN d (Nat.le_refl _)
  have H := Lib.hid (And.intro hR (And.intro hall (And.intro hfl hkN)))
  have z1 : ¬ (nr : Int) < (d : Int) := by omega
  have z2 : ¬ (n : Int) < 0 := by omega
  have z3 : ¬ nr < d := by omega
  have z4 : (d : Int) ≤ (cp : Int) := by omega
  have z5 : d ≤ cp := by omega
  have z6 : (0 : Int) ≤ (d : Int) := by omega
  clear hR hall hfl hkN
  go_enter Try.func38, Try.ntmps38
  go_wp2_with fail
  go_loopw [8, 34] (fun v i wr => ∃ k : Nat, k ≤ d ∧ i = .int .i64 k ∧ wr.ownsRow w.heap.size 5 1 v (k * N) (((rows.take k).flatten).map byteV) ∧ Fr none_ w wr) (fun _ i _ => d - (intOf i).toNat)
  case atStart => exact ⟨0, by omega, rfl, by rw [Nat.zero_mul, List.take_zero]; exact World.ownsRow_nil _ _ _ _, Fr.refl _ _⟩
  case round =>
    obtain ⟨k, hk, rfl, ho, hF⟩ := hrel
    by_cases hkd : k < d
    · have q1 : (k : Int) < (d : Int) := by omega
      have q2 : (0 : Int) ≤ (k : Int) ∧ (k : Int) < (d : Int) := by omega
      obtain ⟨hR, hall, hfl, hkN⟩ := H.out
      have hkr : k < rows.length := by omega
      obtain ⟨pa', po', Aj, cj, hAe, hpc, hpr, hpn, _⟩ := hR.row k hkr
      cases hAe
      replace hpc := hF.cell0 hpc
      have hln : rows[k].length = N := hall _ (List.getElem_mem _)
      have hft := flat_take rows k hkr
      obtain ⟨r, hr⟩ : ∃ r, r = rows[k] := ⟨_, rfl⟩
      rw [← hr] at hpc hpr hpn hln hft
      rw [hln] at hpc hpn
      have hpr2 := hpr.fr0 hF
      have hk1 := hkN (k + 1) hkd
      have hk1' : k * N + N ≤ 32000000 := by rw [← Nat.succ_mul]; exact hk1
      have HO := Lib.hid (And.intro ho (And.intro hpr2 (And.intro hpn (And.intro hln hft))))
      have hsz := hF.size
      clear hR hall hfl hkN hpr hpn hln hft hr ho hpr2 hk1
      go_wp2_with ((with_reducible refine at_append (.tmp 38) (.tmp 39) 33 w.heap.size 5 (.int .u8 0) 1 1 (n := k * N) (xs := ((rows.take k).flatten).map byteV) (A := Aj) (m := N) (c := cj) (news := r.map byteV) Try.underlying33 info_u8J ?_ ?_ ?_ ?_ HO.out.1 HO.out.2.1 ?_ ?_ ?_ ?_ ?_ ?_ ?_); (focus rfl); (focus decide); (focus rfl); (focus rfl); (focus exact HO.out.2.2.1); (focus (rw [List.length_map, HO.out.2.2.2.1, Nat.mul_one])); (focus exact bytes_one _); (focus (unfold maxLen; omega)); (focus omega); (focus exact hsz); intro v' w4 hown4 hg4; have H4 := Lib.hid (And.intro hown4 hg4); clear hown4 hg4)
      go_roundw
      case rel => exact ⟨k + 1, by omega, by go_num, by rw [HO.out.2.2.2.2, List.map_append, Nat.succ_mul]; exact H4.out.1, Fr.grown hF H4.out.2 HO.out.1 (Nat.le_refl _)⟩
      case measure => simp [intOf]; omega
    · have hk2 : k = d := by omega
      rw [hk2] at ho ⊢
      obtain ⟨A9, c9, rfl, g1, g2, g3, g4⟩ := ownsRow_read ho
      have q1 : ¬ (d : Int) < (d : Int) := by omega
      obtain ⟨M, hM⟩ : ∃ M, M = d * N := ⟨_, rfl⟩
      rw [← hM] at hn g3
      have hnM : ¬ (M : Int) < (n : Int) := by omega
      have hnM2 : ¬ M < n := by omega
      have hcM : M ≤ c9 := by omega
      have p1 : (n : Int) ≤ (c9 : Int) := by omega
      have p2 : n ≤ c9 := by omega
      have p3 : (0 : Int) ≤ (n : Int) := by omega
      have hfl := H.out.2.2.1 d (Nat.le_refl _)
      rw [← hM] at hfl
      have hln : (((rows.take d).flatten).take n).length = n := by rw [List.length_take]; omega
      have H9 := Lib.hid (And.intro g1 (And.intro g3 (And.intro hln hfl)))
      clear hfl hln g1 g2 g3 g4 ho hkd hk
      rw [← hM]
      clear hM
      go_wp2_with fail
      go_ret2
      refine ⟨A9, c9, by rw [H9.out.2.2.1] <;> rfl, ?_, fun h => ?_, hF⟩
      · rw [List.map_take]; exact H9.out.1.takeN n
      · have := H9.out.2.1 h
        exact ⟨by rw [H9.out.2.2.1]; omega, this.2⟩
end Go.Proofs.Ytdkjmnhblepkaaa

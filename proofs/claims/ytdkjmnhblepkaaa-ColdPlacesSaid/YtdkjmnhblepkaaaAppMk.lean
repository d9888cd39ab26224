import Derived.Test.YtdkjmnhblepkaaaRs7
import Derived.Laws.AppendOwn
namespace Go.Proofs.Ytdkjmnhblepkaaa
open Go.RowKit
set_option linter.unusedVariables false
set_option linter.unusedSimpArgs false

/-! append(s, make([]T, n)...), where the room suffices: noughts are laid behind. -/
theorem zeroCells_one (z : Value) (n : Nat) : (Builtin.zeroCells #[z] n).toList = List.replicate n z := by
  unfold Builtin.zeroCells
  rw [List.eq_replicate_iff]
  refine ⟨by simp, fun b hb => ?_⟩
  simp only [Array.toList_map, List.mem_map] at hb
  obtain ⟨i, _, rfl⟩ := hb
  simp [Nat.mod_one]
theorem run_append_make {P : Program} (w : World) (t xt ty e : TypeId) (i : TypeInfo) (z : Value) (ht : P.underlying t = some (.slice e)) (hx : P.underlying xt = some (.int .i64)) (hi : P.info? e = some i) (hs : i.size = 1) (hz : i.zero = some z) (hzc : z.cells = #[z]) (hb : i.bytes = 1) (h1 : z.oneCell' = true)
    (g sLen sCap : Nat) (cur : Array Value) (hg : w.heap[g]? = some (.cells cur e (0, 0))) (n : Nat) (hn : n ≤ 1000000) (hroom : sLen + n ≤ sCap) (hfit : sLen + n ≤ cur.size) :
    (Builtin.append_ #[t, xt] ty #[.slice (some ⟨g, 0, none⟩) sLen sCap, .int .i64 (n : Int)]).run P w = .ok (.slice (some ⟨g, 0, none⟩) (sLen + n) sCap) (w.setRow g (cur.toList.take sLen ++ List.replicate n z ++ cur.toList.drop (sLen + n)).toArray) := by
  have hw : IntKind.i64.wrap (n : Int) = (n : Int) := IntWalk.i64_in _ (by omega)
  have hst := run_storeCells_at P g sLen e (List.replicate n z) 0 cur w hg (by simpa using hfit) (by intro u hu; rw [List.eq_of_mem_replicate hu]; exact h1)
  simp only [Nat.add_zero, List.length_replicate] at hst
  have hneg : ¬ (n : Int) < 0 := by omega
  have hbig : ¬ (281474976710656 : Int) < (n : Int) := by omega
  have hnat : ¬ 281474976710656 < n := by omega
  by_cases h0 : n = 0
  · subst h0
    rw [List.replicate_zero] at hst ⊢
    have hst2 : (storeCells ⟨g, sLen, none⟩ ([] : List Value)).run P w = .ok () (w.setRow g cur) := by rw [hst]; simp
    have hroom0 : sLen ≤ sCap := by omega
    have hw0 : IntKind.i64.wrap 0 = 0 := IntWalk.i64_in _ (by omega)
    simp [Builtin.append_, run_underlying ht, run_underlying hx, sizeOf, typeInfo, hi, hs, hz, hzc, hb, zeroValue, asInt, asIntOf, hw0, hroom0, Addr.add_lit, hst2]
  · simp [Builtin.append_, run_underlying ht, run_underlying hx, sizeOf, typeInfo, hi, hs, hb, hz, hzc, zeroValue, asInt, asIntOf, hw, hneg, hbig, hnat, hroom, h0, Addr.add_lit, zeroCells_one, hst]
end Go.Proofs.Ytdkjmnhblepkaaa

import Derived.Test.YtdkjmnhblepkaaaCold17
import Derived.Lib.SlBytesConst
namespace Go.Proofs.Ytdkjmnhblepkaaa
open Go.RowKit
set_option linter.unusedVariables false
set_option linter.unusedSimpArgs false
set_option maxRecDepth 100000

/-! drydocklaw18.sure -/
abbrev lit10 : Array Value := #[.int .u8 115, .int .u8 111, .int .u8 109, .int .u8 101, .int .u8 32, .int .u8 98, .int .u8 121, .int .u8 116, .int .u8 101, .int .u8 115]
theorem lit10_eq : lit10 = (someB.map byteV).toArray := by rfl
theorem sD_calm : ∀ D ∈ List.replicate 3 (newD ((4 : Nat) : Int)), Calm D := fun D hD => by rw [List.eq_of_mem_replicate hD]; exact ⟨rfl, rfl⟩
theorem sD_set (n : Nat) (hn : n = 3) (h0 : 0 < (putDs (List.replicate 3 (newD ((4 : Nat) : Int))) ((sC.first + 0 * sectC sC.d sC.size : Nat) : Int) (sectC sC.d sC.size) (partsP sC someB) n).length) : (putDs (List.replicate 3 (newD ((4 : Nat) : Int))) ((sC.first + 0 * sectC sC.d sC.size : Nat) : Int) (sectC sC.d sC.size) (partsP sC someB) n).set 0 ((putDs (List.replicate 3 (newD ((4 : Nat) : Int))) ((sC.first + 0 * sectC sC.d sC.size : Nat) : Int) (sectC sC.d sC.size) (partsP sC someB) n)[0].lose) = sD2 := by
  subst hn
  unfold sD2
  have e : putDs (List.replicate 3 (newD ((4 : Nat) : Int))) ((sC.first + 0 * sectC sC.d sC.size : Nat) : Int) (sectC sC.d sC.size) (partsP sC someB) 3 = sD1 := rfl
  simp only [e]
  have h1 : 0 < sD1.length := by rw [← e]; exact h0
  rw [getD_of sD1 0 _ h1]
theorem s_fit : ∀ D ∈ sD2, D.sectors = 4 := by decide +kernel
set_option maxHeartbeats 8000000 in
theorem csure_any (w : World) : Calls Try.prog 12 #[] w fun e w' => e = .returned (.bool true) ∧ Fr none_ w w' := by
  have hdv : Calls Try.prog 4 #[.int .i64 3, .int .i64 4] w fun e w' => DevicesP w 4 3 e w' := devices_any 3 4 (by decide) (by decide) w
  have HDV := Lib.hid hdv
  have kc := fun (w : World) (C : Array Value) (n c : Nat) => Lib.run_convert_bytes_const (P := Try.prog) w 33 5 C n c Try.underlying33 Try.underlying5
  clear hdv
  go_enter Try.func12, Try.ntmps12
  go_wp2_with fail
  (with_reducible refine HDV.out.mono ?_)
  rintro e w1 ⟨A, ca, ds, rfl, hN, hA, hnil, hty, hF1⟩
  have hl3 := hN.len
  obtain ⟨a, o, hAe⟩ := hA.addr (by rw [List.length_map, List.length_map]; omega)
  subst hAe
  have hnew : Calls Try.prog 5 #[.slice (some ⟨a, o, none⟩) 3 ca, .agg #[.int .i64 2, .int .i64 1, .int .i64 0, .int .i64 1, .int .i64 100]] w1 fun e w' => CNewP w1 (ds.map (·.1)) sC e w' := by
    have h9 := cnew_ok ds (List.replicate 3 (newD ((4 : Nat) : Int))) hN.at_ (some ⟨a, o, none⟩) ca hA 2 1 0 1 100 (by decide) (by decide) (by rw [hN.len]) (by decide) (by decide) (fun i h => by rw [List.getElem_replicate]; decide)
    rw [hN.len] at h9
    exact h9
  have HNEW := Lib.hid hnew
  have HN := Lib.hid (And.intro hN (And.intro hA (And.intro hty (And.intro hF1 hl3))))
  clear hnew hN hA hnil hty hl3
  go_wp2_with fail
  (with_reducible refine HNEW.out.mono ?_)
  rintro e w2 ⟨⟨x, lb, pb, c, g, rfl, hcol, hx, hlb, hpb, hc, hg⟩, hF2⟩
  have S0 := CL.new HN.out.2.2.2.1 HN.out.1 hF2 hcol hpb hg
  have S1 := S0.step0 ((Fr.refl none_ w2).alloc (.cells lit10 5 (10, 11)))
  have hcell : CellsAt (w2.alloc (.cells lit10 5 (10, 11))) (some ⟨w2.heap.size, 0, none⟩) (someB.map byteV) := CellsAt.whole (by rw [← lit10_eq]; exact heap_alloc_new _ _)
  have hput : Calls Try.prog 8 #[ptr x, .slice (some ⟨w2.heap.size, 0, none⟩) 10 10] (w2.alloc (.cells lit10 5 (10, 11))) fun e w' => PutOk (w2.alloc (.cells lit10 5 (10, 11))) x lb pb c g ds (List.replicate 3 (newD ((4 : Nat) : Int))) sC (List.replicate sC.places.length freeP) 0 someB e w' :=
    put_ok S1.col S1.dev (some ⟨w2.heap.size, 0, none⟩) 10 someB hcell (fun b hb _ => by have := blkOf_some hb; have := S0.col.code.fd.lt; omega) (by decide) (by decide) (by decide) 0 (by rfl) (by decide) sD_calm (fun D hD => by rw [List.eq_of_mem_replicate hD]; decide)
  have hk1 := (HN.out.2.1.fr0 hF2).fr0 ((Fr.refl none_ w2).alloc (.cells lit10 5 (10, 11)))
  have hty1 : ∀ b, blkOf (some ⟨a, o, none⟩) b → ∃ c, (w2.alloc (.cells lit10 5 (10, 11))).heap[b]? = some (.cells c 46 (0, 0)) := fun b hb => by
    obtain ⟨cc, hcc⟩ := HN.out.2.2.1 b hb
    exact ⟨cc, heap_alloc_old (hF2.heap0 hcc) _⟩
  have HP := Lib.hid hput
  have HS := Lib.hid (And.intro S1 (And.intro hk1 hty1))
  clear hput S0 S1 hk1 hty1 hcell hcol hx hlb hpb hc hg hF2
  go_wp2_with fail
  (with_reducible refine HP.out.mono ?_)
  rintro e w3 hp
  obtain ⟨rfl, hF3, sv, S2⟩ := HS.out.1.put hp
  have hk2 := (HS.out.1.keepA hF3 HS.out.2.1 HS.out.2.2 (by decide) (by decide) (by decide)).1
  have hl3 := HN.out.2.2.2.2
  have h03 : 0 < ds.length := by omega
  have c0 : w3.cell? ⟨a, o, none⟩ = some (ptr ds[0].1) := by
    have h9 := hk2.get 0 (by rw [List.length_map, List.length_map]; exact h03)
    rw [Nat.add_zero] at h9
    rw [h9, List.getElem_map, List.getElem_map]
  have hlose := lose_any (S2.dev.at_ 0 h03 (by rw [putDs_len]; decide))
  obtain ⟨p, hpe⟩ : ∃ p, p = ds[0].1 := ⟨_, rfl⟩
  rw [← hpe] at c0
  have hlose2 := hlose
  rw [← hpe] at hlose2
  have HL := Lib.hid (And.intro hlose2 hpe)
  have HS2 := Lib.hid S2
  clear hp hF3 S2 hk2 hlose hlose2 hpe
  go_wp2_with fail
  (with_reducible refine HL.out.1.mono ?_)
  rintro e w4 ⟨rfl, hF4, hD4⟩
  have hpe := HL.out.2
  rw [hpe] at hF4 hD4
  have S3 := HS2.out.onDev 0 h03 hF4 hD4
  rw [sD_set ds.length hl3] at S3
  have hget : Calls Try.prog 27 #[ptr x, .int .i64 0] w4 fun e w' => GetP w4 g 2 1 10 (rowsC sD2 0 10 2) [false, true, true] e w' := by
    have h9 := get_any S3.col S3.dev 0 (by rw [List.length_set]; decide) rfl (fun i hi => by
      rw [s_fit _ (List.getElem_mem hi)]
      decide +kernel) ⟨(show (1 : Nat) ≤ 10 from by decide), (show (10 : Nat) ≤ 100 from by decide)⟩ (by rw [hl3]; exact (show (sP.map sumF).length = 3 from by decide +kernel)) (fun _ => by
        have e : theresC sD2 ((sC.putP 0 ⟨1, someB.length, (partsP sC someB).map sumF⟩).first + 0 * sectC (sC.putP 0 ⟨1, someB.length, (partsP sC someB).map sumF⟩).d (sC.putP 0 ⟨1, someB.length, (partsP sC someB).map sumF⟩).size) 10 2 (sP.map sumF) = [false, true, true] := s_there
        have e2 : pivOk ((pickN [false, true, true] 2 3).map (rowF 2)) 2 := by rw [s_pick]; exact s_piv
        rw [← e] at e2
        exact e2)
    have e : theresC sD2 0 10 2 (sP.map sumF) = [false, true, true] := s_there
    rw [← e]
    exact h9
  have HG := Lib.hid hget
  have HS3 := Lib.hid S3
  clear hget S3 hF4 hD4 hpe c0
  go_wp2_with fail
  (with_reducible refine HG.out.mono ?_)
  rintro e w5 ⟨hok, _, hfd, hfr⟩
  obtain ⟨A5, c5, rfl, hA5, hnil5⟩ := hok (by rw [show (2 : Nat) + 1 = 3 from rfl, s_pick]; rfl)
  rw [s_got] at hA5 hnil5 ⊢
  have S4 := HS3.out.got hfr hfd
  have hcv : (convert 33 9 (.slice A5 10 c5)).run Try.prog w5 = .ok (.string ⟨#[115, 111, 109, 101, 32, 98, 121, 116, 101, 115]⟩) w5 := conv_bytes (P := Try.prog) (src := 33) (dst := 9) (w := w5) Try.underlying33 Try.underlying5 Try.underlying9 rfl hA5 hnil5
  rw [show someB.length = 10 from rfl]
  clear hA5 hnil5 hfd hfr hok
  go_wp2_with fail
  go_ret
  exact ⟨rfl, S4.fr⟩
end Go.Proofs.Ytdkjmnhblepkaaa

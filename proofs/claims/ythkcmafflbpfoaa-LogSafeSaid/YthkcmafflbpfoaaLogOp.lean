import Derived.Test.YthkcmafflbpfoaaLogOpA
import Derived.Deep.DeepCutAuto
import Derived.Deep.CutBlock
namespace Go.Proofs.Ythkcmafflbpfoaa
open Go.RowKit
set_option linter.unusedVariables false
set_option linter.unusedSimpArgs false
set_option maxRecDepth 100000

/-! log: Open, whatever lies there. -/
theorem sumN_take (l : List Nat) (k : Nat) : sumN (l.take k) ≤ sumN l := by
  have := sumN_append (l.take k) (l.drop k)
  rw [List.take_append_drop] at this
  omega
theorem Scan.step_at {R : List UInt8} {seq n : Nat} {d : List UInt8} {rs : List (List UInt8 × Nat)} (h : Scan R seq ((d, n) :: rs)) : ∃ k, seq ≤ 1099511627776 ∧ TagK R seq k ∧ oneF (preB R k) seq = some (d, n) := by
  cases h with
  | step hs h h1 h2 => exact ⟨_, hs, h, h1⟩
theorem Scan.end_at {R : List UInt8} {seq : Nat} (h : Scan R seq []) : 1099511627776 < seq ∨ ∃ k, TagK R seq k ∧ oneF (preB R k) seq = Option.none := by
  cases h with
  | none h h1 => exact .inr ⟨_, h, h1⟩
  | over h => exact .inl h
theorem rec_one (i : Int) (A : Option Addr) (n c : Nat) : ∀ u ∈ [Value.int .i64 i, .slice A n c], u.oneCell' = true := by
  intro u hu
  simp at hu
  rcases hu with rfl | rfl <;> rfl
def opU (rs : List (List UInt8 × Nat)) : Nat := sumN (sizesOf rs)
def opL (fi se at_ seq : Nat) (rs : List (List UInt8 × Nat)) : LogS := logR fi se at_ seq (sizesOf rs)
structure OpenRes (w : World) (p m1 m2 : Nat) (D : DevS) (fi se at_ seq : Nat) (rs : List (List UInt8 × Nat)) (e : Ending) (w' : World) : Prop where
  ret : ∃ b vo, e = .returned (.tuple #[ptr b, vo, errV (if (clN D (opL fi se at_ seq rs) (opU rs) ((ringB D fi se at_ se).drop (opU rs * 64)) (se - opU rs)).down then 13 else 0)]) ∧ LogAt w' b p (opL fi se at_ seq rs) ∧ w.heap.size ≤ b ∧ (∀ i, szBlk w' b i → w.heap.size ≤ i) ∧ OutAt w' w.heap.size vo seq rs
  dev : DevAt w' p m1 m2 (cleanF D (opL fi se at_ seq rs) (opU rs) ((ringB D fi se at_ se).drop (opU rs * 64)) (se - opU rs))
  fr : Fr (devBlks p m1 m2) w w'
theorem mul64 (u se : Nat) (h : u ≤ se) : se * 64 - u * 64 = (se - u) * 64 := by rw [Nat.sub_mul]
set_option maxHeartbeats 4000000 in
theorem open_any {w : World} {p m1 m2 : Nat} {D : DevS} (hD : DevAt w p m1 m2 D) (hup : D.down = false) (fi se at_ seq : Nat) (h1 : 2 ≤ se) (h2 : (fi : Int) + (se : Int) ≤ D.sectors) (h3 : at_ < se) (h4 : 1 ≤ seq) (h5 : seq ≤ 1099511627776) (rs : List (List UInt8 × Nat)) (hsc : Scan (ringB D fi se at_ se) seq rs) :
    Calls Try.prog 5 #[ptr p, areaV fi se, .int .i64 (at_ : Int), .int .i64 (seq : Int)] w fun e w' => OpenRes w p m1 m2 D fi se at_ seq rs e w' := by
  have hm := hD.most
  have hrl := ringB_len D fi se at_ hD.get_len se
  obtain ⟨R, hR⟩ : ∃ R, R = ringB D fi se at_ se := ⟨_, rfl⟩
  rw [← hR] at hsc hrl
  have hfs : fi ≤ 16384 ∧ se ≤ 16384 := by omega
  obtain ⟨hs1, hs2, hs3⟩ := hsc.sum_le se hrl
  have hs4 := hsc.seq_le (by omega)
  have hFb := (Fr.refl none_ w).alloc (.cells #[.int .i64 (fi : Int), .int .i64 (se : Int)] 30)
  have hb0 : (w.alloc (.cells #[.int .i64 (fi : Int), .int .i64 (se : Int)] 30)).heap[w.heap.size]? = some (.cells #[.int .i64 (fi : Int), .int .i64 (se : Int)] 30 (0, 0)) := heap_alloc_new _ _
  have hck : ∀ W, Fr none_ w W → Calls Try.prog 14 #[areaV fi se, ptr p, .int .i64 (at_ : Int), .int .i64 (seq : Int)] W fun e w' => e = .returned .nilIface ∧ Fr none_ W w' := fun W hF => check_ok (hD.fr0 hF) fi se at_ seq h1 h2 h3 h4 h5
  have hrg : ∀ W, Fr none_ w W → Calls Try.prog 15 #[areaV fi se, ptr p, .int .i64 (at_ : Int)] W fun e w' => Ringed W R e w' := fun W hF => by rw [hR]; exact ring_ok (hD.fr0 hF) hup fi se at_ h1 h2 h3
  unfold areaV at hck hrg ⊢
  have HCK := Lib.hid hck
  have HRG := Lib.hid hrg
  have HR := Lib.hid hR
  have HSC := Lib.hid hsc
  have HRL := Lib.hid hrl
  have HSU := Lib.hid (And.intro hs1 (And.intro hs2 (And.intro hs3 hs4)))
  clear hck hrg hR hsc hm hrl hs1 hs2 hs3 hs4
  go_enter Try.func5, Try.ntmps5
  go_wp2_with fail
  obtain ⟨V, hV⟩ : ∃ V, V = w.alloc (.cells #[.int .i64 (fi : Int), .int .i64 (se : Int)] 30) := ⟨_, rfl⟩
  rw [← hV] at hFb hb0
  rw [← hV]
  clear hV
  (with_reducible refine (HCK.out V hFb).mono ?_)
  rintro e y1 ⟨rfl, hF1⟩
  have hb1 := hF1.heap0 hb0
  have ba0 : y1.cell? ⟨w.heap.size, 0, none⟩ = some (.int .i64 (fi : Int)) := by rw [cell_of_blk hb1]; rfl
  have ba1 : y1.cell? ⟨w.heap.size, 1, none⟩ = some (.int .i64 (se : Int)) := by rw [cell_of_blk hb1]; rfl
  have hF01 := hFb.trans hF1
  go_wp2_with fail
  (with_reducible refine (HRG.out y1 hF01).mono ?_)
  rintro e y2 ⟨⟨A, c, rfl, hA, hc, hnil, hbl⟩, hF2⟩
  rw [errV_0]
  have hb2 := hF2.heap0 hb1
  have bb0 : y2.cell? ⟨w.heap.size, 0, none⟩ = some (.int .i64 (fi : Int)) := by rw [cell_of_blk hb2]; rfl
  have bb1 : y2.cell? ⟨w.heap.size, 1, none⟩ = some (.int .i64 (se : Int)) := by rw [cell_of_blk hb2]; rfl
  have hF02 := hF01.trans hF2
  have hapn : ∀ b, blkOf A b → 0 < R.length → ¬ devBlks p m1 m2 b := fun b hb _ => hD.new (Nat.le_trans hF01.size (hbl b hb))
  have HX := Lib.hid (And.intro hF02 (And.intro hapn (And.intro hA (And.intro hc hnil))))
  clear hbl hapn hFb hF1 hF2 hF01 hF02 ba0 ba1 hb0 hb1 hA hnil hc
  go_upto_block 0 with fail
  obtain ⟨Z, hZ⟩ : ∃ Z, Z = y2.alloc (.cells #[ptr p, .int .i64 (fi : Int), .int .i64 (se : Int), .int .i64 (at_ : Int), .int .i64 (seq : Int), .slice none 0 0, .nilIface] 60) := ⟨_, rfl⟩
  have hFZ : Fr none_ y2 Z := by rw [hZ]; exact (Fr.refl _ _).alloc _
  have hbZ : Z.heap[y2.heap.size]? = some (.cells #[ptr p, .int .i64 (fi : Int), .int .i64 (se : Int), .int .i64 (at_ : Int), .int .i64 (seq : Int), .slice none 0 0, .nilIface] 60 (0, 0)) := by rw [hZ]; exact heap_alloc_new _ _
  rw [← hZ]
  clear hZ
  have hA0 : ∀ g, blkOf A g → 0 < R.length → g ≠ y2.heap.size := fun g hg hl => by
    have := HX.out.2.2.1.lt hg (by rw [List.length_map]; exact hl)
    omega
  have HA0 := Lib.hid hA0
  clear hA0
  have hZs := blk_lt hbZ
  go_cut [15, 16, 17, 18] (fun o r _ _ wx => OpR Z wx y2.heap.size p fi se at_ seq R rs A rs.length o r)
  case first =>
    go_wp2_with fail
    go_loopw [15, 16] (fun o r wr => ∃ k : Nat, k ≤ rs.length ∧ OpR Z wr y2.heap.size p fi se at_ seq R rs A k o r) (fun o _ _ => rs.length - lenS o)
    case atStart =>
      obtain ⟨hF02, hapn, hA, hc, hnil⟩ := HX.out
      exact ⟨0, Nat.zero_le _, ⟨OutAt.nil _ _ _, ⟨.slice none 0 0, hbZ, ⟨.inl ⟨rfl, rfl⟩⟩, fun i ⟨o, n, c, h⟩ => by cases h⟩, ⟨A, c, by simp [sumN], by simpa [sumN] using hA.fr0 hFZ, by simpa [sumN] using hc, by simpa [sumN] using hnil, fun g hg _ => hg⟩, Fr.refl _ _⟩⟩
    case round =>
      obtain ⟨k, hk, hO⟩ := hrel
      have hat := HSC.out.at k hk
      obtain ⟨hs1, hs2, hs3, hs4⟩ := HSU.out
      have hUs : sumN ((sizesOf rs).take k) ≤ se := Nat.le_trans (sumN_take _ _) hs1
      have hrl := HRL.out
      obtain ⟨U, hU⟩ : ∃ U, U = sumN ((sizesOf rs).take k) := ⟨_, rfl⟩
      have HO := Lib.hid hO
      obtain ⟨hout, ⟨vz, hlb, hsz, hszn⟩, ⟨A', c', rfl, hAr, hcr, hnilr, hblr⟩, hFr⟩ := hO
      obtain ⟨ns, hns⟩ : ∃ ns, ns = (sizesOf rs).take k := ⟨_, rfl⟩
      rw [← hns] at hlb hsz
      rw [← hU] at hat hUs hAr hcr hnilr hblr ⊢
      have hnl : ns.length = k := by rw [hns, List.length_take]; unfold sizesOf; rw [List.length_map]; omega
      have HNS := Lib.hid (And.intro hns hnl)
      obtain ⟨n', hn'⟩ : ∃ n', n' = R.length - U * 64 := ⟨_, rfl⟩
      rw [← hn'] at hcr hnilr hblr ⊢
      have hdl : (R.drop (U * 64)).length = n' := by rw [List.length_drop, hn']
      have hn64 : n' = (se - U) * 64 := by rw [hn', hrl, Nat.sub_mul]
      have hblz : ∀ g, blkOf A' g → 0 < n' → g ≠ y2.heap.size := fun g hg hl => HA0.out g (hblr g hg hl) (by omega)
      have hAw : CellsAt wr A' ((R.drop (U * 64)).map byteV) := hAr.frp hFr (fun g hg hl => hblz g hg (by rw [List.length_map, hdl] at hl; exact hl))
      have hone : ∀ k0, TagK (R.drop (U * 64)) (seq + k) k0 → Calls Try.prog 16 #[.slice A' n' c', .int .i64 ((seq : Int) + (k : Int))] wr fun e w' => OneRes wr (oneF (preB (R.drop (U * 64)) k0) (seq + k)) (seq + k) e w' := fun k0 hT => by
        have := one_any (w := wr) A' n' c' (R.drop (U * 64)) hdl.symm hAw hnilr hcr (seq + k) (by omega) (by omega) ⟨se - U, by rw [hdl]; exact hn64⟩ k0 hT
        rw [show ((seq + k : Nat) : Int) = (seq : Int) + (k : Int) by omega] at this
        exact this
      have htl : (rs.take k).length = k := by rw [List.length_take]; omega
      obtain ⟨vs, hvl, hrow, hdat⟩ := id hout.vs
      rw [htl] at hrow hvl
      obtain ⟨A6, c6, rfl, hA6, hc6, hnil6, hbl6⟩ := ownsRow_read hrow
      have hk16 : k ≤ 16384 := by omega
      have HU := Lib.hid hU
      have HN' := Lib.hid (And.intro hn' (And.intro hn64 hdl))
      have HONE := Lib.hid hone
      have HR2 := Lib.hid (And.intro hvl (And.intro hrow hdat))
      have HL := Lib.hid (And.intro hlb (And.intro hsz hszn))
      have HAR := Lib.hid (And.intro hAr (And.intro hcr (And.intro hnilr (And.intro hblr hblz))))
      have HFR := Lib.hid hFr
      have HOUT := Lib.hid hout
      have HTL := Lib.hid htl
      clear hns hnl hone hU hn' hn64 hdl hAw hrow hdat hlb hsz hszn hAr hcr hnilr hblr hblz hFr hout htl hvl hA6 hnil6 hbl6 hs3 hrl hs1
      by_cases hlt : k < rs.length
      · obtain ⟨d, n, hdn⟩ : ∃ d n, rs[k] = (d, n) := ⟨_, _, rfl⟩
        rw [List.drop_eq_getElem_cons hlt, hdn] at hat
        obtain ⟨k0, hq1, hT, hF⟩ := hat.step_at
        have hon := HONE.out k0 hT
        rw [hF] at hon
        obtain ⟨n1, n2⟩ := oneF_le (K := k0) hF (by rw [preB_len _ _ hT.le]; omega)
        have hkn := hT.le
        rw [HN'.out.2.2] at hkn
        have HON := Lib.hid hon
        have HDN := Lib.hid hdn
        have hnn : n * 64 ≤ n' := by omega
        have hn16 : n ≤ 16384 := by have := HN'.out.2.1; omega
        have q1 : (seq : Int) + (k : Int) ≤ 1099511627776 := by omega
        have q2 : ¬ (n : Int) = 0 := by omega
        have q3 : ((n : Int) == 0) = false := by rw [beq_eq_false_iff_ne]; exact q2
        clear hat hT hF hon hkn n2 hdn
        go_wp2_with fail
        (with_reducible refine HON.out.mono ?_)
        rintro e z1 hres
        obtain ⟨vd, rfl, hvd⟩ := hres.yes d n rfl
        have hG1 := hres.fr
        obtain ⟨Ad, cd, rfl, hAd, hcd, hnild, hbld⟩ := ownsRow_read hvd
        have HVD := Lib.hid hvd
        clear hres hvd hAd hcd hnild hbld
        obtain ⟨hvl, hrow, hdat⟩ := HR2.out
        obtain ⟨hlb, hsz, hszn⟩ := HL.out
        obtain ⟨A5, cap5, hv5, _, _⟩ := id hsz.read
        subst hv5
        have hal2 : Fr none_ wr ((z1.alloc (.cells #[.int .i64 ((seq : Int) + (k : Int)), .slice Ad d.length cd] 49)).alloc (.cells #[.int .i64 ((seq : Int) + (k : Int)), .slice Ad d.length cd] 49)) := (hG1.alloc _).alloc _
        have hsz2 := HFR.out.size
        have hcw := CellsAt.whole (l := [.int .i64 ((seq : Int) + (k : Int)), .slice Ad d.length cd]) (heap_alloc_new (z1.alloc (.cells #[.int .i64 ((seq : Int) + (k : Int)), .slice Ad d.length cd] 49)) (.cells #[.int .i64 ((seq : Int) + (k : Int)), .slice Ad d.length cd] 49))
        rw [World.size_alloc] at hcw
        have hrow2 := ownsRow_fr0 hrow hal2
        have HZZ := Lib.hid (And.intro hrow2 (And.intro hcw (show Z.heap.size ≤ ((z1.alloc (.cells #[.int .i64 ((seq : Int) + (k : Int)), .slice Ad d.length cd] 49)).alloc (.cells #[.int .i64 ((seq : Int) + (k : Int)), .slice Ad d.length cd] 49)).heap.size from Nat.le_trans hsz2 hal2.size)))
        have hlb5 : ∀ w5, ((z1.alloc (.cells #[.int .i64 ((seq : Int) + (k : Int)), .slice Ad d.length cd] 49)).alloc (.cells #[.int .i64 ((seq : Int) + (k : Int)), .slice Ad d.length cd] 49)).grownBy w5 (Value.slice A6 k c6).ownBlock → w5.heap[y2.heap.size]? = some (.cells ((logR fi se at_ seq ns).cells p (.slice A5 ns.length cap5)) 60 (0, 0)) := fun w5 hg => (Fr.of_grown hg).heap (hal2.heap0 hlb) (own_ne hrow2 (hal2.heap0 hlb) (by decide))
        have hsz5 : ∀ w5, ((z1.alloc (.cells #[.int .i64 ((seq : Int) + (k : Int)), .slice Ad d.length cd] 49)).alloc (.cells #[.int .i64 ((seq : Int) + (k : Int)), .slice Ad d.length cd] 49)).grownBy w5 (Value.slice A6 k c6).ownBlock → SzAt w5 (.slice A5 ns.length cap5) ns := fun w5 hg => (hsz.fr0 hal2).frT (Fr.of_grown hg) (fun k' hk' c F hc => by
          obtain ⟨c2, h2⟩ := own_type hrow2 hk'
          rw [hc] at h2; cases h2)
        have hvb : ¬ szB (.slice A5 ns.length cap5) y2.heap.size := fun h => by have := hszn _ h; omega
        have HLB5 := Lib.hid hlb5
        have HSZ5 := Lib.hid hsz5
        have HAL2 := Lib.hid hal2
        have HSZN := Lib.hid hszn
        have HVB := Lib.hid hvb
        have hns16 : ns.length ≤ 16384 := by have := HNS.out.2; omega
        obtain ⟨hAr, hcr, hnilr, hblr, hblz⟩ := HAR.out
        obtain ⟨g, o, rfl⟩ := hAr.addr (by rw [List.length_map, HN'.out.2.2]; omega)
        have r1 : (n : Int) * 64 ≤ (n' : Int) := by omega
        have r2 : (n' : Int) ≤ (c' : Int) := by omega
        have r3 : (0 : Int) ≤ (n : Int) * 64 := by omega
        have r4 : n' ≤ c' := by omega
        clear hlb5 hal2 hvl hrow hdat hlb hsz hszn hsz2 hcw hrow2 hsz5 hvb hAr hcr hnilr hblr hblz
        by_cases hc64 : c' = n * 64
        · have hn2 : n' = n * 64 := by omega
          subst hc64
          subst hn2
          go_wp2_with (first | ((with_reducible refine at_append (.tmp 60) (.tmp 62) 32 Z.heap.size 49 (.agg #[.int .i64 0, .slice none 0 0]) 2 32 (n := k) (A := some ⟨z1.heap.size + 1, 0, none⟩) (m := 1) (c := 1) (news := [.int .i64 ((seq : Int) + (k : Int)), .slice Ad d.length cd]) Try.underlying32 info_rec ?_ ?_ ?_ ?_ HZZ.out.1 HZZ.out.2.1 ?_ ?_ ?_ ?_ ?_ ?_ ?_); (focus rfl); (focus decide); (focus rfl); (focus rfl); (focus (intro h; cases h)); (focus rfl); (focus exact rec_one _ _ _ _); (focus unfold maxLen; omega); (focus omega); (focus exact HZZ.out.2.2); intro v5 w5 hown5 hg5; have hb5 := HLB5.out w5 hg5; have c5 : w5.cell? ⟨y2.heap.size, 5, none⟩ = some (.slice A5 ns.length cap5) := (by rw [cell_of_blk hb5]; rfl); have hgal : Fr none_ w5 (w5.alloc (.cells #[.int .i64 (n : Int)] 3)) := ((Fr.refl none_ w5).alloc _); have HSA := Lib.hid ((HSZ5.out w5 hg5).fr0 hgal); have HBA := Lib.hid (hgal.heap0 hb5); have HG5 := Lib.hid (And.intro hown5 hg5); clear hown5 hg5 hb5 hgal) | ((with_reducible refine at_app_sz2 rfl (.tmp 68) (.tmp 70) _ Try.underlying58 (.slice A5 ns.length cap5) ns n w5.heap.size HSA.out ?_ ?_ (heap_alloc_new _ _) ?_ ?_); (focus rfl); (focus rfl); (focus omega); intro v2 w2 hsz2 hF2 hsn2; obtain ⟨A7, cap7, hv7, _, _⟩ := id hsz2.read; subst hv7; have hb2 := hF2.heap HBA.out HVB.out; have c5' : w2.cell? ⟨y2.heap.size, 5, none⟩ = some (.slice A5 ns.length cap5) := (by rw [cell_of_blk hb2]; rfl); have f5 := frozen_of_blk hb2 5; have HE := Lib.hid (And.intro hsz2 (And.intro hF2 (And.intro hsn2 hb2))); clear hsz2 hF2 hsn2))
          go_roundw
          case rel =>
            obtain ⟨hsz2, hF2, hsn2, hb2'⟩ := HE.out
            obtain ⟨hown5, hg5⟩ := HG5.out
            obtain ⟨hvl, hrow, hdat⟩ := HR2.out
            obtain ⟨hns, hnl⟩ := HNS.out
            obtain ⟨hAr, hcr, hnilr, hblr, hblz⟩ := HAR.out
            have hnk : sumN ((sizesOf rs).take (k + 1)) = U + n := by
              have hl2 : (sizesOf rs).take (k + 1) = (sizesOf rs).take k ++ [n] := by
                unfold sizesOf
                rw [← List.map_take, ← List.map_take, List.take_succ_eq_append_getElem hlt, HDN.out, List.map_append]; rfl
              rw [hl2, sumN_append, ← HU.out]; simp [sumN]
            have hU1 : R.length - (U + n) * 64 = 0 := by have := HN'.out.1; rw [Nat.add_mul]; omega
            refine ⟨k + 1, by omega, op_step hlt HDN.out hns hnl HFR.out hZs HAL2.out hvl hrow hdat (ownsRow_mono (ownsRow_fr0 HVD.out (((Fr.refl none_ z1).alloc _).alloc _)) HFR.out.size) hown5 hg5 HSA.out HSZN.out hsz2 hF2 hsn2 hb2' ?_⟩
            rw [hnk, hU1]
            refine ⟨some ⟨g, o, none⟩, 0, rfl, by rw [List.drop_eq_nil_of_le (by omega)]; exact CellsAt.nil _ _, by omega, fun h => by first | cases h | omega, fun g' hg' hl => absurd hl (by omega)⟩
          case measure => (have h5 := HG5.out.1; obtain ⟨A8, c8, rfl, _⟩ := ownsRow_read h5; simp [lenS]; omega)
        · go_wp2_with (first | ((with_reducible refine at_append (.tmp 60) (.tmp 62) 32 Z.heap.size 49 (.agg #[.int .i64 0, .slice none 0 0]) 2 32 (n := k) (A := some ⟨z1.heap.size + 1, 0, none⟩) (m := 1) (c := 1) (news := [.int .i64 ((seq : Int) + (k : Int)), .slice Ad d.length cd]) Try.underlying32 info_rec ?_ ?_ ?_ ?_ HZZ.out.1 HZZ.out.2.1 ?_ ?_ ?_ ?_ ?_ ?_ ?_); (focus rfl); (focus decide); (focus rfl); (focus rfl); (focus (intro h; cases h)); (focus rfl); (focus exact rec_one _ _ _ _); (focus unfold maxLen; omega); (focus omega); (focus exact HZZ.out.2.2); intro v5 w5 hown5 hg5; have hb5 := HLB5.out w5 hg5; have c5 : w5.cell? ⟨y2.heap.size, 5, none⟩ = some (.slice A5 ns.length cap5) := (by rw [cell_of_blk hb5]; rfl); have hgal : Fr none_ w5 (w5.alloc (.cells #[.int .i64 (n : Int)] 3)) := ((Fr.refl none_ w5).alloc _); have HSA := Lib.hid ((HSZ5.out w5 hg5).fr0 hgal); have HBA := Lib.hid (hgal.heap0 hb5); have HG5 := Lib.hid (And.intro hown5 hg5); clear hown5 hg5 hb5 hgal) | ((with_reducible refine at_app_sz2 rfl (.tmp 68) (.tmp 70) _ Try.underlying58 (.slice A5 ns.length cap5) ns n w5.heap.size HSA.out ?_ ?_ (heap_alloc_new _ _) ?_ ?_); (focus rfl); (focus rfl); (focus omega); intro v2 w2 hsz2 hF2 hsn2; obtain ⟨A7, cap7, hv7, _, _⟩ := id hsz2.read; subst hv7; have hb2 := hF2.heap HBA.out HVB.out; have c5' : w2.cell? ⟨y2.heap.size, 5, none⟩ = some (.slice A5 ns.length cap5) := (by rw [cell_of_blk hb2]; rfl); have f5 := frozen_of_blk hb2 5; have HE := Lib.hid (And.intro hsz2 (And.intro hF2 (And.intro hsn2 hb2))); clear hsz2 hF2 hsn2))
          go_roundw
          case rel =>
            obtain ⟨hsz2, hF2, hsn2, hb2'⟩ := HE.out
            obtain ⟨hown5, hg5⟩ := HG5.out
            obtain ⟨hvl, hrow, hdat⟩ := HR2.out
            obtain ⟨hns, hnl⟩ := HNS.out
            obtain ⟨hAr, hcr, hnilr, hblr, hblz⟩ := HAR.out
            have hnk : sumN ((sizesOf rs).take (k + 1)) = U + n := by
              have hl2 : (sizesOf rs).take (k + 1) = (sizesOf rs).take k ++ [n] := by
                unfold sizesOf
                rw [← List.map_take, ← List.map_take, List.take_succ_eq_append_getElem hlt, HDN.out, List.map_append]; rfl
              rw [hl2, sumN_append, ← HU.out]; simp [sumN]
            have hU1 : R.length - (U + n) * 64 = n' - n * 64 := by have := HN'.out.1; rw [Nat.add_mul]; omega
            refine ⟨k + 1, by omega, op_step hlt HDN.out hns hnl HFR.out hZs HAL2.out hvl hrow hdat (ownsRow_mono (ownsRow_fr0 HVD.out (((Fr.refl none_ z1).alloc _).alloc _)) HFR.out.size) hown5 hg5 HSA.out HSZN.out hsz2 hF2 hsn2 hb2' ?_⟩
            have hrs : CellsAt Z (some ⟨g, o + n * 64, none⟩) ((R.drop ((U + n) * 64)).map byteV) := by
              have hl := HN'.out.2.2
              have := hAr.sub (n * 64) (n' - n * 64) (by rw [List.length_map, hl]; omega)
              rw [← List.map_drop, ← List.map_take, List.drop_drop, List.take_of_length_le (by rw [List.length_drop]; have := HN'.out.1; omega), show U * 64 + n * 64 = (U + n) * 64 by rw [Nat.add_mul]] at this
              exact this
            rw [hnk, hU1]
            refine ⟨some ⟨g, o + n * 64, none⟩, c' - n * 64, rfl, hrs, by omega, fun h => by first | cases h | omega, fun g' hg' hl => by obtain rfl := blkOf_some hg'; exact hblr _ ⟨o, rfl⟩ (by omega)⟩
          case measure => (have h5 := HG5.out.1; obtain ⟨A8, c8, rfl, _⟩ := ownsRow_read h5; simp [lenS]; omega)
      · have hkk : k = rs.length := by omega
        have hO2 := HO.out
        subst hkk
        rw [List.drop_length] at hat
        rcases hat.end_at with hov | ⟨k0, hT, hF⟩
        · have q1 : ¬ (seq : Int) + (rs.length : Int) ≤ 1099511627776 := by omega
          clear hat
          have HO3 := Lib.hid hO2
          clear hO2
          go_wp2_with fail
          go_meet
          have hO := HO3.out
          rw [← HU.out, ← HN'.out.1] at hO
          exact hO
        · have hon := HONE.out k0 hT
          rw [hF] at hon
          have HON := Lib.hid hon
          by_cases q0 : (seq : Int) + (rs.length : Int) ≤ 1099511627776
          · have HO3 := Lib.hid hO2
            clear hO2 hat hT hF hon
            go_wp2_with fail
            (with_reducible refine HON.out.mono ?_)
            rintro e z1 hres
            have := hres.no rfl
            subst this
            have hG1 := hres.fr
            clear hres
            go_wp2_with fail
            go_meet
            have hO := HO3.out
            rw [← HU.out, ← HN'.out.1] at hO
            exact hO.fr0 (hG1.alloc _)
          · have HO3 := Lib.hid hO2
            clear hO2 hat hT hF hon
            go_wp2_with fail
            go_meet
            have hO := HO3.out
            rw [← HU.out, ← HN'.out.1] at hO
            exact hO
  case rest =>
    obtain ⟨hout, ⟨vz, hlb, hsz, hszn⟩, ⟨A', c', rfl, hAr, hcr, hnilr, hblr⟩, hFr⟩ := hcut
    have hts : (sizesOf rs).take rs.length = sizesOf rs := by unfold sizesOf; rw [← List.map_take, List.take_length]
    rw [hts] at hlb hsz
    obtain ⟨U, hU⟩ : ∃ U, U = opU rs := ⟨_, rfl⟩
    have hU2 : sumN ((sizesOf rs).take rs.length) = U := by rw [hts, hU]; rfl
    rw [hU2] at hAr hcr hnilr hblr ⊢
    rw [List.take_length] at hout
    obtain ⟨n', hn'⟩ : ∃ n', n' = R.length - U * 64 := ⟨_, rfl⟩
    rw [← hn'] at hcr hnilr hblr ⊢
    obtain ⟨hs1, hs2, hs3, hs4⟩ := HSU.out
    have hUs : U ≤ se := by rw [hU]; exact hs1
    have hrl := HRL.out
    obtain ⟨hF02, hapn, hA, hc, hnil⟩ := HX.out
    have hdl : (R.drop (U * 64)).length = n' := by rw [List.length_drop, hn']
    have hn64 : n' = 64 * (se - U) := by rw [hn', hrl, ← Nat.sub_mul, Nat.mul_comm]
    have hsy := hF02.size
    have hFw : Fr none_ w wc := (hF02.trans hFZ).trans' hFr (fun k hk e => by omega)
    have hL : LogAt wc y2.heap.size p (opL fi se at_ seq rs) := ⟨⟨vz, hlb, hsz⟩, hfs.1, h1, hfs.2, h3, (by show seq ≤ _; omega), (by show (sizesOf rs).length ≤ _; unfold sizesOf; rw [List.length_map]; omega), fun x hx => Nat.le_trans (hs3 x hx).2 hfs.2⟩
    have hAw : CellsAt wc A' ((R.drop (U * 64)).map byteV) := hAr.frp hFr (fun g hg hl => by
      rw [List.length_map, hdl] at hl
      exact HA0.out g (hblr g hg hl) (by omega))
    obtain ⟨en, hen⟩ : ∃ en : Int, en = (if (clN D (opL fi se at_ seq rs) U (R.drop (U * 64)) (se - U)).down then 13 else 0) := ⟨_, rfl⟩
    have hcn : Calls Try.prog 17 #[ptr y2.heap.size, .slice A' n' c'] wc fun e w' => e = .returned (errV en) ∧ DevAt w' p m1 m2 (cleanF D (opL fi se at_ seq rs) U (R.drop (U * 64)) (se - U)) ∧ Fr (devBlks p m1 m2) wc w' := by
      rw [hen]
      exact (clean_any hL (hD.fr0 hFw) hup (by show ((fi + se : Nat) : Int) ≤ _; omega) U hU (by omega) A' n' c' (R.drop (U * 64)) (se - U) hn64 (by omega) hdl hAw hcr (fun g hg hl => by rw [hdl] at hl; exact hapn g (hblr g hg hl) (by omega))).mono (fun e w' hC => ⟨hC.ret, hC.dev, hC.fr⟩)
    have HCN := Lib.hid hcn
    have HEN := Lib.hid hen
    have HUU := Lib.hid hU
    have HLG := Lib.hid (And.intro hL (And.intro hlb (And.intro hszn (And.intro hout hsy))))
    clear hcn hen hU hU2 hts hL hAw hAr hcr hnilr hblr hFr hsz hlb hszn hout hn' hn64 hdl hapn hA hc hnil hF02 hs1 hs2 hs3 hs4 hrl hsy
    go_wp2_with fail
    (with_reducible refine HCN.out.mono ?_)
    rintro e z2 ⟨he, hDv, hFd⟩
    subst he
    go_wp2_with fail
    go_ret3
    have hDw := hD.fr0 hFw
    obtain ⟨hL, hlb, hszn, hout, hsy⟩ := HLG.out
    have hlb2 := hFd.heap hlb (dev_cells hDw hlb (by decide))
    have hzw : w.heap.size ≤ Z.heap.size := by omega
    refine ⟨⟨y2.heap.size, _, by rw [← HUU.out, ← HR.out, ← HEN.out]; rfl, hL.frD hDw hFd, hsy, ?_, ?_⟩, by rw [← HUU.out, ← HR.out]; exact hDv, (Fr.of0 hFw).trans hFd⟩
    · rintro i ⟨l', p', v', h', hi⟩
      rw [hlb2] at h'
      have hv : vz = v' := by unfold LogS.cells at h'; simp at h'; exact h'.2.2.2.2.2.1
      rw [← hv] at hi
      exact Nat.le_trans hzw (hszn i hi)
    · exact (hout.fr hFd (fun k hk => .inl (by have := hD.lt k hk; omega))).mono hzw
end Go.Proofs.Ythkcmafflbpfoaa

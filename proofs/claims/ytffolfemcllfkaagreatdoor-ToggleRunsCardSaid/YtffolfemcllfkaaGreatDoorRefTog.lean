import Derived.Test.YtffolfemcllfkaaGreatDoorRefAll
import Derived.Test.YtffolfemcllfkaaGreatDoorTogRef
import Derived.Test.YtffolfemcllfkaaGreatDoorRefNumM
namespace Go.Proofs.YtffolfemcllfkaaGreatDoor
open Go.RowKit
set_option linter.unusedVariables false
set_option linter.unusedSimpArgs false
set_option maxRecDepth 100000

/-! The document's toggle (drydockref04), walked: Teller, place, look. -/
set_option maxHeartbeats 2000000 in
theorem rplace_any (f s : Int) (sec : Bool) (w : World) (hs : 3 ≤ s ∧ s ≤ 16384) (hf : 0 ≤ f ∧ f ≤ 16384) : Calls Tryz.prog 64 #[area f s, .bool sec] w fun e w' => e = .returned (.int .i64 (fromF sec f s)) ∧ Fr none_ w w' := by
  cases sec
  · have h1 : fromF false f s = f + 1 := rfl
    rw [h1]
    go_enter Tryz.func64, Tryz.ntmps64
    go_wp2_with fail
    go_ret
    exact ⟨rfl, (Fr.refl _ _).alloc _⟩
  · have hp := placeF_in s hs
    have hr : fromF true f s = f + 1 + placeF s := by rw [hp]; rfl
    rw [hr]
    have hw1 : IntKind.i64.wrap (IntKind.i64.wrap (f + 1) + placeF s) = f + 1 + placeF s := by rw [hp, IntWalk.i64_in (f + 1) (by omega), IntWalk.i64_in _ (by omega)]
    have HW := Lib.hid hw1
    have c0 := heap_alloc_new w (.cells #[.int .i64 f, .int .i64 s] 23)
    have c1 : (w.alloc (.cells #[.int .i64 f, .int .i64 s] 23)).drew.cell? ⟨w.heap.size, 0, none⟩ = some (.int .i64 f) := cell_of_blk c0 0
    have c2 : (w.alloc (.cells #[.int .i64 f, .int .i64 s] 23)).drew.cell? ⟨w.heap.size, 1, none⟩ = some (.int .i64 s) := cell_of_blk c0 1
    clear c0 hp hw1
    go_enter Tryz.func64, Tryz.ntmps64
    go_wp2_with fail
    go_region_held3 (fun w' => (w'.cell? ⟨w.heap.size, 0, none⟩ = some (.int .i64 f) ∧ w'.cell? ⟨w.heap.size, 1, none⟩ = some (.int .i64 s))) (first | exact ⟨d1, d2⟩ | exact ⟨c1, c2⟩) (first | (go_at_call 114; (with_reducible refine (half_any f s _).mono ?_); rintro e w1 ⟨rfl, hF1⟩; have d1 := hF1.cell0 c1; have d2 := hF1.cell0 c2))
    rw [HW.out]
    go_wp2_with fail
    go_ret
    exact ⟨rfl, ((Fr.refl _ _).alloc _).trans hF1.undrew⟩
def tellB' (n : Nat) (b : Bool) (long : Nat) : List UInt8 := encF n ++ ([if b then 1 else 0] ++ encF long)
theorem rteller_any {w : World} (n : Nat) (hn : n < 18446744073709551616) (sec : Bool) (long : Nat) (hl : long ≤ 1000000) :
    Calls Tryz.prog 66 #[.int .u64 (n : Int), .bool sec, .int .i64 (long : Int)] w fun e w' => Cloned w (tellB' n sec long) e w' := by
  have h1 := ruint_enc_any (w := w) none 0 0 [] n hn rfl (CellsAt.nil _ _) (fun _ => ⟨rfl, rfl⟩) (by decide)
  rw [List.nil_append] at h1
  have hk1 : (encF n).length ≤ 9 := by rw [encF_len]; have := behindF_le n; omega
  have H1 := Lib.hid h1
  clear h1
  go_enter Tryz.func66, Tryz.ntmps66
  go_wp2_with fail
  (with_reducible refine H1.out.mono ?_)
  rintro e w1 ⟨⟨v1, rfl, hown1⟩, hF1⟩
  obtain ⟨A1, c1, rfl, g1, g2, g3, g4⟩ := ownsRow_read hown1
  have h2 := rbool_enc_any (w := w1) A1 (encF n).length c1 (encF n) sec rfl g1 g3 (by omega)
  have H2 := Lib.hid h2
  clear h2 hown1 g1 g2 g3 g4
  go_wp2_with fail
  (with_reducible refine H2.out.mono ?_)
  rintro e w2 ⟨⟨v2, rfl, hown2⟩, hF2⟩
  obtain ⟨A2, c2, rfl, g1, g2, g3, g4⟩ := ownsRow_read hown2
  have hk2 : (encF n ++ [if sec then (1 : UInt8) else 0]).length ≤ 10 := by rw [List.length_append]; simp; omega
  have h3 := ruint_enc_any (w := w2) A2 ((encF n).length + 1) c2 (encF n ++ [if sec then (1 : UInt8) else 0]) long (by omega) (by simp) g1 (by simpa using g3) (by omega)
  have H3 := Lib.hid h3
  clear h3 hown2 g1 g2 g3 g4
  go_wp2_with fail
  (with_reducible refine H3.out.mono ?_)
  rintro e w3 ⟨⟨v3, rfl, hown3⟩, hF3⟩
  go_wp2_with fail
  go_ret
  have he : tellB' n sec long = (encF n ++ [if sec then (1 : UInt8) else 0]) ++ encF long := by unfold tellB'; rw [List.append_assoc]
  rw [he]
  exact Cloned.mk ⟨v3, rfl, ownsRow_monoU hown3 (hF1.trans hF2).size⟩ ((hF1.trans hF2).trans hF3)
/-- []byte(s) -/
theorem conv_str (w : World) (l : List UInt8) : ∃ cap w', (convert 9 37 (.string ⟨l.toArray⟩)).run Tryz.prog w = .ok (.slice (some ⟨w.heap.size, 0, none⟩) l.length cap) w' ∧ CellsAt w' (some ⟨w.heap.size, 0, none⟩) (l.map byteV) ∧ l.length ≤ cap ∧ Fr none_ w w' := by
  have hsz : (⟨l.toArray⟩ : ByteArray).size = l.length := by simp [ByteArray.size]
  have h := run_bytes_of_string (P := Tryz.prog) w 9 37 5 ⟨l.toArray⟩ Tryz.underlying9 Tryz.underlying37 Tryz.underlying5
  have hrow : ∀ cap, bytesRow ⟨l.toArray⟩ cap = (l.map byteV ++ List.replicate (cap - l.length) (Value.int .u8 0)).toArray := fun cap => by
    unfold bytesRow
    rw [hsz]
    apply Array.ext'
    simp [byteV]
  rw [hsz] at h
  refine ⟨_, _, h, ?_, grownCap_ge _ _ _ _, (Fr.refl none_ w).drew.alloc _⟩
  rw [hrow]
  have h2 := fun F : Nat × Nat => CellsAt.whole (f := F) (l := l.map byteV ++ List.replicate (grownCap w l.length 0 5 - l.length) (Value.int .u8 0)) (heap_alloc_at (w := w.drew) (b := w.heap.size) rfl (.cells (l.map byteV ++ List.replicate (grownCap w l.length 0 5 - l.length) (Value.int .u8 0)).toArray 5 F))
  have h3 := fun F => (h2 F).sub 0 l.length (by simp)
  have he : ((l.map byteV ++ List.replicate (grownCap w l.length 0 5 - l.length) (Value.int .u8 0)).drop 0).take l.length = l.map byteV := by
    rw [List.drop_zero, List.take_append_of_le_length (by simp), List.take_of_length_le (by simp)]
  rw [he] at h3
  exact h3 _
/-- look: what the first sector tells, or an error. -/
def RefD.look (R : RefD) (f s : Int) : TellR :=
  if f < 0 ∨ s < 3 ∨ (R.now.length : Int) ≤ f ∨ (R.now.length : Int) - f < s then ⟨0, false, 0, 1⟩
  else if R.readE f ≠ 0 then ⟨0, false, 0, R.readE f⟩
  else tellF (R.readB f) (roomF s).toNat
set_option maxHeartbeats 4000000 in
theorem rlook_any {w : World} {cs : Array Value} {R : RefD} (h : RDV w cs R) (hb64 : ∀ x ∈ R.now, x.length = 64) (f s : Int) : Calls Tryz.prog 62 #[.agg cs, area f s] w fun e w' => RTell w (R.look f s) e w' := by
  obtain ⟨A1, c1, A2, c2, A3, c3, e, h1, h2, h3, r1, r2, r3, r4⟩ := h.rep
  have hm := h.most
  subst e
  clear h1 h2 h3 r1 r2 r3 r4
  obtain ⟨n, hn⟩ : ∃ n, n = R.now.length := ⟨_, rfl⟩
  have hrd : ∀ o1 o2, Calls Tryz.prog 24 _ ((w.alloc o1).alloc o2) _ := fun o1 o2 => ref_read ((h.fr0 ((Fr.refl _ _).alloc o1)).fr0 ((Fr.refl _ _).alloc o2)) f
  have HRD := Lib.hid hrd
  clear hrd
  by_cases g1 : f < 0
  · have hL : R.look f s = ⟨0, false, 0, 1⟩ := by unfold RefD.look; rw [if_pos (.inl g1)]
    rw [hL]
    clear hL
    go_enter Tryz.func62, Tryz.ntmps62
    go_wp2_with fail
    refine bodyPost_ret (res4 Tryz.results62 rfl rfl rfl rfl) rfl ?_
    exact ⟨rfl, ((Fr.refl _ _).alloc _).alloc _⟩
  · by_cases g2 : s < 3
    · have hL : R.look f s = ⟨0, false, 0, 1⟩ := by unfold RefD.look; rw [if_pos (.inr (.inl g2))]
      rw [hL]
      clear hL
      go_enter Tryz.func62, Tryz.ntmps62
      go_wp2_with fail
      refine bodyPost_ret (res4 Tryz.results62 rfl rfl rfl rfl) rfl ?_
      exact ⟨rfl, ((Fr.refl _ _).alloc _).alloc _⟩
    · by_cases g3 : (R.now.length : Int) ≤ f
      · have hL : R.look f s = ⟨0, false, 0, 1⟩ := by unfold RefD.look; rw [if_pos (.inr (.inr (.inl g3)))]
        rw [hL]
        clear hL
        go_enter Tryz.func62, Tryz.ntmps62
        go_wp2_with fail
        refine bodyPost_ret (res4 Tryz.results62 rfl rfl rfl rfl) rfl ?_
        exact ⟨rfl, ((Fr.refl _ _).alloc _).alloc _⟩
      · by_cases g4 : (R.now.length : Int) - f < s
        · have hL : R.look f s = ⟨0, false, 0, 1⟩ := by unfold RefD.look; rw [if_pos (.inr (.inr (.inr g4)))]
          rw [hL]
          clear hL
          go_enter Tryz.func62, Tryz.ntmps62
          go_wp2_with fail
          refine bodyPost_ret (res4 Tryz.results62 rfl rfl rfl rfl) rfl ?_
          exact ⟨rfl, ((Fr.refl _ _).alloc _).alloc _⟩
        · have hL : R.look f s = if R.readE f ≠ 0 then ⟨0, false, 0, R.readE f⟩ else tellF (R.readB f) (roomF s).toNat := by unfold RefD.look; rw [if_neg (by omega)]
          have hB : R.readE f = 0 → (R.readB f).length = 64 := fun h0 => by
            unfold RefD.readB
            rw [if_pos h0]
            have hk : f.toNat < R.now.length := by omega
            rw [List.getElem?_eq_getElem hk]
            exact hb64 _ (List.getElem_mem hk)
          obtain ⟨B, hBe⟩ : ∃ B, B = R.readB f := ⟨_, rfl⟩
          obtain ⟨E, hE⟩ : ∃ E, E = R.readE f := ⟨_, rfl⟩
          rw [← hBe, ← hE] at hL hB
          rw [← hBe, ← hE] at HRD
          have HL := Lib.hid hL
          have HB := Lib.hid hB
          clear hL hB hBe hE
          by_cases he : E = 0
          · subst he
            have hlB := HB.out rfl
            have g5 : wrap64 ((R.now.length : Int) - f) = (R.now.length : Int) - f := IntWalk.wrap64_in _ (by omega)
            obtain ⟨room, hroom⟩ : ∃ room : Nat, roomF s = (room : Int) ∧ room ≤ 524288 := ⟨(roomF s).toNat, by have := roomF_le s; omega, by have := roomF_le s; omega⟩
            unfold strOf at HRD
            go_enter Tryz.func62, Tryz.ntmps62
            go_wp2_with fail
            (with_reducible refine (HRD.out _ _).mono ?_)
            rintro e w1 ⟨rfl, hF1⟩
            have ha1 := hF1.heap0 (heap_2nd w (.cells #[.slice A1 R.now.length c1, .slice A2 R.now.length c2, .slice A3 R.now.length c3, .int .i64 R.writes, .bool R.armed, .int .i64 R.left, .bool R.crashed, .bool R.gone] 33) #[.int .i64 f, .int .i64 s] 23)
            obtain ⟨cap, w2, hcv, hA2, hcap, hF2⟩ := conv_str w1 B
            rw [hlB] at hcv hcap
            have ha2 := hF2.heap0 ha1
            have a0 : w2.cell? ⟨w.heap.size + 1, 0, none⟩ = some (.int .i64 f) := by rw [cell_of_blk ha2]; rfl
            have a1 : w2.cell? ⟨w.heap.size + 1, 1, none⟩ = some (.int .i64 s) := by rw [cell_of_blk ha2]; rfl
            have b0 : w1.cell? ⟨w.heap.size + 1, 0, none⟩ = some (.int .i64 f) := by rw [cell_of_blk ha1]; rfl
            have HQ := Lib.hid (And.intro hA2 ((((Fr.refl none_ w).alloc _).alloc _).trans (hF1.trans hF2)))
            clear hA2 hF1 hF2 ha1 ha2
            go_wp2_with fail
            (with_reducible refine (rroom_any f s _).mono ?_)
            rintro e w3 ⟨rfl, hF3⟩
            rw [hroom.1]
            have hA3 := HQ.out.1.fr0 hF3
            have HT := Lib.hid (rtell_any (w := w3) _ cap B hlB hA3 hcap room hroom.2)
            have HF3 := Lib.hid (HQ.out.2.trans hF3)
            clear hF3 hA3
            go_wp2_with fail
            (with_reducible refine HT.out.mono ?_)
            rintro e w4 ⟨rfl, hF4⟩
            unfold tellRV
            go_wp2_with fail
            refine bodyPost_ret (res4 Tryz.results62 rfl rfl rfl rfl) rfl ?_
            rw [HL.out, if_neg (by simp), show (roomF s).toNat = room by rw [hroom.1]; rfl]
            exact ⟨rfl, HF3.out.trans hF4⟩
          · have k1 : (E == 0) = false := by simpa using he
            have k2 : (E != 0) = true := by simpa using he
            go_enter Tryz.func62, Tryz.ntmps62
            go_wp2_with fail
            (with_reducible refine (HRD.out _ _).mono ?_)
            rintro e w1 ⟨rfl, hF1⟩
            go_wp2_with fail
            refine bodyPost_ret (res4 Tryz.results62 rfl rfl rfl rfl) rfl ?_
            rw [HL.out, if_pos he]
            exact ⟨rfl, (((Fr.refl _ _).alloc _).alloc _).trans hF1⟩
end Go.Proofs.YtffolfemcllfkaaGreatDoor

import Derived.Test.YtffolfemcllfkaaGreatDoorSaveP
import Derived.Test.YtffolfemcllfkaaGreatDoorReaderM
import Derived.Deep.RegionHeld3
import Derived.Test.YtffolfemcllfkaaGreatDoorReadBoolA
import Derived.Test.YtffolfemcllfkaaGreatDoorRefNumM
namespace Go.Proofs.YtffolfemcllfkaaGreatDoor
open Go.RowKit
set_option linter.unusedVariables false
set_option linter.unusedSimpArgs false

/-! toggle.Area.read -/
theorem rerr_blk {w : World} {p n c : Nat} {A : Option Addr} {e : Int} (hb : w.heap[p]? = some (.cells #[.slice A n c, errV e] 218 (0, 0))) : Calls Tryz.prog 105 #[ptr p] w fun en w' => en = .returned (errV e) ∧ w = w' := by
  have c1 : w.cell? ⟨p, 1, none⟩ = some (errV e) := by rw [cell_of_blk hb]; rfl
  go_enter Tryz.func105, Tryz.ntmps105
  go_wp2_with fail
  go_ret
  exact ⟨rfl, rfl⟩
def allZ (b : List UInt8) (k : Nat) : Bool := (b.take k).all (· == 0)
theorem allZ_succ (b : List UInt8) (k : Nat) (h : k < b.length) : allZ b (k + 1) = (allZ b k && (b[k] == 0)) := by
  unfold allZ
  rw [List.take_succ_eq_append_getElem h, List.all_append]
  simp
/-- What the first sector tells: there is no text; the n-th one of so many bytes. -/
structure Tells (b : Blk) (room : Int) (n : Nat) (sec : Bool) (long : Nat) : Prop where
  pos : 0 < n ∧ n ≤ 18446744073709551614
  most : (long : Int) ≤ room
  eq : b = padB (tellB n sec long)
theorem tells_nz {b : Blk} {room : Int} {n : Nat} {sec : Bool} {long : Nat} (h : Tells b room n sec long) (hl : b.length = 64) : allZ b 64 = false := by
  cases hz : allZ b 64
  · rfl
  · exfalso
    unfold allZ at hz
    rw [List.take_of_length_le (by omega), h.eq, padB, tellB, List.append_assoc, List.all_append] at hz
    have h1 : (encF n).all (· == 0) = true := by
      cases hh : (encF n).all (· == 0)
      · rw [hh] at hz; cases hz
      · rfl
    have h2 := numberF_enc n (by have := h.pos; omega) []
    rw [List.append_nil] at h2
    have h3 : encF n = 0 :: (encF n).tail := by
      unfold encF at h1 ⊢
      rw [List.all_cons] at h1
      have : UInt8.ofNat (firstN n) = 0 := by
        cases hq : (UInt8.ofNat (firstN n) == 0)
        · rw [hq] at h1; cases h1
        · simpa using hq
      rw [this]
      rfl
    rw [h3, numberF_cons] at h2
    have h4 : leadF 0 = 0 := by decide +kernel
    have h5 : foldN (firstB 0) [] = 0 := by decide +kernel
    have h6 : behindF 0 = 0 := by decide +kernel
    simp only [h4, List.take_zero, h5, h6, if_true, Nat.not_lt_zero, if_false] at h2
    have h7 := congrArg Prod.fst h2
    have h8 := h.pos
    simp only at h7
    omega
theorem res_teller {W : World} {b : Nat} {c : Array Value} {v0 v1 v2 er : Value} {T : TypeId} {F : Nat × Nat} {tmps : Array Value} (h : W.heap[b]? = some (.cells c T F)) (h0 : c[0]? = some v0) (h1 : c[1]? = some v1) (h2 : c[2]? = some v2) (t4 : tmps[4]?.getD undef = ptr b) (t5 : tmps[5]?.getD undef = er) :
    (results Tryz.f53 tmps).run Tryz.prog W = .ok (.tuple #[.agg #[v0, v1, v2], er]) W := by
  have c0 : W.cell? ⟨b, 0, none⟩ = some v0 := by rw [cell_of_blk h, h0]
  have c1 : W.cell? ⟨b, 1, none⟩ = some v1 := by rw [cell_of_blk h, h1]
  have c2 : W.cell? ⟨b, 2, none⟩ = some v2 := by rw [cell_of_blk h, h2]
  simp [results, Tryz.results53, go_sem, t4, t5, c0, c1, c2]
set_option maxHeartbeats 4000000 in
set_option maxRecDepth 100000 in
theorem tread_none {w : World} {p m1 m2 : Nat} {D : DevS} (h : DevAt w p m1 m2 D) (f s : Int) (hd : D.down = false) (hf : 0 ≤ f) (hs : 3 ≤ s ∧ s ≤ 16384) (hfs : f + s ≤ D.sectors) (hb : allZ (D.get f) 64 = true) :
    Calls Tryz.prog 53 #[area f s, ptr p] w fun e w' => e = .returned (.tuple #[tellerV 0 false 0, errV 8]) ∧ Fr none_ w w' := by
  have hm := h.most
  have hE := atE_up hd (s := f) hf (by omega)
  have hlen := h.get_len f
  have h2 := (h.fr0 ((Fr.refl none_ w).alloc (.cells #[.int .i64 f, .int .i64 s] 36))).fr0 ((Fr.refl _ _).alloc (.cells #[.int .u64 0, .bool false, .int .i64 0] 117))
  have n1 : ¬ f < 0 := by omega
  have n2 : ¬ s < 3 := by omega
  have n3 : ¬ D.sectors ≤ f := by omega
  have n4 : ¬ wrap64 (D.sectors - f) < s := by rw [IntWalk.wrap64_in _ (by omega)]; omega
  obtain ⟨b, hbb⟩ : ∃ b, b = D.get f := ⟨_, rfl⟩
  rw [← hbb] at hb hlen
  have HBB := Lib.hid hbb
  clear hbb
  go_enter Tryz.func53, Tryz.ntmps53
  go_wp2_with fail
  (with_reducible refine (sectors_any h2).mono ?_)
  rintro e w1 ⟨rfl, rfl⟩
  go_wp2_with fail
  (with_reducible refine (read_ok h2 f hE).mono ?_)
  rintro e w1 ⟨g, rfl, hg, hF1, hb1⟩
  rw [errV_0, ← HBB.out] at *
  have hcs : ∀ k (hk : k < 64), w1.cell? ⟨g, k, none⟩ = some (byteV (b[k]'(by omega))) := fun k hk => by rw [cell_of_blk hb1]; simp [hlen, hk]
  have HCS := Lib.hid hcs
  have hr1 := hF1.heap0 (heap_alloc_at (w := w.alloc (.cells #[.int .i64 f, .int .i64 s] 36)) (b := w.heap.size + 1) (by simp) (.cells #[.int .u64 0, .bool false, .int .i64 0] 117))
  have r0 : w1.cell? ⟨w.heap.size + 1, 0, none⟩ = some (.int .u64 0) := by rw [cell_of_blk hr1]; rfl
  have r1 : w1.cell? ⟨w.heap.size + 1, 1, none⟩ = some (.bool false) := by rw [cell_of_blk hr1]; rfl
  have r2 : w1.cell? ⟨w.heap.size + 1, 2, none⟩ = some (.int .i64 0) := by rw [cell_of_blk hr1]; rfl
  have r3 := fun o => frozen_of_blk hr1 o
  have hF2 : Fr none_ w w1 := (((Fr.refl none_ w).alloc _).alloc _).trans hF1
  clear hcs hF1 h2
  go_wp2_with fail
  go_loopw [9, 54] (fun v i wr => ∃ k : Nat, k ≤ 64 ∧ i = .int .i64 k ∧ v = .bool (allZ b k) ∧ wr = w1) (fun _ i _ => 64 - (intOf i).toNat)
  case atStart => exact ⟨0, by omega, rfl, rfl, rfl⟩
  case round =>
    obtain ⟨k, hk, rfl, rfl, rfl⟩ := hrel
    by_cases hlt : k < 64
    · have hcj := HCS.out k hlt
      unfold byteV at hcj
      have hz := allZ_succ b k (by omega)
      have hz2 : allZ b (k + 1) = true := by
        have : ∀ k, k ≤ 64 → allZ b k = true := fun k hk => by
          unfold allZ at hb ⊢
          rw [List.all_eq_true] at hb ⊢
          intro x hx
          exact hb x (List.mem_of_mem_take (by rw [List.take_take, Nat.min_eq_left hk]; exact hx) (i := k))
        exact this _ (by omega)
      have hz1 : allZ b k = true := by
        rw [hz2] at hz
        cases hq : allZ b k
        · rw [hq] at hz; cases hz
        · rfl
      have hz0 : (b[k]'(by omega)) = 0 := by
        rw [hz2, hz1] at hz
        simpa using hz.symm
      rw [hz0] at hcj
      have hcj : wr.cell? ⟨g, k, none⟩ = some (.int .u8 0) := hcj
      rw [hz1]
      go_wp2_with fail
      go_roundw
      case rel => exact ⟨k + 1, by omega, by go_num, by rw [hz2], trivial⟩
      case measure => simp [intOf]; omega
    · have hk4 : k = 64 := by omega
      subst hk4
      rw [hb]
      go_wp2_with fail
      have hend := heap_setCell_same (heap_setCell_same (heap_setCell_same hr1 (o := 0) (.int .u64 0)) (o := 1) (.bool false)) (o := 2) (.int .i64 0)
      refine bodyPost_ret (res_teller (b := w.heap.size + 1) hend rfl rfl rfl rfl rfl) rfl ⟨by rw [errV_n (by decide)]; rfl, ?_⟩
      exact ((hF2.setCell (fun h => absurd h (by simp)) _).setCell (fun h => absurd h (by simp)) _).setCell (fun h => absurd h (by simp)) _
/-! The region that takes the teller off: its variable is made at any time among the calls. -/
abbrev zeroT : Obj := .cells #[.int .u64 0, .bool false, .int .i64 0] 117
structure RdW (w2 wx : World) (q : Nat) (l : List UInt8) : Prop where
  fr : Fr (fun i => i = q) w2 wx
  rd : ReaderAt wx q l 0
structure RdA (w2 wx : World) (q : Nat) (l : List UInt8) (t : Nat) : Prop where
  toW : RdW w2 wx q l
  new : w2.heap.size ≤ t
  blk : wx.heap[t]? = some zeroT
theorem RdW.step {w2 wx w' : World} {q : Nat} {l l' : List UInt8} (h : RdW w2 wx q l) (hF : Fr (fun i => i = q) wx w') (hR : ReaderAt w' q l' 0) : RdW w2 w' q l' := ⟨h.fr.trans hF, hR⟩
theorem RdW.step0 {w2 wx w' : World} {q : Nat} {l : List UInt8} (h : RdW w2 wx q l) (hF : Fr none_ wx w') : RdW w2 w' q l := ⟨h.fr.trans0 hF, h.rd.fr0 hF⟩
theorem RdW.withNew {w2 wx : World} {q : Nat} {l : List UInt8} (h : RdW w2 wx q l) : RdA w2 (wx.alloc zeroT) q l wx.heap.size :=
  ⟨h.step0 ((Fr.refl _ _).alloc _), h.fr.size, heap_alloc_new _ _⟩
theorem RdA.to {w2 wx w' : World} {q t : Nat} {l l' : List UInt8} (h : RdA w2 wx q l t) (hq : q < w2.heap.size) (hF : Fr (fun i => i = q) wx w') (hW : RdW w2 w' q l') : RdA w2 w' q l' t :=
  ⟨hW, h.new, hF.heap h.blk (by have := h.new; omega)⟩
theorem RdA.cells {w2 wx : World} {q t : Nat} {l : List UInt8} (h : RdA w2 wx q l t) : wx.cell? ⟨t, 0, none⟩ = some (.int .u64 0) ∧ wx.cell? ⟨t, 1, none⟩ = some (.bool false) ∧ wx.cell? ⟨t, 2, none⟩ = some (.int .i64 0) ∧ ∀ o, wx.frozen? ⟨t, o, none⟩ = false :=
  ⟨by rw [cell_of_blk h.blk]; rfl, by rw [cell_of_blk h.blk]; rfl, by rw [cell_of_blk h.blk]; rfl, fun o => frozen_of_blk h.blk o⟩
theorem pad_tell (n : Nat) (sec : Bool) (long : Nat) : ∃ r, padB (tellB n sec long) = encF n ++ ((if sec then 1 else 0) :: (encF long ++ r)) :=
  ⟨List.replicate (64 - (tellB n sec long).length) 0, by simp [padB, tellB]⟩
set_option maxHeartbeats 4000000 in
set_option maxRecDepth 100000 in
theorem tread_ok {w : World} {p m1 m2 : Nat} {D : DevS} (h : DevAt w p m1 m2 D) (f s : Int) (hd : D.down = false) (hf : 0 ≤ f) (hs : 3 ≤ s ∧ s ≤ 16384) (hfs : f + s ≤ D.sectors) {n : Nat} {sec : Bool} {long : Nat} (hT : Tells (D.get f) ((s - 1) / 2 * 64) n sec long) :
    Calls Tryz.prog 53 #[area f s, ptr p] w fun e w' => e = .returned (.tuple #[tellerV n sec long, errV 0]) ∧ Fr none_ w w' := by
  have hm := h.most
  have hE := atE_up hd (s := f) hf (by omega)
  have hlen := h.get_len f
  have h2 := (h.fr0 ((Fr.refl none_ w).alloc (.cells #[.int .i64 f, .int .i64 s] 36))).fr0 ((Fr.refl _ _).alloc (.cells #[.int .u64 0, .bool false, .int .i64 0] 117))
  have n1 : ¬ f < 0 := by omega
  have n2 : ¬ s < 3 := by omega
  have n3 : ¬ D.sectors ≤ f := by omega
  have n4 : ¬ wrap64 (D.sectors - f) < s := by rw [IntWalk.wrap64_in _ (by omega)]; omega
  obtain ⟨b, hbb⟩ : ∃ b, b = D.get f := ⟨_, rfl⟩
  rw [← hbb] at hT hlen
  have hb := tells_nz hT hlen
  have HT := Lib.hid hT
  clear hT
  have HBB := Lib.hid hbb
  clear hbb
  go_enter Tryz.func53, Tryz.ntmps53
  go_wp2_with fail
  (with_reducible refine (sectors_any h2).mono ?_)
  rintro e w1 ⟨rfl, rfl⟩
  go_wp2_with fail
  (with_reducible refine (read_ok h2 f hE).mono ?_)
  rintro e w1 ⟨g, rfl, hg, hF1, hb1⟩
  rw [errV_0, ← HBB.out] at *
  have hcs : ∀ k (hk : k < 64), w1.cell? ⟨g, k, none⟩ = some (byteV (b[k]'(by omega))) := fun k hk => by rw [cell_of_blk hb1]; simp [hlen, hk]
  have HCS := Lib.hid hcs
  have hr1 := hF1.heap0 (heap_alloc_at (w := w.alloc (.cells #[.int .i64 f, .int .i64 s] 36)) (b := w.heap.size + 1) (by simp) (.cells #[.int .u64 0, .bool false, .int .i64 0] 117))
  have ha1 := hF1.heap0 (heap_alloc_old (heap_alloc_new w (.cells #[.int .i64 f, .int .i64 s] 36)) (.cells #[.int .u64 0, .bool false, .int .i64 0] 117))
  have r0 : w1.cell? ⟨w.heap.size + 1, 0, none⟩ = some (.int .u64 0) := by rw [cell_of_blk hr1]; rfl
  have r1 : w1.cell? ⟨w.heap.size + 1, 1, none⟩ = some (.bool false) := by rw [cell_of_blk hr1]; rfl
  have r2 : w1.cell? ⟨w.heap.size + 1, 2, none⟩ = some (.int .i64 0) := by rw [cell_of_blk hr1]; rfl
  have r3 := fun o => frozen_of_blk hr1 o
  have hF2 : Fr none_ w w1 := (((Fr.refl none_ w).alloc _).alloc _).trans hF1
  clear hcs hF1 h2
  go_wp2_with fail
  go_loopw [9, 54] (fun v i wr => ∃ k : Nat, k ≤ 64 ∧ i = .int .i64 k ∧ v = .bool (allZ b k) ∧ wr = w1) (fun _ i _ => 64 - (intOf i).toNat)
  case atStart => exact ⟨0, by omega, rfl, rfl, rfl⟩
  case round =>
    obtain ⟨k, hk, rfl, rfl, rfl⟩ := hrel
    by_cases hlt : k < 64
    · have hcj := HCS.out k hlt
      unfold byteV at hcj
      have hz := allZ_succ b k (by omega)
      obtain ⟨x, hx⟩ : ∃ x, x = (b[k]'(by omega)).toNat := ⟨_, rfl⟩
      have hzx : ((b[k]'(by omega)) == 0) = decide (x = 0) := by
        rw [hx]
        by_cases h0 : (b[k]'(by omega)) = 0
        · rw [h0]; rfl
        · have : ¬ (b[k]'(by omega)).toNat = 0 := fun h => h0 (UInt8.toNat_inj.1 h)
          simp [h0, this]
      rw [← hx] at hcj
      rw [hzx] at hz
      have HZ := Lib.hid hz
      clear hz hzx hx
      obtain ⟨z, hz⟩ : ∃ z, z = allZ b k := ⟨_, rfl⟩
      rw [← hz]
      have HZ2 := Lib.hid hz
      clear hz
      by_cases hx0 : x = 0
      all_goals
        cases z
        all_goals
          go_wp2_with fail
          go_roundw
          case rel => exact ⟨k + 1, by omega, by go_num, by rw [HZ.out, ← HZ2.out]; simp [hx0], trivial⟩
          case measure => simp [intOf]; omega
    · have hk4 : k = 64 := by omega
      subst hk4
      rw [hb]
      clear hb HCS r0 r1 r2 r3
      go_wp2_with fail
      have hA : CellsAt wr (some ⟨g, 0, none⟩) (b.map byteV) := CellsAt.whole hb1
      (with_reducible refine (rread_any wr (some ⟨g, 0, none⟩) 64 64 b (by omega) hA (fun h => by cases h) (by omega) (by omega)).mono ?_)
      rintro e w2 ⟨rfl, hF3, hR3⟩
      have hq1 := blk_lt hr1
      have hq2 : wr.heap.size < w2.heap.size := by obtain ⟨⟨A, c, hbk, _⟩, _⟩ := hR3; exact blk_lt hbk
      obtain ⟨q, hq⟩ : ∃ q, q = wr.heap.size := ⟨_, rfl⟩
      rw [← hq] at hq1 hq2 hR3 ⊢
      clear hq
      obtain ⟨r, hpad⟩ := pad_tell n sec long
      rw [HT.out.eq, hpad] at hR3
      have ha2 := hF3.heap0 ha1
      have hr2 := hF3.heap0 hr1
      have hF4 := hF2.trans hF3
      have hpos := HT.out.pos
      have hmost := HT.out.most
      clear hA hb1 hr1 ha1 hF3 hF2 hpad hlen
      have hW0 : RdW w2 w2.drew q _ := ⟨(Fr.refl _ _).drew, hR3.fr0 (Fr.refl _ _).drew⟩
      have hA0 : RdA w2 (w2.alloc zeroT).drew q _ w2.heap.size := ⟨⟨((Fr.refl _ _).alloc _).drew, hR3.fr0 ((Fr.refl _ _).alloc _).drew⟩, Nat.le_refl _, heap_alloc_new w2 zeroT⟩
      obtain ⟨room, hroom⟩ : ∃ room : Nat, roomF s = (room : Int) ∧ room ≤ 524288 := ⟨(roomF s).toNat, by have := roomF_le s; omega, by have := roomF_le s; omega⟩
      have hrs : roomF s = (s - 1) / 2 * 64 := by unfold roomF; rw [if_neg (by omega)]
      have hu1 : ∀ wx, RdW w2 wx q (encF n ++ ((if sec then 1 else 0) :: (encF long ++ r))) → Calls Tryz.prog 71 #[ptr q, .int .u64 18446744073709551614] wx fun en w' => en = .returned (.int .u64 (n : Nat)) ∧ Fr (fun i => i = q) wx w' ∧ RdW w2 w' q ((if sec then 1 else 0) :: (encF long ++ r)) := fun wx h => by
        obtain ⟨e1, e2, e3⟩ := uint_enc n 18446744073709551614 hpos.2 (by decide) ((if sec then 1 else 0) :: (encF long ++ r))
        have := ruint_any h.rd 18446744073709551614 (by decide)
        rw [e1, e2, e3] at this
        exact this.mono (fun en w' ⟨h1, h2, h3⟩ => ⟨h1, h2, h.step h2 h3⟩)
      have hu2 : ∀ wx, RdW w2 wx q ((if sec then 1 else 0) :: (encF long ++ r)) → Calls Tryz.prog 104 #[ptr q] wx fun en w' => en = .returned (.bool sec) ∧ Fr (fun i => i = q) wx w' ∧ RdW w2 w' q (encF long ++ r) := fun wx h => by
        refine (rbool_ok h.rd (by cases sec <;> decide)).mono (fun en w' ⟨h1, h2, h3⟩ => ⟨?_, h2, h.step h2 h3⟩)
        rw [h1]; cases sec <;> rfl
      have hu3 : ∀ wx l, RdW w2 wx q l → Calls Tryz.prog 55 #[area f s] wx fun en w' => en = .returned (.int .i64 (room : Nat)) ∧ Fr (fun i => i = q) wx w' ∧ RdW w2 w' q l := fun wx l h => by
        refine (room_any f s wx).mono (fun en w' ⟨h1, h2⟩ => ⟨by rw [h1, hroom.1], Fr.of0 h2, h.step0 h2⟩)
      have hu4 : ∀ wx, RdW w2 wx q (encF long ++ r) → Calls Tryz.prog 71 #[ptr q, .int .u64 (IntKind.u64.wrap ((room : Nat) : Int))] wx fun en w' => en = .returned (.int .u64 (long : Nat)) ∧ Fr (fun i => i = q) wx w' ∧ RdW w2 w' q r := fun wx h => by
        obtain ⟨e1, e2, e3⟩ := uint_enc long room (by omega) (by omega) r
        have hw : IntKind.u64.wrap ((room : Nat) : Int) = (room : Int) := by show ((room : Int)) % 18446744073709551616 = _; omega
        have := ruint_any h.rd room (by omega)
        rw [e1, e2, e3] at this
        rw [hw]
        exact this.mono (fun en w' ⟨h1, h2, h3⟩ => ⟨h1, h2, h.step h2 h3⟩)
      have hst : ∀ wx l, RdW w2 wx q l → (wx.cell? ⟨w.heap.size, 0, none⟩ = some (.int .i64 f) ∧ wx.cell? ⟨w.heap.size, 1, none⟩ = some (.int .i64 s)) := fun wx l h => by
        have := h.fr.heap ha2 (by omega)
        exact ⟨by rw [cell_of_blk this]; rfl, by rw [cell_of_blk this]; rfl⟩
      have hend : ∀ wx l t (a b c : Value), RdA w2 wx q l t → Calls Tryz.prog 105 #[ptr q] (((wx.setCell ⟨t, 0, none⟩ a).setCell ⟨t, 1, none⟩ b).setCell ⟨t, 2, none⟩ c) fun en w' => en = .returned .nilIface ∧ (w'.cell? ⟨t, 0, none⟩ = some a ∧ w'.cell? ⟨t, 1, none⟩ = some b ∧ w'.cell? ⟨t, 2, none⟩ = some c) ∧ w'.heap[w.heap.size + 1]? = some zeroT ∧ Fr none_ w w' := fun wx l t a b c h => by
        have hF : Fr (fun i => i = t) wx (((wx.setCell ⟨t, 0, none⟩ a).setCell ⟨t, 1, none⟩ b).setCell ⟨t, 2, none⟩ c) := ((Fr.set wx t 0 a).trans (Fr.set _ t 1 b)).trans (Fr.set _ t 2 c)
        have ht := h.new
        obtain ⟨⟨A, cc, hbk, _⟩, _⟩ := h.toW.rd
        refine (rerr_blk (hF.heap hbk (by omega))).mono (fun en w' ⟨h1, h2⟩ => ?_)
        subst h2
        have hb3 := heap_setCell_same (heap_setCell_same (heap_setCell_same h.blk (o := 0) a) (o := 1) b) (o := 2) c
        have hFw : Fr none_ w wx := hF4.trans' h.toW.fr (fun k hk e => by omega)
        refine ⟨h1, ⟨by rw [cell_of_blk hb3]; rfl, by rw [cell_of_blk hb3]; rfl, by rw [cell_of_blk hb3]; rfl⟩, ?_, hFw.trans' hF (fun k hk e => by omega)⟩
        exact hF.heap (h.toW.fr.heap hr2 (by omega)) (by omega)
      have hend2 : ∀ wx l (a b c : Value), RdW w2 wx q l → Calls Tryz.prog 105 #[ptr q] (wx.alloc (.cells #[a, b, c] 117)) fun en w' => en = .returned .nilIface ∧ (w'.cell? ⟨wx.heap.size, 0, none⟩ = some a ∧ w'.cell? ⟨wx.heap.size, 1, none⟩ = some b ∧ w'.cell? ⟨wx.heap.size, 2, none⟩ = some c) ∧ w'.heap[w.heap.size + 1]? = some zeroT ∧ Fr none_ w w' := fun wx l a b c h => by
        have hF : Fr none_ wx (wx.alloc (.cells #[a, b, c] 117)) := (Fr.refl _ _).alloc _
        obtain ⟨⟨A, cc, hbk, _⟩, _⟩ := h.rd
        refine (rerr_blk (hF.heap0 hbk)).mono (fun en w' ⟨h1, h2⟩ => ?_)
        subst h2
        have hb3 := heap_alloc_new wx (.cells #[a, b, c] 117)
        have hFw : Fr none_ w wx := hF4.trans' h.fr (fun k hk e => by omega)
        exact ⟨h1, ⟨by rw [cell_of_blk hb3]; rfl, by rw [cell_of_blk hb3]; rfl, by rw [cell_of_blk hb3]; rfl⟩, hF.heap0 (h.fr.heap hr2 (by omega)), hFw.trans hF⟩
      have hst2 : ∀ wx l t (a b c : Value), RdA w2 wx q l t → ((((wx.setCell ⟨t, 0, none⟩ a).setCell ⟨t, 1, none⟩ b).setCell ⟨t, 2, none⟩ c).cell? ⟨w.heap.size, 0, none⟩ = some (.int .i64 f) ∧ (((wx.setCell ⟨t, 0, none⟩ a).setCell ⟨t, 1, none⟩ b).setCell ⟨t, 2, none⟩ c).cell? ⟨w.heap.size, 1, none⟩ = some (.int .i64 s)) := fun wx l t a b c h => by
        have hF : Fr (fun i => i = t) wx (((wx.setCell ⟨t, 0, none⟩ a).setCell ⟨t, 1, none⟩ b).setCell ⟨t, 2, none⟩ c) := ((Fr.set wx t 0 a).trans (Fr.set _ t 1 b)).trans (Fr.set _ t 2 c)
        have ht := h.new
        have := hF.heap (h.toW.fr.heap ha2 (by omega)) (by omega)
        exact ⟨by rw [cell_of_blk this]; rfl, by rw [cell_of_blk this]; rfl⟩
      have HST2 := Lib.hid hst2
      have HEND2 := Lib.hid hend2
      have HU1 := Lib.hid hu1
      have HU2 := Lib.hid hu2
      have HU3 := Lib.hid hu3
      have HU4 := Lib.hid hu4
      have HST := Lib.hid hst
      have HEND := Lib.hid hend
      have n5 : ¬ (n : Int) = 0 := by omega
      have hs0 := HST.out _ _ hW0
      clear hu1 hu2 hu3 hu4 hst hend hst2 hend2 hR3 hF4 hr2 ha2
      go_wp2_with fail
      go_region_held3 (fun w' => (w'.cell? ⟨w.heap.size, 0, none⟩ = some (.int .i64 f) ∧ w'.cell? ⟨w.heap.size, 1, none⟩ = some (.int .i64 s))) (first | exact hs0 | exact HST.out _ _ (by assumption) | exact HST.out _ _ (RdA.toW (by assumption)) | exact HST.out _ _ (RdW.withNew (by assumption)).toW | exact HST.out _ _ (RdW.step0 (by assumption) ((Fr.refl _ _).alloc _)) | exact HST2.out _ _ _ _ _ _ (by assumption)) (first
        | (go_at_call 71; first
            | ((with_reducible refine (HU1.out _ (RdA.toW (by assumption))).mono ?_); rintro e w3 ⟨rfl, hF5, hW5⟩; have hA5 := RdA.to (by assumption) hq2 hF5 hW5)
            | ((with_reducible refine (HU4.out _ (RdA.toW (by assumption))).mono ?_); rintro e w3 ⟨rfl, hF5, hW5⟩; have hA5 := RdA.to (by assumption) hq2 hF5 hW5; obtain ⟨k0, k1, k2, k3⟩ := hA5.cells)
            | ((with_reducible refine (HU1.out _ (RdW.withNew (by assumption)).toW).mono ?_); rintro e w3 ⟨rfl, hF5, hW5⟩; have hA5 := RdA.to (RdW.withNew (by assumption)) hq2 hF5 hW5)
            | ((with_reducible refine (HU4.out _ (RdW.withNew (by assumption)).toW).mono ?_); rintro e w3 ⟨rfl, hF5, hW5⟩; have hA5 := RdA.to (RdW.withNew (by assumption)) hq2 hF5 hW5; obtain ⟨k0, k1, k2, k3⟩ := hA5.cells)
            | ((with_reducible refine (HU1.out _ (by assumption)).mono ?_); rintro e w3 ⟨rfl, hF5, hW5⟩)
            | ((with_reducible refine (HU4.out _ (by assumption)).mono ?_); rintro e w3 ⟨rfl, hF5, hW5⟩))
        | (go_at_call 104; first
            | ((with_reducible refine (HU2.out _ (RdA.toW (by assumption))).mono ?_); rintro e w3 ⟨rfl, hF5, hW5⟩; have hA5 := RdA.to (by assumption) hq2 hF5 hW5)
            | ((with_reducible refine (HU2.out _ (RdW.withNew (by assumption)).toW).mono ?_); rintro e w3 ⟨rfl, hF5, hW5⟩; have hA5 := RdA.to (RdW.withNew (by assumption)) hq2 hF5 hW5)
            | ((with_reducible refine (HU2.out _ (by assumption)).mono ?_); rintro e w3 ⟨rfl, hF5, hW5⟩))
        | (go_at_call 55; first
            | ((with_reducible refine (HU3.out _ _ (RdA.toW (by assumption))).mono ?_); rintro e w3 ⟨rfl, hF5, hW5⟩; have hA5 := RdA.to (by assumption) hq2 hF5 hW5)
            | ((with_reducible refine (HU3.out _ _ (RdW.withNew (by assumption)).toW).mono ?_); rintro e w3 ⟨rfl, hF5, hW5⟩; have hA5 := RdA.to (RdW.withNew (by assumption)) hq2 hF5 hW5)
            | ((with_reducible refine (HU3.out _ _ (by assumption)).mono ?_); rintro e w3 ⟨rfl, hF5, hW5⟩)))
      all_goals
        go_wp2_with fail
        first
          | (with_reducible refine (HEND.out _ _ _ _ _ _ (by assumption)).mono ?_)
          | (with_reducible refine (HEND2.out _ _ _ _ _ (by assumption)).mono ?_)
        rintro e w9 ⟨rfl, ⟨j0, j1, j2⟩, hr9, hF9⟩
        try rw [IntWalk.i64_in (long : Int) (by omega)] at j2
        have r0 : w9.cell? ⟨w.heap.size + 1, 0, none⟩ = some (.int .u64 0) := by rw [cell_of_blk hr9]; rfl
        have r1 : w9.cell? ⟨w.heap.size + 1, 1, none⟩ = some (.bool false) := by rw [cell_of_blk hr9]; rfl
        have r2 : w9.cell? ⟨w.heap.size + 1, 2, none⟩ = some (.int .i64 0) := by rw [cell_of_blk hr9]; rfl
        have r3 := fun o => frozen_of_blk hr9 o
        go_wp2_with fail
        have hend := heap_setCell_same (heap_setCell_same (heap_setCell_same hr9 (o := 0) (.int .u64 (n : Nat))) (o := 1) (.bool sec)) (o := 2) (.int .i64 (long : Nat))
        refine bodyPost_ret (res_teller (b := w.heap.size + 1) hend rfl rfl rfl rfl rfl) rfl ⟨rfl, ?_⟩
        exact ((hF9.setCell (fun h => absurd h (by simp)) _).setCell (fun h => absurd h (by simp)) _).setCell (fun h => absurd h (by simp)) _
end Go.Proofs.YtffolfemcllfkaaGreatDoor
namespace Go.Proofs.YtffolfemcllfkaaGreatDoor
open Go.RowKit
set_option linter.unusedVariables false
set_option linter.unusedSimpArgs false

/-! toggle.Area.read at any bytes -/
structure RdWE (w2 wx : World) (q : Nat) (l : List UInt8) (e : Int) : Prop where
  fr : Fr (fun i => i = q) w2 wx
  rd : ReaderAt wx q l e
structure RdAE (w2 wx : World) (q : Nat) (l : List UInt8) (e : Int) (t : Nat) : Prop where
  toW : RdWE w2 wx q l e
  new : w2.heap.size ≤ t
  blk : wx.heap[t]? = some zeroT
theorem RdWE.step {w2 wx w' : World} {q : Nat} {l l' : List UInt8} {e e' : Int} (h : RdWE w2 wx q l e) (hF : Fr (fun i => i = q) wx w') (hR : ReaderAt w' q l' e') : RdWE w2 w' q l' e' := ⟨h.fr.trans hF, hR⟩
theorem RdWE.step0 {w2 wx w' : World} {q : Nat} {l : List UInt8} {e : Int} (h : RdWE w2 wx q l e) (hF : Fr none_ wx w') : RdWE w2 w' q l e := ⟨h.fr.trans0 hF, h.rd.fr0 hF⟩
theorem RdWE.withNew {w2 wx : World} {q : Nat} {l : List UInt8} {e : Int} (h : RdWE w2 wx q l e) : RdAE w2 (wx.alloc zeroT) q l e wx.heap.size :=
  ⟨h.step0 ((Fr.refl _ _).alloc _), h.fr.size, heap_alloc_new _ _⟩
theorem RdAE.to {w2 wx w' : World} {q t : Nat} {l l' : List UInt8} {e e' : Int} (h : RdAE w2 wx q l e t) (hq : q < w2.heap.size) (hF : Fr (fun i => i = q) wx w') (hW : RdWE w2 w' q l' e') : RdAE w2 w' q l' e' t :=
  ⟨hW, h.new, hF.heap h.blk (by have := h.new; omega)⟩
theorem RdAE.cells {w2 wx : World} {q t : Nat} {l : List UInt8} {e : Int} (h : RdAE w2 wx q l e t) : wx.cell? ⟨t, 0, none⟩ = some (.int .u64 0) ∧ wx.cell? ⟨t, 1, none⟩ = some (.bool false) ∧ wx.cell? ⟨t, 2, none⟩ = some (.int .i64 0) ∧ ∀ o, wx.frozen? ⟨t, o, none⟩ = false :=
  ⟨by rw [cell_of_blk h.blk]; rfl, by rw [cell_of_blk h.blk]; rfl, by rw [cell_of_blk h.blk]; rfl, fun o => frozen_of_blk h.blk o⟩
def TRd (w : World) (t : TellR) (e : Ending) (w' : World) : Prop := e = .returned (.tuple #[tellerV t.n t.sec t.long, errV t.err]) ∧ Fr none_ w w'
set_option maxHeartbeats 4000000 in
set_option maxRecDepth 100000 in
theorem tread_bytes {w : World} {p m1 m2 : Nat} {D : DevS} (h : DevAt w p m1 m2 D) (f s : Int) (hd : D.down = false) (hf : 0 ≤ f) (hs : 3 ≤ s ∧ s ≤ 16384) (hfs : f + s ≤ D.sectors) (hz0 : allZ (D.get f) 64 = false) :
    Calls Tryz.prog 53 #[area f s, ptr p] w fun e w' => TRd w (tellF (D.get f) (roomF s).toNat) e w' := by
  have hm := h.most
  have hE := atE_up hd (s := f) hf (by omega)
  have hlen := h.get_len f
  have h2 := (h.fr0 ((Fr.refl none_ w).alloc (.cells #[.int .i64 f, .int .i64 s] 36))).fr0 ((Fr.refl _ _).alloc (.cells #[.int .u64 0, .bool false, .int .i64 0] 117))
  have n1 : ¬ f < 0 := by omega
  have n2 : ¬ s < 3 := by omega
  have n3 : ¬ D.sectors ≤ f := by omega
  have n4 : ¬ wrap64 (D.sectors - f) < s := by rw [IntWalk.wrap64_in _ (by omega)]; omega
  obtain ⟨b, hbb⟩ : ∃ b, b = D.get f := ⟨_, rfl⟩
  rw [← hbb] at hz0 hlen ⊢
  have hb := hz0
  clear hz0
  have HBB := Lib.hid hbb
  clear hbb
  go_enter Tryz.func53, Tryz.ntmps53
  go_wp2_with fail
  (with_reducible refine (sectors_any h2).mono ?_)
  rintro e w1 ⟨rfl, rfl⟩
  go_wp2_with fail
  (with_reducible refine (read_ok h2 f hE).mono ?_)
  rintro e w1 ⟨g, rfl, hg, hF1, hb1⟩
  rw [errV_0, ← HBB.out] at *
  have hcs : ∀ k (hk : k < 64), w1.cell? ⟨g, k, none⟩ = some (byteV (b[k]'(by omega))) := fun k hk => by rw [cell_of_blk hb1]; simp [hlen, hk]
  have HCS := Lib.hid hcs
  have hr1 := hF1.heap0 (heap_alloc_at (w := w.alloc (.cells #[.int .i64 f, .int .i64 s] 36)) (b := w.heap.size + 1) (by simp) (.cells #[.int .u64 0, .bool false, .int .i64 0] 117))
  have ha1 := hF1.heap0 (heap_alloc_old (heap_alloc_new w (.cells #[.int .i64 f, .int .i64 s] 36)) (.cells #[.int .u64 0, .bool false, .int .i64 0] 117))
  have r0 : w1.cell? ⟨w.heap.size + 1, 0, none⟩ = some (.int .u64 0) := by rw [cell_of_blk hr1]; rfl
  have r1 : w1.cell? ⟨w.heap.size + 1, 1, none⟩ = some (.bool false) := by rw [cell_of_blk hr1]; rfl
  have r2 : w1.cell? ⟨w.heap.size + 1, 2, none⟩ = some (.int .i64 0) := by rw [cell_of_blk hr1]; rfl
  have r3 := fun o => frozen_of_blk hr1 o
  have hF2 : Fr none_ w w1 := (((Fr.refl none_ w).alloc _).alloc _).trans hF1
  clear hcs hF1 h2
  go_wp2_with fail
  go_loopw [9, 54] (fun v i wr => ∃ k : Nat, k ≤ 64 ∧ i = .int .i64 k ∧ v = .bool (allZ b k) ∧ wr = w1) (fun _ i _ => 64 - (intOf i).toNat)
  case atStart => exact ⟨0, by omega, rfl, rfl, rfl⟩
  case round =>
    obtain ⟨k, hk, rfl, rfl, rfl⟩ := hrel
    by_cases hlt : k < 64
    · have hcj := HCS.out k hlt
      unfold byteV at hcj
      have hz := allZ_succ b k (by omega)
      obtain ⟨x, hx⟩ : ∃ x, x = (b[k]'(by omega)).toNat := ⟨_, rfl⟩
      have hzx : ((b[k]'(by omega)) == 0) = decide (x = 0) := by
        rw [hx]
        by_cases h0 : (b[k]'(by omega)) = 0
        · rw [h0]; rfl
        · have : ¬ (b[k]'(by omega)).toNat = 0 := fun h => h0 (UInt8.toNat_inj.1 h)
          simp [h0, this]
      rw [← hx] at hcj
      rw [hzx] at hz
      have HZ := Lib.hid hz
      clear hz hzx hx
      obtain ⟨z, hz⟩ : ∃ z, z = allZ b k := ⟨_, rfl⟩
      rw [← hz]
      have HZ2 := Lib.hid hz
      clear hz
      by_cases hx0 : x = 0
      all_goals
        cases z
        all_goals
          go_wp2_with fail
          go_roundw
          case rel => exact ⟨k + 1, by omega, by go_num, by rw [HZ.out, ← HZ2.out]; simp [hx0], trivial⟩
          case measure => simp [intOf]; omega
    · have hk4 : k = 64 := by omega
      subst hk4
      have hb0 := hb
      rw [hb]
      clear hb HCS r0 r1 r2 r3
      go_wp2_with fail
      have hA : CellsAt wr (some ⟨g, 0, none⟩) (b.map byteV) := CellsAt.whole hb1
      (with_reducible refine (rread_any wr (some ⟨g, 0, none⟩) 64 64 b (by omega) hA (fun h => by cases h) (by omega) (by omega)).mono ?_)
      rintro e w2 ⟨rfl, hF3, hR3⟩
      have hq1 := blk_lt hr1
      have hq2 : wr.heap.size < w2.heap.size := by obtain ⟨⟨A, c, hbk, _⟩, _⟩ := hR3; exact blk_lt hbk
      obtain ⟨q, hq⟩ : ∃ q, q = wr.heap.size := ⟨_, rfl⟩
      rw [← hq] at hq1 hq2 hR3 ⊢
      clear hq
      have ha2 := hF3.heap0 ha1
      have hr2 := hF3.heap0 hr1
      have hF4 := hF2.trans hF3
      clear hA hb1 hr1 ha1 hF3 hF2 hlen
      have hW0 : RdWE w2 w2.drew q b 0 := ⟨(Fr.refl _ _).drew, hR3.fr0 (Fr.refl _ _).drew⟩
      have hA0 : RdAE w2 (w2.alloc zeroT).drew q b 0 w2.heap.size := ⟨⟨((Fr.refl _ _).alloc _).drew, hR3.fr0 ((Fr.refl _ _).alloc _).drew⟩, Nat.le_refl _, heap_alloc_new w2 zeroT⟩
      obtain ⟨room, hroom⟩ : ∃ room : Nat, roomF s = (room : Int) ∧ room ≤ 524288 := ⟨(roomF s).toNat, by have := roomF_le s; omega, by have := roomF_le s; omega⟩
      have hrs : roomF s = (s - 1) / 2 * 64 := by unfold roomF; rw [if_neg (by omega)]
      have hT : tellF b (roomF s).toNat = if tE3 b room ≠ 0 ∨ tN b = 0 then ⟨0, false, 0, 3⟩ else ⟨tN b, boolV (tL1 b) (tE1 b), tLong b room, 0⟩ := by
        unfold tellF
        have : allZb b 64 = false := hb0
        rw [this, if_neg (by decide), show (roomF s).toNat = room by rw [hroom.1]; rfl]
      have HT := Lib.hid hT
      have htl := uintN_le' (tL2 b) (tE2 b) room
      replace htl : tLong b room ≤ room := htl
      have htn := uintN_le' b 0 18446744073709551614
      replace htn : tN b ≤ 18446744073709551614 := htn
      clear hT hb0
      have hu1 : ∀ wx, RdWE w2 wx q b 0 → Calls Tryz.prog 71 #[ptr q, .int .u64 18446744073709551614] wx fun en w' => en = .returned (.int .u64 (tN b : Nat)) ∧ Fr (fun i => i = q) wx w' ∧ RdWE w2 w' q (tL1 b) (tE1 b) := fun wx h => by
        exact (ruint_any h.rd 18446744073709551614 (by decide)).mono (fun en w' ⟨h1, h2, h3⟩ => ⟨h1, h2, h.step h2 h3⟩)
      have hu2 : ∀ wx, RdWE w2 wx q (tL1 b) (tE1 b) → Calls Tryz.prog 104 #[ptr q] wx fun en w' => en = .returned (.bool (boolV (tL1 b) (tE1 b))) ∧ Fr (fun i => i = q) wx w' ∧ RdWE w2 w' q (tL2 b) (tE2 b) := fun wx h => by
        exact (rbool_any h.rd).mono (fun en w' ⟨h1, h2, h3⟩ => ⟨h1, h2, h.step h2 h3⟩)
      have hu3 : ∀ wx l e, RdWE w2 wx q l e → Calls Tryz.prog 55 #[area f s] wx fun en w' => en = .returned (.int .i64 (room : Nat)) ∧ Fr (fun i => i = q) wx w' ∧ RdWE w2 w' q l e := fun wx l e h => by
        refine (room_any f s wx).mono (fun en w' ⟨h1, h2⟩ => ⟨by rw [h1, hroom.1], Fr.of0 h2, h.step0 h2⟩)
      have hu4 : ∀ wx, RdWE w2 wx q (tL2 b) (tE2 b) → Calls Tryz.prog 71 #[ptr q, .int .u64 (IntKind.u64.wrap ((room : Nat) : Int))] wx fun en w' => en = .returned (.int .u64 (tLong b room : Nat)) ∧ Fr (fun i => i = q) wx w' ∧ RdWE w2 w' q (uintL (tL2 b) (tE2 b) room) (tE3 b room) := fun wx h => by
        have hw : IntKind.u64.wrap ((room : Nat) : Int) = (room : Int) := by show ((room : Int)) % 18446744073709551616 = _; omega
        have := ruint_any h.rd room (by omega)
        rw [hw]
        exact this.mono (fun en w' ⟨h1, h2, h3⟩ => ⟨h1, h2, h.step h2 h3⟩)
      have hst : ∀ wx l e, RdWE w2 wx q l e → (wx.cell? ⟨w.heap.size, 0, none⟩ = some (.int .i64 f) ∧ wx.cell? ⟨w.heap.size, 1, none⟩ = some (.int .i64 s)) := fun wx l e h => by
        have := h.fr.heap ha2 (by omega)
        exact ⟨by rw [cell_of_blk this]; rfl, by rw [cell_of_blk this]; rfl⟩
      have hend : ∀ wx l e t (a b c : Value), RdAE w2 wx q l e t → Calls Tryz.prog 105 #[ptr q] (((wx.setCell ⟨t, 0, none⟩ a).setCell ⟨t, 1, none⟩ b).setCell ⟨t, 2, none⟩ c) fun en w' => en = .returned (errV e) ∧ (w'.cell? ⟨t, 0, none⟩ = some a ∧ w'.cell? ⟨t, 1, none⟩ = some b ∧ w'.cell? ⟨t, 2, none⟩ = some c) ∧ w'.heap[w.heap.size + 1]? = some zeroT ∧ Fr none_ w w' := fun wx l e t a b c h => by
        have hF : Fr (fun i => i = t) wx (((wx.setCell ⟨t, 0, none⟩ a).setCell ⟨t, 1, none⟩ b).setCell ⟨t, 2, none⟩ c) := ((Fr.set wx t 0 a).trans (Fr.set _ t 1 b)).trans (Fr.set _ t 2 c)
        have ht := h.new
        obtain ⟨⟨A, cc, hbk, _⟩, _⟩ := h.toW.rd
        refine (rerr_blk (hF.heap hbk (by omega))).mono (fun en w' ⟨h1, h2⟩ => ?_)
        subst h2
        have hb3 := heap_setCell_same (heap_setCell_same (heap_setCell_same h.blk (o := 0) a) (o := 1) b) (o := 2) c
        have hFw : Fr none_ w wx := hF4.trans' h.toW.fr (fun k hk e => by omega)
        refine ⟨h1, ⟨by rw [cell_of_blk hb3]; rfl, by rw [cell_of_blk hb3]; rfl, by rw [cell_of_blk hb3]; rfl⟩, ?_, hFw.trans' hF (fun k hk e => by omega)⟩
        exact hF.heap (h.toW.fr.heap hr2 (by omega)) (by omega)
      have hend2 : ∀ wx l e (a b c : Value), RdWE w2 wx q l e → Calls Tryz.prog 105 #[ptr q] (wx.alloc (.cells #[a, b, c] 117)) fun en w' => en = .returned (errV e) ∧ (w'.cell? ⟨wx.heap.size, 0, none⟩ = some a ∧ w'.cell? ⟨wx.heap.size, 1, none⟩ = some b ∧ w'.cell? ⟨wx.heap.size, 2, none⟩ = some c) ∧ w'.heap[w.heap.size + 1]? = some zeroT ∧ Fr none_ w w' := fun wx l e a b c h => by
        have hF : Fr none_ wx (wx.alloc (.cells #[a, b, c] 117)) := (Fr.refl _ _).alloc _
        obtain ⟨⟨A, cc, hbk, _⟩, _⟩ := h.rd
        refine (rerr_blk (hF.heap0 hbk)).mono (fun en w' ⟨h1, h2⟩ => ?_)
        subst h2
        have hb3 := heap_alloc_new wx (.cells #[a, b, c] 117)
        have hFw : Fr none_ w wx := hF4.trans' h.fr (fun k hk e => by omega)
        exact ⟨h1, ⟨by rw [cell_of_blk hb3]; rfl, by rw [cell_of_blk hb3]; rfl, by rw [cell_of_blk hb3]; rfl⟩, hF.heap0 (h.fr.heap hr2 (by omega)), hFw.trans hF⟩
      have hst2 : ∀ wx l e t (a b c : Value), RdAE w2 wx q l e t → ((((wx.setCell ⟨t, 0, none⟩ a).setCell ⟨t, 1, none⟩ b).setCell ⟨t, 2, none⟩ c).cell? ⟨w.heap.size, 0, none⟩ = some (.int .i64 f) ∧ (((wx.setCell ⟨t, 0, none⟩ a).setCell ⟨t, 1, none⟩ b).setCell ⟨t, 2, none⟩ c).cell? ⟨w.heap.size, 1, none⟩ = some (.int .i64 s)) := fun wx l e t a b c h => by
        have hF : Fr (fun i => i = t) wx (((wx.setCell ⟨t, 0, none⟩ a).setCell ⟨t, 1, none⟩ b).setCell ⟨t, 2, none⟩ c) := ((Fr.set wx t 0 a).trans (Fr.set _ t 1 b)).trans (Fr.set _ t 2 c)
        have ht := h.new
        have := hF.heap (h.toW.fr.heap ha2 (by omega)) (by omega)
        exact ⟨by rw [cell_of_blk this]; rfl, by rw [cell_of_blk this]; rfl⟩
      have HST2 := Lib.hid hst2
      have HEND2 := Lib.hid hend2
      have HU1 := Lib.hid hu1
      have HU2 := Lib.hid hu2
      have HU3 := Lib.hid hu3
      have HU4 := Lib.hid hu4
      have HST := Lib.hid hst
      have HEND := Lib.hid hend
      have hs0 := HST.out _ _ _ hW0
      clear hu1 hu2 hu3 hu4 hst hend hst2 hend2 hR3 hF4 hr2 ha2
      go_wp2_with fail
      go_region_held3 (fun w' => (w'.cell? ⟨w.heap.size, 0, none⟩ = some (.int .i64 f) ∧ w'.cell? ⟨w.heap.size, 1, none⟩ = some (.int .i64 s))) (first | exact hs0 | exact HST.out _ _ _ (by assumption) | exact HST.out _ _ _ (RdAE.toW (by assumption)) | exact HST.out _ _ _ (RdWE.withNew (by assumption)).toW | exact HST.out _ _ _ (RdWE.step0 (by assumption) ((Fr.refl _ _).alloc _)) | exact HST2.out _ _ _ _ _ _ _ (by assumption)) (first
        | (go_at_call 71; first
            | ((with_reducible refine (HU1.out _ (RdAE.toW (by assumption))).mono ?_); rintro e w3 ⟨rfl, hF5, hW5⟩; have hA5 := RdAE.to (by assumption) hq2 hF5 hW5)
            | ((with_reducible refine (HU4.out _ (RdAE.toW (by assumption))).mono ?_); rintro e w3 ⟨rfl, hF5, hW5⟩; have hA5 := RdAE.to (by assumption) hq2 hF5 hW5; obtain ⟨k0, k1, k2, k3⟩ := hA5.cells)
            | ((with_reducible refine (HU1.out _ (RdWE.withNew (by assumption)).toW).mono ?_); rintro e w3 ⟨rfl, hF5, hW5⟩; have hA5 := RdAE.to (RdWE.withNew (by assumption)) hq2 hF5 hW5)
            | ((with_reducible refine (HU4.out _ (RdWE.withNew (by assumption)).toW).mono ?_); rintro e w3 ⟨rfl, hF5, hW5⟩; have hA5 := RdAE.to (RdWE.withNew (by assumption)) hq2 hF5 hW5; obtain ⟨k0, k1, k2, k3⟩ := hA5.cells)
            | ((with_reducible refine (HU1.out _ (by assumption)).mono ?_); rintro e w3 ⟨rfl, hF5, hW5⟩)
            | ((with_reducible refine (HU4.out _ (by assumption)).mono ?_); rintro e w3 ⟨rfl, hF5, hW5⟩))
        | (go_at_call 104; first
            | ((with_reducible refine (HU2.out _ (RdAE.toW (by assumption))).mono ?_); rintro e w3 ⟨rfl, hF5, hW5⟩; have hA5 := RdAE.to (by assumption) hq2 hF5 hW5)
            | ((with_reducible refine (HU2.out _ (RdWE.withNew (by assumption)).toW).mono ?_); rintro e w3 ⟨rfl, hF5, hW5⟩; have hA5 := RdAE.to (RdWE.withNew (by assumption)) hq2 hF5 hW5)
            | ((with_reducible refine (HU2.out _ (by assumption)).mono ?_); rintro e w3 ⟨rfl, hF5, hW5⟩))
        | (go_at_call 55; first
            | ((with_reducible refine (HU3.out _ _ _ (RdAE.toW (by assumption))).mono ?_); rintro e w3 ⟨rfl, hF5, hW5⟩; have hA5 := RdAE.to (by assumption) hq2 hF5 hW5)
            | ((with_reducible refine (HU3.out _ _ _ (RdWE.withNew (by assumption)).toW).mono ?_); rintro e w3 ⟨rfl, hF5, hW5⟩; have hA5 := RdAE.to (RdWE.withNew (by assumption)) hq2 hF5 hW5)
            | ((with_reducible refine (HU3.out _ _ _ (by assumption)).mono ?_); rintro e w3 ⟨rfl, hF5, hW5⟩)))
      all_goals
        go_wp2_with fail
        first
          | (with_reducible refine (HEND.out _ _ _ _ _ _ _ (by assumption)).mono ?_)
          | (with_reducible refine (HEND2.out _ _ _ _ _ _ (by assumption)).mono ?_)
        rintro e w9 ⟨rfl, ⟨j0, j1, j2⟩, hr9, hF9⟩
        try rw [IntWalk.i64_in (tLong b room : Int) (by omega)] at j2
        have r0 : w9.cell? ⟨w.heap.size + 1, 0, none⟩ = some (.int .u64 0) := by rw [cell_of_blk hr9]; rfl
        have r1 : w9.cell? ⟨w.heap.size + 1, 1, none⟩ = some (.bool false) := by rw [cell_of_blk hr9]; rfl
        have r2 : w9.cell? ⟨w.heap.size + 1, 2, none⟩ = some (.int .i64 0) := by rw [cell_of_blk hr9]; rfl
        have r3 := fun o => frozen_of_blk hr9 o
        by_cases h3 : tE3 b room = 0
        · rw [h3, errV_0]
          by_cases hn : tN b = 0
          · have hn2 : ((tN b : Nat) : Int) = 0 := by omega
            rw [hn2] at j0
            go_wp2_with fail
            have hend := heap_setCell_same (heap_setCell_same (heap_setCell_same hr9 (o := 0) (.int .u64 0)) (o := 1) (.bool false)) (o := 2) (.int .i64 0)
            refine bodyPost_ret (res_teller (b := w.heap.size + 1) hend rfl rfl rfl rfl rfl) rfl ?_
            rw [HT.out, if_pos (.inr hn)]
            exact ⟨by rw [errV_n (by decide)]; rfl, ((hF9.setCell (fun h => absurd h (by simp)) _).setCell (fun h => absurd h (by simp)) _).setCell (fun h => absurd h (by simp)) _⟩
          · have hn2 : ¬ ((tN b : Nat) : Int) = 0 := by omega
            go_wp2_with fail
            have hend := heap_setCell_same (heap_setCell_same (heap_setCell_same hr9 (o := 0) (.int .u64 (tN b : Nat))) (o := 1) (.bool (boolV (tL1 b) (tE1 b)))) (o := 2) (.int .i64 (tLong b room : Nat))
            refine bodyPost_ret (res_teller (b := w.heap.size + 1) hend rfl rfl rfl rfl rfl) rfl ?_
            rw [HT.out, if_neg (fun h => h.elim (fun h => h h3) hn)]
            exact ⟨rfl, ((hF9.setCell (fun h => absurd h (by simp)) _).setCell (fun h => absurd h (by simp)) _).setCell (fun h => absurd h (by simp)) _⟩
        · rw [errV_n h3]
          go_wp2_with fail
          have hend := heap_setCell_same (heap_setCell_same (heap_setCell_same hr9 (o := 0) (.int .u64 0)) (o := 1) (.bool false)) (o := 2) (.int .i64 0)
          refine bodyPost_ret (res_teller (b := w.heap.size + 1) hend rfl rfl rfl rfl rfl) rfl ?_
          rw [HT.out, if_pos (.inl h3)]
          exact ⟨by rw [errV_n (by decide)]; rfl, ((hF9.setCell (fun h => absurd h (by simp)) _).setCell (fun h => absurd h (by simp)) _).setCell (fun h => absurd h (by simp)) _⟩
end Go.Proofs.YtffolfemcllfkaaGreatDoor
namespace Go.Proofs.YtffolfemcllfkaaGreatDoor
open Go.RowKit
set_option linter.unusedVariables false
set_option linter.unusedSimpArgs false
set_option maxRecDepth 100000

/-! toggle.Area.read: any case -/
def lookD (D : DevS) (f s : Int) : TellR :=
  if f < 0 ∨ s < 3 ∨ D.sectors ≤ f ∨ D.sectors - f < s then ⟨0, false, 0, 1⟩
  else if D.atE f ≠ 0 then ⟨0, false, 0, D.atE f⟩
  else tellF (D.get f) (roomF s).toNat
theorem teller_2nd (w : World) (f s : Int) : ((w.alloc (.cells #[.int .i64 f, .int .i64 s] 36)).alloc (.cells #[.int .u64 0, .bool false, .int .i64 0] 117)).heap[w.heap.size + 1]? = some (.cells #[.int .u64 0, .bool false, .int .i64 0] 117 (0, 0)) := heap_2nd _ _ _ _
theorem teller_fr (w : World) (f s : Int) : Fr none_ w ((w.alloc (.cells #[.int .i64 f, .int .i64 s] 36)).alloc (.cells #[.int .u64 0, .bool false, .int .i64 0] 117)) :=
  ((Fr.refl none_ w).alloc _).alloc _
set_option maxHeartbeats 2000000 in
theorem tread_arg {w : World} {p m1 m2 : Nat} {D : DevS} (h : DevAt w p m1 m2 D) (f s : Int) (hb : f < 0 ∨ s < 3 ∨ D.sectors ≤ f ∨ D.sectors - f < s) :
    Calls Tryz.prog 53 #[area f s, ptr p] w fun e w' => TRd w ⟨0, false, 0, 1⟩ e w' := by
  have hm := h.most
  have h2 := (h.fr0 ((Fr.refl none_ w).alloc (.cells #[.int .i64 f, .int .i64 s] 36))).fr0 ((Fr.refl _ _).alloc (.cells #[.int .u64 0, .bool false, .int .i64 0] 117))
  have hend := teller_2nd w f s
  have hFr := teller_fr w f s
  have HE := Lib.hid (And.intro hend hFr)
  clear hend hFr
  by_cases g1 : f < 0
  · go_enter Tryz.func53, Tryz.ntmps53
    go_wp2_with fail
    (with_reducible refine (sectors_any h2).mono ?_)
    rintro e w1 ⟨rfl, rfl⟩
    go_wp2_with fail
    refine bodyPost_ret (res_teller (b := w.heap.size + 1) HE.out.1 rfl rfl rfl rfl rfl) rfl ?_
    exact ⟨by rw [errV_n (by decide)]; rfl, HE.out.2⟩
  · by_cases g2 : s < 3
    · go_enter Tryz.func53, Tryz.ntmps53
      go_wp2_with fail
      (with_reducible refine (sectors_any h2).mono ?_)
      rintro e w1 ⟨rfl, rfl⟩
      go_wp2_with fail
      refine bodyPost_ret (res_teller (b := w.heap.size + 1) HE.out.1 rfl rfl rfl rfl rfl) rfl ?_
      exact ⟨by rw [errV_n (by decide)]; rfl, HE.out.2⟩
    · by_cases g3 : D.sectors ≤ f
      · go_enter Tryz.func53, Tryz.ntmps53
        go_wp2_with fail
        (with_reducible refine (sectors_any h2).mono ?_)
        rintro e w1 ⟨rfl, rfl⟩
        go_wp2_with fail
        refine bodyPost_ret (res_teller (b := w.heap.size + 1) HE.out.1 rfl rfl rfl rfl rfl) rfl ?_
        exact ⟨by rw [errV_n (by decide)]; rfl, HE.out.2⟩
      · have g4 : D.sectors - f < s := by omega
        have g5 : wrap64 (D.sectors - f) < s := by rw [IntWalk.wrap64_in _ (by omega)]; exact g4
        clear hb
        go_enter Tryz.func53, Tryz.ntmps53
        go_wp2_with fail
        (with_reducible refine (sectors_any h2).mono ?_)
        rintro e w1 ⟨rfl, rfl⟩
        go_wp2_with fail
        refine bodyPost_ret (res_teller (b := w.heap.size + 1) HE.out.1 rfl rfl rfl rfl rfl) rfl ?_
        exact ⟨by rw [errV_n (by decide)]; rfl, HE.out.2⟩
set_option maxHeartbeats 2000000 in
theorem tread_err {w : World} {p m1 m2 : Nat} {D : DevS} (h : DevAt w p m1 m2 D) (f s : Int) (hf : 0 ≤ f) (hs : 3 ≤ s) (hfs : f + s ≤ D.sectors) (hE : D.atE f ≠ 0) :
    Calls Tryz.prog 53 #[area f s, ptr p] w fun e w' => TRd w ⟨0, false, 0, D.atE f⟩ e w' := by
  have hm := h.most
  have h2 := (h.fr0 ((Fr.refl none_ w).alloc (.cells #[.int .i64 f, .int .i64 s] 36))).fr0 ((Fr.refl _ _).alloc (.cells #[.int .u64 0, .bool false, .int .i64 0] 117))
  have hend := teller_2nd w f s
  have hFr := teller_fr w f s
  have HE := Lib.hid (And.intro hend hFr)
  clear hend hFr
  have n1 : ¬ f < 0 := by omega
  have n2 : ¬ s < 3 := by omega
  have n3 : ¬ D.sectors ≤ f := by omega
  have n4 : ¬ wrap64 (D.sectors - f) < s := by rw [IntWalk.wrap64_in _ (by omega)]; omega
  go_enter Tryz.func53, Tryz.ntmps53
  go_wp2_with fail
  (with_reducible refine (sectors_any h2).mono ?_)
  rintro e w1 ⟨rfl, rfl⟩
  go_wp2_with fail
  (with_reducible refine (read_err h2 f hE).mono ?_)
  rintro e w1 ⟨rfl, rfl⟩
  rw [errV_n hE]
  go_wp2_with fail
  refine bodyPost_ret (res_teller (b := w.heap.size + 1) HE.out.1 rfl rfl rfl rfl rfl) rfl ?_
  exact ⟨by rw [errV_n hE]; rfl, HE.out.2⟩
theorem tread_any {w : World} {p m1 m2 : Nat} {D : DevS} (h : DevAt w p m1 m2 D) (f s : Int) :
    Calls Tryz.prog 53 #[area f s, ptr p] w fun e w' => TRd w (lookD D f s) e w' := by
  have hm := h.most
  by_cases hb : f < 0 ∨ s < 3 ∨ D.sectors ≤ f ∨ D.sectors - f < s
  · have hL : lookD D f s = ⟨0, false, 0, 1⟩ := by unfold lookD; rw [if_pos hb]
    rw [hL]
    exact tread_arg h f s hb
  · by_cases hE : D.atE f ≠ 0
    · have hL : lookD D f s = ⟨0, false, 0, D.atE f⟩ := by unfold lookD; rw [if_neg hb, if_pos hE]
      rw [hL]
      exact tread_err h f s (by omega) (by omega) (by omega) hE
    · have hL : lookD D f s = tellF (D.get f) (roomF s).toNat := by unfold lookD; rw [if_neg hb, if_neg hE]
      have hd : D.down = false := by
        unfold DevS.atE at hE
        cases hx : D.down
        · rfl
        · rw [hx, if_pos rfl] at hE; exact absurd (by decide) hE
      rw [hL]
      by_cases hz : allZ (D.get f) 64 = true
      · have hT : tellF (D.get f) (roomF s).toNat = ⟨0, false, 0, 8⟩ := by unfold tellF; rw [show allZb (D.get f) 64 = true from hz, if_pos rfl]
        rw [hT]
        exact tread_none h f s hd (by omega) ⟨by omega, by omega⟩ (by omega) hz
      · exact tread_bytes h f s hd (by omega) ⟨by omega, by omega⟩ (by omega) (by simpa using hz)
end Go.Proofs.YtffolfemcllfkaaGreatDoor

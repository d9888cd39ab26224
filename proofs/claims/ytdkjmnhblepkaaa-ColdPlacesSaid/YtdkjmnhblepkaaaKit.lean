import Derived.WalkKit
import Derived.KernelRfl
import Derived.Lib.Hide
import Derived.Laws.AppendOwnNone
import Derived.Deep.MidRow
import Derived.StillTailTactics
import Derived.Laws.CopyOwn
import Derived.Deep.WholeRow
namespace Go.Proofs.Ytdkjmnhblepkaaa
open Go.RowKit
set_option linter.unusedVariables false
set_option linter.unusedSimpArgs false

/-! Plain words on worlds: what a call may have written (`Fr`), and rows of cells (`CellsAt`). -/

/-- `Fr S w w'`: but for the blocks of S, what stood in w stands in w'. -/
structure Fr (S : Nat → Prop) (w w' : World) : Prop where
  os : w'.os = w.os
  tape : w'.tape = w.tape
  output : w'.output = w.output
  size : w.heap.size ≤ w'.heap.size
  block : ∀ k, k < w.heap.size → ¬ S k → w'.heap[k]? = w.heap[k]?

abbrev none_ : Nat → Prop := fun _ => False

theorem Fr.refl (S : Nat → Prop) (w : World) : Fr S w w := ⟨rfl, rfl, rfl, Nat.le_refl _, fun _ _ _ => rfl⟩
theorem Fr.trans' {S S2 : Nat → Prop} {a b c : World} (h : Fr S a b) (k : Fr S2 b c) (hs : ∀ k, k < a.heap.size → S2 k → S k) : Fr S a c :=
  ⟨k.os.trans h.os, k.tape.trans h.tape, k.output.trans h.output, Nat.le_trans h.size k.size, fun i hi hn => (k.block i (Nat.lt_of_lt_of_le hi h.size) (fun h2 => hn (hs i hi h2))).trans (h.block i hi hn)⟩
theorem Fr.trans {S : Nat → Prop} {a b c : World} (h : Fr S a b) (k : Fr S b c) : Fr S a c := h.trans' k (fun _ _ h => h)
theorem Fr.mono {S S2 : Nat → Prop} {a b : World} (h : Fr S a b) (hs : ∀ k, k < a.heap.size → S k → S2 k) : Fr S2 a b :=
  ⟨h.os, h.tape, h.output, h.size, fun i hi hn => h.block i hi (fun h2 => hn (hs i hi h2))⟩
theorem Fr.of_below {S : Nat → Prop} {w w' : World} (h : Below w.heap.size w w') : Fr S w w' := ⟨h.os, h.tape, h.output, h.size, fun k hk _ => h.block k hk⟩
theorem Fr.below {w w' : World} (h : Fr none_ w w') : Below w.heap.size w w' := ⟨h.os, h.tape, h.output, h.size, fun k hk => h.block k hk (fun h => h)⟩
theorem Fr.belowAt {S : Nat → Prop} {B : Nat} {w w' : World} (h : Fr S w w') (hB : B ≤ w.heap.size) (hs : ∀ k, S k → B ≤ k) : Below B w w' :=
  ⟨h.os, h.tape, h.output, h.size, fun k hk => h.block k (by omega) (fun h2 => by have := hs k h2; omega)⟩
theorem Fr.drew {S : Nat → Prop} {a w : World} (h : Fr S a w) : Fr S a w.drew := ⟨h.os, h.tape, h.output, h.size, h.block⟩
theorem Fr.alloc {S : Nat → Prop} {a w : World} (h : Fr S a w) (o : Obj) : Fr S a (w.alloc o) :=
  h.trans ⟨rfl, rfl, rfl, by simp, fun k hk _ => Below.heap_alloc _ _ _ hk⟩
theorem Fr.setCell {S : Nat → Prop} {a w : World} (h : Fr S a w) {p : Addr} (hp : p.block < a.heap.size → S p.block) (u : Value) : Fr S a (w.setCell p u) :=
  h.trans' (S2 := fun k => k = p.block) ⟨rfl, rfl, rfl, by simp [World.setCell], fun k _ hn => Below.heap_setCell _ _ _ _ hn⟩ (fun k hk e => by subst e; exact hp hk)

theorem Fr.set (w : World) (b o : Nat) (v : Value) : Fr (fun i => i = b) w (w.setCell ⟨b, o, none⟩ v) := Fr.setCell (S := fun i => i = b) (p := ⟨b, o, none⟩) (Fr.refl _ _) (fun _ => rfl) _
theorem blk_lt {w : World} {b : Nat} {o : Obj} (h : w.heap[b]? = some o) : b < w.heap.size := by
  rcases Nat.lt_or_ge b w.heap.size with h' | h'
  · exact h'
  · rw [Array.getElem?_eq_none h'] at h; cases h
theorem Fr.heap {S : Nat → Prop} {w w' : World} (h : Fr S w w') {b : Nat} {o : Obj} (hb : w.heap[b]? = some o) (hn : ¬ S b) : w'.heap[b]? = some o := (h.block b (blk_lt hb) hn).trans hb

theorem heap_alloc_new (w : World) (o : Obj) : (w.alloc o).heap[w.heap.size]? = some o := by
  show (w.heap.push o)[w.heap.size]? = _
  simp
theorem heap_alloc_at {w : World} {b : Nat} (h : w.heap.size = b) (o : Obj) : (w.alloc o).heap[b]? = some o := h ▸ heap_alloc_new w o
theorem heap_alloc_old {w : World} {b : Nat} {x : Obj} (h : w.heap[b]? = some x) (o : Obj) : (w.alloc o).heap[b]? = some x :=
  (Below.heap_alloc w o b (blk_lt h)).trans h
theorem heap_setCell_same {w : World} {b o : Nat} {c : Array Value} {e : TypeId} {f : Nat × Nat} (h : w.heap[b]? = some (.cells c e f)) (v : Value) :
    (w.setCell ⟨b, o, none⟩ v).heap[b]? = some (.cells (c.setIfInBounds o v) e f) := by
  simp [World.setCell, Array.getElem?_modify, h]
theorem cell_of_blk {w : World} {b : Nat} {c : Array Value} {e : TypeId} {f : Nat × Nat} (h : w.heap[b]? = some (.cells c e f)) (o : Nat) : w.cell? ⟨b, o, none⟩ = c[o]? := by
  simp [World.cell?, h]
theorem frozen_of_blk {w : World} {b : Nat} {c : Array Value} {e : TypeId} (h : w.heap[b]? = some (.cells c e (0, 0))) (o : Nat) : w.frozen? ⟨b, o, none⟩ = false := by
  simp [World.frozen?, h]

theorem Fr.cell {S : Nat → Prop} {w w' : World} (h : Fr S w w') {b o : Nat} {v : Value} (hc : w.cell? ⟨b, o, none⟩ = some v) (hn : ¬ S b) : w'.cell? ⟨b, o, none⟩ = some v := by
  rw [World.cell?_of_block (w := w) (a := ⟨b, o, none⟩) (h.block b (World.block_lt_of_cell? w ⟨b, o, none⟩ hc) hn)]; exact hc
theorem Fr.frozen {S : Nat → Prop} {w w' : World} (h : Fr S w w') {b o : Nat} {v : Value} (hc : w.cell? ⟨b, o, none⟩ = some v) (hn : ¬ S b) {x : Bool} (hf : w.frozen? ⟨b, o, none⟩ = x) : w'.frozen? ⟨b, o, none⟩ = x := by
  rw [World.frozen?_of_block (w := w) (a := ⟨b, o, none⟩) (h.block b (World.block_lt_of_cell? w ⟨b, o, none⟩ hc) hn)]; exact hf
theorem Fr.undrew {S : Nat → Prop} {a b : World} (h : Fr S a.drew b) : Fr S a b := ⟨h.os, h.tape, h.output, h.size, h.block⟩
theorem Fr.trans0 {S : Nat → Prop} {a b c : World} (h : Fr S a b) (k : Fr none_ b c) : Fr S a c := h.trans' k (fun _ _ h => h.elim)
theorem Fr.of0 {S : Nat → Prop} {a b : World} (k : Fr none_ a b) : Fr S a b := k.mono (fun _ _ h => h.elim)
/-- a block that was made since may be written -/
theorem Fr.own {S : Nat → Prop} {a b c : World} {B : Nat} (h : Fr S a b) (k : Fr (fun i => i = B) b c) (hB : a.heap.size ≤ B) : Fr S a c := h.trans' k (fun i hi e => by omega)
/-- The cells from A on hold vs. -/
def CellsAt (w : World) (A : Option Addr) (vs : List Value) : Prop := ∀ k, (h : k < vs.length) → ∃ b o, A = some ⟨b, o, none⟩ ∧ w.cell? ⟨b, o + k, none⟩ = some vs[k]
/-- The blocks of a slice's address. -/
def blkOf (A : Option Addr) (b : Nat) : Prop := ∃ o, A = some ⟨b, o, none⟩

theorem CellsAt.fr {S : Nat → Prop} {w w' : World} {A : Option Addr} {vs : List Value} (h : CellsAt w A vs) (hf : Fr S w w') (hn : ∀ b, blkOf A b → ¬ S b) : CellsAt w' A vs := by
  intro k hk
  obtain ⟨b, o, hA, hc⟩ := h k hk
  refine ⟨b, o, hA, ?_⟩
  have := hf.block b (World.block_lt_of_cell? w ⟨b, o + k, none⟩ hc) (hn b ⟨o, hA⟩)
  rw [World.cell?_of_block (w := w) (a := ⟨b, o + k, none⟩) this]; exact hc
theorem CellsAt.frp {S : Nat → Prop} {w w' : World} {A : Option Addr} {vs : List Value} (h : CellsAt w A vs) (hf : Fr S w w') (hn : ∀ b, blkOf A b → 0 < vs.length → ¬ S b) : CellsAt w' A vs := by
  cases vs with
  | nil => exact fun _ hk => absurd hk (by simp)
  | cons x vs => exact h.fr hf (fun b hb => hn b hb (by simp))
theorem cell_lt {w : World} {b o : Nat} {v : Value} (h : w.cell? ⟨b, o, none⟩ = some v) : b < w.heap.size := by
  unfold World.cell? at h
  apply Nat.lt_of_not_le
  intro hle
  simp [Array.getElem?_eq_none hle] at h
theorem CellsAt.lt {w : World} {A : Option Addr} {vs : List Value} (h : CellsAt w A vs) {b : Nat} (hb : blkOf A b) (hl : 0 < vs.length) : b < w.heap.size := by
  obtain ⟨b', o, rfl, hc⟩ := h 0 hl
  obtain ⟨o2, e⟩ := hb
  cases e
  exact cell_lt hc
theorem CellsAt.fr0 {w w' : World} {A : Option Addr} {vs : List Value} (h : CellsAt w A vs) (hf : Fr none_ w w') : CellsAt w' A vs := h.fr hf (fun _ _ h => h)
theorem CellsAt.alloc {w : World} {A : Option Addr} {vs : List Value} (h : CellsAt w A vs) (o : Obj) : CellsAt (w.alloc o) A vs := h.fr0 ((Fr.refl _ _).alloc o)
theorem CellsAt.drew {w : World} {A : Option Addr} {vs : List Value} (h : CellsAt w A vs) : CellsAt w.drew A vs := h
theorem CellsAt.nil (w : World) (A : Option Addr) : CellsAt w A [] := fun _ hk => absurd hk (by simp)
theorem CellsAt.of_blk {w : World} {b : Nat} {c : Array Value} {e : TypeId} {f : Nat × Nat} (h : w.heap[b]? = some (.cells c e f)) (o n : Nat) (hn : o + n ≤ c.size) : CellsAt w (some ⟨b, o, none⟩) ((c.toList.drop o).take n) := by
  intro k hk
  have hk' : k < n := by simp at hk; omega
  refine ⟨b, o, rfl, ?_⟩
  rw [cell_of_blk h]
  simp
theorem CellsAt.whole {w : World} {b : Nat} {l : List Value} {e : TypeId} {f : Nat × Nat} (h : w.heap[b]? = some (.cells l.toArray e f)) : CellsAt w (some ⟨b, 0, none⟩) l := by
  intro k hk
  refine ⟨b, 0, rfl, ?_⟩
  rw [cell_of_blk h]
  simp [hk]
theorem CellsAt.one (w : World) (v : Value) (T : TypeId) : CellsAt (w.alloc (.cells #[v] T)) (some ⟨w.heap.size, 0, none⟩) [v] := CellsAt.whole (l := [v]) (heap_alloc_new _ _)
theorem CellsAt.sub {w : World} {b o : Nat} {vs : List Value} (h : CellsAt w (some ⟨b, o, none⟩) vs) (k n : Nat) (hk : k + n ≤ vs.length) : CellsAt w (some ⟨b, o + k, none⟩) ((vs.drop k).take n) := by
  intro j hj
  have hj' : j < n := by simp at hj; omega
  obtain ⟨b', o', he, hc⟩ := h (k + j) (by omega)
  cases he
  refine ⟨_, _, rfl, ?_⟩
  rw [Nat.add_assoc]
  simpa using hc
theorem CellsAt.get {w : World} {b o : Nat} {vs : List Value} (h : CellsAt w (some ⟨b, o, none⟩) vs) (k : Nat) (hk : k < vs.length) : w.cell? ⟨b, o + k, none⟩ = some vs[k] := by
  obtain ⟨b', o', he, hc⟩ := h k hk
  cases he
  exact hc
theorem CellsAt.addr {w : World} {A : Option Addr} {vs : List Value} (h : CellsAt w A vs) (hk : 0 < vs.length) : ∃ b o, A = some ⟨b, o, none⟩ := by
  obtain ⟨b', o', he, _⟩ := h 0 hk
  exact ⟨b', o', he⟩

def byteV (x : UInt8) : Value := .int .u8 (x.toNat : Int)
def intV (x : Int) : Value := .int .i64 x
def u32V (x : Nat) : Value := .int .u32 (x : Int)

theorem foldl_take_succ {α β : Type} (f : β → α → β) (b : β) (l : List α) (k : Nat) (h : k < l.length) : (l.take (k + 1)).foldl f b = f ((l.take k).foldl f b) l[k] := by
  rw [List.take_succ_eq_append_getElem h, List.foldl_append]; rfl

/-! Slices of the call's own (`World.ownsRow`), and append onto them. -/
theorem Fr.of_grown {w w' : World} {row : Option Nat} (h : w.grownBy w' row) : Fr (fun k => row = some k) w w' :=
  ⟨h.os, h.tape, h.output, h.size, fun k hk hn => h.block k hk (fun e => hn e.symm)⟩
theorem ownsRow_lt {w : World} {base : Nat} {e : TypeId} {size : Nat} {v : Value} {n : Nat} {xs : List Value} (h : w.ownsRow base e size v n xs) {k : Nat} (hk : v.ownBlock = some k) : base ≤ k ∧ k < w.heap.size := h.lt k hk
theorem Fr.grown {S : Nat → Prop} {a w w' : World} {base : Nat} {e : TypeId} {size : Nat} {v : Value} {n : Nat} {xs : List Value} (h : Fr S a w) (hg : w.grownBy w' v.ownBlock) (ho : w.ownsRow base e size v n xs) (hb : a.heap.size ≤ base) : Fr S a w' :=
  h.trans' (Fr.of_grown hg) (fun k hk e => by have := (ownsRow_lt ho e).1; omega)
theorem ownsRow_fr {S : Nat → Prop} {w w' : World} {base : Nat} {e : TypeId} {size : Nat} {v : Value} {n : Nat} {xs : List Value} (h : w.ownsRow base e size v n xs) (hf : Fr S w w') (hn : ∀ k, v.ownBlock = some k → ¬ S k) : w'.ownsRow base e size v n xs := by
  obtain ⟨h1, h2⟩ := h
  refine ⟨h1, h2.imp id ?_⟩
  rintro ⟨g, cap, cur, rfl, hg, hh, r⟩
  exact ⟨g, cap, cur, rfl, hg, hf.heap hh (hn g rfl), r⟩
theorem ownsRow_fr0 {w w' : World} {base : Nat} {e : TypeId} {size : Nat} {v : Value} {n : Nat} {xs : List Value} (h : w.ownsRow base e size v n xs) (hf : Fr none_ w w') : w'.ownsRow base e size v n xs := ownsRow_fr h hf (fun _ _ h => h)
/-- An owned row, read: its value is a slice over the cells xs. -/
theorem ownsRow_read {w : World} {base : Nat} {e : TypeId} {size : Nat} {v : Value} {n : Nat} {xs : List Value} (h : w.ownsRow base e size v n xs) : ∃ A c, v = .slice A n c ∧ CellsAt w A xs ∧ n ≤ c ∧ (A = none → n = 0 ∧ c = 0) ∧ (∀ b, blkOf A b → base ≤ b ∧ v.ownBlock = some b) := by
  obtain ⟨h1, h2⟩ := h
  rcases h2 with ⟨rfl, rfl⟩ | ⟨g, cap, cur, rfl, hg, hh, hc, hm, hs, ht⟩
  · have : xs = [] := by cases xs; rfl; simp at h1
    subst this
    exact ⟨none, 0, rfl, CellsAt.nil _ _, Nat.le_refl _, (fun _ => ⟨rfl, rfl⟩), (fun b ⟨o, ho⟩ => by cases ho)⟩
  · refine ⟨_, cap, rfl, ?_, hc, (fun h => by cases h), (fun b ⟨o, ho⟩ => by cases ho; exact ⟨hg, rfl⟩)⟩
    intro k hk
    refine ⟨g, 0, rfl, ?_⟩
    rw [cell_of_blk hh]
    have hk2 : k < n * size := by omega
    have : (cur.toList.take (n * size))[k]? = xs[k]? := by rw [ht]
    rw [List.getElem?_take_of_lt hk2] at this
    simpa [hk] using this
theorem ownsRow_lit {w : World} {base : Nat} (e : TypeId) (size n : Nat) (xs : List Value) (hb : base ≤ w.heap.size) (hn : n ≤ maxLen) (hl : xs.length = n * size) :
    (w.alloc (.cells xs.toArray e)).ownsRow base e size (.slice (some ⟨w.heap.size, 0, none⟩) n n) n xs :=
  ⟨hl, .inr ⟨_, n, _, rfl, hb, heap_alloc_new _ _, Nat.le_refl _, hn, by simpa using hl, by simp [← hl]⟩⟩
theorem CellsAt.adds {w : World} {A : Option Addr} {vs : List Value} (h : CellsAt w A vs) {ad : Addr} (hA : A = some ad) : ∀ j u, vs[j]? = some u → w.cell? (ad.add j) = some u := by
  intro j u hj
  obtain ⟨hlt, he⟩ := List.getElem?_eq_some_iff.1 hj
  obtain ⟨b, o, hA2, hc⟩ := h j hlt
  rw [hA] at hA2
  cases hA2
  rw [he] at hc
  unfold Addr.add
  by_cases h0 : j = 0
  · subst h0; simpa using hc
  · rw [if_neg h0]; exact hc
/-- append(s, x...): s is the call's own (or nil), x any slice that is read. -/
theorem wpList_append_any {P : Program} {w : World} {ops : Array Oper} {rest : List Oper} {o : Oper} {a : Act} {Q : Exit → Act → World → Prop} (hgd : o.guard = none) (s x : Operand) (t : TypeId)
    (ho : o.op = .call { callee := .builtin .append, args := #[s, x], argTypes := #[t, t] })
    (base : Nat) (e : TypeId) (z : Value) (size bytes : Nat) (ht : P.underlying t = some (.slice e)) (hinfo : (P.info? e).map (fun i => (i.zero, i.size, i.bytes)) = some (some z, size, bytes))
    (hzs : z.cells.size = size) (hsz : 0 < size)
    (v : Value) (n : Nat) (xs : List Value) (hs : a.eval s = v) (hown : w.ownsRow base e size v n xs)
    (A : Option Addr) (m c : Nat) (news : List Value) (hx : a.eval x = .slice A m c) (hA : CellsAt w A news) (hnil : A = none → m = 0 ∧ c = 0) (hl : news.length = m * size) (h1 : ∀ u ∈ news, u.oneCell' = true)
    (h63 : n + m ≤ maxLen) (hbytes : (n + m) * bytes ≤ 140737488355328) (hbase : base ≤ w.heap.size)
    (h : ∀ v' w', w'.ownsRow base e size v' (n + m) (xs ++ news) → w.grownBy w' v.ownBlock → wpList P ops Q rest (a.put o.dst v') w') : wpList P ops Q (o :: rest) a w := by
  obtain ⟨i0, hi, hz0, hz1, hz2⟩ := info_parts hinfo
  cases A with
  | none =>
    obtain ⟨rfl, rfl⟩ := hnil rfl
    have hn0 : news = [] := by cases news; rfl; simp at hl
    subst hn0
    exact wpList_append_own_none hgd s x t ho base e i0 size ht hi v n xs hs hown hx (h v w (by simpa using hown) (World.grownBy.refl _ _))
  | some ad =>
    exact wpList_append_own w hgd s x t ho base e i0 z size bytes ht hi hz0 hz1 hz2 hzs hsz v n xs hs hown ad m c news hx hl (hA.adds rfl) h1 h63 hbytes hbase (fun v' w' a b _ => h v' w' a b)
/-- string(b) of bytes that read l. -/
def strOf (l : List UInt8) : Value := .string ⟨l.toArray⟩
theorem conv_bytes {P : Program} {w : World} {src dst e : TypeId} (hs : P.underlying src = some (.slice e)) (he : P.underlying e = some (.int .u8)) (hd : P.underlying dst = some .string) {A : Option Addr} {n c : Nat} {l : List UInt8} (hn : n = l.length) (hA : CellsAt w A (l.map byteV)) (hnil : A = none → n = 0 ∧ c = 0) :
    (convert src dst (.slice A n c)).run P w = .ok (.string ⟨l.toArray⟩) w := by
  subst hn
  cases A with
  | none =>
    obtain ⟨h0, rfl⟩ := hnil rfl
    have : l = [] := List.length_eq_zero_iff.1 h0
    subst this
    rw [run_convert_bytes_string w src dst e none _ 0 hs he hd]
    rfl
  | some a =>
    refine run_convert_bytes_back w src dst e a c l hs he hd (fun j hj => ?_)
    have := hA.adds rfl j (byteV l[j]) (by simp [hj])
    exact this
theorem flatMap_get {α β : Type} (f : α → List β) (c : Nat) (hf : ∀ x, (f x).length = c) (l : List α) (k i : Nat) (hk : k < l.length) (hi : i < c) : (l.flatMap f)[k * c + i]? = (f l[k])[i]? := by
  induction l generalizing k with
  | nil => simp at hk
  | cons x l ih =>
    rw [List.flatMap_cons]
    cases k with
    | zero =>
      rw [List.getElem?_append_left (by rw [hf]; omega)]
      simp
    | succ k =>
      rw [List.getElem?_append_right (by rw [hf, Nat.succ_mul]; omega)]
      have : (k + 1) * c + i - (f x).length = k * c + i := by rw [hf, Nat.succ_mul]; omega
      rw [this, ih k (by simpa using hk)]
      simp
theorem flatMap_len {α β : Type} (f : α → List β) (c : Nat) (hf : ∀ x, (f x).length = c) (l : List α) : (l.flatMap f).length = l.length * c := by
  induction l with
  | nil => simp
  | cons x l ih => rw [List.flatMap_cons, List.length_append, ih, hf, List.length_cons, Nat.succ_mul]; omega
theorem CellsAt.getD {w : World} {A : Option Addr} {vs : List Value} (h : CellsAt w A vs) {k : Nat} {v : Value} (hk : vs[k]? = some v) : ∃ b o, A = some ⟨b, o, none⟩ ∧ w.cell? ⟨b, o + k, none⟩ = some v := by
  obtain ⟨hlt, he⟩ := List.getElem?_eq_some_iff.1 hk
  obtain ⟨b, o, hA, hc⟩ := h k hlt
  exact ⟨b, o, hA, by rw [hc, he]⟩
theorem Fr.cell0 {w w' : World} (h : Fr none_ w w') {b o : Nat} {v : Value} (hc : w.cell? ⟨b, o, none⟩ = some v) : w'.cell? ⟨b, o, none⟩ = some v := h.cell hc (fun h => h)
theorem Fr.heap0 {w w' : World} (h : Fr none_ w w') {b : Nat} {o : Obj} (hb : w.heap[b]? = some o) : w'.heap[b]? = some o := h.heap hb (fun h => h)
theorem Fr.rangeAt {S : Nat → Prop} {w w' : World} (h : Fr S w w') {b o : Nat} {cs : List Value} (hn : ¬ S b) (hc : w.rangeAt b o cs) : w'.rangeAt b o cs := fun j v hj => h.cell (hc j v hj) hn
theorem Fr.rangeAt0 {w w' : World} (h : Fr none_ w w') {b o : Nat} {cs : List Value} (hc : w.rangeAt b o cs) : w'.rangeAt b o cs := h.rangeAt (fun h => h) hc
theorem range_of_blk {w : World} {b : Nat} {l : List Value} {e : TypeId} {f : Nat × Nat} (h : w.heap[b]? = some (.cells l.toArray e f)) : w.rangeAt b 0 l := fun j v hj => by
  rw [cell_of_blk h]; simpa using hj
theorem range_setCell {w : World} {b o : Nat} {cs : List Value} (h : w.rangeAt b o cs) {p : Addr} (hp : b ≠ p.block) (v : Value) : (w.setCell p v).rangeAt b o cs :=
  Fr.rangeAt (S := fun i => i = p.block) (Fr.setCell (S := fun i => i = p.block) (Fr.refl _ _) (fun _ => rfl) v) hp h
theorem CellsAt.of_range {w : World} {b o : Nat} {cs : List Value} (h : w.rangeAt b o cs) : CellsAt w (some ⟨b, o, none⟩) cs := fun k hk => ⟨b, o, rfl, h k cs[k] (by simp [hk])⟩
/-! A whole array, loaded out of and stored into a block of its own. -/
theorem wpList_load_blk {P : Program} {w : World} {ops : Array Oper} {rest : List Oper} {o : Oper} {a : Act} {Q : Exit → Act → World → Prop} (hgd : o.guard = none) (ty : TypeId) (x : Operand) (ho : o.op = .load ty x)
    {b : Nat} {c : Array Value} {e : TypeId} {f : Nat × Nat} (hx : a.eval x = .pointer (some ⟨b, 0, none⟩)) (hb : w.heap[b]? = some (.cells c e f)) {d : TypeDesc} (hu : P.underlying ty = some d) (hd : d.isRow = true) (hi : (P.info? ty).map (·.size) = some c.size)
    (h : wpList P ops Q rest (a.put o.dst (.agg c)) w) : wpList P ops Q (o :: rest) a w :=
  wpList_load_mid hgd ty x ho b 0 hx c.toList d (range_of_blk hb) hu hd (by simpa using hi) (by simpa using h)
theorem fr_setCells (w : World) (b : Nat) : ∀ (vs : List Value) (o : Nat) (w : World), Fr (fun i => i = b) w (w.setCells b o vs) := by
  intro vs
  induction vs with
  | nil => intro o w; exact Fr.refl _ _
  | cons v vs ih =>
    intro o w
    show Fr _ w ((w.setCell ⟨b, o, none⟩ v).setCells b (o + 1) vs)
    exact (Fr.set w b o v).trans (ih (o + 1) _)
theorem wpList_store_blk {P : Program} {w : World} {ops : Array Oper} {rest : List Oper} {o : Oper} {a : Act} {Q : Exit → Act → World → Prop} (hgd : o.guard = none) (ty : TypeId) (x y : Operand) (ho : o.op = .store ty x y)
    {b : Nat} {c c' : Array Value} {e : TypeId} (hx : a.eval x = .pointer (some ⟨b, 0, none⟩)) (hy : a.eval y = .agg c') (hb : w.heap[b]? = some (.cells c e (0, 0))) (hs : c.size = c'.size) (hi : (P.info? ty).map (·.size) = some c'.size) (h1 : ∀ v ∈ c'.toList, v.oneCell' = true)
    (h : ∀ w', Fr (fun i => i = b) w w' → w'.heap[b]? = some (.cells c' e (0, 0)) → wpList P ops Q rest (a.put o.dst undef) w') : wpList P ops Q (o :: rest) a w := by
  refine wpList_plain hgd fun K hK => ?_
  have hrun := run_storeVar_row (P := P) w b e ty c c' hb hi hs (by simpa using all_oneCell_toArray h1)
  unfold Oper.wp execOp
  simp only [ho, hx, hy, Instr.storeAt, Instr.sureAddr, Sem.run_bind, Sem.run_pure, Result.andThen_ok, hrun]
  refine hK _ _ (h _ ⟨rfl, rfl, rfl, by simp [World.setRow], fun k _ hn => by simp only [World.setRow, Array.getElem?_modify]; rw [if_neg (Ne.symm hn)]⟩ ?_)
  simp [World.setRow, Array.getElem?_modify, hb]
/-! The same, told by the operation as it is written out: an arm that does not fit fails at once. -/
theorem at_load {P : Program} {w : World} {ops : Array Oper} {rest : List Oper} {a : Act} {Q : Exit → Act → World → Prop} {dst : Option Tmp} {tt : TypeId} {ps : String} {af : Array Edge} (ty : TypeId) (x : Operand)
    {b : Nat} {c : Array Value} {e : TypeId} {f : Nat × Nat} {d : TypeDesc} (hx : a.eval x = .pointer (some ⟨b, 0, none⟩)) (hb : w.heap[b]? = some (.cells c e f)) (hu : P.underlying ty = some d) (hd : d.isRow = true) (hi : (P.info? ty).map (·.size) = some c.size)
    (h : wpList P ops Q rest (a.put dst (.agg c)) w) : wpList P ops Q ({ dst := dst, op := .load ty x, type := tt, pos := ps, after := af, guard := none } :: rest) a w :=
  wpList_load_blk rfl ty x rfl hx hb hu hd hi h
theorem at_store {P : Program} {w : World} {ops : Array Oper} {rest : List Oper} {a : Act} {Q : Exit → Act → World → Prop} {dst : Option Tmp} {tt : TypeId} {ps : String} {af : Array Edge} (ty : TypeId) (x y : Operand)
    {b : Nat} {c c' : Array Value} {e : TypeId} (hx : a.eval x = .pointer (some ⟨b, 0, none⟩)) (hy : a.eval y = .agg c') (hb : w.heap[b]? = some (.cells c e (0, 0))) (hs : c.size = c'.size) (hi : (P.info? ty).map (·.size) = some c'.size) (h1 : ∀ v ∈ c'.toList, v.oneCell' = true)
    (h : ∀ w', Fr (fun i => i = b) w w' → w'.heap[b]? = some (.cells c' e (0, 0)) → wpList P ops Q rest (a.put dst undef) w') : wpList P ops Q ({ dst := dst, op := .store ty x y, type := tt, pos := ps, after := af, guard := none } :: rest) a w :=
  wpList_store_blk rfl ty x y rfl hx hy hb hs hi h1 h
theorem at_append {P : Program} {w : World} {ops : Array Oper} {rest : List Oper} {a : Act} {Q : Exit → Act → World → Prop} {dst : Option Tmp} {tt : TypeId} {ps : String} {af : Array Edge} (s x : Operand) (t : TypeId)
    (base : Nat) (e : TypeId) (z : Value) (size bytes : Nat) (ht : P.underlying t = some (.slice e)) (hinfo : (P.info? e).map (fun i => (i.zero, i.size, i.bytes)) = some (some z, size, bytes))
    (hzs : z.cells.size = size) (hsz : 0 < size)
    {v : Value} {n : Nat} {xs : List Value} {A : Option Addr} {m c : Nat} {news : List Value} (hs : a.eval s = v) (hx : a.eval x = .slice A m c) (hown : w.ownsRow base e size v n xs)
    (hA : CellsAt w A news) (hnil : A = none → m = 0 ∧ c = 0) (hl : news.length = m * size) (h1 : ∀ u ∈ news, u.oneCell' = true)
    (h63 : n + m ≤ maxLen) (hbytes : (n + m) * bytes ≤ 140737488355328) (hbase : base ≤ w.heap.size)
    (h : ∀ v' w', w'.ownsRow base e size v' (n + m) (xs ++ news) → w.grownBy w' v.ownBlock → wpList P ops Q rest (a.put dst v') w') : wpList P ops Q ({ dst := dst, op := .call { callee := .builtin .append, args := #[s, x], argTypes := #[t, t] }, type := tt, pos := ps, after := af, guard := none } :: rest) a w :=
  wpList_append_any rfl s x t rfl base e z size bytes ht hinfo hzs hsz v n xs hs hown A m c news hx hA hnil hl h1 h63 hbytes hbase h
theorem at_copy {P : Program} {w : World} {ops : Array Oper} {rest : List Oper} {a : Act} {Q : Exit → Act → World → Prop} {dst : Option Tmp} {tt : TypeId} {ps : String} {af : Array Edge} (d s : Operand) (dT sT elem : TypeId)
    (hu : P.underlying dT = some (.slice elem)) (hsz : (P.info? elem).map (·.size) = some 1) {g off dLen dCap sLen sCap : Nat} {A : Option Addr} {cur cs : List Value} {t : TypeId}
    (hd : a.eval d = .slice (some ⟨g, off, none⟩) dLen dCap) (hs : a.eval s = .slice A sLen sCap) (hg : w.heap[g]? = some (.cells cur.toArray t (0, 0))) (hn : cs.length = Nat.min sLen dLen) (hA : CellsAt w A cs) (hfit : off + cs.length ≤ cur.length) (h1 : ∀ v ∈ cs, v.oneCell' = true)
    (h : ∀ w', Fr (fun i => i = g) w w' → w'.heap[g]? = some (.cells (cur.take off ++ (cs ++ cur.drop (off + cs.length))).toArray t (0, 0)) → wpList P ops Q rest (a.put dst (goInt cs.length)) w') :
    wpList P ops Q ({ dst := dst, op := .call { callee := .builtin .copy, args := #[d, s], argTypes := #[dT, sT] }, type := tt, pos := ps, after := af, guard := none } :: rest) a w := by
  by_cases h0 : cs.length = 0
  · obtain rfl : cs = [] := List.eq_nil_of_length_eq_zero h0
    refine wpList_copy_nothing rfl d s dT sT rfl elem hu hsz _ _ dLen dCap sLen sCap hd hs (by simpa using hn.symm) ?_
    exact h w (Fr.refl _ _) (by simpa using hg)
  · obtain ⟨b, o, rfl⟩ := hA.addr (by omega)
    refine wpList_copy_own rfl d s dT sT rfl elem hu hsz g off dLen dCap _ sLen sCap hd hs cur.toArray t hg cs hn (hA.adds rfl) (by simpa using hfit) h1 ?_
    exact h _ ⟨rfl, rfl, rfl, by simp [World.setRow], fun k _ hk => setRow_other w g k _ hk⟩ (setRow_heap w g _ _ t _ hg)
/-- A whole array's load among reads whose order is open. -/
theorem still_load {P : Program} {w : World} {ops : Array Oper} {rest : List Oper} {a : Act} {Q : Act → Prop} {dst : Option Tmp} {tt : TypeId} {ps : String} {af : Array Edge} (ty : TypeId) (x : Operand)
    {b : Nat} {c : Array Value} {e : TypeId} {f : Nat × Nat} {d : TypeDesc} (hx : a.eval x = .pointer (some ⟨b, 0, none⟩)) (hb : w.heap[b]? = some (.cells c e f)) (hu : P.underlying ty = some d) (hd : d.isRow = true) (hi : (P.info? ty).map (·.size) = some c.size)
    (h : wpStill P ops w Q rest (a.put dst (.agg c))) : wpStill P ops w Q ({ dst := dst, op := .load ty x, type := tt, pos := ps, after := af, guard := none } :: rest) a := by
  refine wpStill_step (fun K hK => ?_)
  have hrun := run_loadAt_mid (P := P) w b 0 ty c.toList d (range_of_blk hb) hu hd (by simpa using hi)
  simp only [Region.wanted, if_true, Oper.still, execOp, hx, Sem.run_bind, hrun, Result.andThen_ok, Sem.run_pure, Oper.stillUpon_value]
  exact hK _ (by simpa using h)
end Go.Proofs.Ytdkjmnhblepkaaa

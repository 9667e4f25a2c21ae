/-
  Words of our own, without a program: frames by a set of blocks, rows that are owned, small facts.
-/
import Derived.WalkKit
import Derived.Below
import Derived.ProofKit
import Derived.OpenShut
import Derived.Handy
import Derived.Lib.Hide
import Derived.OwnWalk
import Derived.Maps.AppendAt
import Derived.Laws.MakeOwn
import Derived.Laws.OwnMore
import Derived.Laws.Rows
import Derived.Deep.Draws
import Derived.Deep.QuietTactic
import Derived.BigQuiet
import Derived.Deep.RegionHeld3
import Derived.Deep.DrawnRows
import Derived.Deep.AppendLies
import Derived.KernelRfl
import Derived.Laws.Cover3
namespace Go.Proofs.Ythfcppflhkhpnaa
open Go.RowKit

/-- All blocks but those of S are as they were; none has gone. -/
structure Fr (S : Nat → Prop) (w w' : World) : Prop where
  os : w'.os = w.os
  tape : w'.tape = w.tape
  output : w'.output = w.output
  size : w.heap.size ≤ w'.heap.size
  block : ∀ k, k < w.heap.size → ¬ S k → w'.heap[k]? = w.heap[k]?

abbrev NoB : Nat → Prop := fun _ => False

theorem Fr.refl (S : Nat → Prop) (w : World) : Fr S w w := ⟨rfl, rfl, rfl, Nat.le_refl _, fun _ _ _ => rfl⟩
theorem Fr.of_below {S : Nat → Prop} {w w' : World} (h : Below w.heap.size w w') : Fr S w w' := ⟨h.os, h.tape, h.output, h.size, fun k hk _ => h.block k hk⟩
theorem Fr.below {w w' : World} (h : Fr NoB w w') : Below w.heap.size w w' := ⟨h.os, h.tape, h.output, h.size, fun k hk => h.block k hk id⟩
/-- What was turned lies from B on. -/
theorem Fr.belowB {S : Nat → Prop} {B : Nat} {w w' : World} (h : Fr S w w') (hB : B ≤ w.heap.size) (hS : ∀ k, S k → B ≤ k) : Below B w w' :=
  ⟨h.os, h.tape, h.output, h.size, fun k hk => h.block k (by omega) (fun hs => by have := hS k hs; omega)⟩
theorem Fr.mono {S T : Nat → Prop} {w w' : World} (h : Fr S w w') (hs : ∀ k, k < w.heap.size → S k → T k) : Fr T w w' :=
  ⟨h.os, h.tape, h.output, h.size, fun k hk ht => h.block k hk fun hsk => ht (hs k hk hsk)⟩
theorem Fr.trans {S T : Nat → Prop} {a b c : World} (h : Fr S a b) (k : Fr T b c) (hs : ∀ i, T i → S i ∨ a.heap.size ≤ i) : Fr S a c :=
  ⟨k.os.trans h.os, k.tape.trans h.tape, k.output.trans h.output, Nat.le_trans h.size k.size, fun i hi hn =>
    (k.block i (Nat.lt_of_lt_of_le hi h.size) fun ht => by rcases hs i ht with h1 | h1; exact hn h1; omega).trans (h.block i hi hn)⟩
theorem Fr.trans_same {S : Nat → Prop} {a b c : World} (h : Fr S a b) (k : Fr S b c) : Fr S a c := h.trans k fun _ hi => .inl hi
theorem Fr.then_below {S : Nat → Prop} {a b c : World} (h : Fr S a b) (k : Below b.heap.size b c) : Fr S a c :=
  h.trans_same (Fr.of_below k)
theorem Fr.alloc {S : Nat → Prop} {a w : World} (h : Fr S a w) (o : Obj) : Fr S a (w.alloc o) :=
  h.then_below ((Below.refl _ _).alloc (Nat.le_refl _) o)
theorem Fr.drew {S : Nat → Prop} {a w : World} (h : Fr S a w) : Fr S a w.drew := ⟨h.os, h.tape, h.output, h.size, h.block⟩
theorem Fr.drewN {S : Nat → Prop} {a w : World} (h : Fr S a w) (n : Nat) : Fr S a (w.drewN n) := ⟨h.os, h.tape, h.output, h.size, h.block⟩
theorem Fr.setCell {S : Nat → Prop} {a w : World} (h : Fr S a w) {p : Addr} (hp : S p.block ∨ a.heap.size ≤ p.block) (u : Value) : Fr S a (w.setCell p u) :=
  ⟨h.os, h.tape, h.output, by simpa [World.setCell] using h.size, fun k hk hn => by
    rw [Below.heap_setCell _ _ _ _ (fun e => by rcases hp with hp | hp; exact hn (e ▸ hp); omega)]
    exact h.block k hk hn⟩
theorem Fr.grown {S : Nat → Prop} {a w w' : World} {row : Option Nat} (h : Fr S a w) (hg : w.grownBy w' row) (hr : ∀ k, row = some k → S k ∨ a.heap.size ≤ k) : Fr S a w' :=
  ⟨hg.os.trans h.os, hg.tape.trans h.tape, hg.output.trans h.output, Nat.le_trans h.size hg.size, fun k hk hn => by
    rw [hg.block k (Nat.lt_of_lt_of_le hk h.size) (fun e => by rcases hr k e.symm with h1 | h1; exact hn h1; omega)]
    exact h.block k hk hn⟩
theorem Fr.blk {S : Nat → Prop} {w w' : World} {g : Nat} {o : Obj} (h : Fr S w w') (hb : w.heap[g]? = some o) (hg : ¬ S g) : w'.heap[g]? = some o :=
  (h.block g (Array.getElem?_eq_some_iff.1 hb).1 hg).trans hb
theorem Fr.cell {S : Nat → Prop} {w w' : World} {a : Addr} {v : Value} (h : Fr S w w') (hc : w.cell? a = some v) (hg : ¬ S a.block) : w'.cell? a = some v :=
  (World.cell?_of_block (w := w) (h.block a.block (World.block_lt_of_cell? w a hc) hg)).trans hc

theorem below_next {w w1 w2 : World} (h : Below w.heap.size w w1) (k : Below w1.heap.size w1 w2) : Below w.heap.size w w2 := h.trans (k.mono h.size)
theorem below_drewN {B : Nat} {w W : World} (h : Below B w W) (n : Nat) : Below B w (W.drewN n) := ⟨h.os, h.tape, h.output, h.size, h.block⟩
theorem below_alloc {w W : World} (h : Below w.heap.size w W) (o : Obj) : Below w.heap.size w (W.alloc o) := h.alloc h.size o
/-! ### blocks -/
theorem blt {w : World} {g : Nat} {o : Obj} (h : w.heap[g]? = some o) : g < w.heap.size := (Array.getElem?_eq_some_iff.1 h).1
theorem bcell {w : World} {g : Nat} {t : TypeId} {cs : Array Value} (h : w.heap[g]? = some (.cells cs t (0, 0))) (i : Nat) : w.cell? ⟨g, i, none⟩ = cs[i]? := cell_of_row w g i cs t (0, 0) h
theorem bfroz {w : World} {g : Nat} {t : TypeId} {cs : Array Value} (h : w.heap[g]? = some (.cells cs t (0, 0))) (i : Nat) : w.frozen? ⟨g, i, none⟩ = false := by simp [World.frozen?, h]
theorem bset {w : World} {g : Nat} {t : TypeId} {cs : Array Value} (h : w.heap[g]? = some (.cells cs t (0, 0))) (i : Nat) (u : Value) : (w.setCell ⟨g, i, none⟩ u).heap[g]? = some (.cells (cs.setIfInBounds i u) t (0, 0)) := by
  simp only [World.setCell, Array.getElem?_modify, h]; simp
theorem bfar {w : World} {g : Nat} {o : Obj} (h : w.heap[g]? = some o) {p : Addr} (hp : g ≠ p.block) (u : Value) : (w.setCell p u).heap[g]? = some o := (Below.heap_setCell w p u g hp).trans h
theorem balloc {w : World} {g : Nat} {o : Obj} (h : w.heap[g]? = some o) (o' : Obj) : (w.alloc o').heap[g]? = some o := (Below.heap_alloc w o' g (blt h)).trans h
theorem bnew (w : World) (o : Obj) : (w.alloc o).heap[w.heap.size]? = some o := heap_alloc_new w o
theorem bne {w : World} {g g' : Nat} {t t' : TypeId} {cs cs' : Array Value} {f f' : Nat × Nat} (h : w.heap[g]? = some (.cells cs t f)) (h' : w.heap[g']? = some (.cells cs' t' f')) (hne : t ≠ t') : g ≠ g' := by
  rintro rfl; rw [h] at h'; simp at h'; exact hne h'.2.1

theorem balloc_cell {w : World} {a : Addr} {v : Value} (h : w.cell? a = some v) (o : Obj) : (w.alloc o).cell? a = some v := (World.cell?_of_block (w := w) (Below.heap_alloc w o a.block (World.block_lt_of_cell? w a h))).trans h
theorem below_cell {w W : World} {a : Addr} {v : Value} (h : Below w.heap.size w W) (hc : w.cell? a = some v) : W.cell? a = some v := (h.cell (World.block_lt_of_cell? w a hc)).trans hc
theorem keep1 {w W : World} {a : Addr} {v : Value} (h : Below w.heap.size w W) (hc : w.cell? a = some v) : Below w.heap.size w W ∧ W.cell? a = some v := ⟨h, below_cell h hc⟩
theorem keep2 {w W : World} {a b : Addr} {v u : Value} (h : Below w.heap.size w W) (hc : w.cell? a = some v) (hd : w.cell? b = some u) : Below w.heap.size w W ∧ W.cell? a = some v ∧ W.cell? b = some u := ⟨h, below_cell h hc, below_cell h hd⟩
theorem keep3 {w W : World} {a b c : Addr} {v u x : Value} (h : Below w.heap.size w W) (hc : w.cell? a = some v) (hd : w.cell? b = some u) (he : w.cell? c = some x) : Below w.heap.size w W ∧ W.cell? a = some v ∧ W.cell? b = some u ∧ W.cell? c = some x := ⟨h, below_cell h hc, below_cell h hd, below_cell h he⟩
theorem keep4 {w W : World} {a b c d : Addr} {v u x y : Value} (h : Below w.heap.size w W) (hc : w.cell? a = some v) (hd : w.cell? b = some u) (he : w.cell? c = some x) (hf : w.cell? d = some y) : Below w.heap.size w W ∧ W.cell? a = some v ∧ W.cell? b = some u ∧ W.cell? c = some x ∧ W.cell? d = some y := ⟨h, below_cell h hc, below_cell h hd, below_cell h he, below_cell h hf⟩
/-- 's == nil' of a slice. -/
@[go_sem] theorem run_eqlSliceNil {P : Program} (w : World) (t e : TypeId) (a : Option Addr) (l c : Nat) (h : P.underlying t = some (.slice e)) : (binOp .eql t (.slice a l c) (.slice none 0 0)).run P w = .ok (.bool a.isNone) w := by
  simp only [binOp]
  simp [run_equal_slice_nil w t e a l c h]

/-- 'make([]T, n, c)' as an equation for every world. -/
theorem run_make_rowN {P : Program} (t e : TypeId) (i : TypeInfo) (z : Value) (ht : P.underlying t = some (.slice e)) (hi : P.info? e = some i) (hz : i.zero = some z)
    (kl kc : IntKind) (n c : Nat) (hnc : n ≤ c) (hbytes : i.bytes * c ≤ 281474976710656) (h63 : c ≤ 9223372036854775807) (w : World) :
    (Instr.makeSlice t (.int kl (n : Int)) (.int kc (c : Int))).run P w = .ok (.slice (some ⟨w.heap.size, 0, none⟩) n c) (w.alloc (.cells (madeCells z.cells (c * i.size)) e)) := by
  have hb : (i.bytes : Int) * (c : Int) ≤ 281474976710656 := by
    have h : ((i.bytes * c : Nat) : Int) ≤ 281474976710656 := by omega
    rwa [Int.natCast_mul] at h
  have hr := run_make (P := P) w t e i z ht hi hz kl kc n c (by omega) (by omega) hb (by omega)
  simp only [Int.toNat_natCast] at hr
  exact hr

/-! ### rows that are owned -/
theorem orow_nil (w : World) (base : Nat) (e : TypeId) (size : Nat) : w.ownsRow base e size (.slice none 0 0) 0 [] := ⟨by simp, .inl ⟨rfl, rfl⟩⟩
theorem orow_form {w : World} {base : Nat} {e : TypeId} {size n : Nat} {v : Value} {xs : List Value} (h : w.ownsRow base e size v n xs) : ∃ A c, v = .slice A n c ∧ n ≤ c := by
  rcases h.2 with ⟨rfl, rfl⟩ | ⟨g, cap, cur, rfl, _, _, hn, _⟩
  · exact ⟨none, 0, rfl, Nat.le_refl _⟩
  · exact ⟨_, cap, rfl, hn⟩
theorem orow_blk {w : World} {base : Nat} {e : TypeId} {size n : Nat} {v : Value} {xs : List Value} (h : w.ownsRow base e size v n xs) (k : Nat) (hk : v.ownBlock = some k) : base ≤ k ∧ k < w.heap.size ∧ ∃ cs, w.heap[k]? = some (.cells cs e (0, 0)) := by
  rcases h.2 with ⟨rfl, _⟩ | ⟨g, cap, cur, rfl, hb, hg, _⟩
  · simp [Value.ownBlock] at hk
  · simp only [Value.ownBlock, Option.some.injEq] at hk; subst hk; exact ⟨hb, blt hg, _, hg⟩
theorem orow_weaken {w : World} {base base' : Nat} {e : TypeId} {size n : Nat} {v : Value} {xs : List Value} (h : w.ownsRow base e size v n xs) (hb : base' ≤ base) : w.ownsRow base' e size v n xs := by
  refine ⟨h.1, ?_⟩
  rcases h.2 with h1 | ⟨g, cap, cur, hv, hb1, r⟩
  · exact .inl h1
  · exact .inr ⟨g, cap, cur, hv, Nat.le_trans hb hb1, r⟩
/-- A row stays owned where its block is left alone. -/
theorem orow_keep {w w' : World} {base : Nat} {e : TypeId} {size n : Nat} {v : Value} {xs : List Value} (h : w.ownsRow base e size v n xs) (hk : ∀ k, v.ownBlock = some k → w'.heap[k]? = w.heap[k]?) : w'.ownsRow base e size v n xs := by
  refine ⟨h.1, ?_⟩
  rcases h.2 with h1 | ⟨g, cap, cur, rfl, hb1, hg, r⟩
  · exact .inl h1
  · exact .inr ⟨g, cap, cur, rfl, hb1, by rw [hk g rfl]; exact hg, r⟩
theorem orow_fr {S : Nat → Prop} {w w' : World} {base : Nat} {e : TypeId} {size n : Nat} {v : Value} {xs : List Value} (h : w.ownsRow base e size v n xs) (hf : Fr S w w') (hs : ∀ k, v.ownBlock = some k → ¬ S k) : w'.ownsRow base e size v n xs :=
  orow_keep h fun k hk => hf.block k (orow_blk h k hk).2.1 (hs k hk)
/-- Another type of elements: another block. -/
theorem orow_ne {w : World} {base g : Nat} {e t : TypeId} {size n : Nat} {v : Value} {xs : List Value} {cs : Array Value} {f : Nat × Nat} (h : w.ownsRow base e size v n xs) (hg : w.heap[g]? = some (.cells cs t f)) (hne : e ≠ t) : v.ownBlock ≠ some g := by
  intro hk; obtain ⟨_, _, cs', h'⟩ := orow_blk h g hk; rw [h'] at hg; simp at hg; exact hne hg.2.1
/-- From one element on the slice stands at the head of a block. -/
theorem orow_pos {w : World} {base : Nat} {e : TypeId} {size n : Nat} {v : Value} {xs : List Value} (h : w.ownsRow base e size v n xs) (hn : 0 < n) : ∃ g cap cur, v = .slice (some ⟨g, 0, none⟩) n cap ∧ base ≤ g ∧ w.heap[g]? = some (.cells cur e (0, 0)) ∧ n ≤ cap ∧ cap ≤ maxLen ∧ cur.size = cap * size ∧ cur.toList.take (n * size) = xs := by
  rcases h.2 with ⟨_, h1⟩ | h1
  · omega
  · exact h1

theorem orow_below {w w' : World} {base : Nat} {e : TypeId} {size n : Nat} {v : Value} {xs : List Value} (h : w.ownsRow base e size v n xs) (hb : Below w.heap.size w w') : w'.ownsRow base e size v n xs :=
  orow_keep h fun k hk => hb.block k (orow_blk h k hk).2.1
theorem orow_alloc {w : World} {base : Nat} {e : TypeId} {size n : Nat} {v : Value} {xs : List Value} (h : w.ownsRow base e size v n xs) (o : Obj) : (w.alloc o).ownsRow base e size v n xs :=
  orow_below h (below_alloc (Below.refl _ _) o)
/-- 'make([]T, n)', T of one cell. -/
theorem orow_made (W : World) (base : Nat) (e : TypeId) (z : Value) (n : Nat) (hb : base ≤ W.heap.size) (hn : n ≤ maxLen) :
    (W.alloc (.cells (madeCells #[z] n) e)).ownsRow base e 1 (.slice (some ⟨W.heap.size, 0, none⟩) n n) n (List.replicate n z) := by
  have h := World.ownsRow_lit (base := base) (e := e) (size := 1) W (madeCells #[z] n) n hb hn (by simp [size_madeCells])
  rwa [toList_madeCells_one] at h

/-! ### rows of one-cell elements, by an encoding -/
section
variable {α : Type} (enc : α → Value)
theorem orow_cell {w : World} {base g n c : Nat} {e : TypeId} {xs : List α} (h : w.ownsRow base e 1 (.slice (some ⟨g, 0, none⟩) n c) n (xs.map enc)) (d : α) (i : Nat) (hi : i < n) : w.cell? ⟨g, i, none⟩ = some (enc (xs.getD i d)) := by
  have hl : xs.length = n := by have := h.1; simpa using this
  rw [h.cellAt i (by simpa using hi), List.getElem?_map, List.getD_eq_getElem?_getD, List.getElem?_eq_getElem (by omega)]; rfl
theorem orow_froz {w : World} {base g n c : Nat} {e : TypeId} {size : Nat} {xs : List Value} (h : w.ownsRow base e size (.slice (some ⟨g, 0, none⟩) n c) n xs) (i : Nat) : w.frozen? ⟨g, i, none⟩ = false := by
  obtain ⟨_, _, cs, hb⟩ := orow_blk h g rfl; exact bfroz hb i
theorem orow_store {w : World} {base g n c : Nat} {e : TypeId} {xs : List α} (h : w.ownsRow base e 1 (.slice (some ⟨g, 0, none⟩) n c) n (xs.map enc)) (i : Nat) (x : α) :
    (w.setCell ⟨g, i, none⟩ (enc x)).ownsRow base e 1 (.slice (some ⟨g, 0, none⟩) n c) n ((xs.set i x).map enc) := by
  refine ⟨by have := h.1; simpa using this, .inr ?_⟩
  rcases h.2 with ⟨h1, _⟩ | ⟨g', cap, cur, h1, hb, hg, hn, hm, hs, ht⟩
  · simp at h1
  · simp only [Value.slice.injEq, Option.some.injEq, Addr.mk.injEq, and_true, true_and] at h1
    obtain ⟨rfl, rfl⟩ := h1
    refine ⟨g, c, _, rfl, hb, bset hg i _, hn, hm, by simpa using hs, ?_⟩
    rw [Array.toList_setIfInBounds, List.take_set, ht, List.map_set]
end

/-! ### what a slice of one-cell elements reads as -/
section
variable {α : Type} {enc : α → Value} {d : α}
def Rd1 (enc : α → Value) (d : α) (w : World) (v : Value) (xs : List α) : Prop :=
  ∃ A c, v = .slice A xs.length c ∧ xs.length ≤ c ∧ (A = none → c = 0) ∧ (0 < xs.length → ∃ g o, A = some ⟨g, o, none⟩ ∧ ∀ i, i < xs.length → w.cell? ⟨g, o + i, none⟩ = some (enc (xs.getD i d)))
theorem Rd1.nil {w : World} : Rd1 enc d w (.slice none 0 0) [] := ⟨none, 0, rfl, Nat.le_refl _, fun _ => rfl, fun h => by simp at h⟩
theorem Rd1.of_own {w : World} {base n : Nat} {e : TypeId} {v : Value} {xs : List α} (h : w.ownsRow base e 1 v n (xs.map enc)) : Rd1 enc d w v xs := by
  have hl : xs.length = n := by have := h.1; simpa using this
  subst hl
  rcases h.2 with ⟨rfl, h1⟩ | ⟨g, cap, cur, rfl, _, _, hn, _⟩
  · rw [List.eq_nil_of_length_eq_zero h1]; exact Rd1.nil
  · exact ⟨_, cap, rfl, hn, fun e => (by cases e), fun _ => ⟨g, 0, rfl, fun i hi => by rw [Nat.zero_add]; exact orow_cell _ h d i hi⟩⟩
theorem Rd1.fr {S : Nat → Prop} {w w' : World} {v : Value} {xs : List α} (h : Rd1 enc d w v xs) (hf : Fr S w w') (hs : ∀ k, v.ownBlock = some k → ¬ S k) : Rd1 enc d w' v xs := by
  obtain ⟨A, c, rfl, hc, hn, hh⟩ := h
  refine ⟨A, c, rfl, hc, hn, fun h0 => ?_⟩
  obtain ⟨g, o, rfl, hq⟩ := hh h0
  exact ⟨g, o, rfl, fun i hi => hf.cell (hq i hi) (hs g rfl)⟩
theorem Rd1.below {w w' : World} {v : Value} {xs : List α} (h : Rd1 enc d w v xs) (hb : Below w.heap.size w w') : Rd1 enc d w' v xs := h.fr (Fr.of_below (S := NoB) hb) fun _ _ => id
theorem Rd1.form {w : World} {v : Value} {xs : List α} (h : Rd1 enc d w v xs) : ∃ A c, v = .slice A xs.length c ∧ xs.length ≤ c := by
  obtain ⟨A, c, rfl, hc, _⟩ := h
  exact ⟨A, c, rfl, hc⟩
theorem Rd1.at {w : World} {A : Option Addr} {n c : Nat} {xs : List α} (h : Rd1 enc d w (.slice A n c) xs) (i : Nat) (hi : i < xs.length) : ∃ g o, A = some ⟨g, o, none⟩ ∧ w.cell? ⟨g, o + i, none⟩ = some (enc (xs.getD i d)) := by
  obtain ⟨A', c', hv, _, _, hh⟩ := h
  obtain ⟨g, o, rfl, hq⟩ := hh (by omega)
  simp only [Value.slice.injEq] at hv
  exact ⟨g, o, hv.1, hq i hi⟩
/-- What stands in a literal. -/
theorem Rd1.lit {w : World} {g n c : Nat} {t : TypeId} {f : Nat × Nat} {cs : Array Value} {xs : List α} (hb : w.heap[g]? = some (.cells cs t f)) (hn : n = xs.length) (hc : n ≤ c) (hx : ∀ i, i < xs.length → cs[i]? = some (enc (xs.getD i d))) : Rd1 enc d w (.slice (some ⟨g, 0, none⟩) n c) xs := by
  subst hn
  exact ⟨_, c, rfl, hc, fun e => (by cases e), fun _ => ⟨g, 0, rfl, fun i hi => by rw [Nat.zero_add, cell_of_row w g i cs t f hb, hx i hi]⟩⟩
end

/-! ### what a slice of structs reads as: sz cells an element -/
section
variable {α : Type} {sz : Nat} {enc : α → List Value}
def RdS (sz : Nat) (enc : α → List Value) (w : World) (v : Value) (xs : List α) : Prop :=
  ∃ A c, v = .slice A xs.length c ∧ xs.length ≤ c ∧ (A = none → c = 0) ∧ (0 < xs.length → ∃ g o, A = some ⟨g, o, none⟩ ∧ ∀ i x, xs[i]? = some x → ∀ j u, (enc x)[j]? = some u → w.cell? ⟨g, o + i * sz + j, none⟩ = some u)
theorem RdS.fr {S : Nat → Prop} {w w' : World} {v : Value} {xs : List α} (h : RdS sz enc w v xs) (hf : Fr S w w') (hs : ∀ k, v.ownBlock = some k → ¬ S k) : RdS sz enc w' v xs := by
  obtain ⟨A, c, rfl, hc, hn, hh⟩ := h
  refine ⟨A, c, rfl, hc, hn, fun h0 => ?_⟩
  obtain ⟨g, o, rfl, hq⟩ := hh h0
  exact ⟨g, o, rfl, fun i x hx j u hu => hf.cell (hq i x hx j u hu) (hs g rfl)⟩
theorem RdS.below {w w' : World} {v : Value} {xs : List α} (h : RdS sz enc w v xs) (hb : Below w.heap.size w w') : RdS sz enc w' v xs := h.fr (Fr.of_below (S := NoB) hb) fun _ _ => id
theorem RdS.form {w : World} {v : Value} {xs : List α} (h : RdS sz enc w v xs) : ∃ A c, v = .slice A xs.length c ∧ xs.length ≤ c := by
  obtain ⟨A, c, rfl, hc, _⟩ := h
  exact ⟨A, c, rfl, hc⟩
theorem RdS.at {w : World} {A : Option Addr} {n c : Nat} {xs : List α} (h : RdS sz enc w (.slice A n c) xs) (i : Nat) (hi : i < xs.length) : ∃ g o, A = some ⟨g, o, none⟩ ∧ ∀ j u, (enc xs[i])[j]? = some u → w.cell? ⟨g, o + i * sz + j, none⟩ = some u := by
  obtain ⟨A', c', hv, _, _, hh⟩ := h
  obtain ⟨g, o, rfl, hq⟩ := hh (by omega)
  simp only [Value.slice.injEq] at hv
  exact ⟨g, o, hv.1, hq i _ (List.getElem?_eq_getElem hi)⟩
end
/-- Quiet calls whose contract says 'w = w''. -/
theorem quiet_left {P : Program} {f : FuncId} {args : Array Value} {w : World} {n : Nat} {v : Value}
    (h : Calls P f args (w.drewN n) fun e w' => e = .returned v ∧ w.drewN n = w') : Calls P f args (w.drewN n) fun e w' => e = .returned v ∧ ∃ m, w' = w.drewN m :=
  h.mono fun _ _ ⟨he, hm⟩ => ⟨he, n, hm.symm⟩
theorem quiet_add_left {P : Program} {f : FuncId} {args : Array Value} {w : World} {a n : Nat} {v : Value}
    (h : Calls P f args (w.drewN (a + n)) fun e w' => e = .returned v ∧ w.drewN (a + n) = w') :
    Calls P f args (w.drewN (a + n)) fun e w'' => e = .returned v ∧ ∃ m, w'' = w.drewN (a + m) :=
  h.mono fun _ _ ⟨he, hm⟩ => ⟨he, n, hm.symm⟩
theorem Rd1.take {α : Type} {enc : α → Value} {d : α} {w : World} {A : Option Addr} {n c : Nat} {xs : List α} (h : Rd1 enc d w (.slice A n c) xs) (k : Nat) (hk : k ≤ n) : Rd1 enc d w (.slice A k c) (xs.take k) := by
  obtain ⟨A', c', hv, hc, hn, hh⟩ := h
  simp only [Value.slice.injEq] at hv
  obtain ⟨rfl, rfl, rfl⟩ := hv
  have hl : (xs.take k).length = k := by rw [List.length_take]; omega
  refine ⟨A, c, by rw [hl], by omega, hn, fun h0 => ?_⟩
  obtain ⟨g, o, rfl, hq⟩ := hh (by omega)
  refine ⟨g, o, rfl, fun i hi => ?_⟩
  rw [hq i (by omega)]
  simp [List.getD_eq_getElem?_getD, show i < k by omega]
/-- A cut from i to j: as the walk writes it. -/
theorem Rd1.cut {α : Type} {enc : α → Value} {d : α} {w : World} {g o n c : Nat} {xs : List α} (h : Rd1 enc d w (.slice (some ⟨g, o, none⟩) n c) xs) (i j : Nat) (hi : i < j) (hj : j ≤ n) : Rd1 enc d w (.slice (some ⟨g, o + i, none⟩) (j - i) (c - i)) ((xs.take j).drop i) := by
  obtain ⟨A', c', hv, hc, hn, hh⟩ := h
  simp only [Value.slice.injEq] at hv
  obtain ⟨rfl, rfl, rfl⟩ := hv
  have hl : ((xs.take j).drop i).length = j - i := by rw [List.length_drop, List.length_take]; omega
  refine ⟨_, c - i, by rw [hl], by omega, fun e => (by cases e), fun h0 => ?_⟩
  obtain ⟨g', o', he, hq⟩ := hh (by omega)
  simp only [Option.some.injEq, Addr.mk.injEq, and_true] at he
  obtain ⟨rfl, rfl⟩ := he
  refine ⟨g, o + i, rfl, fun k hk => ?_⟩
  rw [Nat.add_assoc, hq (i + k) (by omega)]
  simp [List.getD_eq_getElem?_getD, show i + k < j by omega]
/-- The cells of a literal that was just laid: for an append. -/
theorem newsLit {w : World} {g : Nat} (hg : w.heap.size = g) (ys : List Value) (t : TypeId) : ∀ j u, ys[j]? = some u → (w.alloc (.cells ys.toArray t)).cell? ((⟨g, 0, none⟩ : Addr).add j) = some u := by
  subst hg
  intro j u hu
  rw [Addr.add_lit, bcell (bnew w _), Nat.zero_add]
  simpa using hu
abbrev int3 (x : Int × Int × Int) : List Value := [.int .i64 x.1, .int .i64 x.2.1, .int .i64 x.2.2]
end Go.Proofs.Ythfcppflhkhpnaa

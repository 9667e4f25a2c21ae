/-
  The package rtu: Tick in one word; a framer whose blocks lie from B on.
-/
import Derived.Test.YtdgmaooioekmnaaRtu3
namespace Go.Proofs.Ytdgmaooioekmnaa
open Go.RowKit

def tickEnds (sil q : Int) (bs : List Int) : Bool := decide (0 < bs.length) && decide (sil ≤ q + 1)
def tickQ (sil q : Int) (bs : List Int) : Int := if tickEnds sil q bs then 0 else if 0 < bs.length then q + 1 else q
def tickBs (sil q : Int) (bs : List Int) : List Int := if tickEnds sil q bs then [] else bs
def tickOut (sil q : Int) (bs : List Int) : List Int := if tickEnds sil q bs then bs else []

theorem frTick (b : Nat) (sil q : Int) (vb : Value) (bs : List Int) (w : World) (h : FrAt w b sil q vb bs) :
    Calls Try.prog 10 #[.pointer (some ⟨b, 0, none⟩)] w fun e w' => ∃ r vb', e = .returned (.tuple #[r, .bool (tickEnds sil q bs)]) ∧ FrAt w' b sil (tickQ sil q bs) vb' (tickBs sil q bs) ∧
      w'.ownsRow 0 TB 1 r (tickOut sil q bs).length (u8s (tickOut sil q bs)) ∧ Fr (fun k => k = b) w w' ∧
      (∀ k, vb'.ownBlock = some k → vb.ownBlock = some k) ∧ (∀ k, r.ownBlock = some k → vb.ownBlock = some k) ∧ (∀ k, r.ownBlock = some k → vb'.ownBlock ≠ some k) := by
  have e0 : ∀ k, (Value.slice none 0 0).ownBlock = some k → vb.ownBlock = some k := fun k hk => by simp [Value.ownBlock] at hk
  have e1 : ∀ (v : Value) (k : Nat), (Value.slice none 0 0).ownBlock = some k → v.ownBlock ≠ some k := fun v k hk => by simp [Value.ownBlock] at hk
  by_cases h0 : 0 < bs.length
  · by_cases h1 : sil ≤ q + 1
    · have ht : tickEnds sil q bs = true := by simp [tickEnds, h0, h1]
      refine (frTick_ends b sil q vb bs w h h0 h1).mono ?_
      rintro e w' ⟨rfl, hf, hr, hfr⟩
      refine ⟨vb, .slice none 0 0, by rw [ht], ?_, ?_, hfr, e0, fun k hk => hk, fun k _ hk => ?_⟩
      · simp only [tickQ, tickBs, ht, if_true]; exact hf
      · simp only [tickOut, ht, if_true]; exact hr
      · simp [Value.ownBlock] at hk
    · have ht : tickEnds sil q bs = false := by simp [tickEnds, h1]
      refine (frTick_waits b sil q vb bs w h h0 (by omega)).mono ?_
      rintro e w' ⟨rfl, hf, hfr⟩
      refine ⟨.slice none 0 0, vb, by rw [ht], ?_, ?_, hfr, fun k hk => hk, e0, e1 vb⟩
      · simp only [tickQ, tickBs, ht, h0, if_true, Bool.false_eq_true, if_false]; exact hf
      · simp only [tickOut, ht, Bool.false_eq_true, if_false]; exact orow_nil _ _ _ _
  · obtain rfl : bs = [] := List.eq_nil_of_length_eq_zero (by omega)
    have ht : tickEnds sil q [] = false := by simp [tickEnds]
    refine (frTick_empty b sil q vb w h).mono ?_
    rintro e w' ⟨rfl, rfl⟩
    refine ⟨.slice none 0 0, vb, by rw [ht], ?_, ?_, Fr.refl _ _, fun k hk => hk, e0, e1 vb⟩
    · simp only [tickQ, tickBs, ht, Bool.false_eq_true, if_false, List.length_nil, Nat.lt_irrefl]; exact h
    · simp only [tickOut, ht, Bool.false_eq_true, if_false]; exact orow_nil _ _ _ _

/-- A framer, all its blocks from B on. -/
def FrB (B : Nat) (w : World) (b : Nat) (sil q : Int) (bs : List Int) : Prop := ∃ vb, FrAt w b sil q vb bs ∧ B ≤ b ∧ (∀ k, vb.ownBlock = some k → B ≤ k)
theorem FrB.below {B : Nat} {w w' : World} {b : Nat} {sil q : Int} {bs : List Int} (h : FrB B w b sil q bs) (hb : Below w.heap.size w w') : FrB B w' b sil q bs := by
  obtain ⟨vb, h1, h2, h3⟩ := h
  exact ⟨vb, h1.fr (Fr.of_below (S := NoB) hb) id (fun _ _ => id), h2, h3⟩
theorem FrB.size {B : Nat} {w : World} {b : Nat} {sil q : Int} {bs : List Int} (h : FrB B w b sil q bs) : B ≤ w.heap.size := by
  obtain ⟨vb, h1, h2, _⟩ := h; have := blt h1.str; omega
theorem byteB (B b : Nat) (sil q x : Int) (bs : List Int) (w : World) (h : FrB B w b sil q bs) :
    Calls Try.prog 9 #[.pointer (some ⟨b, 0, none⟩), .int .u8 x] w fun e w' => e = .returned (.tuple #[]) ∧ FrB B w' b sil 0 (byteF bs x) ∧ Below B w w' := by
  have hs := h.size
  obtain ⟨vb, h1, h2, h3⟩ := h
  refine (frByte b sil q x vb bs w h1).mono ?_
  rintro e w' ⟨rfl, vb', hf, hfr, hat⟩
  refine ⟨rfl, ⟨vb', hf, h2, fun k hk => ?_⟩, hfr.belowB hs (fun k hk => ?_)⟩
  · rcases hat k hk with h | h
    · exact h3 k h
    · omega
  · rcases hk with h | h
    · omega
    · exact h3 k h
theorem tickB (B b : Nat) (sil q : Int) (bs : List Int) (w : World) (h : FrB B w b sil q bs) :
    Calls Try.prog 10 #[.pointer (some ⟨b, 0, none⟩)] w fun e w' => ∃ r, e = .returned (.tuple #[r, .bool (tickEnds sil q bs)]) ∧ FrB B w' b sil (tickQ sil q bs) (tickBs sil q bs) ∧ Below B w w' ∧
      RdB w' r (tickOut sil q bs) := by
  have hs := h.size
  obtain ⟨vb, h1, h2, h3⟩ := h
  refine (frTick b sil q vb bs w h1).mono ?_
  rintro e w' ⟨r, vb', rfl, hf, hr, hfr, q1, q2, q3⟩
  exact ⟨r, rfl, ⟨vb', hf, h2, fun k hk => h3 k (q1 k hk)⟩, hfr.belowB hs (fun k hk => by omega), Rd1.of_own hr⟩
theorem pendB (B b : Nat) (sil q : Int) (bs : List Int) (w : World) (h : FrB B w b sil q bs) :
    Calls Try.prog 12 #[.pointer (some ⟨b, 0, none⟩)] w fun e w' => e = .returned (.int .i64 bs.length) ∧ w = w' := by
  obtain ⟨vb, h1, _, _⟩ := h
  exact frPending b sil q vb bs w h1
theorem newB (sil : Int) (w : World) (h : 1 ≤ sil ∧ sil ≤ 100) :
    Calls Try.prog 8 #[.int .i64 sil] w fun e w' => e = .returned (.tuple #[.pointer (some ⟨w.heap.size, 0, none⟩), .nilIface]) ∧ FrB w.heap.size w' w.heap.size sil 0 [] ∧ Below w.heap.size w w' := by
  refine (rtuNew_ok sil w h).mono ?_
  rintro e w' ⟨rfl, hf, rfl⟩
  exact ⟨rfl, ⟨_, hf, Nat.le_refl _, fun k hk => by simp [Value.ownBlock] at hk⟩, below_alloc (Below.refl _ _) _⟩
theorem FrB.lower {B B' : Nat} {w : World} {b : Nat} {sil q : Int} {bs : List Int} (h : FrB B w b sil q bs) (hB : B' ≤ B) : FrB B' w b sil q bs := by
  obtain ⟨vb, h1, h2, h3⟩ := h
  exact ⟨vb, h1, by omega, fun k hk => by have := h3 k hk; omega⟩
end Go.Proofs.Ytdgmaooioekmnaa

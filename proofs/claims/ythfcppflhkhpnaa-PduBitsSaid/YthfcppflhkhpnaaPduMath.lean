/-
  The package pdu: what its functions compute, without a program.
-/
import Derived.Test.YthfcppflhkhpnaaBase
namespace Go.Proofs.Ythfcppflhkhpnaa

/-- A function of coils or inputs. -/
def bitsB (fn : Int) : Bool := fn == 1 || fn == 2 || fn == 5 || fn == 15
def readsB (fn : Int) : Bool := decide (1 ≤ fn) && decide (fn ≤ 4)
def knownB (fn : Int) : Bool := (decide (1 ≤ fn) && decide (fn ≤ 6)) || fn == 15 || fn == 16
def mostN (fn : Int) : Int :=
  if fn = 1 then 2000 else if fn = 2 then 2000 else if fn = 3 then 125 else if fn = 4 then 125 else if fn = 5 then 1 else if fn = 6 then 1 else if fn = 15 then 1968 else if fn = 16 then 123 else 0
def highN (fn : Int) : Int := if bitsB fn = true then 1 else 65535
def okN (fn v : Int) : Bool := decide (0 ≤ v) && decide (v ≤ highN fn)
def numsB (fn n : Int) (l : List Int) : Bool := decide ((l.length : Int) = n) && l.all (okN fn)
def wantN (fn ct : Int) : Int := if readsB fn = true then 0 else ct
def mayB (fn st ct : Int) (vs : List Int) : Bool := decide (1 ≤ ct) && decide (ct ≤ mostN fn) && decide (0 ≤ st) && decide (st ≤ 65536 - ct) && numsB fn (wantN fn ct) vs

theorem mostN_le (fn : Int) : 0 ≤ mostN fn ∧ mostN fn ≤ 2000 := by unfold mostN; repeat' split <;> omega
theorem mostN_known {fn : Int} (h : 1 ≤ mostN fn) : knownB fn = true := by
  unfold mostN at h
  unfold knownB
  by_cases h1 : fn = 1; · subst h1; rfl
  by_cases h2 : fn = 2; · subst h2; rfl
  by_cases h3 : fn = 3; · subst h3; rfl
  by_cases h4 : fn = 4; · subst h4; rfl
  by_cases h5 : fn = 5; · subst h5; rfl
  by_cases h6 : fn = 6; · subst h6; rfl
  by_cases h15 : fn = 15; · subst h15; rfl
  by_cases h16 : fn = 16; · subst h16; rfl
  rw [if_neg h1, if_neg h2, if_neg h3, if_neg h4, if_neg h5, if_neg h6, if_neg h15, if_neg h16] at h
  omega
theorem known_cases {fn : Int} (h : knownB fn = true) : fn = 1 ∨ fn = 2 ∨ fn = 3 ∨ fn = 4 ∨ fn = 5 ∨ fn = 6 ∨ fn = 15 ∨ fn = 16 := by
  unfold knownB at h
  simp only [Bool.or_eq_true, Bool.and_eq_true, decide_eq_true_eq, beq_iff_eq] at h
  omega
/-- What a request that may be is. -/
structure MayIs (fn st ct : Int) (vs : List Int) : Prop where
  ct1 : 1 ≤ ct
  ctm : ct ≤ mostN fn
  st0 : 0 ≤ st
  st9 : st ≤ 65536 - ct
  len : (vs.length : Int) = wantN fn ct
  all : ∀ v ∈ vs, 0 ≤ v ∧ v ≤ highN fn
theorem mayB_iff {fn st ct : Int} {vs : List Int} : mayB fn st ct vs = true ↔ MayIs fn st ct vs := by
  unfold mayB numsB
  simp only [Bool.and_eq_true, decide_eq_true_eq, List.all_eq_true, okN]
  constructor
  · rintro ⟨⟨⟨⟨a, b⟩, c⟩, d⟩, e, f⟩; exact ⟨a, b, c, d, e, f⟩
  · rintro ⟨a, b, c, d, e, f⟩; exact ⟨⟨⟨⟨a, b⟩, c⟩, d⟩, e, f⟩
theorem MayIs.known {fn st ct : Int} {vs : List Int} (h : MayIs fn st ct vs) : knownB fn = true := mostN_known (by have := h.ct1; have := h.ctm; omega)
theorem MayIs.ct2000 {fn st ct : Int} {vs : List Int} (h : MayIs fn st ct vs) : ct ≤ 2000 := by have := (mostN_le fn).2; have := h.ctm; omega
theorem highN_le (fn : Int) : 1 ≤ highN fn ∧ highN fn ≤ 65535 := by unfold highN; split <;> omega
theorem MayIs.vs2000 {fn st ct : Int} {vs : List Int} (h : MayIs fn st ct vs) : vs.length ≤ 2000 := by
  have h1 := h.ct2000; have h2 := h.len; have h3 := h.ct1; unfold wantN at h2; split at h2 <;> omega
end Go.Proofs.Ythfcppflhkhpnaa

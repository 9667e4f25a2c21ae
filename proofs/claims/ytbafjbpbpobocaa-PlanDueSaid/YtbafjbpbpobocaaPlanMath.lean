/-
  What plan's Next tells, over lists alone.
-/
import Derived.Test.YtbafjbpbpobocaaBase
namespace Go.Proofs.Ytbafjbpbpobocaa
/-- Next, over the first k polls. -/
def nxt (du : List Int) (now : Int) : Nat → Nat × Bool
  | 0 => (0, false)
  | k + 1 => if du.getD k 0 ≤ now ∧ ((nxt du now k).2 = false ∨ du.getD k 0 < du.getD (nxt du now k).1 0) then (k, true) else nxt du now k
theorem nxt_lt (du : List Int) (now : Int) (k : Nat) : (nxt du now k).2 = true → (nxt du now k).1 < k := by
  induction k with
  | zero => simp [nxt]
  | succ k ih =>
    unfold nxt
    split
    · simp
    · intro h; have := ih h; omega
theorem nxt_is (du : List Int) (now : Int) (m : Nat) (h1 : du.getD m 0 ≤ now) (h2 : ∀ j, j < m → du.getD m 0 < du.getD j 0) (k : Nat) (hm : m < k) (h3 : ∀ j, m ≤ j → j < k → du.getD m 0 ≤ du.getD j 0) : nxt du now k = (m, true) := by
  induction k with
  | zero => omega
  | succ k ih =>
    by_cases e : m = k
    · subst e
      have hc : (nxt du now m).2 = false ∨ du.getD m 0 < du.getD (nxt du now m).1 0 := by
        by_cases hb : (nxt du now m).2 = true
        · exact .inr (h2 _ (nxt_lt du now m hb))
        · exact .inl (by simpa using hb)
      unfold nxt
      rw [if_pos ⟨h1, hc⟩]
    · have := ih (by omega) (fun j h h' => h3 j h (by omega))
      unfold nxt
      rw [this, if_neg]
      rintro ⟨_, h | h⟩
      · simp at h
      · have h4 := h3 k (by omega) (by omega)
        have h5 : du.getD k 0 < du.getD m 0 := h
        omega
theorem nxt_none (du : List Int) (now : Int) (k : Nat) (h : ∀ j, j < k → now < du.getD j 0) : nxt du now k = (0, false) := by
  induction k with
  | zero => rfl
  | succ k ih =>
    unfold nxt
    rw [ih (fun j hj => h j (by omega)), if_neg]
    rintro ⟨h1, _⟩
    have := h k (by omega)
    omega
/-- What Next tells: the first of the earliest. -/
theorem nxt_spec (du : List Int) (now : Int) (k : Nat) :
    ((nxt du now k).2 = true → (nxt du now k).1 < k ∧ du.getD (nxt du now k).1 0 ≤ now ∧ ∀ j, j < k → du.getD (nxt du now k).1 0 ≤ du.getD j 0 ∧ (j < (nxt du now k).1 → du.getD (nxt du now k).1 0 < du.getD j 0)) ∧
    ((nxt du now k).2 = false → (nxt du now k).1 = 0 ∧ ∀ j, j < k → now < du.getD j 0) := by
  induction k with
  | zero => simp [nxt]
  | succ k ih =>
    obtain ⟨i1, i2⟩ := ih
    unfold nxt
    generalize nxt du now k = r at *
    obtain ⟨b, ok⟩ := r
    simp only at *
    split
    · rename_i hc
      refine ⟨fun _ => ⟨by simp, hc.1, fun j hj => ?_⟩, fun h => by simp at h⟩
      simp only
      cases ok with
      | false =>
        by_cases e : j = k
        · subst e; exact ⟨by omega, fun h => by omega⟩
        · have := (i2 rfl).2 j (by omega)
          exact ⟨by omega, fun _ => by omega⟩
      | true =>
        have h4 : du.getD k 0 < du.getD b 0 := by rcases hc.2 with h | h; simp at h; exact h
        by_cases e : j = k
        · subst e; exact ⟨by omega, fun h => by omega⟩
        · have := ((i1 rfl).2.2 j (by omega)).1
          exact ⟨by omega, fun _ => by omega⟩
    · rename_i hc
      cases ok with
      | false =>
        refine ⟨fun h => by simp at h, fun _ => ⟨(i2 rfl).1, fun j hj => ?_⟩⟩
        by_cases e : j = k
        · subst e
          have h5 : ¬ du.getD j 0 ≤ now := fun h => hc ⟨h, .inl rfl⟩
          omega
        · exact (i2 rfl).2 j (by omega)
      | true =>
        refine ⟨fun _ => ⟨by have := (i1 rfl).1; simp only; omega, (i1 rfl).2.1, fun j hj => ?_⟩, fun h => by simp at h⟩
        by_cases e : j = k
        · subst e
          have h6 := (i1 rfl).2.1
          have h7 := (i1 rfl).1
          simp only
          refine ⟨?_, fun h => by omega⟩
          by_cases h5 : du.getD j 0 ≤ now
          · have h8 : ¬ du.getD j 0 < du.getD b 0 := fun h' => hc ⟨h5, .inr h'⟩
            omega
          · omega
        · exact (i1 rfl).2.2 j (by omega)
theorem nxt_zero (du : List Int) (now : Int) (k : Nat) : (nxt du now k).2 = false → (nxt du now k).1 = 0 := by
  induction k with
  | zero => simp [nxt]
  | succ k ih =>
    unfold nxt
    split
    · simp
    · exact ih

end Go.Proofs.Ytbafjbpbpobocaa

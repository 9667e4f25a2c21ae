/-
  Polls that are done one by one, over lists alone.
-/
import Derived.Test.YtbafjbpbpobocaaPlanMath
namespace Go.Proofs.Ytbafjbpbpobocaa

def fairDu (du ev : List Int) (met : List Bool) (now : Int) : List Int := (List.range ev.length).map fun j => if met.getD j false then now + ev.getD j 0 else du.getD j 0
theorem fairDu_length (du ev : List Int) (met : List Bool) (now : Int) : (fairDu du ev met now).length = ev.length := by simp [fairDu]
theorem fairDu_get (du ev : List Int) (met : List Bool) (now : Int) (j : Nat) (hj : j < ev.length) : (fairDu du ev met now).getD j 0 = if met.getD j false then now + ev.getD j 0 else du.getD j 0 := by
  rw [List.getD_eq_getElem?_getD, fairDu, List.getElem?_map, List.getElem?_range hj]; rfl
theorem ext_getD {a b : List Int} (hl : a.length = b.length) (h : ∀ j, j < a.length → a.getD j 0 = b.getD j 0) : a = b := by
  apply List.ext_getElem hl
  intro j h1 h2
  have := h j h1
  rw [List.getD_eq_getElem?_getD, List.getD_eq_getElem?_getD, List.getElem?_eq_getElem h1, List.getElem?_eq_getElem h2] at this
  exact this
theorem getD_set {α : Type} (l : List α) (i j : Nat) (x d : α) (hi : i < l.length) : (l.set i x).getD j d = if i = j then x else l.getD j d := by
  rw [List.getD_eq_getElem?_getD, List.getElem?_set, List.getD_eq_getElem?_getD]
  by_cases e : i = j
  · subst e; rw [if_pos rfl, if_pos rfl, if_pos hi]; rfl
  · rw [if_neg e, if_neg e]
theorem fairDu_none (du ev : List Int) (now : Int) (h : du.length = ev.length) (n : Nat) : fairDu du ev (List.replicate n false) now = du := by
  apply ext_getD
  · rw [fairDu_length, h]
  · intro j hj
    rw [fairDu_length] at hj
    rw [fairDu_get _ _ _ _ _ hj, if_neg]
    simp [List.getD_eq_getElem?_getD, List.getElem?_replicate]
    split <;> simp
theorem fairDu_set (du ev : List Int) (met : List Bool) (now : Int) (i : Nat) (hm : met.length = ev.length) (hi : i < ev.length) : (fairDu du ev met now).set i (now + ev.getD i 0) = fairDu du ev (met.set i true) now := by
  apply ext_getD
  · rw [List.length_set, fairDu_length, fairDu_length]
  · intro j hj
    rw [List.length_set, fairDu_length] at hj
    rw [getD_set _ _ _ _ _ (by rw [fairDu_length]; exact hi), fairDu_get _ _ _ _ _ hj, fairDu_get _ _ _ _ _ hj, getD_set _ _ _ _ _ (by omega)]
    by_cases e : i = j
    · subst e; simp
    · simp [e]
/-- How many are true. -/
def cnt : List Bool → Nat
  | [] => 0
  | b :: l => b.toNat + cnt l
theorem cnt_le (l : List Bool) : cnt l ≤ l.length := by
  induction l with
  | nil => simp [cnt]
  | cons b l ih => cases b <;> simp [cnt] <;> omega
theorem cnt_lt (l : List Bool) (h : cnt l < l.length) : ∃ i, i < l.length ∧ l.getD i false = false := by
  induction l with
  | nil => simp [cnt] at h
  | cons b l ih =>
    cases b with
    | false => exact ⟨0, by simp, rfl⟩
    | true =>
      simp [cnt] at h
      obtain ⟨i, hi, he⟩ := ih (by omega)
      exact ⟨i + 1, by simpa using hi, by simpa using he⟩
theorem cnt_all (l : List Bool) (h : l.length ≤ cnt l) : ∀ i, i < l.length → l.getD i false = true := by
  induction l with
  | nil => intro i hi; simp at hi
  | cons b l ih =>
    have hle := cnt_le l
    cases b with
    | false => simp [cnt] at h; omega
    | true =>
      simp [cnt] at h
      intro i hi
      cases i with
      | zero => rfl
      | succ i => simpa using ih (by omega) i (by simpa using hi)
theorem cnt_set (l : List Bool) (i : Nat) (hi : i < l.length) (h : l.getD i false = false) : cnt (l.set i true) = cnt l + 1 := by
  induction l generalizing i with
  | nil => simp at hi
  | cons b l ih =>
    cases i with
    | zero => simp at h; subst h; simp [cnt]; omega
    | succ i =>
      simp at hi h
      have := ih i hi (by simpa using h)
      simp [cnt, this]; omega
theorem cnt_none (n : Nat) : cnt (List.replicate n false) = 0 := by
  induction n with
  | zero => rfl
  | succ n ih => simp [List.replicate_succ, cnt, ih]
theorem ev_pos {ev : List Int} (hev : ∀ n ∈ ev, 1 ≤ n ∧ n ≤ 10000) (j : Nat) (hj : j < ev.length) : 1 ≤ ev.getD j 0 ∧ ev.getD j 0 ≤ 10000 := by
  have hg : ev.getD j 0 = ev[j] := by rw [List.getD_eq_getElem?_getD, List.getElem?_eq_getElem hj]; rfl
  rw [hg]; exact hev _ (List.getElem_mem hj)
/-- A round: what Next tells is one that was not done. -/
theorem fair_round (du ev : List Int) (met : List Bool) (now : Int) (hm : met.length = ev.length) (hc : cnt met < ev.length) (hev : ∀ n ∈ ev, 1 ≤ n ∧ n ≤ 10000) (hdu : ∀ j, j < ev.length → du.getD j 0 ≤ now) :
    ∃ i, nxt (fairDu du ev met now) now ev.length = (i, true) ∧ i < ev.length ∧ met.getD i false = false ∧ (fairDu du ev met now).getD i 0 = du.getD i 0 ∧ ∀ j, j < ev.length → met.getD j false = false → du.getD i 0 ≤ du.getD j 0 := by
  obtain ⟨s1, s2⟩ := nxt_spec (fairDu du ev met now) now ev.length
  generalize nxt (fairDu du ev met now) now ev.length = r at *
  obtain ⟨b, ok⟩ := r
  simp only at s1 s2
  cases ok with
  | false =>
    obtain ⟨i, hi, he⟩ := cnt_lt met (by omega)
    have := (s2 rfl).2 i (by omega)
    rw [fairDu_get _ _ _ _ _ (by omega), he] at this
    have := hdu i (by omega)
    simp at *
    omega
  | true =>
    obtain ⟨h1, h2, h3⟩ := s1 rfl
    rw [fairDu_get _ _ _ _ _ h1] at h2
    have hp := ev_pos hev b h1
    have hb : met.getD b false = false := by
      cases hmb : met.getD b false with
      | false => rfl
      | true => rw [hmb] at h2; simp only [if_true] at h2; omega
    refine ⟨b, rfl, h1, hb, by rw [fairDu_get _ _ _ _ _ h1, hb]; rfl, fun j hj hmj => ?_⟩
    have := (h3 j hj).1
    rw [fairDu_get _ _ _ _ _ h1, fairDu_get _ _ _ _ _ hj, hb, hmj] at this
    exact this
theorem fair_end (du ev : List Int) (met : List Bool) (now : Int) (hm : met.length = ev.length) (hc : ev.length ≤ cnt met) (hev : ∀ n ∈ ev, 1 ≤ n ∧ n ≤ 10000) :
    nxt (fairDu du ev met now) now ev.length = (0, false) := by
  refine nxt_none _ _ _ fun j hj => ?_
  have hp := ev_pos hev j hj
  rw [fairDu_get _ _ _ _ _ hj, cnt_all met (by omega) j (by omega), if_pos rfl]
  omega
end Go.Proofs.Ytbafjbpbpobocaa

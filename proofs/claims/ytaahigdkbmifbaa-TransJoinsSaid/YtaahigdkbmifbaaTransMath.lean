/-
  Split and Feed in plain Lean: the segments of a fragment, one by one.
-/
import Derived.Test.YtaahigdkbmifbaaTransBounds
import Derived.Test.YtaahigdkbmifbaaTransHeads
namespace Go.Proofs.Ytaahigdkbmifbaa
open Go.RowKit

/-- The joiner ahead of segment i. -/
def jst (frag : List Int) (seq : Int) (s0 : JSt) (i : Nat) : JSt := if i = 0 then s0 else ⟨true, frag.take (249 * i), segF frag seq (i - 1)⟩
theorem segF_h (frag : List Int) (seq : Int) (i : Nat) : ((segF frag seq i).getD 0 0).toNat = segH frag.length seq i := by
  rw [segF_head]; simp
theorem firB_seg {frag : List Int} {seq : Int} {i : Nat} : firB ((segF frag seq i).getD 0 0).toNat = decide (i = 0) := by
  rw [segF_h]
  have hlt := segH_lt frag.length seq i
  unfold firB
  rw [and64_all _ hlt]
  unfold segH
  by_cases h : i = 0
  · simp only [if_pos h, decide_eq_decide]
    refine ⟨fun _ => h, fun _ => ?_⟩
    split <;> omega
  · simp only [if_neg h, decide_eq_decide]
    refine ⟨fun h2 => ?_, fun h2 => absurd h2 h⟩
    exfalso; revert h2
    split <;> omega
theorem finB_seg {frag : List Int} {seq : Int} {i : Nat} : finB ((segF frag seq i).getD 0 0).toNat = decide (¬ 249 * i + 249 < frag.length) := by
  rw [segF_h]
  have hlt := segH_lt frag.length seq i
  unfold finB
  rw [and128_all _ hlt]
  unfold segH
  by_cases h : 249 * i + 249 < frag.length
  · simp only [if_pos h, decide_eq_decide]
    refine ⟨fun h2 => ?_, fun h2 => absurd h h2⟩
    exfalso; revert h2
    split <;> omega
  · simp only [if_neg h, decide_eq_decide]
    refine ⟨fun _ => h, fun _ => ?_⟩
    split <;> omega
theorem num_seg (n : Nat) (seq : Int) (i : Nat) : segH n seq i % 64 = ((seq + i) % 64).toNat := by
  unfold segH
  split <;> split <;> omega
theorem segF_sz {frag : List Int} {seq : Int} {i : Nat} (hi : i < segN frag.length) : 2 ≤ (segF frag seq i).length ∧ (segF frag seq i).length ≤ 250 := by
  rw [segF_len]; unfold segN at hi; omega
theorem segF_ne {frag : List Int} {seq : Int} {i j : Nat} (h : i < j) (h2 : j < i + 64) : segF frag seq j ≠ segF frag seq i := by
  intro e
  have := congrArg (fun x => (x.getD 0 0).toNat % 64) e
  simp only [segF_h, num_seg] at this
  omega
theorem take_drop_seg (frag : List Int) (seq : Int) (i : Nat) : frag.take (249 * i) ++ (segF frag seq i).drop 1 = frag.take (249 * (i + 1)) := by
  show frag.take (249 * i) ++ (frag.take (min (249 * i + 249) frag.length)).drop (249 * i) = _
  have h : frag.take (min (249 * i + 249) frag.length) = frag.take (249 * (i + 1)) := by
    rw [show 249 * (i + 1) = 249 * i + 249 by omega]
    by_cases h : 249 * i + 249 ≤ frag.length
    · rw [Nat.min_eq_left h]
    · rw [Nat.min_eq_right (by omega), List.take_of_length_le (Nat.le_refl _), List.take_of_length_le (by omega)]
  rw [h]
  have h2 : frag.take (249 * i) = (frag.take (249 * (i + 1))).take (249 * i) := by rw [List.take_take, Nat.min_eq_left (by omega)]
  rw [h2]
  exact List.take_append_drop _ _

/-- A segment that is not the last. -/
theorem feed_mid {frag : List Int} {seq : Int} {s0 : JSt} {i : Nat} (h2 : frag.length ≤ 2048) (hi : i + 1 < segN frag.length) : feedF (jst frag seq s0 i) (segF frag seq i) = (jst frag seq s0 (i + 1), [], false) := by
  have hN := segN_le h2
  have hsz := segF_sz (frag := frag) (seq := seq) (i := i) (by omega)
  have hl : 249 * i + 249 < frag.length := by unfold segN at hi; omega
  unfold feedF
  rw [if_neg (fun h => h hsz), firB_seg, finB_seg]
  have hfin : decide (¬ 249 * i + 249 < frag.length) = false := decide_eq_false (by omega)
  rw [hfin]
  by_cases h0 : i = 0
  · subst h0
    simp [jst, JSt.took, JSt.empty]
    have := take_drop_seg frag seq 0
    simpa using this
  · have hj : jst frag seq s0 i = ⟨true, frag.take (249 * i), segF frag seq (i - 1)⟩ := if_neg h0
    rw [hj, decide_eq_false h0]
    simp only [Bool.false_eq_true, if_false]
    rw [if_neg, if_neg]
    · simp only [JSt.took, jst, if_neg (show ¬ i + 1 = 0 by omega), Nat.add_sub_cancel]
      rw [take_drop_seg]
    · rw [segF_h, segF_h, num_seg]
      have hp := num_seg frag.length seq (i - 1)
      simp only [List.length_take, segF_len]
      omega
    · intro h
      rcases h with h | h
      · cases h
      · exact segF_ne (i := i - 1) (j := i) (by omega) (by omega) h
/-- A segment that comes once more. -/
theorem feed_again {frag : List Int} {seq : Int} {s0 : JSt} {i : Nat} (h2 : frag.length ≤ 2048) (hi : i + 1 < segN frag.length) : feedF (jst frag seq s0 (i + 1)) (segF frag seq i) = (jst frag seq s0 (i + 1), [], false) := by
  by_cases h0 : i = 0
  · subst h0
    have := feed_mid (frag := frag) (seq := seq) (s0 := jst frag seq s0 1) (i := 0) h2 hi
    simpa [jst] using this
  · have hsz := segF_sz (frag := frag) (seq := seq) (i := i) (by omega)
    unfold feedF
    rw [if_neg (fun h => h hsz), firB_seg, decide_eq_false h0, if_neg (by simp), if_pos]
    right
    simp [jst]
/-- The last one. -/
theorem feed_end {frag : List Int} {seq : Int} {s0 : JSt} {i : Nat} (h1 : 1 ≤ frag.length) (h2 : frag.length ≤ 2048) (hi : i + 1 = segN frag.length) : feedF (jst frag seq s0 i) (segF frag seq i) = (JSt.empty, frag, true) := by
  have hN := segN_le h2
  have hsz := segF_sz (frag := frag) (seq := seq) (i := i) (by omega)
  have hl : ¬ 249 * i + 249 < frag.length := by unfold segN at hi; omega
  have hall : frag.take (249 * (i + 1)) = frag := List.take_of_length_le (by omega)
  unfold feedF
  rw [if_neg (fun h => h hsz), firB_seg, finB_seg]
  have hfin : decide (¬ 249 * i + 249 < frag.length) = true := decide_eq_true hl
  rw [hfin]
  have htd := take_drop_seg frag seq i
  by_cases h0 : i = 0
  · subst h0
    simp only [decide_true, if_true]
    rw [hall] at htd
    rw [show (segF frag seq 0).drop 1 = frag by simpa using htd]
  · have hj : jst frag seq s0 i = ⟨true, frag.take (249 * i), segF frag seq (i - 1)⟩ := if_neg h0
    rw [hj, decide_eq_false h0]
    simp only [Bool.false_eq_true, if_false, if_true]
    rw [if_neg, if_neg]
    · rw [htd, hall]
    · rw [segF_h, segF_h, num_seg]
      have hp := num_seg frag.length seq (i - 1)
      have hlen : 249 * (segN frag.length) < frag.length + 249 := by unfold segN; omega
      simp only [List.length_take, segF_len]
      omega
    · intro h
      rcases h with h | h
      · cases h
      · exact segF_ne (i := i - 1) (j := i) (by omega) (by omega) h

/-- The joiner that lacks segment q, ahead of segment i. -/
def kst (frag : List Int) (seq : Int) (q i : Nat) : JSt := if i ≤ q then jst frag seq JSt.empty i else if i = q + 1 then jst frag seq JSt.empty q else JSt.empty
theorem feed_lack {frag : List Int} {seq : Int} {q i : Nat} (h2 : frag.length ≤ 2048) (hq : q < segN frag.length) (hi : i < segN frag.length) (hne : i ≠ q) : (feedF (kst frag seq q i) (segF frag seq i)).1 = kst frag seq q (i + 1) ∧ (feedF (kst frag seq q i) (segF frag seq i)).2.2 = false := by
  have hN := segN_le h2
  have hsz := segF_sz (frag := frag) (seq := seq) hi
  by_cases hlt : i < q
  · have hk : kst frag seq q i = jst frag seq JSt.empty i := if_pos (by omega)
    have hk2 : kst frag seq q (i + 1) = jst frag seq JSt.empty (i + 1) := if_pos (by omega)
    rw [hk, hk2, feed_mid h2 (by omega)]
    exact ⟨rfl, rfl⟩
  · have hgt : q + 1 ≤ i := by omega
    have hk2 : kst frag seq q (i + 1) = JSt.empty := by unfold kst; rw [if_neg (by omega), if_neg (by omega)]
    rw [hk2]
    have hskip : ∀ s : JSt, s.op = false → feedF s (segF frag seq i) = (s, [], false) := by
      intro s hs
      unfold feedF
      rw [if_neg (fun h => h hsz), firB_seg, decide_eq_false (show ¬ i = 0 by omega), if_neg (by simp), if_pos (.inl hs)]
    by_cases he : i = q + 1
    · have hk : kst frag seq q i = jst frag seq JSt.empty q := by unfold kst; rw [if_neg (by omega), if_pos he]
      rw [hk]
      by_cases hq0 : q = 0
      · subst hq0
        rw [show jst frag seq JSt.empty 0 = JSt.empty from rfl, hskip _ rfl]
        exact ⟨rfl, rfl⟩
      · have hj : jst frag seq JSt.empty q = ⟨true, frag.take (249 * q), segF frag seq (q - 1)⟩ := if_neg hq0
        rw [hj]
        have : feedF ⟨true, frag.take (249 * q), segF frag seq (q - 1)⟩ (segF frag seq i) = (JSt.empty, [], false) := by
          unfold feedF
          rw [if_neg (fun h => h hsz), firB_seg, decide_eq_false (show ¬ i = 0 by omega), if_neg (by simp), if_neg, if_pos]
          · left
            rw [segF_h, segF_h, num_seg]
            have hp := num_seg frag.length seq (q - 1)
            omega
          · intro h
            rcases h with h | h
            · cases h
            · exact segF_ne (i := q - 1) (j := i) (by omega) (by omega) h
        rw [this]
        exact ⟨rfl, rfl⟩
    · have hk : kst frag seq q i = JSt.empty := by unfold kst; rw [if_neg (by omega), if_neg he]
      rw [hk, hskip _ rfl]
      exact ⟨rfl, rfl⟩
theorem kst_skip (frag : List Int) (seq : Int) (q : Nat) : kst frag seq q (q + 1) = kst frag seq q q := by
  unfold kst
  rw [if_neg (by omega), if_pos rfl, if_pos (Nat.le_refl _)]
end Go.Proofs.Ytaahigdkbmifbaa

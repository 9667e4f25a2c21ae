/-
  PlanStarts: the walk.
-/
import Derived.Test.YtbafjbpbpobocaaPlanFirst
namespace Go.Proofs.Ytbafjbpbpobocaa
open Go.RowKit

/-- What is due behind i rounds. -/
def stDu (ev : List Int) (now : Int) (i : Nat) : List Int := (List.range ev.length).map fun j => if j < i then now + ev.getD j 0 else 0
theorem stDu_length (ev : List Int) (now : Int) (i : Nat) : (stDu ev now i).length = ev.length := by simp [stDu]
theorem stDu_get (ev : List Int) (now : Int) (i j : Nat) (hj : j < ev.length) : (stDu ev now i).getD j 0 = if j < i then now + ev.getD j 0 else 0 := by
  rw [List.getD_eq_getElem?_getD, stDu, List.getElem?_map, List.getElem?_range hj]; rfl
theorem stDu_zero (ev : List Int) (now : Int) : stDu ev now 0 = List.replicate ev.length 0 := by
  apply List.ext_getElem
  · simp [stDu]
  · intro j h1 h2; simp [stDu]
theorem stDu_set (ev : List Int) (now : Int) (i : Nat) : (stDu ev now i).set i (now + ev.getD i 0) = stDu ev now (i + 1) := by
  apply List.ext_getElem
  · simp [stDu]
  · intro j h1 h2
    rw [List.getElem_set]
    by_cases e : i = j
    · subst e; rw [if_pos rfl]; simp [stDu]
    · rw [if_neg e]
      simp only [stDu, List.getElem_map, List.getElem_range]
      by_cases h3 : j < i
      · rw [if_pos h3, if_pos (by omega)]
      · rw [if_neg h3, if_neg (by omega)]
theorem good_of (ev : List Int) (h : planBad ev = false) : ev.length ≤ 16 ∧ ∀ n ∈ ev, 1 ≤ n ∧ n ≤ 10000 := by
  simp only [planBad, Bool.or_eq_false_iff, decide_eq_false_iff_not, List.any_eq_false, Bool.or_eq_true, decide_eq_true_eq] at h
  exact ⟨by omega, fun n hn => by have := h.2 n hn; omega⟩
theorem stDu_next (ev : List Int) (now : Int) (i : Nat) (h0 : 0 ≤ now) (hev : ∀ n ∈ ev, 1 ≤ n ∧ n ≤ 10000) (hi : i < ev.length) : nxt (stDu ev now i) now (stDu ev now i).length = (i, true) := by
  rw [stDu_length]
  refine nxt_is _ _ _ ?_ ?_ _ hi ?_
  · rw [stDu_get _ _ _ _ hi, if_neg (by omega)]; exact h0
  · intro j hj
    rw [stDu_get _ _ _ _ hi, if_neg (by omega), stDu_get _ _ _ _ (by omega), if_pos hj]
    have hg : ev.getD j 0 = ev[j]'(by omega) := by rw [List.getD_eq_getElem?_getD, List.getElem?_eq_getElem (by omega)]; rfl
    have := hev (ev[j]'(by omega)) (List.getElem_mem _)
    omega
  · intro j h1 h2
    rw [stDu_get _ _ _ _ hi, if_neg (by omega), stDu_get _ _ _ _ h2, if_neg (by omega)]
    exact Int.le_refl _
theorem zeros_next (n : Nat) : nxt (List.replicate n 0) 0 (List.replicate n (0 : Int)).length = (0, decide (0 < n)) := by
  cases n with
  | zero => rfl
  | succ n =>
    rw [nxt_is _ _ 0]
    · simp
    · simp
    · intro j hj; omega
    · simp
    · intro j _ hj; simp at hj; simp [List.getD_eq_getElem?_getD, hj]
theorem zeros_below (n : Nat) : nxt (List.replicate n 0) (-1) (List.replicate n (0 : Int)).length = (0, false) :=
  nxt_none _ _ _ fun j hj => by simp at hj; simp [List.getD_eq_getElem?_getD, hj]
theorem zeros_due (n i : Nat) (hi : i < n) : dueOf (List.replicate n 0) i = (0, true) := by
  unfold dueOf
  rw [if_pos (by simp; omega)]
  simp [List.getD_eq_getElem?_getD, hi]

set_option maxHeartbeats 1000000 in
theorem starts_true (v : Value) (ev : List Int) (now : Int) (w : World) (h : RdI w v ev) : Calls Try.prog 6 #[v, .int .i64 now] w fun e w' => e = .returned (.bool true) ∧ Below w.heap.size w w' := by
  obtain ⟨A, c, rfl, hc⟩ := h.form
  have Hr := Lib.hid h
  clear h
  by_cases h16 : 16 < ev.length
  · go_enter Try.func6, Try.ntmps6
    go_wp2_with fail
    refine (first_true _).mono ?_
    rintro e w1 ⟨rfl, hb1⟩
    go_wp2_with fail
    refine (first_true _).mono ?_
    rintro e w2 ⟨rfl, hb2⟩
    go_wp2_with fail
    go_ret
    exact ⟨rfl, below_next hb1 hb2⟩
  by_cases h0 : now < 0
  · go_enter Try.func6, Try.ntmps6
    go_wp2_with fail
    refine (first_true _).mono ?_
    rintro e w1 ⟨rfl, hb1⟩
    go_wp2_with fail
    refine (first_true _).mono ?_
    rintro e w2 ⟨rfl, hb2⟩
    go_wp2_with fail
    go_ret
    exact ⟨rfl, below_next hb1 hb2⟩
  by_cases h1 : 549755813888 < now
  · go_enter Try.func6, Try.ntmps6
    go_wp2_with fail
    refine (first_true _).mono ?_
    rintro e w1 ⟨rfl, hb1⟩
    go_wp2_with fail
    refine (first_true _).mono ?_
    rintro e w2 ⟨rfl, hb2⟩
    go_wp2_with fail
    go_ret
    exact ⟨rfl, below_next hb1 hb2⟩
  go_enter Try.func6, Try.ntmps6
  go_wp2_with fail
  refine (first_true _).mono ?_
  rintro e w1 ⟨rfl, hb1⟩
  have Hb1 := Lib.hid hb1
  clear hb1
  go_wp2_with fail
  refine (planNew _ ev _ (Hr.out.below Hb1.out) (by omega)).mono ?_
  rintro e w2 ⟨hb2, h⟩
  have Hb2 := Lib.hid (below_next Hb1.out hb2)
  rcases h with ⟨h, er, rfl⟩ | ⟨h, p, rfl, hp⟩
  · clear h hb2
    go_wp2_with (go_at_call 7; refine (first_true _).mono ?_; rintro e w3 ⟨rfl, hb3⟩)
    go_ret
    exact ⟨rfl, below_next Hb2.out hb3⟩
  · obtain ⟨_, hev⟩ := good_of ev h
    have Hev := Lib.hid hev
    obtain ⟨bp, ve, vd, rfl, hp, hbp, hve, hvd⟩ := hp
    have Hp := Lib.hid hp
    have hvd1 : ∀ k, vd.ownBlock = some k → w.heap.size ≤ k := fun k hk => Nat.le_trans Hb1.out.size (hvd k hk)
    have Hvd := Lib.hid hvd1
    have Hvl := Lib.hid (fun k hk => (orow_blk hp.own2 k hk).2.1)
    clear h hev hp hve hvd hbp hb2 hvd1
    go_wp2_with fail
    refine (planCopy _ _ _ _ _ _ Hp.out).mono ?_
    rintro e w3 ⟨q, rfl, hq, hb3⟩
    obtain ⟨bq, qe, qd, rfl, hq, hbq, hqe, hqd⟩ := hq
    have Hst := Lib.hid (show PlanAt w3 bp ve vd ev (stDu ev now 0) ∧ PlanAt w3 bq qe qd ev (List.replicate ev.length 0) ∧ Below w.heap.size w w3 from
      ⟨by rw [stDu_zero]; exact Hp.out.fr (Fr.of_below (S := NoB) hb3) id (fun _ _ => id) (fun _ _ => id), hq, below_next Hb2.out hb3⟩)
    have Hsep := Lib.hid (show (∀ k, vd.ownBlock = some k → k < w2.heap.size) ∧ w2.heap.size ≤ bq ∧ (∀ k, qe.ownBlock = some k → w2.heap.size ≤ k) ∧ (∀ k, qd.ownBlock = some k → w2.heap.size ≤ k) from ⟨Hvl.out, hbq, hqe, hqd⟩)
    clear hq hbq hqe hqd hb3
    have hpl : (stDu ev now 0).length = ev.length := stDu_length _ _ _
    have Hpl := Lib.hid hpl
    clear hpl
    go_wp2_with fail
    refine (planLen _ _ _ _ _ _ Hst.out.1).mono ?_
    rintro e w' ⟨rfl, rfl⟩
    rw [Hpl.out]
    go_wp2_with fail
    go_loopw [8] (fun t wr => ∃ k : Nat, k ≤ ev.length ∧ t = .int .i64 k ∧ PlanAt wr bp ve vd ev (stDu ev now k) ∧ PlanAt wr bq qe qd ev (List.replicate ev.length 0) ∧ Below w.heap.size w wr) (fun t _ => ev.length - (intOf t).toNat)
    case atStart => exact ⟨0, by omega, rfl, Hst.out⟩
    case round =>
      obtain ⟨k, hk, rfl, hp, hq, hbw⟩ := hrel
      have HP := Lib.hid hp
      have HQ := Lib.hid hq
      have Hbw := Lib.hid hbw
      clear hp hq hbw Hst Hp
      by_cases hlt : k < ev.length
      · have hn1 := Lib.hid (stDu_next ev now k (by omega) Hev.out hlt)
        have hd1 := Lib.hid (zeros_due ev.length k hlt)
        go_wp2_with fail
        refine (due_any _ _ _ _ _ _ _ HQ.out).mono ?_
        rintro e w' ⟨rfl, rfl⟩
        rw [hd1.out]
        go_wp2_with fail
        refine (next_any _ _ _ _ _ _ _ HP.out).mono ?_
        rintro e w' ⟨rfl, rfl⟩
        rw [hn1.out]
        go_wp2_with fail
        refine (done_ok _ _ _ _ _ _ _ _ HP.out ⟨by omega, by rw [stDu_length]; omega, by omega, by omega⟩ Hev.out).mono ?_
        rintro e w4 ⟨rfl, hp4, hf4⟩
        rw [Int.toNat_natCast, stDu_set] at hp4
        have HP4 := Lib.hid hp4
        have HQ4 := Lib.hid (HQ.out.fr hf4 (fun h => by have := Hsep.out.1 _ h; have := Hsep.out.2.1; omega) (fun k hk h => by have := Hsep.out.1 _ h; have := Hsep.out.2.2.1 _ hk; omega) (fun k hk h => by have := Hsep.out.1 _ h; have := Hsep.out.2.2.2 _ hk; omega))
        have Hb4 := Lib.hid (Hbw.out.trans (hf4.belowB Hbw.out.size Hvd.out))
        clear hp4 hf4
        go_wp2_with fail
        go_roundw
        case rel => exact ⟨k + 1, by omega, by go_num, HP4.out, HQ4.out, Hb4.out⟩
        case measure => simp [intOf]; omega
      · have hn1 := Lib.hid (zeros_next ev.length)
        have hn2 := Lib.hid (zeros_below ev.length)
        go_wp2_with fail
        refine (next_any _ _ _ _ _ _ _ HQ.out).mono ?_
        rintro e w' ⟨rfl, rfl⟩
        rw [hn1.out]
        go_wp2_with fail
        refine (next_any _ _ _ _ _ _ _ HQ.out).mono ?_
        rintro e w' ⟨rfl, rfl⟩
        rw [hn2.out]
        go_wp2_with fail
        refine (first_true _).mono ?_
        rintro e w5 ⟨rfl, hb5⟩
        go_wp2_with fail
        go_ret
        exact ⟨by simp, below_next Hbw.out hb5⟩
end Go.Proofs.Ytbafjbpbpobocaa

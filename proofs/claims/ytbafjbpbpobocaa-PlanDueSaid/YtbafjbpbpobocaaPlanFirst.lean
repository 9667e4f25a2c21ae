/-
  The chapter's examples hold: yardlaw9.first.
-/
import Derived.Test.YtbafjbpbpobocaaPlanCopy
namespace Go.Proofs.Ytbafjbpbpobocaa
open Go.RowKit

theorem NewPlan.at {B : Nat} {w : World} {v : Value} {ev du : List Int} (h : NewPlan B w v ev du) : ∃ b ve vd, v = .pointer (some ⟨b, 0, none⟩) ∧ PlanAt w b ve vd ev du ∧ B ≤ b ∧ (∀ k, ve.ownBlock = some k → B ≤ k) ∧ (∀ k, vd.ownBlock = some k → B ≤ k) := h
/-- Done on a plan whose blocks lie from B on. -/
theorem Fr.fromB {B : Nat} {vd : Value} {w w' : World} (h : Fr (fun k => vd.ownBlock = some k) w w') (hB : B ≤ w.heap.size) (hv : ∀ k, vd.ownBlock = some k → B ≤ k) : Below B w w' := h.belowB hB hv

set_option maxHeartbeats 800000 in
theorem first_true (w : World) : Calls Try.prog 7 #[] w fun e w' => e = .returned (.bool true) ∧ Below w.heap.size w w' := by
  have hrd : RdI (w.alloc (.cells #[.int .i64 5, .int .i64 3] TI)) (.slice (some ⟨w.heap.size, 0, none⟩) 2 2) [5, 3] :=
    Rd1.lit (bnew w _) rfl (Nat.le_refl _) fun i hi => by
      have hi' : i < 2 := hi
      match i, hi' with
      | 0, _ => rfl
      | 1, _ => rfl
  have Hrd := Lib.hid hrd
  clear hrd
  go_enter Try.func7, Try.ntmps7
  go_wp2_with fail
  refine (planNew _ [5, 3] _ Hrd.out (by decide)).mono ?_
  rintro e w1 ⟨hb1, h⟩
  have hbad : planBad [5, 3] = false := by decide
  rcases h with ⟨h, _⟩ | ⟨_, p, rfl, hp⟩
  · rw [hbad] at h; cases h
  obtain ⟨b, ve, vd, rfl, hp, hb, hve, hvd⟩ := hp
  replace hp : PlanAt w1 b ve vd [5, 3] [0, 0] := hp
  have Hp := Lib.hid hp
  have hb1 := below_next (below_alloc (Below.refl _ w) (.cells #[.int .i64 5, .int .i64 3] TI)) hb1
  have hsz : w.heap.size ≤ (w.alloc (.cells #[.int .i64 5, .int .i64 3] TI)).heap.size := by simp
  have Hb1 := Lib.hid hb1
  have Hvd := Lib.hid (fun k hk => Nat.le_trans hsz (hvd k hk))
  clear hp hb1 hb hbad hve hvd hsz
  go_wp2_with fail
  refine (next_any _ _ _ _ _ _ _ Hp.out).mono ?_
  rintro e w' ⟨rfl, rfl⟩
  rw [show nxt [0, 0] 0 ([0, 0] : List Int).length = (0, true) by decide]
  go_wp2_with fail
  refine (done_ok _ _ _ _ _ _ _ _ Hp.out (by unfold doneOk; decide) (by decide)).mono ?_
  rintro e w2 ⟨rfl, hp2, hf2⟩
  replace hp2 : PlanAt w2 b ve vd [5, 3] [5, 0] := hp2
  have Hp2 := Lib.hid hp2
  have Hb2 := Lib.hid (Hb1.out.trans (hf2.fromB Hb1.out.size Hvd.out))
  clear hp2 hf2
  go_wp2_with fail
  refine (next_any _ _ _ _ _ _ _ Hp2.out).mono ?_
  rintro e w' ⟨rfl, rfl⟩
  rw [show nxt [5, 0] 0 ([5, 0] : List Int).length = (1, true) by decide]
  go_wp2_with fail
  refine (done_ok _ _ _ _ _ _ _ _ Hp2.out (by unfold doneOk; decide) (by decide)).mono ?_
  rintro e w3 ⟨rfl, hp3, hf3⟩
  replace hp3 : PlanAt w3 b ve vd [5, 3] [5, 3] := hp3
  have Hp3 := Lib.hid hp3
  have Hb3 := Lib.hid (Hb2.out.trans (hf3.fromB Hb2.out.size Hvd.out))
  clear hp3 hf3
  go_wp2_with fail
  refine (next_any _ _ _ _ _ _ _ Hp3.out).mono ?_
  rintro e w' ⟨rfl, rfl⟩
  rw [show nxt [5, 3] 0 ([5, 3] : List Int).length = (0, false) by decide]
  go_wp2_with fail
  refine (next_any _ _ _ _ _ _ _ Hp3.out).mono ?_
  rintro e w' ⟨rfl, rfl⟩
  rw [show nxt [5, 3] 3 ([5, 3] : List Int).length = (1, true) by decide]
  go_wp2_with fail
  go_ret
  exact ⟨rfl, Hb3.out⟩
end Go.Proofs.Ytbafjbpbpobocaa

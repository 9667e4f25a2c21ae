/-
  The package plan: Copy.
-/
import Derived.Test.YtbafjbpbpobocaaPlan
namespace Go.Proofs.Ytbafjbpbpobocaa
open Go.RowKit
set_option maxHeartbeats 400000 in
theorem planCopy (b : Nat) (ve vd : Value) (ev du : List Int) (w : World) (h : PlanAt w b ve vd ev du) :
    Calls Try.prog 12 #[.pointer (some ⟨b, 0, none⟩)] w fun e w' => ∃ p, e = .returned p ∧ NewPlan w.heap.size w' p ev du ∧ Below w.heap.size w w' := by
  have hlen := h.len
  have hmost := h.most
  have hl16 : du.length ≤ 16 := by omega
  have Hlen := Lib.hid hlen
  clear hlen
  obtain ⟨A1, c1, rfl, _⟩ := orow_form h.own1
  obtain ⟨A2, c2, rfl, _⟩ := orow_form h.own2
  have k0 := bcell h.str 0
  have k1 := bcell h.str 1
  simp only [List.getElem?_toArray, List.getElem?_cons_zero, List.getElem?_cons_succ] at k0 k1
  have hr1 := Lib.hid (show RdI w (.slice A1 ev.length c1) ev from Rd1.of_own h.own1)
  have hr2 := Lib.hid (show RdI w (.slice A2 du.length c2) du from Rd1.of_own h.own2)
  have hb := blt h.str
  clear h
  go_enter Try.func12, Try.ntmps12
  go_wp2_with fail
  go_region_held3 (fun w' => Below w.heap.size w w' ∧ w'.cell? ⟨b, 0, none⟩ = some (.slice A1 ev.length c1) ∧ w'.cell? ⟨b, 1, none⟩ = some (.slice A2 du.length c2)) ((go_split_ands; refine keep2 ?_ k0 k1; (repeat' (first | (with_reducible exact Below.refl _ _) | (with_reducible assumption) | (with_reducible refine below_alloc ?_ _) | (with_reducible refine Below.drew ?_) | (with_reducible refine below_drewN ?_ _) | (with_reducible exact below_next (by with_reducible assumption) (by with_reducible assumption))))))
    (first | (go_at_call_of 15 A1; refine (clone_any _ ev _ ((hr1).out.fr (Fr.of_below ?_) (fun _ _ => id)) (by omega)).mono ?_; (go_split_ands; (repeat' (first | (with_reducible exact Below.refl _ _) | (with_reducible assumption) | (with_reducible refine below_alloc ?_ _) | (with_reducible refine Below.drew ?_) | (with_reducible refine below_drewN ?_ _) | (with_reducible exact below_next (by with_reducible assumption) (by with_reducible assumption))))); rintro e x1 ⟨v', rfl, hown1, hb1⟩; obtain ⟨A', c', rfl, _⟩ := orow_form hown1) | (go_at_call_of 15 A2; refine (clone_any _ du _ ((hr2).out.fr (Fr.of_below ?_) (fun _ _ => id)) (by omega)).mono ?_; (go_split_ands; (repeat' (first | (with_reducible exact Below.refl _ _) | (with_reducible assumption) | (with_reducible refine below_alloc ?_ _) | (with_reducible refine Below.drew ?_) | (with_reducible refine below_drewN ?_ _) | (with_reducible exact below_next (by with_reducible assumption) (by with_reducible assumption))))); rintro e x2 ⟨v', rfl, hown2, hb2⟩; obtain ⟨A', c', rfl, _⟩ := orow_form hown2))
  go_wp2_with fail
  go_ret
  have hz := Nat.le_trans (show w.heap.size ≤ w.drew.heap.size from Nat.le_refl _) hb1.size
  refine ⟨_, rfl, newPlan_mk (B := w.heap.size) (w := x2) (Nat.le_trans hz hb2.size) (orow_below hown1 hb2) (orow_weaken hown2 hz) Hlen.out hmost ?_ rfl, by go_split_ands; (repeat' (first | (with_reducible exact Below.refl _ _) | (with_reducible assumption) | (with_reducible refine below_alloc ?_ _) | (with_reducible refine Below.drew ?_) | (with_reducible refine below_drewN ?_ _) | (with_reducible exact below_next (by with_reducible assumption) (by with_reducible assumption))))⟩
  intro k hk he
  have q1 := (orow_blk hown1 k hk).2.1
  have q2 := (orow_blk hown2 k he).1
  omega
end Go.Proofs.Ytbafjbpbpobocaa

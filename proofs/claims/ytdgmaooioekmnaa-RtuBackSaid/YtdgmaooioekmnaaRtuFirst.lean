/-
  The chapter's examples hold: yardlaw8.first.
-/
import Derived.Test.YtdgmaooioekmnaaRtu4
namespace Go.Proofs.Ytdgmaooioekmnaa
open Go.RowKit

theorem lit_rd {w : World} {g n : Nat} {xs : List Int} (hg : w.heap.size = g) (hn : n = xs.length) {t : TypeId} : RdB (w.alloc (.cells (u8s xs).toArray t)) (.slice (some ⟨g, 0, none⟩) n n) xs := by
  subst hg
  exact Rd1.lit (bnew w _) hn (Nat.le_refl _) fun i hi => by simp [List.getD_eq_getElem?_getD, List.getElem?_eq_getElem hi]
theorem exFrame : strOfNums (rtuFrame 1 [3, 0, 0, 0, 1]) = { data := #[1, 3, 0, 0, 0, 1, 132, 10] } := by kernel_rfl

set_option maxHeartbeats 1000000 in
theorem first_true (w : World) : Calls Try.prog 7 #[] w fun e w' => e = .returned (.bool true) ∧ Below w.heap.size w w' := by
  have hrd := lit_rd (w := w) (g := w.heap.size) (n := 5) (xs := [3, 0, 0, 0, 1]) (t := TB) rfl rfl
  have Hrd := Lib.hid hrd
  clear hrd
  go_enter Try.func7, Try.ntmps7
  go_wp2_with fail
  refine (rtuFrame_ok 1 _ [3, 0, 0, 0, 1] _ Hrd.out (by unfold IsB; decide) (by decide) (by decide) (by decide) (by decide)).mono ?_
  rintro e w1 ⟨v1, rfl, hown1, hb1⟩
  have Hb1 := Lib.hid (below_next (below_alloc (Below.refl _ w) _) hb1)
  have Hown1 := Lib.hid hown1
  have Hrd1 := Lib.hid (show RdB w1 v1 (rtuFrame 1 [3, 0, 0, 0, 1]) from Rd1.of_own hown1)
  clear hown1 hb1
  go_wp2_with fail
  refine (newB 2 _ (by decide)).mono ?_
  rintro e w2 ⟨rfl, hf2, hb2⟩
  have Hf2 := Lib.hid hf2
  have Hb2 := Lib.hid hb2
  clear hf2 hb2
  generalize hB : w1.heap.size = B at *
  have HB := Lib.hid hB
  clear hB
  go_wp2_with fail
  refine (byteB B B _ _ 1 _ _ Hf2.out).mono ?_
  rintro e w3 ⟨rfl, hf3, hb3⟩
  have Hf3 := Lib.hid (show FrB B w3 B 2 0 [1] from hf3)
  have Hb3 := Lib.hid (Hb2.out.trans hb3)
  clear hf3 hb3
  go_wp2_with fail
  refine (tickB B B _ _ _ _ Hf3.out).mono ?_
  rintro e w4 ⟨r4, rfl, hf4, hb4, hr4⟩
  rw [show tickEnds 2 0 [1] = false by decide]
  have Hf4 := Lib.hid (show FrB B w4 B 2 1 [1] from hf4)
  have Hb4 := Lib.hid (Hb3.out.trans hb4)
  clear hf4 hb4 hr4
  go_wp2_with fail
  refine (byteB B B _ _ 2 _ _ Hf4.out).mono ?_
  rintro e w5 ⟨rfl, hf5, hb5⟩
  have Hf5 := Lib.hid (show FrB B w5 B 2 0 [1, 2] from hf5)
  have Hb5 := Lib.hid (Hb4.out.trans hb5)
  clear hf5 hb5
  go_wp2_with fail
  refine (tickB B B _ _ _ _ Hf5.out).mono ?_
  rintro e w6 ⟨r6, rfl, hf6, hb6, hr6⟩
  rw [show tickEnds 2 0 [1, 2] = false by decide]
  have Hf6 := Lib.hid (show FrB B w6 B 2 1 [1, 2] from hf6)
  have Hb6 := Lib.hid (Hb5.out.trans hb6)
  clear hf6 hb6 hr6
  go_wp2_with fail
  refine (tickB B B _ _ _ _ Hf6.out).mono ?_
  rintro e w7 ⟨r7, rfl, hf7, hb7, hr7⟩
  rw [show tickEnds 2 1 [1, 2] = true by decide]
  have Hb7 := Lib.hid (Hb6.out.trans hb7)
  have Hr7 := Lib.hid (show RdB w7 r7 [1, 2] from hr7)
  clear hf7 hb7 hr7
  have hbw : Below w1.heap.size w1 w7 := by rw [HB.out]; exact Hb7.out
  have hcv := conv_bytes (Hrd1.out.below hbw)
  rw [exFrame] at hcv
  have Hbw := Lib.hid (below_next Hb1.out hbw)
  have hl := lit_rd (w := w7) (g := w7.heap.size) (n := 2) (xs := [1, 2]) (t := TB) rfl rfl
  have Hl := Lib.hid hl
  clear hbw hl
  go_wp2_with fail
  refine (bytesEq _ _ [1, 2] [1, 2] _ (Hr7.out.below (below_alloc (Below.refl _ _) _)) Hl.out (by unfold IsB; decide) (by unfold IsB; decide)).mono ?_
  rintro e w8 ⟨rfl, rfl⟩
  rw [show decide (([1, 2] : List Int) = [1, 2]) = true by decide]
  go_wp2_with fail
  go_ret
  exact ⟨rfl, below_alloc Hbw.out _⟩
end Go.Proofs.Ytdgmaooioekmnaa

/-
  The chapter's examples hold: yardlaw16.first.
-/
import Derived.Test.YtaahigdkbmifbaaSplit
namespace Go.Proofs.Ytaahigdkbmifbaa
open Go.RowKit

theorem lit_rd {w : World} {g n : Nat} {xs : List Int} (hg : w.heap.size = g) (hn : n = xs.length) {t : TypeId} : RdB (w.alloc (.cells (u8s xs).toArray t)) (.slice (some ⟨g, 0, none⟩) n n) xs := by
  subst hg
  exact Rd1.lit (bnew w _) hn (Nat.le_refl _) fun i hi => by simp [List.getD_eq_getElem?_getD, List.getElem?_eq_getElem hi]
theorem JAt.eq {w : World} {g : Nat} {s t : JSt} (h : JAt w g s) (e : s = t) : JAt w g t := e ▸ h
theorem OwnBs.eq {B : Nat} {w : World} {v : Value} {xs ys : List (List Int)} (h : OwnBs B w v xs) (e : xs = ys) : OwnBs B w v ys := e ▸ h
abbrev zeros250 : List Int := List.replicate 250 0
deriving instance DecidableEq for JSt
theorem exSplit : splitF zeros250 63 = [127 :: List.replicate 249 0, [128, 0]] := by decide +kernel

set_option maxRecDepth 20000 in
set_option maxHeartbeats 2000000 in
theorem first_true (w : World) : Calls Try.prog 9 #[] w fun e w' => e = .returned (.bool true) ∧ Below w.heap.size w w' := by
  obtain ⟨i, hi, hz0, hz1, hz2⟩ := info_parts infoB
  have hmk := run_make_rowN (P := Try.prog) TBs TB i (.int .u8 0) Try.underlying22 hi hz0 .i64 .i64 250 250 (Nat.le_refl _) (by rw [hz2]; omega) (by omega) w
  rw [hz1] at hmk
  have hown := orow_made w w.heap.size TB (.int .u8 0) 250 (Nat.le_refl _) (by unfold maxLen; omega)
  have Hrd := Lib.hid (show RdB (w.alloc (.cells (madeCells #[.int .u8 0] 250) TB)) (.slice (some ⟨w.heap.size, 0, none⟩) 250 250) zeros250 from Rd1.of_own (by simpa [u8s] using hown))
  have hb0 := Lib.hid (below_alloc (Below.refl _ w) (.cells (madeCells #[.int .u8 0] 250) TB))
  clear hown
  simp only [show (Value.int IntKind.u8 0).cells = #[Value.int IntKind.u8 0] from rfl, Nat.mul_one, show ((250 : Nat) : Int) = 250 from rfl] at hmk
  generalize w.alloc (.cells (madeCells #[.int .u8 0] 250) TB) = w0 at *
  go_enter Try.func9, Try.ntmps9
  go_wp2_with fail
  refine (split_ok _ zeros250 63 _ Hrd.out (by unfold IsB; decide) (by decide) (by decide)).mono ?_
  rintro e w1 ⟨v1, rfl, hown1, hb1⟩
  have hown1 := hown1.eq exSplit
  obtain ⟨A1, c1, rfl, _⟩ := hown1.form
  obtain ⟨g1, Ay, cy, rfl, ca0, hra0⟩ := hown1.at 0 (by decide)
  obtain ⟨g1', Az, cz, hg1, ca1, hra1⟩ := hown1.at 1 (by decide)
  simp only [Option.some.injEq, Addr.mk.injEq, and_true] at hg1
  subst hg1
  simp only [List.getD_cons_zero, List.getD_cons_succ, List.length_cons, List.length_replicate, List.length_nil, Nat.zero_add, Nat.reduceAdd] at ca0 ca1 hra0 hra1
  obtain ⟨ga, oa, rfl, cb0⟩ := (show RdB w1 (.slice Ay 250 cy) (127 :: List.replicate 249 0) from Rd1.of_own hra0).at 0 (by decide)
  obtain ⟨gb, ob, rfl, cb1⟩ := (show RdB w1 (.slice Az 2 cz) [128, 0] from Rd1.of_own hra1).at 0 (by decide)
  simp only [List.getD_cons_zero, Nat.add_zero] at cb0 cb1
  have Hb1 := Lib.hid (below_next hb0.out hb1)
  rw [show ((63 : Int) + segN zeros250.length) % 64 = 1 by decide]
  clear hown1 hra0 hra1 hb1
  go_wp2_with fail
  refine (transNew _).mono ?_
  rintro e w2 ⟨rfl, hj2, hb2⟩
  have hl := lit_rd (w := w2) (g := w2.heap.size) (n := 2) (xs := [197, 7]) (t := TB) rfl rfl
  have Hl := Lib.hid hl
  have Hj2 := Lib.hid (hj2.below (below_alloc (Below.refl _ w2) (.cells (u8s [197, 7]).toArray TB)))
  have Hbb2 := Lib.hid (below_alloc hb2 (.cells (u8s [197, 7]).toArray TB))
  clear hl hj2 hb2
  have Hca := Lib.hid (And.intro (And.intro ca0 ca1) (And.intro cb0 cb1))
  clear ca0 ca1 cb0 cb1
  go_wp2_with fail
  refine (feed_any _ _ _ _ [197, 7] Hj2.out Hl.out (by unfold IsB; decide)).mono ?_
  rintro e w3 ⟨r, rfl, hown3, hj3, hf3⟩
  have hown3 := orow_u8 hown3 (show _ = u8s [7] from congrArg u8s (by decide +kernel))
  have hj3 := hj3.eq (show _ = JSt.empty by decide +kernel)
  rw [show (feedF JSt.empty [197, 7]).2.2 = true by decide +kernel]
  have hb3 : Below w1.heap.size w1 w3 := Hbb2.out.trans (hf3.belowB Hbb2.out.size (fun k hk => Nat.le_of_eq hk.symm))
  obtain ⟨⟨ca0, ca1⟩, cb0, cb1⟩ := Hca.out
  have ca0 := below_cell hb3 ca0
  have ca1 := below_cell hb3 ca1
  have cb0 := below_cell hb3 cb0
  have cb1 := below_cell hb3 cb1
  have Hb3 := Lib.hid (below_next Hb1.out hb3)
  have hl := lit_rd (w := w3) (g := w3.heap.size) (n := 1) (xs := [7]) (t := TB) rfl rfl
  have Hl3 := Lib.hid hl
  have Hr3 := Lib.hid (show RdB (w3.alloc (.cells (u8s [7]).toArray TB)) r [7] from (show RdB w3 r [7] from Rd1.of_own hown3).below (below_alloc (Below.refl _ _) _))
  have Hj3 := Lib.hid (hj3.below (below_alloc (Below.refl _ w3) (.cells (u8s [7]).toArray TB)))
  clear hown3 hj3 hf3 hb3 hl
  go_wp2_with fail
  refine (bytesEq _ _ [7] [7] _ Hr3.out Hl3.out (by unfold IsB; decide) (by unfold IsB; decide)).mono ?_
  rintro e w4 ⟨rfl, rfl⟩
  rw [show decide (([7] : List Int) = [7]) = true by decide]
  go_wp2_with fail
  refine (jOpen _ _ _ Hj3.out).mono ?_
  rintro e w5 ⟨rfl, rfl⟩
  rw [show JSt.empty.op = false from rfl]
  go_wp2_with fail
  go_ret
  exact ⟨rfl, below_alloc Hb3.out _⟩
end Go.Proofs.Ytaahigdkbmifbaa

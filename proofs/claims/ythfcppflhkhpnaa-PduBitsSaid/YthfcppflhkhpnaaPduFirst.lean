/-
  The chapter's examples hold: yardlaw7.first.
-/
import Derived.Test.YthfcppflhkhpnaaPduExc
namespace Go.Proofs.Ythfcppflhkhpnaa
open Go.RowKit
set_option linter.unusedSimpArgs false

theorem lit_rd {w : World} {g n : Nat} {xs : List Int} (hg : w.heap.size = g) (hn : n = xs.length) {t : TypeId} : RdB (w.alloc (.cells (u8s xs).toArray t)) (.slice (some ⟨g, 0, none⟩) n n) xs := by
  subst hg
  exact Rd1.lit (bnew w _) hn (Nat.le_refl _) fun i hi => by simp [List.getD_eq_getElem?_getD, List.getElem?_eq_getElem hi]
theorem lit_rdI {w : World} {g n : Nat} {xs : List Int} (hg : w.heap.size = g) (hn : n = xs.length) {t : TypeId} : RdI (w.alloc (.cells (ints xs).toArray t)) (.slice (some ⟨g, 0, none⟩) n n) xs := by
  subst hg
  exact Rd1.lit (bnew w _) hn (Nat.le_refl _) fun i hi => by simp [List.getD_eq_getElem?_getD, List.getElem?_eq_getElem hi]
theorem exEnc1 : strOfNums (encodeL 3 107 3 []) = { data := #[3, 0, 107, 0, 3] } := by kernel_rfl
theorem exEnc2 : strOfNums (encodeL 15 19 10 [1, 0, 1, 1, 0, 0, 1, 1, 1, 0]) = { data := #[15, 0, 19, 0, 10, 2, 205, 1] } := by kernel_rfl
theorem exMay1 : MayIs 3 107 3 [] := mayB_iff.1 (by decide)
theorem exMay2 : MayIs 15 19 10 [1, 0, 1, 1, 0, 0, 1, 1, 1, 0] := mayB_iff.1 (by decide)

set_option maxRecDepth 20000 in
set_option maxHeartbeats 2000000 in
theorem first_true (w : World) : Calls Try.prog 11 #[] w fun e w' => e = .returned (.bool true) ∧ Below w.heap.size w w' := by
  have hbx := bnew w (.cells #[.int .i64 3, .int .i64 107, .int .i64 3, .slice none 0 0] TReq)
  have Hx := Lib.hid hbx
  have Hb0 := Lib.hid (below_alloc (Below.refl _ w) (.cells #[.int .i64 3, .int .i64 107, .int .i64 3, .slice none 0 0] TReq))
  clear hbx
  go_enter Try.func11, Try.ntmps11
  go_wp2_with fail
  generalize w.alloc (.cells #[.int .i64 3, .int .i64 107, .int .i64 3, .slice none 0 0] TReq) = w1 at *
  refine (Encode_ok 3 107 3 _ [] _ Rd1.nil exMay1).mono ?_
  rintro e w2 ⟨v2, rfl, hown2, hb2⟩
  have Hrd2 := Lib.hid (show RdB w2 v2 (encodeL 3 107 3 []) from Rd1.of_own hown2)
  have Hb2 := Lib.hid (below_next Hb0.out hb2)
  have Hx2 := Lib.hid ((hb2.block _ (blt Hx.out)).trans Hx.out)
  have Hl := Lib.hid (lit_rdI (w := w2) (g := w2.heap.size) (n := 10) (xs := [1, 0, 1, 1, 0, 0, 1, 1, 1, 0]) (t := TI) rfl rfl)
  have Hb3 := Lib.hid (below_alloc Hb2.out (.cells (ints [1, 0, 1, 1, 0, 0, 1, 1, 1, 0]).toArray TI))
  have Hx3 := Lib.hid (balloc Hx2.out (.cells (ints [1, 0, 1, 1, 0, 0, 1, 1, 1, 0]).toArray TI))
  have Hrd3 := Lib.hid (Hrd2.out.below (below_alloc (Below.refl _ _) (.cells (ints [1, 0, 1, 1, 0, 0, 1, 1, 1, 0]).toArray TI)))
  clear hown2 hb2
  go_wp2_with fail
  refine (Encode_ok 15 19 10 _ [1, 0, 1, 1, 0, 0, 1, 1, 1, 0] _ Hl.out exMay2).mono ?_
  rintro e w4 ⟨v4, rfl, hown4, hb4⟩
  have Hrd4 := Lib.hid (show RdB w4 v4 (encodeL 15 19 10 [1, 0, 1, 1, 0, 0, 1, 1, 1, 0]) from Rd1.of_own hown4)
  have Hrd2b := Lib.hid (Hrd3.out.below hb4)
  have Hb4 := Lib.hid (below_next Hb3.out hb4)
  have hx4 := (hb4.block _ (blt Hx3.out)).trans Hx3.out
  have k0 := bcell hx4 0
  have k1 := bcell hx4 1
  have k2 := bcell hx4 2
  have k3 := bcell hx4 3
  simp only [List.getElem?_toArray, List.getElem?_cons_zero, List.getElem?_cons_succ] at k0 k1 k2 k3
  have Hl4 := Lib.hid (lit_rd (w := w4) (g := w4.heap.size) (n := 2) (xs := [131, 2]) (t := TB) rfl rfl)
  have Hb5 := Lib.hid (below_alloc Hb4.out (.cells (u8s [131, 2]).toArray TB))
  have Hrd4c := Lib.hid (Hrd4.out.below (below_alloc (Below.refl _ _) (.cells (u8s [131, 2]).toArray TB)))
  have Hrd2c := Lib.hid (Hrd2b.out.below (below_alloc (Below.refl _ _) (.cells (u8s [131, 2]).toArray TB)))
  clear hown4 hb4 hx4
  go_wp2_with fail
  refine (read_exc 3 107 3 2 _ _ [] _ Rd1.nil exMay1 Hl4.out (by omega) (by omega)).mono ?_
  rintro e w6 ⟨rfl, hb6⟩
  have Hb7 := Lib.hid (below_alloc (below_next Hb5.out hb6) (.cells #[.int .i64 2, .slice none 0 0] TRep))
  have h2 := (Hrd2c.out.below hb6).below (below_alloc (Below.refl _ w6) (.cells #[.int .i64 2, .slice none 0 0] TRep))
  have h4 := (Hrd4c.out.below hb6).below (below_alloc (Below.refl _ w6) (.cells #[.int .i64 2, .slice none 0 0] TRep))
  have c1 := conv_bytes h2
  have c2 := conv_bytes h4
  rw [exEnc1] at c1
  rw [exEnc2] at c2
  clear hb6 h2 h4 k0 k1 k2 k3
  go_wp2_with fail
  go_ret
  exact ⟨rfl, Hb7.out⟩
end Go.Proofs.Ythfcppflhkhpnaa

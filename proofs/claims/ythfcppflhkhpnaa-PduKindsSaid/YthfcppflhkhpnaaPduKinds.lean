/-
  PduKinds: the walk.
-/
import Derived.Test.YthfcppflhkhpnaaPduFirst
import Derived.Test.YthfcppflhkhpnaaLaw
namespace Go.Proofs.Ythfcppflhkhpnaa
open Go.RowKit
set_option linter.unusedSimpArgs false

theorem encodeL_read {fn st ct : Int} (h : fn = 1 ∨ fn = 2 ∨ fn = 3 ∨ fn = 4) : encodeL fn st ct [] = [fn, st / 256, st % 256, ct / 256, ct % 256] := by
  rcases h with rfl | rfl | rfl | rfl <;> rfl

set_option maxRecDepth 100000 in
set_option maxHeartbeats 4000000 in
theorem kinds_true (fn st ct code : Int) (w : World) :
    Calls Try.prog 4 #[.int .i64 fn, .int .i64 st, .int .i64 ct, .int .i64 code] w fun e w' => e = .returned (.bool true) ∧ Below w.heap.size w w' := by
  go_enter Try.func4, Try.ntmps4
  go_wp2_with fail
  refine (first_true _).mono ?_
  rintro e w1 ⟨rfl, hb1⟩
  have hbx := bnew w1 (.cells #[.int .i64 fn, .int .i64 st, .int .i64 ct, .slice none 0 0] TReq)
  have Hb1 := Lib.hid (below_alloc hb1 (.cells #[.int .i64 fn, .int .i64 st, .int .i64 ct, .slice none 0 0] TReq))
  have Hx := Lib.hid hbx
  have k0 := bcell hbx 0
  have k1 := bcell hbx 1
  have k2 := bcell hbx 2
  have k3 := bcell hbx 3
  simp only [List.getElem?_toArray, List.getElem?_cons_zero, List.getElem?_cons_succ] at k0 k1 k2 k3
  clear hb1 hbx
  by_cases hf : fn < 1
  · go_wp2_with fail
    refine (first_true _).mono ?_
    rintro e w9 ⟨rfl, hb9⟩
    go_wp2_with fail
    go_ret
    exact ⟨rfl, below_next Hb1.out hb9⟩
  by_cases hf4 : 4 < fn
  · go_wp2_with fail
    refine (first_true _).mono ?_
    rintro e w9 ⟨rfl, hb9⟩
    go_wp2_with fail
    go_ret
    exact ⟨rfl, below_next Hb1.out hb9⟩
  have hfn : fn = 1 ∨ fn = 2 ∨ fn = 3 ∨ fn = 4 := by omega
  have Hfn := Lib.hid hfn
  have hg1 : 1 ≤ fn := by omega
  have hg4 : fn ≤ 4 := by omega
  clear hfn hf hf4
  go_wp2_with fail
  generalize w1.alloc (.cells #[.int .i64 fn, .int .i64 st, .int .i64 ct, .slice none 0 0] TReq) = w2 at *
  generalize w1.heap.size = gx at *
  refine (may_any fn st ct _ [] _ Rd1.nil (by simp)).mono ?_
  rintro e w3 ⟨rfl, hb3⟩
  have hx3 := (hb3.block _ (blt Hx.out)).trans Hx.out
  have Hx3 := Lib.hid hx3
  have Hb3 := Lib.hid (below_next Hb1.out hb3)
  clear k0 k1 k2 k3 hb3
  cases hmay : mayB fn st ct [] with
  | false =>
    clear hmay hx3
    go_wp2_with fail
    refine (first_true _).mono ?_
    rintro e w9 ⟨rfl, hb9⟩
    go_wp2_with fail
    go_ret
    exact ⟨rfl, below_next Hb3.out hb9⟩
  | true =>
    have hm := mayB_iff.1 hmay
    have Hm := Lib.hid hm
    have Hmay := Lib.hid hmay
    have hs0 := hm.st0
    have hs9 := hm.st9
    have hc1 := hm.ct1
    have hc2 := hm.ct2000
    have k0 := bcell hx3 0
    have k1 := bcell hx3 1
    have k2 := bcell hx3 2
    have k3 := bcell hx3 3
    simp only [List.getElem?_toArray, List.getElem?_cons_zero, List.getElem?_cons_succ] at k0 k1 k2 k3
    clear hm hmay hx3
    go_wp2_with fail
    refine (Encode_ok fn st ct _ [] _ Rd1.nil Hm.out).mono ?_
    rintro e w4 ⟨v4, rfl, hown4, hb4⟩
    rw [encodeL_read Hfn.out] at hown4
    obtain ⟨g4, c4, cur4, rfl, _, _, hc4, _⟩ := orow_pos hown4 (by simp)
    have b0 : w4.cell? ⟨g4, 0, none⟩ = some (.int .u8 fn) := orow_cell (Value.int .u8) hown4 0 0 (by simp)
    have b1 : w4.cell? ⟨g4, 1, none⟩ = some (.int .u8 (st / 256)) := orow_cell (Value.int .u8) hown4 0 1 (by simp)
    have b2 : w4.cell? ⟨g4, 2, none⟩ = some (.int .u8 (st % 256)) := orow_cell (Value.int .u8) hown4 0 2 (by simp)
    have b3 : w4.cell? ⟨g4, 3, none⟩ = some (.int .u8 (ct / 256)) := orow_cell (Value.int .u8) hown4 0 3 (by simp)
    have b4 : w4.cell? ⟨g4, 4, none⟩ = some (.int .u8 (ct % 256)) := orow_cell (Value.int .u8) hown4 0 4 (by simp)
    have hx4 := (hb4.block _ (blt Hx3.out)).trans Hx3.out
    have Hx4 := Lib.hid hx4
    have Hb4 := Lib.hid (below_next Hb3.out hb4)
    clear k0 k1 k2 k3
    have k0 := bcell hx4 0
    have k1 := bcell hx4 1
    have k2 := bcell hx4 2
    have k3 := bcell hx4 3
    simp only [List.getElem?_toArray, List.getElem?_cons_zero, List.getElem?_cons_succ] at k0 k1 k2 k3
    obtain ⟨s1, hs1⟩ : ∃ q, st / 256 = q := ⟨_, rfl⟩
    obtain ⟨s2, hs2⟩ : ∃ q, st % 256 = q := ⟨_, rfl⟩
    obtain ⟨t1, ht1⟩ : ∃ q, ct / 256 = q := ⟨_, rfl⟩
    obtain ⟨t2, ht2⟩ : ∃ q, ct % 256 = q := ⟨_, rfl⟩
    have z1 : 0 ≤ s1 ∧ s1 ≤ 255 ∧ 0 ≤ s2 ∧ s2 ≤ 255 ∧ 256 * s1 + s2 = st := by omega
    have z2 : 0 ≤ t1 ∧ t1 ≤ 255 ∧ 0 ≤ t2 ∧ t2 ≤ 255 ∧ 256 * t1 + t2 = ct := by omega
    rw [hs1] at b1
    rw [hs2] at b2
    rw [ht1] at b3
    rw [ht2] at b4
    clear hs1 hs2 ht1 ht2 hx4 hb4 hown4
    obtain ⟨a1, a2, a3, a4, a5⟩ := z1
    obtain ⟨e1, e2, e3, e4, e5⟩ := z2
    have hw0 : IntKind.i64.wrap fn = fn := IntWalk.i64_in _ (by omega)
    have hw1 : IntKind.i64.wrap s1 = s1 := IntWalk.i64_in _ (by omega)
    have hw2 : IntKind.i64.wrap s2 = s2 := IntWalk.i64_in _ (by omega)
    have hw3 : IntKind.i64.wrap t1 = t1 := IntWalk.i64_in _ (by omega)
    have hw4 : IntKind.i64.wrap t2 = t2 := IntWalk.i64_in _ (by omega)
    have hw5 : IntKind.i64.wrap (256 * s1) = 256 * s1 := IntWalk.i64_in _ (by omega)
    have hw6 : IntKind.i64.wrap (256 * t1) = 256 * t1 := IntWalk.i64_in _ (by omega)
    have hw7 : IntKind.i64.wrap (256 * s1 + s2) = 256 * s1 + s2 := IntWalk.i64_in _ (by omega)
    have hw8 : IntKind.i64.wrap (256 * t1 + t2) = 256 * t1 + t2 := IntWalk.i64_in _ (by omega)
    have n0 : (fn != fn) = false := bne_eq_false_iff_eq.2 rfl
    have n1 : ((256 * s1 + s2) != st) = false := bne_eq_false_iff_eq.2 a5
    have n2 : ((256 * t1 + t2) != ct) = false := bne_eq_false_iff_eq.2 e5
    clear a5 e5
    go_wp2_with fail
    go_quiet (fail)
    clear hw0 hw1 hw2 hw3 hw4 hw5 hw6 hw7 hw8 n0 n1 n2 b0 b1 b2 b3 b4
    by_cases hcd : 1 ≤ code ∧ code ≤ 255
    · obtain ⟨hd1, hd2⟩ := hcd
      go_wp2_with fail
      refine (Answer_code fn st ct code _ _ [] [] _ Rd1.nil Rd1.nil (by simp) (by simp) Hm.out (right_code hd1 hd2) (by omega)).mono ?_
      rintro e w5 ⟨v5, rfl, hown5, hb5⟩
      have e5 : answerL fn st ct [] code [] = [fn + 128, code] := by unfold answerL; rw [if_neg (by omega)]
      rw [e5] at hown5
      obtain ⟨g5, c5, cur5, rfl, _, _, hc5, _⟩ := orow_pos hown5 (by simp)
      have b0 : w5.cell? ⟨g5, 0, none⟩ = some (.int .u8 (fn + 128)) := orow_cell (Value.int .u8) hown5 0 0 (by simp)
      have b1 : w5.cell? ⟨g5, 1, none⟩ = some (.int .u8 code) := orow_cell (Value.int .u8) hown5 0 1 (by simp)
      have B0 := Lib.hid b0
      have B1 := Lib.hid b1
      have Hb5 := Lib.hid (below_next (below_drewN Hb4.out nq) hb5)
      clear hown5 hb5 e5 b0 b1 k0 k1 k2 k3
      go_wp2_with fail
      refine (first_true _).mono ?_
      rintro e w9 ⟨rfl, hb9⟩
      have b0 := below_cell hb9 B0.out
      have b1 := below_cell hb9 B1.out
      have Hb9 := Lib.hid (below_next Hb5.out hb9)
      clear hb9
      go_wp2_with fail
      go_ret
      exact ⟨rfl, Hb9.out⟩
    · have Hri := Lib.hid (show rightB fn ct code [] = false by
        by_cases h0 : code = 0
        · subst h0
          unfold rightB
          rw [if_neg (by rcases Hfn.out with rfl | rfl | rfl | rfl <;> decide)]
          simp [numsB]; omega
        · unfold rightB
          rw [if_pos (.inl (by rw [bne_iff_ne]; exact h0))]
          simp; omega)
      go_wp2_with fail
      refine (Answer_bad fn st ct code _ _ [] [] _ Rd1.nil Rd1.nil (by simp) (by simp) (.inr Hri.out)).mono ?_
      rintro e w5 ⟨er, rfl, her, hb5⟩
      obtain ⟨x, rfl⟩ := her.form
      have Hb5 := Lib.hid (below_next (below_drewN Hb4.out nq) hb5)
      clear her hb5 k0 k1 k2 k3
      by_cases hd : code < 1
      · go_wp2_with fail
        refine (first_true _).mono ?_
        rintro e w9 ⟨rfl, hb9⟩
        go_wp2_with fail
        go_ret
        exact ⟨rfl, below_next Hb5.out hb9⟩
      · have hd2 : 255 < code := by omega
        go_wp2_with fail
        refine (first_true _).mono ?_
        rintro e w9 ⟨rfl, hb9⟩
        go_wp2_with fail
        go_ret
        exact ⟨rfl, below_next Hb5.out hb9⟩
end Go.Proofs.Ythfcppflhkhpnaa

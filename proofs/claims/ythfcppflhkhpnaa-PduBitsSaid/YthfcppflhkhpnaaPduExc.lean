/-
  The package pdu: Read, an exception.
-/
import Derived.Test.YthfcppflhkhpnaaPduAns
namespace Go.Proofs.Ythfcppflhkhpnaa
open Go.RowKit
set_option linter.unusedSimpArgs false

theorem right_code {fn ct code : Int} (h1 : 1 ≤ code) (h2 : code ≤ 255) : rightB fn ct code [] = true := by
  unfold rightB
  rw [if_pos (.inl (by rw [bne_iff_ne]; omega))]
  simp; omega
theorem two_loads {W : World} {g : Nat} {t : TypeId} {a b x y : Value} (h : W.heap[g]? = some (.cells #[x, y] t (0, 0))) :
    ((W.setCell ⟨g, 0, none⟩ a).setCell ⟨g, 1, none⟩ b).cell? ⟨g, 0, none⟩ = some a ∧ ((W.setCell ⟨g, 0, none⟩ a).setCell ⟨g, 1, none⟩ b).cell? ⟨g, 1, none⟩ = some b := by
  have hq := bset (bset h 0 a) 1 b
  exact ⟨bcell hq 0, bcell hq 1⟩

set_option maxRecDepth 20000 in
set_option maxHeartbeats 2000000 in
theorem read_exc (fn st ct code : Int) (v u : Value) (vs : List Int) (w : World) (h : RdI w v vs) (hm : MayIs fn st ct vs) (hb : RdB w u [fn + 128, code]) (h1 : 1 ≤ code) (h2 : code ≤ 255) :
    Calls Try.prog 13 #[.agg #[.int .i64 fn, .int .i64 st, .int .i64 ct, v], u] w fun e w' => e = .returned (.tuple #[.agg #[.int .i64 code, .slice none 0 0], .nilIface]) ∧ Below w.heap.size w w' := by
  obtain ⟨A, c, rfl, hc⟩ := h.form
  obtain ⟨Ab, cb, rfl, hcb⟩ := hb.form
  obtain ⟨gu, ou, hA, d0⟩ := hb.at 0 (by simp)
  subst hA
  obtain ⟨_, _, hA1, d1⟩ := hb.at 1 (by simp)
  simp only [Option.some.injEq, Addr.mk.injEq, and_true] at hA1
  obtain ⟨rfl, rfl⟩ := hA1
  simp only [List.getD_cons_zero, List.getD_cons_succ, Nat.add_zero] at d0 d1
  have hk := known_cases hm.known
  have hf1 : 1 ≤ fn := by omega
  have hf2 : fn ≤ 16 := by omega
  have hbx := balloc (bnew w (.cells #[.int .i64 fn, .int .i64 st, .int .i64 ct, .slice A vs.length c] TReq)) (.cells #[.int .i64 0, .slice none 0 0] TRep)
  have hby := bnew (w.alloc (.cells #[.int .i64 fn, .int .i64 st, .int .i64 ct, .slice A vs.length c] TReq)) (.cells #[.int .i64 0, .slice none 0 0] TRep)
  have Hb0 := Lib.hid (below_alloc (below_alloc (Below.refl _ w) (.cells #[.int .i64 fn, .int .i64 st, .int .i64 ct, .slice A vs.length c] TReq)) (.cells #[.int .i64 0, .slice none 0 0] TRep))
  have Hr := Lib.hid (h.below Hb0.out)
  have Hu := Lib.hid (hb.below Hb0.out)
  have Hx := Lib.hid hbx
  simp only [heap_size_alloc] at hby
  have Hy := Lib.hid hby
  have D0 := Lib.hid d0
  have D1 := Lib.hid d1
  have Hm := Lib.hid hm
  have Hmb := Lib.hid (mayB_iff.2 hm)
  have hvs := hm.vs2000
  have Hib := Lib.hid (show IsB [fn + 128, code] by intro x hx; simp only [List.mem_cons, List.not_mem_nil, or_false] at hx; rcases hx with rfl | rfl <;> omega)
  clear hbx hby h hb d0 d1 hm hk
  go_enter Try.func13, Try.ntmps13
  go_wp2_with fail
  have Hlt := Lib.hid (show ((w.alloc (.cells #[.int .i64 fn, .int .i64 st, .int .i64 ct, .slice A vs.length c] TReq)).alloc (.cells #[.int .i64 0, .slice none 0 0] TRep)).heap.size = w.heap.size + 2 by simp)
  generalize (w.alloc (.cells #[.int .i64 fn, .int .i64 st, .int .i64 ct, .slice A vs.length c] TReq)).alloc (.cells #[.int .i64 0, .slice none 0 0] TRep) = w1 at *
  refine (may_any fn st ct _ vs _ Hr.out (by omega)).mono ?_
  rintro e w2 ⟨rfl, hb2⟩
  rw [Hmb.out]
  have hx2 := (hb2.block _ (blt Hx.out)).trans Hx.out
  have hy2 := (hb2.block _ (blt Hy.out)).trans Hy.out
  have hs2 := hb2.size
  rw [Hlt.out] at hs2
  have Hx2 := Lib.hid hx2
  have Hy2 := Lib.hid hy2
  have Hb2 := Lib.hid (below_next Hb0.out hb2)
  have Hr2 := Lib.hid (Hr.out.below hb2)
  have Hu2 := Lib.hid (Hu.out.below hb2)
  have k0 := bcell hx2 0
  have k1 := bcell hx2 1
  have k2 := bcell hx2 2
  have k3 := bcell hx2 3
  have j0 := bcell hy2 0
  have j1 := bcell hy2 1
  have jf0 := bfroz hy2 0
  have jf1 := bfroz hy2 1
  simp only [List.getElem?_toArray, List.getElem?_cons_zero, List.getElem?_cons_succ] at k0 k1 k2 k3 j0 j1
  have d0 := below_cell Hb2.out D0.out
  have d1 := below_cell Hb2.out D1.out
  have hne0 : (code == 0) = false := beq_eq_false_iff_ne.2 (by omega)
  have hw1 : IntKind.i64.wrap (fn + 128) = fn + 128 := IntWalk.i64_in _ (by omega)
  have hw2 : IntKind.i64.wrap code = code := IntWalk.i64_in _ (by omega)
  have hgu : gu < w2.heap.size := World.block_lt_of_cell? w2 _ d0
  have hlt0 : w.heap.size < w2.heap.size := by omega
  have hlt1 : w.heap.size + 1 < w2.heap.size := by omega
  have hp3 := bnew w2 (.cells #[.int .i64 code, .slice none 0 0] TRep)
  have Hp3 := Lib.hid hp3
  have Hr3 := Lib.hid (Hr2.out.below (below_alloc (Below.refl _ w2) (.cells #[.int .i64 code, .slice none 0 0] TRep)))
  have Hu3 := Lib.hid (Hu2.out.below (below_alloc (Below.refl _ w2) (.cells #[.int .i64 code, .slice none 0 0] TRep)))
  have Hy3 := Lib.hid (balloc Hy2.out (.cells #[.int .i64 code, .slice none 0 0] TRep))
  have Hb3 := Lib.hid (below_alloc Hb2.out (.cells #[.int .i64 code, .slice none 0 0] TRep))
  have Hri := Lib.hid (right_code (fn := fn) (ct := ct) h1 h2)
  clear hb2 hx2 hy2 hp3
  go_wp2_with fail
  generalize w2.alloc (.cells #[.int .i64 code, .slice none 0 0] TRep) = w3 at *
  refine (Answer_code fn st ct code _ _ vs [] _ Hr3.out Rd1.nil (by omega) (by simp) Hm.out Hri.out (by omega)).mono ?_
  rintro e w4 ⟨v4, rfl, hown4, hb4⟩
  have e4 : answerL fn st ct vs code [] = [fn + 128, code] := by unfold answerL; rw [if_neg (by omega)]
  rw [e4] at hown4
  have Ha4 := Lib.hid (show RdB w4 v4 [fn + 128, code] from Rd1.of_own hown4)
  obtain ⟨A4, c4, rfl, _⟩ := orow_form hown4
  have Hu4 := Lib.hid (Hu3.out.below hb4)
  have Hb4 := Lib.hid (below_next Hb3.out hb4)
  have hy4 := (hb4.block _ (blt Hy3.out)).trans Hy3.out
  have hp4 := (hb4.block _ (blt Hp3.out)).trans Hp3.out
  clear k0 k1 k2 k3 j0 j1 jf0 jf1 d0 d1 hown4 e4 hb4
  have j0 := bcell hy4 0
  have j1 := bcell hy4 1
  have jf0 := bfroz hy4 0
  have jf1 := bfroz hy4 1
  have p0 := bcell hp4 0
  have p1 := bcell hp4 1
  simp only [List.getElem?_toArray, List.getElem?_cons_zero, List.getElem?_cons_succ] at j0 j1 p0 p1
  have Hy4 := Lib.hid hy4
  clear hy4 hp4
  go_wp2_with fail
  refine (pduEqual _ _ [fn + 128, code] [fn + 128, code] _ Ha4.out Hu4.out Hib.out Hib.out).mono ?_
  rintro e w5 ⟨rfl, rfl⟩
  rw [show decide (([fn + 128, code] : List Int) = [fn + 128, code]) = true from decide_eq_true rfl]
  obtain ⟨q0, q1⟩ := two_loads (a := .int .i64 code) (b := .slice none 0 0) Hy4.out
  go_wp2_with fail
  exact bodyPost_ret (v := .tuple #[.agg #[.int .i64 code, .slice none 0 0], .nilIface]) (by simp [results, Try.results13, go_sem, q0, q1]) rfl ⟨rfl, (Hb4.out.setCell (p := ⟨w.heap.size + 1, 0, none⟩) (by simp) _).setCell (p := ⟨w.heap.size + 1, 1, none⟩) (by simp) _⟩
end Go.Proofs.Ythfcppflhkhpnaa

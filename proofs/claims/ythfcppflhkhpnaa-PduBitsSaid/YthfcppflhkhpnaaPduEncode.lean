/-
  The package pdu: Encode, right.
-/
import Derived.Test.YthfcppflhkhpnaaPduEnc
import Derived.Test.YthfcppflhkhpnaaPduUn
namespace Go.Proofs.Ythfcppflhkhpnaa
open Go.RowKit
set_option linter.unusedSimpArgs false

def encCode (fn : Int) : Int := if knownB fn = true then 1 else 6

set_option maxRecDepth 20000 in
set_option maxHeartbeats 1000000 in
theorem Encode_bad (fn st ct : Int) (v : Value) (vs : List Int) (w : World) (h : RdI w v vs) (hx : vs.length ≤ 140737488351232) (hm : mayB fn st ct vs = false) :
    Calls Try.prog 17 #[.agg #[.int .i64 fn, .int .i64 st, .int .i64 ct, v]] w fun e w' => ∃ er, e = .returned (.tuple #[.slice none 0 0, er]) ∧ ErrIs w' er pduStr fn (encCode fn) ∧ Below w.heap.size w w' := by
  obtain ⟨A, c, rfl, hc⟩ := h.form
  have hbx := bnew w (.cells #[.int .i64 fn, .int .i64 st, .int .i64 ct, .slice A vs.length c] TReq)
  have Hb0 := Lib.hid (below_alloc (Below.refl _ w) (.cells #[.int .i64 fn, .int .i64 st, .int .i64 ct, .slice A vs.length c] TReq))
  have Hr := Lib.hid (h.below Hb0.out)
  have c0 := bcell hbx 0
  have c1 := bcell hbx 1
  have c2 := bcell hbx 2
  have c3 := bcell hbx 3
  simp only [List.getElem?_toArray, List.getElem?_cons_zero, List.getElem?_cons_succ] at c0 c1 c2 c3
  have K0 := Lib.hid c0
  have K1 := Lib.hid c1
  have K2 := Lib.hid c2
  have K3 := Lib.hid c3
  clear hbx h c0 c1 c2 c3
  have Hm := Lib.hid hm
  clear hm
  cases hk : knownB fn with
  | false =>
    have Hk := Lib.hid hk
    have Hc := Lib.hid (show encCode fn = 6 by unfold encCode; rw [if_neg (by rw [hk]; decide)])
    clear hk
    go_enter Try.func17, Try.ntmps17
    go_wp2_with (first | (go_at_call 32; refine (known_any _ _).mono ?_; rintro e w' ⟨rfl, rfl⟩; rw [Hk.out]) | (go_at_call 23; refine (pduIn _ _ _).mono ?_; rintro e w' ⟨rfl, rfl⟩))
    go_ret2
    exact ⟨_, rfl, by rw [Hc.out]; exact ErrIs.mk, below_alloc Hb0.out _⟩
  | true =>
    have Hk := Lib.hid hk
    have Hc := Lib.hid (show encCode fn = 1 by unfold encCode; rw [if_pos hk])
    clear hk
    go_enter Try.func17, Try.ntmps17
    go_wp2_with (go_at_call 32; refine (known_any _ _).mono ?_; rintro e w' ⟨rfl, rfl⟩; rw [Hk.out])
    generalize w.alloc (.cells #[.int .i64 fn, .int .i64 st, .int .i64 ct, .slice A vs.length c] TReq) = w1 at *
    refine (may_any fn st ct _ vs _ Hr.out hx).mono ?_
    rintro e w2 ⟨rfl, hb2⟩
    rw [Hm.out]
    have k0 := below_cell hb2 K0.out
    have k1 := below_cell hb2 K1.out
    have k2 := below_cell hb2 K2.out
    have k3 := below_cell hb2 K3.out
    have Hb2 := Lib.hid (below_next Hb0.out hb2)
    clear hb2
    go_wp2_with (go_at_call 23; refine (pduIn _ _ _).mono ?_; rintro e w' ⟨rfl, rfl⟩)
    go_ret2
    exact ⟨_, rfl, by rw [Hc.out]; exact ErrIs.mk, below_alloc Hb2.out _⟩

set_option maxRecDepth 20000 in
set_option maxHeartbeats 1000000 in
theorem Encode_ok (fn st ct : Int) (v : Value) (vs : List Int) (w : World) (h : RdI w v vs) (hm : MayIs fn st ct vs) :
    Calls Try.prog 17 #[.agg #[.int .i64 fn, .int .i64 st, .int .i64 ct, v]] w fun e w' => ∃ v', e = .returned (.tuple #[v', .nilIface]) ∧ w'.ownsRow w.heap.size TB 1 v' (encodeL fn st ct vs).length (u8s (encodeL fn st ct vs)) ∧ Below w.heap.size w w' := by
  obtain ⟨A, c, rfl, hc⟩ := h.form
  have hbx := bnew w (.cells #[.int .i64 fn, .int .i64 st, .int .i64 ct, .slice A vs.length c] TReq)
  have Hb0 := Lib.hid (below_alloc (Below.refl _ w) (.cells #[.int .i64 fn, .int .i64 st, .int .i64 ct, .slice A vs.length c] TReq))
  have Hr := Lib.hid (h.below Hb0.out)
  have c0 := bcell hbx 0
  have c1 := bcell hbx 1
  have c2 := bcell hbx 2
  have c3 := bcell hbx 3
  simp only [List.getElem?_toArray, List.getElem?_cons_zero, List.getElem?_cons_succ] at c0 c1 c2 c3
  have K0 := Lib.hid c0
  have K1 := Lib.hid c1
  have K2 := Lib.hid c2
  have K3 := Lib.hid c3
  clear hbx h c0 c1 c2 c3
  have Hm := Lib.hid hm
  have Hk := Lib.hid hm.known
  have hx := hm.vs2000
  have Hmb := Lib.hid (mayB_iff.2 hm)
  clear hm
  go_enter Try.func17, Try.ntmps17
  go_wp2_with (go_at_call 32; refine (known_any _ _).mono ?_; rintro e w' ⟨rfl, rfl⟩; rw [Hk.out])
  generalize w.alloc (.cells #[.int .i64 fn, .int .i64 st, .int .i64 ct, .slice A vs.length c] TReq) = w1 at *
  refine (may_any fn st ct _ vs _ Hr.out (by omega)).mono ?_
  rintro e w2 ⟨rfl, hb2⟩
  rw [Hmb.out]
  have k0 := below_cell hb2 K0.out
  have k1 := below_cell hb2 K1.out
  have k2 := below_cell hb2 K2.out
  have k3 := below_cell hb2 K3.out
  have Hb2 := Lib.hid (below_next Hb0.out hb2)
  have Hr2 := Lib.hid (Hr.out.below hb2)
  clear hb2
  go_wp2_with fail
  refine (encode_any fn st ct _ vs _ Hr2.out Hm.out).mono ?_
  rintro e w3 ⟨v3, rfl, hown3, hb3⟩
  have Hown3 := Lib.hid (orow_weaken hown3 Hb2.out.size)
  have Hb3 := Lib.hid (below_next Hb2.out hb3)
  clear hown3 hb3
  go_wp2_with fail
  go_ret2
  exact ⟨_, rfl, Hown3.out, Hb3.out⟩

/-! ### right -/
def rightB (fn ct code : Int) (ps : List Int) : Bool :=
  if (code != 0) = true ∨ readsB fn = false then decide (0 ≤ code) && decide (code ≤ 255) && ((ps.length : Int) == 0) else numsB fn ct ps

set_option maxRecDepth 20000 in
set_option maxHeartbeats 2000000 in
theorem right_any (fn st ct code : Int) (v u : Value) (vs ps : List Int) (w : World) (h : RdI w v vs) (hp : RdI w u ps) (hx : ps.length ≤ 140737488351232) :
    Calls Try.prog 22 #[.agg #[.int .i64 fn, .int .i64 st, .int .i64 ct, v], .agg #[.int .i64 code, u]] w fun e w' => e = .returned (.bool (rightB fn ct code ps)) ∧ Below w.heap.size w w' := by
  obtain ⟨A, c, rfl, hc⟩ := h.form
  obtain ⟨Ap, cp, rfl, hcp⟩ := hp.form
  have Hb := Lib.hid (below_alloc (below_alloc (Below.refl _ w) (.cells #[.int .i64 fn, .int .i64 st, .int .i64 ct, .slice A vs.length c] TReq)) (.cells #[.int .i64 code, .slice Ap ps.length cp] TRep))
  have Hp := Lib.hid (hp.below Hb.out)
  clear h hp
  by_cases hcd : code = 0
  · subst hcd
    cases hrd : readsB fn with
    | true =>
      have Hrd := Lib.hid hrd
      have Hfin := Lib.hid (show rightB fn ct 0 ps = numsB fn ct ps by unfold rightB; rw [if_neg (by rw [hrd]; decide)])
      clear hrd
      go_enter Try.func22, Try.ntmps22
      go_wp2_with (first | (go_at_call 27; refine (reads_any _ _).mono ?_; rintro e w' ⟨rfl, rfl⟩; rw [Hrd.out]) | (go_at_call 31; refine (numbers_any fn ct _ ps _ Hp.out hx).mono ?_; rintro e w' ⟨rfl, rfl⟩))
      go_ret
      exact ⟨ret_bool Hfin.out.symm, Hb.out⟩
    | false =>
      have Hrd := Lib.hid hrd
      have Hfin := Lib.hid (show rightB fn ct 0 ps = ((ps.length : Int) == 0) by unfold rightB; rw [if_pos (.inr hrd)]; rfl)
      clear hrd
      go_enter Try.func22, Try.ntmps22
      go_wp2_with (first | (go_at_call 27; refine (reads_any _ _).mono ?_; rintro e w' ⟨rfl, rfl⟩; rw [Hrd.out]))
      go_ret
      exact ⟨ret_bool Hfin.out.symm, Hb.out⟩
  · have hne : (code != 0) = true := bne_iff_ne.2 hcd
    have Hfin := Lib.hid (show rightB fn ct code ps = (decide (0 ≤ code) && decide (code ≤ 255) && ((ps.length : Int) == 0)) by unfold rightB; rw [if_pos (.inl hne)])
    by_cases h0 : 0 ≤ code
    · by_cases h1 : code ≤ 255
      · go_enter Try.func22, Try.ntmps22
        go_wp2_with fail
        go_ret
        exact ⟨ret_bool (by rw [Hfin.out]; simp [h0, h1]), Hb.out⟩
      · have d1 : decide (code ≤ 255) = false := decide_eq_false h1
        go_enter Try.func22, Try.ntmps22
        go_wp2_with fail
        go_ret
        exact ⟨ret_bool (by rw [Hfin.out]; simp [d1]), Hb.out⟩
    · have d0 : decide (0 ≤ code) = false := decide_eq_false h0
      go_enter Try.func22, Try.ntmps22
      go_wp2_with fail
      go_ret
      exact ⟨ret_bool (by rw [Hfin.out]; simp [d0]), Hb.out⟩
end Go.Proofs.Ythfcppflhkhpnaa

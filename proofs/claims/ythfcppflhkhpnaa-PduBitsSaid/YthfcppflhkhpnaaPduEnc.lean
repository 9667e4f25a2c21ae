/-
  The package pdu: encode, Encode.
-/
import Derived.Test.YthfcppflhkhpnaaPduPack
import Derived.Test.YthfcppflhkhpnaaWire
namespace Go.Proofs.Ythfcppflhkhpnaa
open Go.RowKit
set_option linter.unusedSimpArgs false

/-- The bytes of a request that may be. -/
def encodeL (fn st ct : Int) (vs : List Int) : List Int :=
  fn :: (be2 st ++ (if fn = 5 then be2 (65280 * vs.getD 0 0) else if fn = 6 then be2 (vs.getD 0 0) else if fn = 15 ∨ fn = 16 then be2 ct ++ (((packL fn vs).length : Int) :: packL fn vs) else be2 ct))
theorem packL_255 {fn : Int} {vs : List Int} (h : (fn = 15 ∧ vs.length ≤ 1968) ∨ (fn = 16 ∧ vs.length ≤ 123)) : (packL fn vs).length ≤ 255 := by
  rcases h with ⟨rfl, h⟩ | ⟨rfl, h⟩
  · rw [packL, if_pos (by decide), packBits_len]; omega
  · rw [packL, if_neg (by decide), packRegs_len]; omega
theorem mayIs_lit {fn st ct : Int} {vs : List Int} (h : MayIs fn st ct vs) : ct ≤ mostN fn ∧ (vs.length : Int) = wantN fn ct := ⟨h.ctm, h.len⟩

set_option maxRecDepth 20000 in
set_option maxHeartbeats 1000000 in
theorem encode_1 (st ct : Int) (v : Value) (vs : List Int) (w : World) (h : RdI w v vs) (hm : MayIs 1 st ct vs) :
    Calls Try.prog 24 #[.agg #[.int .i64 1, .int .i64 st, .int .i64 ct, v]] w fun e w' => ∃ v', e = .returned v' ∧ w'.ownsRow w.heap.size TB 1 v' (encodeL 1 st ct vs).length (u8s (encodeL 1 st ct vs)) ∧ Below w.heap.size w w' := by
  obtain ⟨A, c, rfl, hc⟩ := h.form
  have hbx := bnew w (.cells #[.int .i64 1, .int .i64 st, .int .i64 ct, .slice A vs.length c] TReq)
  have Hb0 := Lib.hid (below_alloc (Below.refl _ w) (.cells #[.int .i64 1, .int .i64 st, .int .i64 ct, .slice A vs.length c] TReq))
  have Hr := Lib.hid (h.below Hb0.out)
  have c0 := bcell hbx 0
  have c1 := bcell hbx 1
  have c2 := bcell hbx 2
  have c3 := bcell hbx 3
  simp only [List.getElem?_toArray, List.getElem?_cons_zero, List.getElem?_cons_succ] at c0 c1 c2 c3
  have K0 := Lib.hid c0
  have K1 := Lib.hid c1
  have K2 := Lib.hid c2
  have K3 := Lib.hid c3
  have hct1 := hm.ct1
  have hct2 := hm.ct2000
  have hst0 := hm.st0
  have hst9 : st ≤ 65535 := by have := hm.st9; omega
  have hlen := hm.len
  have Hall := Lib.hid hm.all
  have hvs := hm.vs2000
  have hmost := hm.ctm
  clear hbx h c0 c1 c2 c3 hm
  clear hlen hmost
  go_enter Try.func24, Try.ntmps24
  go_wp2_with fail
  generalize w.alloc (.cells #[.int .i64 1, .int .i64 st, .int .i64 ct, .slice A vs.length c] TReq) = w1 at *
  refine (wrNew w1.heap.size w1 (Nat.le_refl _)).mono ?_
  rintro e w2 ⟨rfl, hwr, hb⟩
  have Hwr := Lib.hid hwr
  have Hb := Lib.hid hb
  have k0 := below_cell Hb.out K0.out
  have k1 := below_cell Hb.out K1.out
  have k2 := below_cell Hb.out K2.out
  have k3 := below_cell Hb.out K3.out
  clear hwr hb
  go_wp2_with fail
  refine (wrU _ _ _ 1 1 _ Hwr.out (by simp) (by omega) (by omega) (by omega) (by decide)).mono ?_
  rintro e w3 ⟨rfl, hwr, hb⟩
  have Hwr := Lib.hid hwr
  have Hb := Lib.hid (Hb.out.trans hb)
  have k0 := below_cell Hb.out K0.out
  have k1 := below_cell Hb.out K1.out
  have k2 := below_cell Hb.out K2.out
  have k3 := below_cell Hb.out K3.out
  clear hwr hb
  replace Hwr := Lib.hid (show WrAt _ _ _ [1] from by have := Hwr.out; rwa [splitL1 (by decide) (by decide), List.nil_append] at this)
  go_wp2_with fail
  refine (wrB2 _ _ _ st _ Hwr.out (by simp [splitL]) hst0 hst9).mono ?_
  rintro e w4 ⟨rfl, hwr, hb⟩
  have Hwr := Lib.hid hwr
  have Hb := Lib.hid (Hb.out.trans hb)
  have k0 := below_cell Hb.out K0.out
  have k1 := below_cell Hb.out K1.out
  have k2 := below_cell Hb.out K2.out
  have k3 := below_cell Hb.out K3.out
  clear hwr hb
  go_wp2_with fail
  refine (wrB2 _ _ _ ct _ Hwr.out (by simp [splitL]) (by omega) (by omega)).mono ?_
  rintro e w5 ⟨rfl, hwr, hb⟩
  have Hwr := Lib.hid hwr
  have Hb := Lib.hid (Hb.out.trans hb)
  have k0 := below_cell Hb.out K0.out
  have k1 := below_cell Hb.out K1.out
  have k2 := below_cell Hb.out K2.out
  have k3 := below_cell Hb.out K3.out
  clear hwr hb
  go_wp2_with fail
  refine (wrOut _ _ _ _ Hwr.out (by first | (simp; done) | (simp; omega))).mono ?_
  rintro e w9 ⟨v9, rfl, hown9, hb9⟩
  have Hown9 := Lib.hid hown9
  have Hb9 := Lib.hid (Hb.out.trans (hb9.mono Hb.out.size))
  have Hs9 := Lib.hid Hb.out.size
  clear hown9 hb9
  go_wp2_with fail
  go_ret
  refine ⟨_, rfl, ?_, below_next Hb0.out Hb9.out⟩
  have := orow_weaken Hown9.out (Nat.le_trans Hb0.out.size Hs9.out)
  simpa [encodeL, be2] using this

set_option maxRecDepth 20000 in
set_option maxHeartbeats 1000000 in
theorem encode_2 (st ct : Int) (v : Value) (vs : List Int) (w : World) (h : RdI w v vs) (hm : MayIs 2 st ct vs) :
    Calls Try.prog 24 #[.agg #[.int .i64 2, .int .i64 st, .int .i64 ct, v]] w fun e w' => ∃ v', e = .returned v' ∧ w'.ownsRow w.heap.size TB 1 v' (encodeL 2 st ct vs).length (u8s (encodeL 2 st ct vs)) ∧ Below w.heap.size w w' := by
  obtain ⟨A, c, rfl, hc⟩ := h.form
  have hbx := bnew w (.cells #[.int .i64 2, .int .i64 st, .int .i64 ct, .slice A vs.length c] TReq)
  have Hb0 := Lib.hid (below_alloc (Below.refl _ w) (.cells #[.int .i64 2, .int .i64 st, .int .i64 ct, .slice A vs.length c] TReq))
  have Hr := Lib.hid (h.below Hb0.out)
  have c0 := bcell hbx 0
  have c1 := bcell hbx 1
  have c2 := bcell hbx 2
  have c3 := bcell hbx 3
  simp only [List.getElem?_toArray, List.getElem?_cons_zero, List.getElem?_cons_succ] at c0 c1 c2 c3
  have K0 := Lib.hid c0
  have K1 := Lib.hid c1
  have K2 := Lib.hid c2
  have K3 := Lib.hid c3
  have hct1 := hm.ct1
  have hct2 := hm.ct2000
  have hst0 := hm.st0
  have hst9 : st ≤ 65535 := by have := hm.st9; omega
  have hlen := hm.len
  have Hall := Lib.hid hm.all
  have hvs := hm.vs2000
  have hmost := hm.ctm
  clear hbx h c0 c1 c2 c3 hm
  clear hlen hmost
  go_enter Try.func24, Try.ntmps24
  go_wp2_with fail
  generalize w.alloc (.cells #[.int .i64 2, .int .i64 st, .int .i64 ct, .slice A vs.length c] TReq) = w1 at *
  refine (wrNew w1.heap.size w1 (Nat.le_refl _)).mono ?_
  rintro e w2 ⟨rfl, hwr, hb⟩
  have Hwr := Lib.hid hwr
  have Hb := Lib.hid hb
  have k0 := below_cell Hb.out K0.out
  have k1 := below_cell Hb.out K1.out
  have k2 := below_cell Hb.out K2.out
  have k3 := below_cell Hb.out K3.out
  clear hwr hb
  go_wp2_with fail
  refine (wrU _ _ _ 1 2 _ Hwr.out (by simp) (by omega) (by omega) (by omega) (by decide)).mono ?_
  rintro e w3 ⟨rfl, hwr, hb⟩
  have Hwr := Lib.hid hwr
  have Hb := Lib.hid (Hb.out.trans hb)
  have k0 := below_cell Hb.out K0.out
  have k1 := below_cell Hb.out K1.out
  have k2 := below_cell Hb.out K2.out
  have k3 := below_cell Hb.out K3.out
  clear hwr hb
  replace Hwr := Lib.hid (show WrAt _ _ _ [2] from by have := Hwr.out; rwa [splitL1 (by decide) (by decide), List.nil_append] at this)
  go_wp2_with fail
  refine (wrB2 _ _ _ st _ Hwr.out (by simp [splitL]) hst0 hst9).mono ?_
  rintro e w4 ⟨rfl, hwr, hb⟩
  have Hwr := Lib.hid hwr
  have Hb := Lib.hid (Hb.out.trans hb)
  have k0 := below_cell Hb.out K0.out
  have k1 := below_cell Hb.out K1.out
  have k2 := below_cell Hb.out K2.out
  have k3 := below_cell Hb.out K3.out
  clear hwr hb
  go_wp2_with fail
  refine (wrB2 _ _ _ ct _ Hwr.out (by simp [splitL]) (by omega) (by omega)).mono ?_
  rintro e w5 ⟨rfl, hwr, hb⟩
  have Hwr := Lib.hid hwr
  have Hb := Lib.hid (Hb.out.trans hb)
  have k0 := below_cell Hb.out K0.out
  have k1 := below_cell Hb.out K1.out
  have k2 := below_cell Hb.out K2.out
  have k3 := below_cell Hb.out K3.out
  clear hwr hb
  go_wp2_with fail
  refine (wrOut _ _ _ _ Hwr.out (by first | (simp; done) | (simp; omega))).mono ?_
  rintro e w9 ⟨v9, rfl, hown9, hb9⟩
  have Hown9 := Lib.hid hown9
  have Hb9 := Lib.hid (Hb.out.trans (hb9.mono Hb.out.size))
  have Hs9 := Lib.hid Hb.out.size
  clear hown9 hb9
  go_wp2_with fail
  go_ret
  refine ⟨_, rfl, ?_, below_next Hb0.out Hb9.out⟩
  have := orow_weaken Hown9.out (Nat.le_trans Hb0.out.size Hs9.out)
  simpa [encodeL, be2] using this

set_option maxRecDepth 20000 in
set_option maxHeartbeats 1000000 in
theorem encode_3 (st ct : Int) (v : Value) (vs : List Int) (w : World) (h : RdI w v vs) (hm : MayIs 3 st ct vs) :
    Calls Try.prog 24 #[.agg #[.int .i64 3, .int .i64 st, .int .i64 ct, v]] w fun e w' => ∃ v', e = .returned v' ∧ w'.ownsRow w.heap.size TB 1 v' (encodeL 3 st ct vs).length (u8s (encodeL 3 st ct vs)) ∧ Below w.heap.size w w' := by
  obtain ⟨A, c, rfl, hc⟩ := h.form
  have hbx := bnew w (.cells #[.int .i64 3, .int .i64 st, .int .i64 ct, .slice A vs.length c] TReq)
  have Hb0 := Lib.hid (below_alloc (Below.refl _ w) (.cells #[.int .i64 3, .int .i64 st, .int .i64 ct, .slice A vs.length c] TReq))
  have Hr := Lib.hid (h.below Hb0.out)
  have c0 := bcell hbx 0
  have c1 := bcell hbx 1
  have c2 := bcell hbx 2
  have c3 := bcell hbx 3
  simp only [List.getElem?_toArray, List.getElem?_cons_zero, List.getElem?_cons_succ] at c0 c1 c2 c3
  have K0 := Lib.hid c0
  have K1 := Lib.hid c1
  have K2 := Lib.hid c2
  have K3 := Lib.hid c3
  have hct1 := hm.ct1
  have hct2 := hm.ct2000
  have hst0 := hm.st0
  have hst9 : st ≤ 65535 := by have := hm.st9; omega
  have hlen := hm.len
  have Hall := Lib.hid hm.all
  have hvs := hm.vs2000
  have hmost := hm.ctm
  clear hbx h c0 c1 c2 c3 hm
  clear hlen hmost
  go_enter Try.func24, Try.ntmps24
  go_wp2_with fail
  generalize w.alloc (.cells #[.int .i64 3, .int .i64 st, .int .i64 ct, .slice A vs.length c] TReq) = w1 at *
  refine (wrNew w1.heap.size w1 (Nat.le_refl _)).mono ?_
  rintro e w2 ⟨rfl, hwr, hb⟩
  have Hwr := Lib.hid hwr
  have Hb := Lib.hid hb
  have k0 := below_cell Hb.out K0.out
  have k1 := below_cell Hb.out K1.out
  have k2 := below_cell Hb.out K2.out
  have k3 := below_cell Hb.out K3.out
  clear hwr hb
  go_wp2_with fail
  refine (wrU _ _ _ 1 3 _ Hwr.out (by simp) (by omega) (by omega) (by omega) (by decide)).mono ?_
  rintro e w3 ⟨rfl, hwr, hb⟩
  have Hwr := Lib.hid hwr
  have Hb := Lib.hid (Hb.out.trans hb)
  have k0 := below_cell Hb.out K0.out
  have k1 := below_cell Hb.out K1.out
  have k2 := below_cell Hb.out K2.out
  have k3 := below_cell Hb.out K3.out
  clear hwr hb
  replace Hwr := Lib.hid (show WrAt _ _ _ [3] from by have := Hwr.out; rwa [splitL1 (by decide) (by decide), List.nil_append] at this)
  go_wp2_with fail
  refine (wrB2 _ _ _ st _ Hwr.out (by simp [splitL]) hst0 hst9).mono ?_
  rintro e w4 ⟨rfl, hwr, hb⟩
  have Hwr := Lib.hid hwr
  have Hb := Lib.hid (Hb.out.trans hb)
  have k0 := below_cell Hb.out K0.out
  have k1 := below_cell Hb.out K1.out
  have k2 := below_cell Hb.out K2.out
  have k3 := below_cell Hb.out K3.out
  clear hwr hb
  go_wp2_with fail
  refine (wrB2 _ _ _ ct _ Hwr.out (by simp [splitL]) (by omega) (by omega)).mono ?_
  rintro e w5 ⟨rfl, hwr, hb⟩
  have Hwr := Lib.hid hwr
  have Hb := Lib.hid (Hb.out.trans hb)
  have k0 := below_cell Hb.out K0.out
  have k1 := below_cell Hb.out K1.out
  have k2 := below_cell Hb.out K2.out
  have k3 := below_cell Hb.out K3.out
  clear hwr hb
  go_wp2_with fail
  refine (wrOut _ _ _ _ Hwr.out (by first | (simp; done) | (simp; omega))).mono ?_
  rintro e w9 ⟨v9, rfl, hown9, hb9⟩
  have Hown9 := Lib.hid hown9
  have Hb9 := Lib.hid (Hb.out.trans (hb9.mono Hb.out.size))
  have Hs9 := Lib.hid Hb.out.size
  clear hown9 hb9
  go_wp2_with fail
  go_ret
  refine ⟨_, rfl, ?_, below_next Hb0.out Hb9.out⟩
  have := orow_weaken Hown9.out (Nat.le_trans Hb0.out.size Hs9.out)
  simpa [encodeL, be2] using this

set_option maxRecDepth 20000 in
set_option maxHeartbeats 1000000 in
theorem encode_4 (st ct : Int) (v : Value) (vs : List Int) (w : World) (h : RdI w v vs) (hm : MayIs 4 st ct vs) :
    Calls Try.prog 24 #[.agg #[.int .i64 4, .int .i64 st, .int .i64 ct, v]] w fun e w' => ∃ v', e = .returned v' ∧ w'.ownsRow w.heap.size TB 1 v' (encodeL 4 st ct vs).length (u8s (encodeL 4 st ct vs)) ∧ Below w.heap.size w w' := by
  obtain ⟨A, c, rfl, hc⟩ := h.form
  have hbx := bnew w (.cells #[.int .i64 4, .int .i64 st, .int .i64 ct, .slice A vs.length c] TReq)
  have Hb0 := Lib.hid (below_alloc (Below.refl _ w) (.cells #[.int .i64 4, .int .i64 st, .int .i64 ct, .slice A vs.length c] TReq))
  have Hr := Lib.hid (h.below Hb0.out)
  have c0 := bcell hbx 0
  have c1 := bcell hbx 1
  have c2 := bcell hbx 2
  have c3 := bcell hbx 3
  simp only [List.getElem?_toArray, List.getElem?_cons_zero, List.getElem?_cons_succ] at c0 c1 c2 c3
  have K0 := Lib.hid c0
  have K1 := Lib.hid c1
  have K2 := Lib.hid c2
  have K3 := Lib.hid c3
  have hct1 := hm.ct1
  have hct2 := hm.ct2000
  have hst0 := hm.st0
  have hst9 : st ≤ 65535 := by have := hm.st9; omega
  have hlen := hm.len
  have Hall := Lib.hid hm.all
  have hvs := hm.vs2000
  have hmost := hm.ctm
  clear hbx h c0 c1 c2 c3 hm
  clear hlen hmost
  go_enter Try.func24, Try.ntmps24
  go_wp2_with fail
  generalize w.alloc (.cells #[.int .i64 4, .int .i64 st, .int .i64 ct, .slice A vs.length c] TReq) = w1 at *
  refine (wrNew w1.heap.size w1 (Nat.le_refl _)).mono ?_
  rintro e w2 ⟨rfl, hwr, hb⟩
  have Hwr := Lib.hid hwr
  have Hb := Lib.hid hb
  have k0 := below_cell Hb.out K0.out
  have k1 := below_cell Hb.out K1.out
  have k2 := below_cell Hb.out K2.out
  have k3 := below_cell Hb.out K3.out
  clear hwr hb
  go_wp2_with fail
  refine (wrU _ _ _ 1 4 _ Hwr.out (by simp) (by omega) (by omega) (by omega) (by decide)).mono ?_
  rintro e w3 ⟨rfl, hwr, hb⟩
  have Hwr := Lib.hid hwr
  have Hb := Lib.hid (Hb.out.trans hb)
  have k0 := below_cell Hb.out K0.out
  have k1 := below_cell Hb.out K1.out
  have k2 := below_cell Hb.out K2.out
  have k3 := below_cell Hb.out K3.out
  clear hwr hb
  replace Hwr := Lib.hid (show WrAt _ _ _ [4] from by have := Hwr.out; rwa [splitL1 (by decide) (by decide), List.nil_append] at this)
  go_wp2_with fail
  refine (wrB2 _ _ _ st _ Hwr.out (by simp [splitL]) hst0 hst9).mono ?_
  rintro e w4 ⟨rfl, hwr, hb⟩
  have Hwr := Lib.hid hwr
  have Hb := Lib.hid (Hb.out.trans hb)
  have k0 := below_cell Hb.out K0.out
  have k1 := below_cell Hb.out K1.out
  have k2 := below_cell Hb.out K2.out
  have k3 := below_cell Hb.out K3.out
  clear hwr hb
  go_wp2_with fail
  refine (wrB2 _ _ _ ct _ Hwr.out (by simp [splitL]) (by omega) (by omega)).mono ?_
  rintro e w5 ⟨rfl, hwr, hb⟩
  have Hwr := Lib.hid hwr
  have Hb := Lib.hid (Hb.out.trans hb)
  have k0 := below_cell Hb.out K0.out
  have k1 := below_cell Hb.out K1.out
  have k2 := below_cell Hb.out K2.out
  have k3 := below_cell Hb.out K3.out
  clear hwr hb
  go_wp2_with fail
  refine (wrOut _ _ _ _ Hwr.out (by first | (simp; done) | (simp; omega))).mono ?_
  rintro e w9 ⟨v9, rfl, hown9, hb9⟩
  have Hown9 := Lib.hid hown9
  have Hb9 := Lib.hid (Hb.out.trans (hb9.mono Hb.out.size))
  have Hs9 := Lib.hid Hb.out.size
  clear hown9 hb9
  go_wp2_with fail
  go_ret
  refine ⟨_, rfl, ?_, below_next Hb0.out Hb9.out⟩
  have := orow_weaken Hown9.out (Nat.le_trans Hb0.out.size Hs9.out)
  simpa [encodeL, be2] using this

set_option maxRecDepth 20000 in
set_option maxHeartbeats 1000000 in
theorem encode_5 (st ct : Int) (v : Value) (vs : List Int) (w : World) (h : RdI w v vs) (hm : MayIs 5 st ct vs) :
    Calls Try.prog 24 #[.agg #[.int .i64 5, .int .i64 st, .int .i64 ct, v]] w fun e w' => ∃ v', e = .returned v' ∧ w'.ownsRow w.heap.size TB 1 v' (encodeL 5 st ct vs).length (u8s (encodeL 5 st ct vs)) ∧ Below w.heap.size w w' := by
  obtain ⟨A, c, rfl, hc⟩ := h.form
  have hbx := bnew w (.cells #[.int .i64 5, .int .i64 st, .int .i64 ct, .slice A vs.length c] TReq)
  have Hb0 := Lib.hid (below_alloc (Below.refl _ w) (.cells #[.int .i64 5, .int .i64 st, .int .i64 ct, .slice A vs.length c] TReq))
  have Hr := Lib.hid (h.below Hb0.out)
  have c0 := bcell hbx 0
  have c1 := bcell hbx 1
  have c2 := bcell hbx 2
  have c3 := bcell hbx 3
  simp only [List.getElem?_toArray, List.getElem?_cons_zero, List.getElem?_cons_succ] at c0 c1 c2 c3
  have K0 := Lib.hid c0
  have K1 := Lib.hid c1
  have K2 := Lib.hid c2
  have K3 := Lib.hid c3
  have hct1 := hm.ct1
  have hct2 := hm.ct2000
  have hst0 := hm.st0
  have hst9 : st ≤ 65535 := by have := hm.st9; omega
  have hlen := hm.len
  have Hall := Lib.hid hm.all
  have hvs := hm.vs2000
  have hmost := hm.ctm
  clear hbx h c0 c1 c2 c3 hm
  have hone : 0 < vs.length := by simp [wantN, readsB, mostN] at hlen hmost; omega
  have hx := Hall.out (vs.getD 0 0) (by rw [List.getD_eq_getElem?_getD, List.getElem?_eq_getElem (by omega)]; exact List.getElem_mem _)
  obtain ⟨x0, x1⟩ := hx
  obtain ⟨ga, oa, hA, cx⟩ := Hr.out.at 0 (by omega)
  subst hA
  have Cx := Lib.hid cx
  replace x1 : vs.getD 0 0 ≤ 1 := x1
  clear hlen hmost cx
  generalize hxg : vs.getD 0 0 = x at *
  have Hxg := Lib.hid hxg
  clear hxg
  go_enter Try.func24, Try.ntmps24
  go_wp2_with fail
  generalize w.alloc (.cells #[.int .i64 5, .int .i64 st, .int .i64 ct, .slice (some ⟨ga, oa, none⟩) vs.length c] TReq) = w1 at *
  refine (wrNew w1.heap.size w1 (Nat.le_refl _)).mono ?_
  rintro e w2 ⟨rfl, hwr, hb⟩
  have Hwr := Lib.hid hwr
  have Hb := Lib.hid hb
  have k0 := below_cell Hb.out K0.out
  have k1 := below_cell Hb.out K1.out
  have k2 := below_cell Hb.out K2.out
  have k3 := below_cell Hb.out K3.out
  clear hwr hb
  go_wp2_with fail
  refine (wrU _ _ _ 1 5 _ Hwr.out (by simp) (by omega) (by omega) (by omega) (by decide)).mono ?_
  rintro e w3 ⟨rfl, hwr, hb⟩
  have Hwr := Lib.hid hwr
  have Hb := Lib.hid (Hb.out.trans hb)
  have k0 := below_cell Hb.out K0.out
  have k1 := below_cell Hb.out K1.out
  have k2 := below_cell Hb.out K2.out
  have k3 := below_cell Hb.out K3.out
  clear hwr hb
  replace Hwr := Lib.hid (show WrAt _ _ _ [5] from by have := Hwr.out; rwa [splitL1 (by decide) (by decide), List.nil_append] at this)
  go_wp2_with fail
  refine (wrB2 _ _ _ st _ Hwr.out (by simp [splitL]) hst0 hst9).mono ?_
  rintro e w4 ⟨rfl, hwr, hb⟩
  have Hwr := Lib.hid hwr
  have Hb := Lib.hid (Hb.out.trans hb)
  have k0 := below_cell Hb.out K0.out
  have k1 := below_cell Hb.out K1.out
  have k2 := below_cell Hb.out K2.out
  have k3 := below_cell Hb.out K3.out
  clear hwr hb
  have cx := below_cell Hb.out Cx.out
  rw [Nat.add_zero] at cx
  go_wp2_with fail
  refine (wrB2 _ _ _ (65280 * x) _ Hwr.out (by simp [splitL]) (by omega) (by omega)).mono ?_
  rintro e w5 ⟨rfl, hwr, hb⟩
  have Hwr := Lib.hid hwr
  have Hb := Lib.hid (Hb.out.trans hb)
  have k0 := below_cell Hb.out K0.out
  have k1 := below_cell Hb.out K1.out
  have k2 := below_cell Hb.out K2.out
  have k3 := below_cell Hb.out K3.out
  clear hwr hb
  go_wp2_with fail
  refine (wrOut _ _ _ _ Hwr.out (by first | (simp; done) | (simp; omega))).mono ?_
  rintro e w9 ⟨v9, rfl, hown9, hb9⟩
  have Hown9 := Lib.hid hown9
  have Hb9 := Lib.hid (Hb.out.trans (hb9.mono Hb.out.size))
  have Hs9 := Lib.hid Hb.out.size
  clear hown9 hb9
  go_wp2_with fail
  go_ret
  refine ⟨_, rfl, ?_, below_next Hb0.out Hb9.out⟩
  have := orow_weaken Hown9.out (Nat.le_trans Hb0.out.size Hs9.out)
  unfold encodeL; rw [Hxg.out]; simpa [be2] using this

set_option maxRecDepth 20000 in
set_option maxHeartbeats 1000000 in
theorem encode_6 (st ct : Int) (v : Value) (vs : List Int) (w : World) (h : RdI w v vs) (hm : MayIs 6 st ct vs) :
    Calls Try.prog 24 #[.agg #[.int .i64 6, .int .i64 st, .int .i64 ct, v]] w fun e w' => ∃ v', e = .returned v' ∧ w'.ownsRow w.heap.size TB 1 v' (encodeL 6 st ct vs).length (u8s (encodeL 6 st ct vs)) ∧ Below w.heap.size w w' := by
  obtain ⟨A, c, rfl, hc⟩ := h.form
  have hbx := bnew w (.cells #[.int .i64 6, .int .i64 st, .int .i64 ct, .slice A vs.length c] TReq)
  have Hb0 := Lib.hid (below_alloc (Below.refl _ w) (.cells #[.int .i64 6, .int .i64 st, .int .i64 ct, .slice A vs.length c] TReq))
  have Hr := Lib.hid (h.below Hb0.out)
  have c0 := bcell hbx 0
  have c1 := bcell hbx 1
  have c2 := bcell hbx 2
  have c3 := bcell hbx 3
  simp only [List.getElem?_toArray, List.getElem?_cons_zero, List.getElem?_cons_succ] at c0 c1 c2 c3
  have K0 := Lib.hid c0
  have K1 := Lib.hid c1
  have K2 := Lib.hid c2
  have K3 := Lib.hid c3
  have hct1 := hm.ct1
  have hct2 := hm.ct2000
  have hst0 := hm.st0
  have hst9 : st ≤ 65535 := by have := hm.st9; omega
  have hlen := hm.len
  have Hall := Lib.hid hm.all
  have hvs := hm.vs2000
  have hmost := hm.ctm
  clear hbx h c0 c1 c2 c3 hm
  have hone : 0 < vs.length := by simp [wantN, readsB, mostN] at hlen hmost; omega
  have hx := Hall.out (vs.getD 0 0) (by rw [List.getD_eq_getElem?_getD, List.getElem?_eq_getElem (by omega)]; exact List.getElem_mem _)
  obtain ⟨x0, x1⟩ := hx
  obtain ⟨ga, oa, hA, cx⟩ := Hr.out.at 0 (by omega)
  subst hA
  have Cx := Lib.hid cx
  replace x1 : vs.getD 0 0 ≤ 65535 := x1
  clear hlen hmost cx
  generalize hxg : vs.getD 0 0 = x at *
  have Hxg := Lib.hid hxg
  clear hxg
  go_enter Try.func24, Try.ntmps24
  go_wp2_with fail
  generalize w.alloc (.cells #[.int .i64 6, .int .i64 st, .int .i64 ct, .slice (some ⟨ga, oa, none⟩) vs.length c] TReq) = w1 at *
  refine (wrNew w1.heap.size w1 (Nat.le_refl _)).mono ?_
  rintro e w2 ⟨rfl, hwr, hb⟩
  have Hwr := Lib.hid hwr
  have Hb := Lib.hid hb
  have k0 := below_cell Hb.out K0.out
  have k1 := below_cell Hb.out K1.out
  have k2 := below_cell Hb.out K2.out
  have k3 := below_cell Hb.out K3.out
  clear hwr hb
  go_wp2_with fail
  refine (wrU _ _ _ 1 6 _ Hwr.out (by simp) (by omega) (by omega) (by omega) (by decide)).mono ?_
  rintro e w3 ⟨rfl, hwr, hb⟩
  have Hwr := Lib.hid hwr
  have Hb := Lib.hid (Hb.out.trans hb)
  have k0 := below_cell Hb.out K0.out
  have k1 := below_cell Hb.out K1.out
  have k2 := below_cell Hb.out K2.out
  have k3 := below_cell Hb.out K3.out
  clear hwr hb
  replace Hwr := Lib.hid (show WrAt _ _ _ [6] from by have := Hwr.out; rwa [splitL1 (by decide) (by decide), List.nil_append] at this)
  go_wp2_with fail
  refine (wrB2 _ _ _ st _ Hwr.out (by simp [splitL]) hst0 hst9).mono ?_
  rintro e w4 ⟨rfl, hwr, hb⟩
  have Hwr := Lib.hid hwr
  have Hb := Lib.hid (Hb.out.trans hb)
  have k0 := below_cell Hb.out K0.out
  have k1 := below_cell Hb.out K1.out
  have k2 := below_cell Hb.out K2.out
  have k3 := below_cell Hb.out K3.out
  clear hwr hb
  have cx := below_cell Hb.out Cx.out
  rw [Nat.add_zero] at cx
  go_wp2_with fail
  refine (wrB2 _ _ _ (x) _ Hwr.out (by simp [splitL]) (by omega) (by omega)).mono ?_
  rintro e w5 ⟨rfl, hwr, hb⟩
  have Hwr := Lib.hid hwr
  have Hb := Lib.hid (Hb.out.trans hb)
  have k0 := below_cell Hb.out K0.out
  have k1 := below_cell Hb.out K1.out
  have k2 := below_cell Hb.out K2.out
  have k3 := below_cell Hb.out K3.out
  clear hwr hb
  go_wp2_with fail
  refine (wrOut _ _ _ _ Hwr.out (by first | (simp; done) | (simp; omega))).mono ?_
  rintro e w9 ⟨v9, rfl, hown9, hb9⟩
  have Hown9 := Lib.hid hown9
  have Hb9 := Lib.hid (Hb.out.trans (hb9.mono Hb.out.size))
  have Hs9 := Lib.hid Hb.out.size
  clear hown9 hb9
  go_wp2_with fail
  go_ret
  refine ⟨_, rfl, ?_, below_next Hb0.out Hb9.out⟩
  have := orow_weaken Hown9.out (Nat.le_trans Hb0.out.size Hs9.out)
  unfold encodeL; rw [Hxg.out]; simpa [be2] using this

set_option maxRecDepth 20000 in
set_option maxHeartbeats 1000000 in
theorem encode_15 (st ct : Int) (v : Value) (vs : List Int) (w : World) (h : RdI w v vs) (hm : MayIs 15 st ct vs) :
    Calls Try.prog 24 #[.agg #[.int .i64 15, .int .i64 st, .int .i64 ct, v]] w fun e w' => ∃ v', e = .returned v' ∧ w'.ownsRow w.heap.size TB 1 v' (encodeL 15 st ct vs).length (u8s (encodeL 15 st ct vs)) ∧ Below w.heap.size w w' := by
  obtain ⟨A, c, rfl, hc⟩ := h.form
  have hbx := bnew w (.cells #[.int .i64 15, .int .i64 st, .int .i64 ct, .slice A vs.length c] TReq)
  have Hb0 := Lib.hid (below_alloc (Below.refl _ w) (.cells #[.int .i64 15, .int .i64 st, .int .i64 ct, .slice A vs.length c] TReq))
  have Hr := Lib.hid (h.below Hb0.out)
  have c0 := bcell hbx 0
  have c1 := bcell hbx 1
  have c2 := bcell hbx 2
  have c3 := bcell hbx 3
  simp only [List.getElem?_toArray, List.getElem?_cons_zero, List.getElem?_cons_succ] at c0 c1 c2 c3
  have K0 := Lib.hid c0
  have K1 := Lib.hid c1
  have K2 := Lib.hid c2
  have K3 := Lib.hid c3
  have hct1 := hm.ct1
  have hct2 := hm.ct2000
  have hst0 := hm.st0
  have hst9 : st ≤ 65535 := by have := hm.st9; omega
  have hlen := hm.len
  have Hall := Lib.hid hm.all
  have hvs := hm.vs2000
  have hmost := hm.ctm
  clear hbx h c0 c1 c2 c3 hm
  replace hmost : ct ≤ 1968 := hmost
  replace hlen : (vs.length : Int) = ct := hlen
  have hlen1 : vs.length ≤ 1968 := by omega
  have Hpl := Lib.hid (packL_255 (fn := 15) (vs := vs) (by first | (left; exact ⟨rfl, by omega⟩) | (right; exact ⟨rfl, by omega⟩)))
  clear hlen hmost
  go_enter Try.func24, Try.ntmps24
  go_wp2_with fail
  generalize w.alloc (.cells #[.int .i64 15, .int .i64 st, .int .i64 ct, .slice A vs.length c] TReq) = w1 at *
  refine (wrNew w1.heap.size w1 (Nat.le_refl _)).mono ?_
  rintro e w2 ⟨rfl, hwr, hb⟩
  have Hwr := Lib.hid hwr
  have Hb := Lib.hid hb
  have k0 := below_cell Hb.out K0.out
  have k1 := below_cell Hb.out K1.out
  have k2 := below_cell Hb.out K2.out
  have k3 := below_cell Hb.out K3.out
  clear hwr hb
  go_wp2_with fail
  refine (wrU _ _ _ 1 15 _ Hwr.out (by simp) (by omega) (by omega) (by omega) (by decide)).mono ?_
  rintro e w3 ⟨rfl, hwr, hb⟩
  have Hwr := Lib.hid hwr
  have Hb := Lib.hid (Hb.out.trans hb)
  have k0 := below_cell Hb.out K0.out
  have k1 := below_cell Hb.out K1.out
  have k2 := below_cell Hb.out K2.out
  have k3 := below_cell Hb.out K3.out
  clear hwr hb
  replace Hwr := Lib.hid (show WrAt _ _ _ [15] from by have := Hwr.out; rwa [splitL1 (by decide) (by decide), List.nil_append] at this)
  go_wp2_with fail
  refine (wrB2 _ _ _ st _ Hwr.out (by simp [splitL]) hst0 hst9).mono ?_
  rintro e w4 ⟨rfl, hwr, hb⟩
  have Hwr := Lib.hid hwr
  have Hb := Lib.hid (Hb.out.trans hb)
  have k0 := below_cell Hb.out K0.out
  have k1 := below_cell Hb.out K1.out
  have k2 := below_cell Hb.out K2.out
  have k3 := below_cell Hb.out K3.out
  clear hwr hb
  go_wp2_with fail
  refine (wrB2 _ _ _ ct _ Hwr.out (by simp [splitL]) (by omega) (by omega)).mono ?_
  rintro e w5 ⟨rfl, hwr, hb⟩
  have Hwr := Lib.hid hwr
  have Hb := Lib.hid (Hb.out.trans hb)
  have k0 := below_cell Hb.out K0.out
  have k1 := below_cell Hb.out K1.out
  have k2 := below_cell Hb.out K2.out
  have k3 := below_cell Hb.out K3.out
  clear hwr hb
  go_wp2_with fail
  refine (pack_any 15 _ vs _ (Hr.out.below Hb.out) (by omega) Hall.out).mono ?_
  rintro e w6 ⟨v6, rfl, hown6, hb6⟩
  have Hb6 := Lib.hid (Hb.out.trans (hb6.mono Hb.out.size))
  have Hwr6 := Lib.hid (Hwr.out.below hb6)
  have Hrd6 := Lib.hid (show RdB w6 v6 (packL 15 vs) from Rd1.of_own hown6)
  obtain ⟨A6, c6, rfl, _⟩ := orow_form hown6
  clear hown6 hb6 k0 k1 k2 k3
  go_wp2_with fail
  refine (counted_any _ (packL 15 vs) _ Hrd6.out Hpl.out).mono ?_
  rintro e w7 ⟨v7, rfl, hown7, hb7⟩
  have Hb := Lib.hid (Hb6.out.trans (hb7.mono Hb6.out.size))
  have Hwr := Lib.hid (Hwr6.out.below hb7)
  have Hrd7 := Lib.hid (show RdB w7 v7 (((packL 15 vs).length : Int) :: packL 15 vs) from Rd1.of_own (n := (packL 15 vs).length + 1) hown7)
  obtain ⟨A7, c7, rfl, _⟩ := orow_form hown7
  clear hown7 hb7 Hb6 Hwr6 Hrd6
  go_wp2_with fail
  refine (wrBytes _ _ _ _ _ _ Hwr.out Hrd7.out (by have := Hpl.out; simp; omega) (by simp)).mono ?_
  rintro e w8 ⟨rfl, hwr, hb⟩
  have Hwr := Lib.hid hwr
  have Hb := Lib.hid (Hb.out.trans hb)
  clear hwr hb
  go_wp2_with fail
  refine (wrOut _ _ _ _ Hwr.out (by have := Hpl.out; simp; omega)).mono ?_
  rintro e w9 ⟨v9, rfl, hown9, hb9⟩
  have Hown9 := Lib.hid hown9
  have Hb9 := Lib.hid (Hb.out.trans (hb9.mono Hb.out.size))
  have Hs9 := Lib.hid Hb.out.size
  clear hown9 hb9
  go_wp2_with fail
  go_ret
  refine ⟨_, rfl, ?_, below_next Hb0.out Hb9.out⟩
  have := orow_weaken Hown9.out (Nat.le_trans Hb0.out.size Hs9.out)
  unfold encodeL
  simpa [be2] using this

set_option maxRecDepth 20000 in
set_option maxHeartbeats 1000000 in
theorem encode_16 (st ct : Int) (v : Value) (vs : List Int) (w : World) (h : RdI w v vs) (hm : MayIs 16 st ct vs) :
    Calls Try.prog 24 #[.agg #[.int .i64 16, .int .i64 st, .int .i64 ct, v]] w fun e w' => ∃ v', e = .returned v' ∧ w'.ownsRow w.heap.size TB 1 v' (encodeL 16 st ct vs).length (u8s (encodeL 16 st ct vs)) ∧ Below w.heap.size w w' := by
  obtain ⟨A, c, rfl, hc⟩ := h.form
  have hbx := bnew w (.cells #[.int .i64 16, .int .i64 st, .int .i64 ct, .slice A vs.length c] TReq)
  have Hb0 := Lib.hid (below_alloc (Below.refl _ w) (.cells #[.int .i64 16, .int .i64 st, .int .i64 ct, .slice A vs.length c] TReq))
  have Hr := Lib.hid (h.below Hb0.out)
  have c0 := bcell hbx 0
  have c1 := bcell hbx 1
  have c2 := bcell hbx 2
  have c3 := bcell hbx 3
  simp only [List.getElem?_toArray, List.getElem?_cons_zero, List.getElem?_cons_succ] at c0 c1 c2 c3
  have K0 := Lib.hid c0
  have K1 := Lib.hid c1
  have K2 := Lib.hid c2
  have K3 := Lib.hid c3
  have hct1 := hm.ct1
  have hct2 := hm.ct2000
  have hst0 := hm.st0
  have hst9 : st ≤ 65535 := by have := hm.st9; omega
  have hlen := hm.len
  have Hall := Lib.hid hm.all
  have hvs := hm.vs2000
  have hmost := hm.ctm
  clear hbx h c0 c1 c2 c3 hm
  replace hmost : ct ≤ 123 := hmost
  replace hlen : (vs.length : Int) = ct := hlen
  have hlen1 : vs.length ≤ 123 := by omega
  have Hpl := Lib.hid (packL_255 (fn := 16) (vs := vs) (by first | (left; exact ⟨rfl, by omega⟩) | (right; exact ⟨rfl, by omega⟩)))
  clear hlen hmost
  go_enter Try.func24, Try.ntmps24
  go_wp2_with fail
  generalize w.alloc (.cells #[.int .i64 16, .int .i64 st, .int .i64 ct, .slice A vs.length c] TReq) = w1 at *
  refine (wrNew w1.heap.size w1 (Nat.le_refl _)).mono ?_
  rintro e w2 ⟨rfl, hwr, hb⟩
  have Hwr := Lib.hid hwr
  have Hb := Lib.hid hb
  have k0 := below_cell Hb.out K0.out
  have k1 := below_cell Hb.out K1.out
  have k2 := below_cell Hb.out K2.out
  have k3 := below_cell Hb.out K3.out
  clear hwr hb
  go_wp2_with fail
  refine (wrU _ _ _ 1 16 _ Hwr.out (by simp) (by omega) (by omega) (by omega) (by decide)).mono ?_
  rintro e w3 ⟨rfl, hwr, hb⟩
  have Hwr := Lib.hid hwr
  have Hb := Lib.hid (Hb.out.trans hb)
  have k0 := below_cell Hb.out K0.out
  have k1 := below_cell Hb.out K1.out
  have k2 := below_cell Hb.out K2.out
  have k3 := below_cell Hb.out K3.out
  clear hwr hb
  replace Hwr := Lib.hid (show WrAt _ _ _ [16] from by have := Hwr.out; rwa [splitL1 (by decide) (by decide), List.nil_append] at this)
  go_wp2_with fail
  refine (wrB2 _ _ _ st _ Hwr.out (by simp [splitL]) hst0 hst9).mono ?_
  rintro e w4 ⟨rfl, hwr, hb⟩
  have Hwr := Lib.hid hwr
  have Hb := Lib.hid (Hb.out.trans hb)
  have k0 := below_cell Hb.out K0.out
  have k1 := below_cell Hb.out K1.out
  have k2 := below_cell Hb.out K2.out
  have k3 := below_cell Hb.out K3.out
  clear hwr hb
  go_wp2_with fail
  refine (wrB2 _ _ _ ct _ Hwr.out (by simp [splitL]) (by omega) (by omega)).mono ?_
  rintro e w5 ⟨rfl, hwr, hb⟩
  have Hwr := Lib.hid hwr
  have Hb := Lib.hid (Hb.out.trans hb)
  have k0 := below_cell Hb.out K0.out
  have k1 := below_cell Hb.out K1.out
  have k2 := below_cell Hb.out K2.out
  have k3 := below_cell Hb.out K3.out
  clear hwr hb
  go_wp2_with fail
  refine (pack_any 16 _ vs _ (Hr.out.below Hb.out) (by omega) Hall.out).mono ?_
  rintro e w6 ⟨v6, rfl, hown6, hb6⟩
  have Hb6 := Lib.hid (Hb.out.trans (hb6.mono Hb.out.size))
  have Hwr6 := Lib.hid (Hwr.out.below hb6)
  have Hrd6 := Lib.hid (show RdB w6 v6 (packL 16 vs) from Rd1.of_own hown6)
  obtain ⟨A6, c6, rfl, _⟩ := orow_form hown6
  clear hown6 hb6 k0 k1 k2 k3
  go_wp2_with fail
  refine (counted_any _ (packL 16 vs) _ Hrd6.out Hpl.out).mono ?_
  rintro e w7 ⟨v7, rfl, hown7, hb7⟩
  have Hb := Lib.hid (Hb6.out.trans (hb7.mono Hb6.out.size))
  have Hwr := Lib.hid (Hwr6.out.below hb7)
  have Hrd7 := Lib.hid (show RdB w7 v7 (((packL 16 vs).length : Int) :: packL 16 vs) from Rd1.of_own (n := (packL 16 vs).length + 1) hown7)
  obtain ⟨A7, c7, rfl, _⟩ := orow_form hown7
  clear hown7 hb7 Hb6 Hwr6 Hrd6
  go_wp2_with fail
  refine (wrBytes _ _ _ _ _ _ Hwr.out Hrd7.out (by have := Hpl.out; simp; omega) (by simp)).mono ?_
  rintro e w8 ⟨rfl, hwr, hb⟩
  have Hwr := Lib.hid hwr
  have Hb := Lib.hid (Hb.out.trans hb)
  clear hwr hb
  go_wp2_with fail
  refine (wrOut _ _ _ _ Hwr.out (by have := Hpl.out; simp; omega)).mono ?_
  rintro e w9 ⟨v9, rfl, hown9, hb9⟩
  have Hown9 := Lib.hid hown9
  have Hb9 := Lib.hid (Hb.out.trans (hb9.mono Hb.out.size))
  have Hs9 := Lib.hid Hb.out.size
  clear hown9 hb9
  go_wp2_with fail
  go_ret
  refine ⟨_, rfl, ?_, below_next Hb0.out Hb9.out⟩
  have := orow_weaken Hown9.out (Nat.le_trans Hb0.out.size Hs9.out)
  unfold encodeL
  simpa [be2] using this

theorem encode_any (fn st ct : Int) (v : Value) (vs : List Int) (w : World) (h : RdI w v vs) (hm : MayIs fn st ct vs) :
    Calls Try.prog 24 #[.agg #[.int .i64 fn, .int .i64 st, .int .i64 ct, v]] w fun e w' => ∃ v', e = .returned v' ∧ w'.ownsRow w.heap.size TB 1 v' (encodeL fn st ct vs).length (u8s (encodeL fn st ct vs)) ∧ Below w.heap.size w w' := by
  rcases known_cases hm.known with rfl | rfl | rfl | rfl | rfl | rfl | rfl | rfl
  · exact encode_1 st ct v vs w h hm
  · exact encode_2 st ct v vs w h hm
  · exact encode_3 st ct v vs w h hm
  · exact encode_4 st ct v vs w h hm
  · exact encode_5 st ct v vs w h hm
  · exact encode_6 st ct v vs w h hm
  · exact encode_15 st ct v vs w h hm
  · exact encode_16 st ct v vs w h hm
end Go.Proofs.Ythfcppflhkhpnaa

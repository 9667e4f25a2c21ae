/-
  The package pdu: Answer.
-/
import Derived.Test.YthfcppflhkhpnaaPduEncode
namespace Go.Proofs.Ythfcppflhkhpnaa
open Go.RowKit
set_option linter.unusedSimpArgs false

theorem heap_size_alloc (w : World) (o : Obj) : (w.alloc o).heap.size = w.heap.size + 1 := by simp

/-- The bytes of a reply that is right. -/
def answerL (fn st ct : Int) (vs : List Int) (code : Int) (ps : List Int) : List Int :=
  if code = 0 then (if readsB fn = true then fn :: ((packL fn ps).length : Int) :: packL fn ps else (encodeL fn st ct vs).take 5) else [fn + 128, code]

set_option maxRecDepth 20000 in
set_option maxHeartbeats 1000000 in
theorem Answer_bad (fn st ct code : Int) (v u : Value) (vs ps : List Int) (w : World) (h : RdI w v vs) (hp : RdI w u ps) (hx : vs.length ≤ 140737488351232) (hy : ps.length ≤ 140737488351232) (hm : mayB fn st ct vs = false ∨ rightB fn ct code ps = false) :
    Calls Try.prog 12 #[.agg #[.int .i64 fn, .int .i64 st, .int .i64 ct, v], .agg #[.int .i64 code, u]] w fun e w' => ∃ er, e = .returned (.tuple #[.slice none 0 0, er]) ∧ ErrIs w' er pduStr fn 1 ∧ Below w.heap.size w w' := by
  obtain ⟨A, c, rfl, hc⟩ := h.form
  obtain ⟨Ap, cp, rfl, hcp⟩ := hp.form
  have hbx := balloc (bnew w (.cells #[.int .i64 fn, .int .i64 st, .int .i64 ct, .slice A vs.length c] TReq)) (.cells #[.int .i64 code, .slice Ap ps.length cp] TRep)
  have hby := bnew (w.alloc (.cells #[.int .i64 fn, .int .i64 st, .int .i64 ct, .slice A vs.length c] TReq)) (.cells #[.int .i64 code, .slice Ap ps.length cp] TRep)
  have Hb0 := Lib.hid (below_alloc (below_alloc (Below.refl _ w) (.cells #[.int .i64 fn, .int .i64 st, .int .i64 ct, .slice A vs.length c] TReq)) (.cells #[.int .i64 code, .slice Ap ps.length cp] TRep))
  have Hr := Lib.hid (h.below Hb0.out)
  have Hp := Lib.hid (hp.below Hb0.out)
  have c0 := bcell hbx 0
  have c1 := bcell hbx 1
  have c2 := bcell hbx 2
  have c3 := bcell hbx 3
  have d0 := bcell hby 0
  have d1 := bcell hby 1
  simp only [List.getElem?_toArray, List.getElem?_cons_zero, List.getElem?_cons_succ, heap_size_alloc] at c0 c1 c2 c3 d0 d1
  have K0 := Lib.hid c0
  have K1 := Lib.hid c1
  have K2 := Lib.hid c2
  have K3 := Lib.hid c3
  have P0 := Lib.hid d0
  have P1 := Lib.hid d1
  clear hbx hby h hp c0 c1 c2 c3 d0 d1
  cases hmb : mayB fn st ct vs with
  | false =>
    have Hmb := Lib.hid hmb
    clear hmb hm
    go_enter Try.func12, Try.ntmps12
    go_wp2_with fail
    generalize (w.alloc (.cells #[.int .i64 fn, .int .i64 st, .int .i64 ct, .slice A vs.length c] TReq)).alloc (.cells #[.int .i64 code, .slice Ap ps.length cp] TRep) = w1 at *
    refine (may_any fn st ct _ vs _ Hr.out hx).mono ?_
    rintro e w2 ⟨rfl, hb2⟩
    have k0 := below_cell hb2 K0.out
    have k1 := below_cell hb2 K1.out
    have k2 := below_cell hb2 K2.out
    have k3 := below_cell hb2 K3.out
    have p0 := below_cell hb2 P0.out
    have p1 := below_cell hb2 P1.out
    have Hb2 := Lib.hid hb2
    clear hb2
    rw [Hmb.out]
    have Hb9 := Lib.hid (below_next Hb0.out Hb2.out)
    go_wp2_with (go_at_call 23; refine (pduIn _ _ _).mono ?_; rintro e w' ⟨rfl, rfl⟩)
    go_ret2
    exact ⟨_, rfl, ErrIs.mk, below_alloc Hb9.out _⟩
  | true =>
    have Hmb := Lib.hid hmb
    have Hri := Lib.hid (show rightB fn ct code ps = false by
      rcases hm with h | h
      · rw [hmb] at h; cases h
      · exact h)
    clear hmb hm
    go_enter Try.func12, Try.ntmps12
    go_wp2_with fail
    generalize (w.alloc (.cells #[.int .i64 fn, .int .i64 st, .int .i64 ct, .slice A vs.length c] TReq)).alloc (.cells #[.int .i64 code, .slice Ap ps.length cp] TRep) = w1 at *
    refine (may_any fn st ct _ vs _ Hr.out hx).mono ?_
    rintro e w2 ⟨rfl, hb2⟩
    have k0 := below_cell hb2 K0.out
    have k1 := below_cell hb2 K1.out
    have k2 := below_cell hb2 K2.out
    have k3 := below_cell hb2 K3.out
    have p0 := below_cell hb2 P0.out
    have p1 := below_cell hb2 P1.out
    have Hb2 := Lib.hid hb2
    clear hb2
    rw [Hmb.out]
    go_wp2_with fail
    refine (right_any fn st ct code _ _ vs ps _ (Hr.out.below Hb2.out) (Hp.out.below Hb2.out) hy).mono ?_
    rintro e w3 ⟨rfl, hb3⟩
    rw [Hri.out]
    have Hb3 := Lib.hid (below_next Hb2.out hb3)
    clear hb3 k0 k1 k2 k3 p0 p1
    have k0 := below_cell Hb3.out K0.out
    have k1 := below_cell Hb3.out K1.out
    have k2 := below_cell Hb3.out K2.out
    have k3 := below_cell Hb3.out K3.out
    have p0 := below_cell Hb3.out P0.out
    have p1 := below_cell Hb3.out P1.out
    have Hb9 := Lib.hid (below_next Hb0.out Hb3.out)
    go_wp2_with (go_at_call 23; refine (pduIn _ _ _).mono ?_; rintro e w' ⟨rfl, rfl⟩)
    go_ret2
    exact ⟨_, rfl, ErrIs.mk, below_alloc Hb9.out _⟩

/-- What is answered. -/
def AnsPost (fn st ct : Int) (vs : List Int) (code : Int) (ps : List Int) (w : World) (e : Ending) (w' : World) : Prop :=
  ∃ v', e = .returned (.tuple #[v', .nilIface]) ∧ w'.ownsRow w.heap.size TB 1 v' (answerL fn st ct vs code ps).length (u8s (answerL fn st ct vs code ps)) ∧ Below w.heap.size w w'

set_option maxRecDepth 20000 in
set_option maxHeartbeats 1000000 in
theorem Answer_code (fn st ct code : Int) (v u : Value) (vs ps : List Int) (w : World) (h : RdI w v vs) (hp : RdI w u ps) (hx : vs.length ≤ 140737488351232) (hy : ps.length ≤ 140737488351232) (hm : MayIs fn st ct vs) (hri : rightB fn ct code ps = true) (hcd : code ≠ 0) :
    Calls Try.prog 12 #[.agg #[.int .i64 fn, .int .i64 st, .int .i64 ct, v], .agg #[.int .i64 code, u]] w (AnsPost fn st ct vs code ps w) := by
  obtain ⟨A, c, rfl, hc⟩ := h.form
  obtain ⟨Ap, cp, rfl, hcp⟩ := hp.form
  have hbx := balloc (bnew w (.cells #[.int .i64 fn, .int .i64 st, .int .i64 ct, .slice A vs.length c] TReq)) (.cells #[.int .i64 code, .slice Ap ps.length cp] TRep)
  have hby := bnew (w.alloc (.cells #[.int .i64 fn, .int .i64 st, .int .i64 ct, .slice A vs.length c] TReq)) (.cells #[.int .i64 code, .slice Ap ps.length cp] TRep)
  have Hb0 := Lib.hid (below_alloc (below_alloc (Below.refl _ w) (.cells #[.int .i64 fn, .int .i64 st, .int .i64 ct, .slice A vs.length c] TReq)) (.cells #[.int .i64 code, .slice Ap ps.length cp] TRep))
  have Hr := Lib.hid (h.below Hb0.out)
  have Hp := Lib.hid (hp.below Hb0.out)
  have c0 := bcell hbx 0
  have c1 := bcell hbx 1
  have c2 := bcell hbx 2
  have c3 := bcell hbx 3
  have d0 := bcell hby 0
  have d1 := bcell hby 1
  simp only [List.getElem?_toArray, List.getElem?_cons_zero, List.getElem?_cons_succ, heap_size_alloc] at c0 c1 c2 c3 d0 d1
  have K0 := Lib.hid c0
  have K1 := Lib.hid c1
  have K2 := Lib.hid c2
  have K3 := Lib.hid c3
  have P0 := Lib.hid d0
  have P1 := Lib.hid d1
  clear hbx hby h hp c0 c1 c2 c3 d0 d1
  have Hmb := Lib.hid (mayB_iff.2 hm)
  have hk := known_cases hm.known
  have hf1 : 1 ≤ fn := by omega
  have hf2 : fn ≤ 16 := by omega
  have hne : (code != 0) = true := bne_iff_ne.2 hcd
  have hcc : 0 ≤ code ∧ code ≤ 255 := by
    unfold rightB at hri; rw [if_pos (.inl hne)] at hri
    simp only [Bool.and_eq_true, decide_eq_true_eq] at hri; exact hri.1
  have Hri := Lib.hid hri
  have Hfin := Lib.hid (show answerL fn st ct vs code ps = [fn + 128, code] by unfold answerL; rw [if_neg hcd])
  obtain ⟨h0, h1⟩ := hcc
  have hw1 : IntKind.u8.wrap (fn + 128) = fn + 128 := by rw [IntKind.wrap_u8]; omega
  have hw2 : IntKind.u8.wrap code = code := by rw [IntKind.wrap_u8]; omega
  have hw3 : (fn + 128) % 256 = fn + 128 := by omega
  have hw4 : code % 256 = code := by omega
  clear hm hk hri hcd
  go_enter Try.func12, Try.ntmps12
  go_wp2_with fail
  generalize (w.alloc (.cells #[.int .i64 fn, .int .i64 st, .int .i64 ct, .slice A vs.length c] TReq)).alloc (.cells #[.int .i64 code, .slice Ap ps.length cp] TRep) = w1 at *
  refine (may_any fn st ct _ vs _ Hr.out hx).mono ?_
  rintro e w2 ⟨rfl, hb2⟩
  have k0 := below_cell hb2 K0.out
  have k1 := below_cell hb2 K1.out
  have k2 := below_cell hb2 K2.out
  have k3 := below_cell hb2 K3.out
  have p0 := below_cell hb2 P0.out
  have p1 := below_cell hb2 P1.out
  have Hb2 := Lib.hid hb2
  clear hb2
  rw [Hmb.out]
  go_wp2_with fail
  refine (right_any fn st ct code _ _ vs ps _ (Hr.out.below Hb2.out) (Hp.out.below Hb2.out) hy).mono ?_
  rintro e w3 ⟨rfl, hb3⟩
  rw [Hri.out]
  have Hb3 := Lib.hid (below_next Hb2.out hb3)
  clear hb3 k0 k1 k2 k3 p0 p1
  have k0 := below_cell Hb3.out K0.out
  have k1 := below_cell Hb3.out K1.out
  have k2 := below_cell Hb3.out K2.out
  have k3 := below_cell Hb3.out K3.out
  have p0 := below_cell Hb3.out P0.out
  have p1 := below_cell Hb3.out P1.out
  have Hb9 := Lib.hid (below_next Hb0.out Hb3.out)
  have Hown := Lib.hid (World.ownsRow_lit (base := w.heap.size) (e := TB) (size := 1) w3 #[.int .u8 (fn + 128), .int .u8 code] 2 Hb9.out.size (by simp [maxLen]) rfl)
  go_wp2_with fail
  go_ret2
  exact ⟨_, rfl, by rw [Hfin.out]; exact Hown.out, below_alloc Hb9.out _⟩
theorem encodeL_len5 {fn st ct : Int} {vs : List Int} (_ : MayIs fn st ct vs) : 5 ≤ (encodeL fn st ct vs).length := by
  unfold encodeL
  repeat' split
  all_goals simp [be2]
/-- A row made shorter. -/
theorem orow_takeB {w : World} {base g n c : Nat} {xs : List Int} (h : w.ownsRow base TB 1 (.slice (some ⟨g, 0, none⟩) n c) n (u8s xs)) (k : Nat) (hk : k ≤ n) : w.ownsRow base TB 1 (.slice (some ⟨g, 0, none⟩) k c) k (u8s (xs.take k)) := by
  refine ⟨by have := h.1; simp at this ⊢; omega, .inr ?_⟩
  rcases h.2 with ⟨h1, _⟩ | ⟨g', cap, cur, h1, hb, hg, hn, hm, hs, ht⟩
  · simp at h1
  · simp only [Value.slice.injEq, Option.some.injEq, Addr.mk.injEq, and_true, true_and] at h1
    obtain ⟨rfl, rfl⟩ := h1
    refine ⟨g, c, cur, rfl, hb, hg, by omega, hm, hs, ?_⟩
    have e := congrArg (List.take (k * 1)) ht
    rw [List.take_take, Nat.min_eq_left (by omega)] at e
    rw [e, Nat.mul_one]; simp [u8s, List.map_take]
theorem right_ok {fn ct : Int} {ps : List Int} (hr : readsB fn = true) (h : rightB fn ct 0 ps = true) : OkVals fn ps := by
  unfold rightB at h
  rw [if_neg (by rw [hr]; decide)] at h
  simp only [numsB, Bool.and_eq_true, decide_eq_true_eq, List.all_eq_true, okN] at h
  exact fun v hv => h.2 v hv
theorem right_ct {fn ct : Int} {ps : List Int} (hr : readsB fn = true) (h : rightB fn ct 0 ps = true) : (ps.length : Int) = ct := by
  unfold rightB at h
  rw [if_neg (by rw [hr]; decide)] at h
  simp only [numsB, Bool.and_eq_true, decide_eq_true_eq] at h
  exact h.1
theorem right_len {fn st ct : Int} {vs ps : List Int} (hr : readsB fn = true) (hm : MayIs fn st ct vs) (h : rightB fn ct 0 ps = true) : ps.length ≤ 100000 := by
  have := right_ct hr h; have := hm.ct2000; omega
theorem right_255 {fn st ct : Int} {vs ps : List Int} (hr : readsB fn = true) (hm : MayIs fn st ct vs) (h : rightB fn ct 0 ps = true) : (packL fn ps).length ≤ 255 := by
  have h1 := right_ct hr h
  have h2 := hm.ctm
  have h3 : fn = 1 ∨ fn = 2 ∨ fn = 3 ∨ fn = 4 := by unfold readsB at hr; simp only [Bool.and_eq_true, decide_eq_true_eq] at hr; omega
  rcases h3 with rfl | rfl | rfl | rfl
  · rw [packL, if_pos (by decide), packBits_len]; have h2 : ct ≤ 2000 := h2; omega
  · rw [packL, if_pos (by decide), packBits_len]; have h2 : ct ≤ 2000 := h2; omega
  · rw [packL, if_neg (by decide), packRegs_len]; have h2 : ct ≤ 125 := h2; omega
  · rw [packL, if_neg (by decide), packRegs_len]; have h2 : ct ≤ 125 := h2; omega
theorem orow_eqB {w : World} {base : Nat} {v : Value} {xs ys : List Int} (h : w.ownsRow base TB 1 v xs.length (u8s xs)) (e : xs = ys) : w.ownsRow base TB 1 v ys.length (u8s ys) := e ▸ h
theorem grown_lit {w3 W w8 : World} {v : Value} {n : Nat} {xs : List Value} (hb : Below w3.heap.size w3 W) (hown : W.ownsRow w3.heap.size TB 1 v n xs) (hg : W.grownBy w8 v.ownBlock) : Below w3.heap.size w3 w8 :=
  hb.grown hg hb.size (fun k hk => (orow_blk hown k hk).1)
theorem orow_fit {w : World} {base n : Nat} {v : Value} {xs : List Value} {ys : List Int} (h : w.ownsRow base TB 1 v n xs) (e : xs = u8s ys) : w.ownsRow base TB 1 v ys.length (u8s ys) := by
  subst e
  have : n = ys.length := by have := h.1; simpa using this.symm
  subst this; exact h
/-- A literal of one byte, just laid. -/
theorem litOne {B : Nat} {w0 : World} {x : Int} (W : World) (h : Below B w0 W) (hB : B ≤ w0.heap.size := by exact Nat.le_refl _) : (W.alloc (.cells #[.int .u8 x] TB)).ownsRow B TB 1 (.slice (some ⟨W.heap.size, 0, none⟩) 1 1) 1 [.int .u8 x] :=
  World.ownsRow_lit W #[.int .u8 x] 1 (Nat.le_trans hB h.size) (by simp [maxLen]) rfl

set_option maxRecDepth 20000 in
set_option maxHeartbeats 1000000 in
theorem Answer_5 (st ct : Int) (v u : Value) (vs ps : List Int) (w : World) (h : RdI w v vs) (hp : RdI w u ps) (hx : vs.length ≤ 140737488351232) (hy : ps.length ≤ 140737488351232) (hm : MayIs 5 st ct vs) (hri : rightB 5 ct 0 ps = true) :
    Calls Try.prog 12 #[.agg #[.int .i64 5, .int .i64 st, .int .i64 ct, v], .agg #[.int .i64 0, u]] w (AnsPost 5 st ct vs 0 ps w) := by
  obtain ⟨A, c, rfl, hc⟩ := h.form
  obtain ⟨Ap, cp, rfl, hcp⟩ := hp.form
  have hbx := balloc (bnew w (.cells #[.int .i64 5, .int .i64 st, .int .i64 ct, .slice A vs.length c] TReq)) (.cells #[.int .i64 0, .slice Ap ps.length cp] TRep)
  have hby := bnew (w.alloc (.cells #[.int .i64 5, .int .i64 st, .int .i64 ct, .slice A vs.length c] TReq)) (.cells #[.int .i64 0, .slice Ap ps.length cp] TRep)
  have Hb0 := Lib.hid (below_alloc (below_alloc (Below.refl _ w) (.cells #[.int .i64 5, .int .i64 st, .int .i64 ct, .slice A vs.length c] TReq)) (.cells #[.int .i64 0, .slice Ap ps.length cp] TRep))
  have Hr := Lib.hid (h.below Hb0.out)
  have Hp := Lib.hid (hp.below Hb0.out)
  have c0 := bcell hbx 0
  have c1 := bcell hbx 1
  have c2 := bcell hbx 2
  have c3 := bcell hbx 3
  have d0 := bcell hby 0
  have d1 := bcell hby 1
  simp only [List.getElem?_toArray, List.getElem?_cons_zero, List.getElem?_cons_succ, heap_size_alloc] at c0 c1 c2 c3 d0 d1
  have K0 := Lib.hid c0
  have K1 := Lib.hid c1
  have K2 := Lib.hid c2
  have K3 := Lib.hid c3
  have P0 := Lib.hid d0
  have P1 := Lib.hid d1
  clear hbx hby h hp c0 c1 c2 c3 d0 d1
  have Hfin := Lib.hid (show answerL 5 st ct vs 0 ps = (encodeL 5 st ct vs).take 5 by unfold answerL; rw [if_pos rfl, if_neg (by decide)])
  have Hl5 := Lib.hid (show (encodeL 5 st ct vs).take 5 = encodeL 5 st ct vs by unfold encodeL; rfl)
  have Hmb := Lib.hid (mayB_iff.2 hm)
  have Hm := Lib.hid hm
  have Hri := Lib.hid hri
  clear hm hri
  go_enter Try.func12, Try.ntmps12
  go_wp2_with fail
  generalize (w.alloc (.cells #[.int .i64 5, .int .i64 st, .int .i64 ct, .slice A vs.length c] TReq)).alloc (.cells #[.int .i64 0, .slice Ap ps.length cp] TRep) = w1 at *
  refine (may_any 5 st ct _ vs _ Hr.out hx).mono ?_
  rintro e w2 ⟨rfl, hb2⟩
  have k0 := below_cell hb2 K0.out
  have k1 := below_cell hb2 K1.out
  have k2 := below_cell hb2 K2.out
  have k3 := below_cell hb2 K3.out
  have p0 := below_cell hb2 P0.out
  have p1 := below_cell hb2 P1.out
  have Hb2 := Lib.hid hb2
  clear hb2
  rw [Hmb.out]
  go_wp2_with fail
  refine (right_any 5 st ct 0 _ _ vs ps _ (Hr.out.below Hb2.out) (Hp.out.below Hb2.out) hy).mono ?_
  rintro e w3 ⟨rfl, hb3⟩
  rw [Hri.out]
  have Hb3 := Lib.hid (below_next Hb2.out hb3)
  clear hb3 k0 k1 k2 k3 p0 p1
  have k0 := below_cell Hb3.out K0.out
  have k1 := below_cell Hb3.out K1.out
  have k2 := below_cell Hb3.out K2.out
  have k3 := below_cell Hb3.out K3.out
  have p0 := below_cell Hb3.out P0.out
  have p1 := below_cell Hb3.out P1.out
  have Hb9 := Lib.hid (below_next Hb0.out Hb3.out)
  go_wp2_with fail
  refine (encode_any 5 st ct _ vs _ (Hr.out.below Hb3.out) Hm.out).mono ?_
  rintro e w4 ⟨v4, rfl, hown4, hb4⟩
  have Hown4 := Lib.hid (orow_weaken hown4 Hb9.out.size)
  have Hb4 := Lib.hid (below_next Hb9.out hb4)
  clear hown4 hb4
  go_wp2_with fail
  go_ret2
  exact ⟨_, rfl, by rw [Hfin.out, Hl5.out]; exact Hown4.out, Hb4.out⟩
set_option maxRecDepth 20000 in
set_option maxHeartbeats 1000000 in
theorem Answer_6 (st ct : Int) (v u : Value) (vs ps : List Int) (w : World) (h : RdI w v vs) (hp : RdI w u ps) (hx : vs.length ≤ 140737488351232) (hy : ps.length ≤ 140737488351232) (hm : MayIs 6 st ct vs) (hri : rightB 6 ct 0 ps = true) :
    Calls Try.prog 12 #[.agg #[.int .i64 6, .int .i64 st, .int .i64 ct, v], .agg #[.int .i64 0, u]] w (AnsPost 6 st ct vs 0 ps w) := by
  obtain ⟨A, c, rfl, hc⟩ := h.form
  obtain ⟨Ap, cp, rfl, hcp⟩ := hp.form
  have hbx := balloc (bnew w (.cells #[.int .i64 6, .int .i64 st, .int .i64 ct, .slice A vs.length c] TReq)) (.cells #[.int .i64 0, .slice Ap ps.length cp] TRep)
  have hby := bnew (w.alloc (.cells #[.int .i64 6, .int .i64 st, .int .i64 ct, .slice A vs.length c] TReq)) (.cells #[.int .i64 0, .slice Ap ps.length cp] TRep)
  have Hb0 := Lib.hid (below_alloc (below_alloc (Below.refl _ w) (.cells #[.int .i64 6, .int .i64 st, .int .i64 ct, .slice A vs.length c] TReq)) (.cells #[.int .i64 0, .slice Ap ps.length cp] TRep))
  have Hr := Lib.hid (h.below Hb0.out)
  have Hp := Lib.hid (hp.below Hb0.out)
  have c0 := bcell hbx 0
  have c1 := bcell hbx 1
  have c2 := bcell hbx 2
  have c3 := bcell hbx 3
  have d0 := bcell hby 0
  have d1 := bcell hby 1
  simp only [List.getElem?_toArray, List.getElem?_cons_zero, List.getElem?_cons_succ, heap_size_alloc] at c0 c1 c2 c3 d0 d1
  have K0 := Lib.hid c0
  have K1 := Lib.hid c1
  have K2 := Lib.hid c2
  have K3 := Lib.hid c3
  have P0 := Lib.hid d0
  have P1 := Lib.hid d1
  clear hbx hby h hp c0 c1 c2 c3 d0 d1
  have Hfin := Lib.hid (show answerL 6 st ct vs 0 ps = (encodeL 6 st ct vs).take 5 by unfold answerL; rw [if_pos rfl, if_neg (by decide)])
  have Hl5 := Lib.hid (show (encodeL 6 st ct vs).take 5 = encodeL 6 st ct vs by unfold encodeL; rfl)
  have Hmb := Lib.hid (mayB_iff.2 hm)
  have Hm := Lib.hid hm
  have Hri := Lib.hid hri
  clear hm hri
  go_enter Try.func12, Try.ntmps12
  go_wp2_with fail
  generalize (w.alloc (.cells #[.int .i64 6, .int .i64 st, .int .i64 ct, .slice A vs.length c] TReq)).alloc (.cells #[.int .i64 0, .slice Ap ps.length cp] TRep) = w1 at *
  refine (may_any 6 st ct _ vs _ Hr.out hx).mono ?_
  rintro e w2 ⟨rfl, hb2⟩
  have k0 := below_cell hb2 K0.out
  have k1 := below_cell hb2 K1.out
  have k2 := below_cell hb2 K2.out
  have k3 := below_cell hb2 K3.out
  have p0 := below_cell hb2 P0.out
  have p1 := below_cell hb2 P1.out
  have Hb2 := Lib.hid hb2
  clear hb2
  rw [Hmb.out]
  go_wp2_with fail
  refine (right_any 6 st ct 0 _ _ vs ps _ (Hr.out.below Hb2.out) (Hp.out.below Hb2.out) hy).mono ?_
  rintro e w3 ⟨rfl, hb3⟩
  rw [Hri.out]
  have Hb3 := Lib.hid (below_next Hb2.out hb3)
  clear hb3 k0 k1 k2 k3 p0 p1
  have k0 := below_cell Hb3.out K0.out
  have k1 := below_cell Hb3.out K1.out
  have k2 := below_cell Hb3.out K2.out
  have k3 := below_cell Hb3.out K3.out
  have p0 := below_cell Hb3.out P0.out
  have p1 := below_cell Hb3.out P1.out
  have Hb9 := Lib.hid (below_next Hb0.out Hb3.out)
  go_wp2_with fail
  refine (encode_any 6 st ct _ vs _ (Hr.out.below Hb3.out) Hm.out).mono ?_
  rintro e w4 ⟨v4, rfl, hown4, hb4⟩
  have Hown4 := Lib.hid (orow_weaken hown4 Hb9.out.size)
  have Hb4 := Lib.hid (below_next Hb9.out hb4)
  clear hown4 hb4
  go_wp2_with fail
  go_ret2
  exact ⟨_, rfl, by rw [Hfin.out, Hl5.out]; exact Hown4.out, Hb4.out⟩
set_option maxRecDepth 20000 in
set_option maxHeartbeats 1000000 in
theorem Answer_15 (st ct : Int) (v u : Value) (vs ps : List Int) (w : World) (h : RdI w v vs) (hp : RdI w u ps) (hx : vs.length ≤ 140737488351232) (hy : ps.length ≤ 140737488351232) (hm : MayIs 15 st ct vs) (hri : rightB 15 ct 0 ps = true) :
    Calls Try.prog 12 #[.agg #[.int .i64 15, .int .i64 st, .int .i64 ct, v], .agg #[.int .i64 0, u]] w (AnsPost 15 st ct vs 0 ps w) := by
  obtain ⟨A, c, rfl, hc⟩ := h.form
  obtain ⟨Ap, cp, rfl, hcp⟩ := hp.form
  have hbx := balloc (bnew w (.cells #[.int .i64 15, .int .i64 st, .int .i64 ct, .slice A vs.length c] TReq)) (.cells #[.int .i64 0, .slice Ap ps.length cp] TRep)
  have hby := bnew (w.alloc (.cells #[.int .i64 15, .int .i64 st, .int .i64 ct, .slice A vs.length c] TReq)) (.cells #[.int .i64 0, .slice Ap ps.length cp] TRep)
  have Hb0 := Lib.hid (below_alloc (below_alloc (Below.refl _ w) (.cells #[.int .i64 15, .int .i64 st, .int .i64 ct, .slice A vs.length c] TReq)) (.cells #[.int .i64 0, .slice Ap ps.length cp] TRep))
  have Hr := Lib.hid (h.below Hb0.out)
  have Hp := Lib.hid (hp.below Hb0.out)
  have c0 := bcell hbx 0
  have c1 := bcell hbx 1
  have c2 := bcell hbx 2
  have c3 := bcell hbx 3
  have d0 := bcell hby 0
  have d1 := bcell hby 1
  simp only [List.getElem?_toArray, List.getElem?_cons_zero, List.getElem?_cons_succ, heap_size_alloc] at c0 c1 c2 c3 d0 d1
  have K0 := Lib.hid c0
  have K1 := Lib.hid c1
  have K2 := Lib.hid c2
  have K3 := Lib.hid c3
  have P0 := Lib.hid d0
  have P1 := Lib.hid d1
  clear hbx hby h hp c0 c1 c2 c3 d0 d1
  have Hfin := Lib.hid (show answerL 15 st ct vs 0 ps = (encodeL 15 st ct vs).take 5 by unfold answerL; rw [if_pos rfl, if_neg (by decide)])
  have hlen := encodeL_len5 hm
  have Hmb := Lib.hid (mayB_iff.2 hm)
  have Hm := Lib.hid hm
  have Hri := Lib.hid hri
  clear hm hri
  go_enter Try.func12, Try.ntmps12
  go_wp2_with fail
  generalize (w.alloc (.cells #[.int .i64 15, .int .i64 st, .int .i64 ct, .slice A vs.length c] TReq)).alloc (.cells #[.int .i64 0, .slice Ap ps.length cp] TRep) = w1 at *
  refine (may_any 15 st ct _ vs _ Hr.out hx).mono ?_
  rintro e w2 ⟨rfl, hb2⟩
  have k0 := below_cell hb2 K0.out
  have k1 := below_cell hb2 K1.out
  have k2 := below_cell hb2 K2.out
  have k3 := below_cell hb2 K3.out
  have p0 := below_cell hb2 P0.out
  have p1 := below_cell hb2 P1.out
  have Hb2 := Lib.hid hb2
  clear hb2
  rw [Hmb.out]
  go_wp2_with fail
  refine (right_any 15 st ct 0 _ _ vs ps _ (Hr.out.below Hb2.out) (Hp.out.below Hb2.out) hy).mono ?_
  rintro e w3 ⟨rfl, hb3⟩
  rw [Hri.out]
  have Hb3 := Lib.hid (below_next Hb2.out hb3)
  clear hb3 k0 k1 k2 k3 p0 p1
  have k0 := below_cell Hb3.out K0.out
  have k1 := below_cell Hb3.out K1.out
  have k2 := below_cell Hb3.out K2.out
  have k3 := below_cell Hb3.out K3.out
  have p0 := below_cell Hb3.out P0.out
  have p1 := below_cell Hb3.out P1.out
  have Hb9 := Lib.hid (below_next Hb0.out Hb3.out)
  go_wp2_with fail
  refine (encode_any 15 st ct _ vs _ (Hr.out.below Hb3.out) Hm.out).mono ?_
  rintro e w4 ⟨v4, rfl, hown4, hb4⟩
  obtain ⟨g4, c4, cur4, rfl, _, _, hcap, _⟩ := orow_pos hown4 (by omega)
  have Hown4 := Lib.hid (orow_takeB (orow_weaken hown4 Hb9.out.size) 5 (by omega))
  have Hb4 := Lib.hid (below_next Hb9.out hb4)
  have hc4 : 5 ≤ c4 := by omega
  clear hown4 hb4
  go_wp2_with fail
  go_ret2
  exact ⟨_, rfl, by rw [Hfin.out, show ((encodeL 15 st ct vs).take 5).length = 5 by rw [List.length_take]; omega]; exact Hown4.out, Hb4.out⟩
set_option maxRecDepth 20000 in
set_option maxHeartbeats 1000000 in
theorem Answer_16 (st ct : Int) (v u : Value) (vs ps : List Int) (w : World) (h : RdI w v vs) (hp : RdI w u ps) (hx : vs.length ≤ 140737488351232) (hy : ps.length ≤ 140737488351232) (hm : MayIs 16 st ct vs) (hri : rightB 16 ct 0 ps = true) :
    Calls Try.prog 12 #[.agg #[.int .i64 16, .int .i64 st, .int .i64 ct, v], .agg #[.int .i64 0, u]] w (AnsPost 16 st ct vs 0 ps w) := by
  obtain ⟨A, c, rfl, hc⟩ := h.form
  obtain ⟨Ap, cp, rfl, hcp⟩ := hp.form
  have hbx := balloc (bnew w (.cells #[.int .i64 16, .int .i64 st, .int .i64 ct, .slice A vs.length c] TReq)) (.cells #[.int .i64 0, .slice Ap ps.length cp] TRep)
  have hby := bnew (w.alloc (.cells #[.int .i64 16, .int .i64 st, .int .i64 ct, .slice A vs.length c] TReq)) (.cells #[.int .i64 0, .slice Ap ps.length cp] TRep)
  have Hb0 := Lib.hid (below_alloc (below_alloc (Below.refl _ w) (.cells #[.int .i64 16, .int .i64 st, .int .i64 ct, .slice A vs.length c] TReq)) (.cells #[.int .i64 0, .slice Ap ps.length cp] TRep))
  have Hr := Lib.hid (h.below Hb0.out)
  have Hp := Lib.hid (hp.below Hb0.out)
  have c0 := bcell hbx 0
  have c1 := bcell hbx 1
  have c2 := bcell hbx 2
  have c3 := bcell hbx 3
  have d0 := bcell hby 0
  have d1 := bcell hby 1
  simp only [List.getElem?_toArray, List.getElem?_cons_zero, List.getElem?_cons_succ, heap_size_alloc] at c0 c1 c2 c3 d0 d1
  have K0 := Lib.hid c0
  have K1 := Lib.hid c1
  have K2 := Lib.hid c2
  have K3 := Lib.hid c3
  have P0 := Lib.hid d0
  have P1 := Lib.hid d1
  clear hbx hby h hp c0 c1 c2 c3 d0 d1
  have Hfin := Lib.hid (show answerL 16 st ct vs 0 ps = (encodeL 16 st ct vs).take 5 by unfold answerL; rw [if_pos rfl, if_neg (by decide)])
  have hlen := encodeL_len5 hm
  have Hmb := Lib.hid (mayB_iff.2 hm)
  have Hm := Lib.hid hm
  have Hri := Lib.hid hri
  clear hm hri
  go_enter Try.func12, Try.ntmps12
  go_wp2_with fail
  generalize (w.alloc (.cells #[.int .i64 16, .int .i64 st, .int .i64 ct, .slice A vs.length c] TReq)).alloc (.cells #[.int .i64 0, .slice Ap ps.length cp] TRep) = w1 at *
  refine (may_any 16 st ct _ vs _ Hr.out hx).mono ?_
  rintro e w2 ⟨rfl, hb2⟩
  have k0 := below_cell hb2 K0.out
  have k1 := below_cell hb2 K1.out
  have k2 := below_cell hb2 K2.out
  have k3 := below_cell hb2 K3.out
  have p0 := below_cell hb2 P0.out
  have p1 := below_cell hb2 P1.out
  have Hb2 := Lib.hid hb2
  clear hb2
  rw [Hmb.out]
  go_wp2_with fail
  refine (right_any 16 st ct 0 _ _ vs ps _ (Hr.out.below Hb2.out) (Hp.out.below Hb2.out) hy).mono ?_
  rintro e w3 ⟨rfl, hb3⟩
  rw [Hri.out]
  have Hb3 := Lib.hid (below_next Hb2.out hb3)
  clear hb3 k0 k1 k2 k3 p0 p1
  have k0 := below_cell Hb3.out K0.out
  have k1 := below_cell Hb3.out K1.out
  have k2 := below_cell Hb3.out K2.out
  have k3 := below_cell Hb3.out K3.out
  have p0 := below_cell Hb3.out P0.out
  have p1 := below_cell Hb3.out P1.out
  have Hb9 := Lib.hid (below_next Hb0.out Hb3.out)
  go_wp2_with fail
  refine (encode_any 16 st ct _ vs _ (Hr.out.below Hb3.out) Hm.out).mono ?_
  rintro e w4 ⟨v4, rfl, hown4, hb4⟩
  obtain ⟨g4, c4, cur4, rfl, _, _, hcap, _⟩ := orow_pos hown4 (by omega)
  have Hown4 := Lib.hid (orow_takeB (orow_weaken hown4 Hb9.out.size) 5 (by omega))
  have Hb4 := Lib.hid (below_next Hb9.out hb4)
  have hc4 : 5 ≤ c4 := by omega
  clear hown4 hb4
  go_wp2_with fail
  go_ret2
  exact ⟨_, rfl, by rw [Hfin.out, show ((encodeL 16 st ct vs).take 5).length = 5 by rw [List.length_take]; omega]; exact Hown4.out, Hb4.out⟩
end Go.Proofs.Ythfcppflhkhpnaa

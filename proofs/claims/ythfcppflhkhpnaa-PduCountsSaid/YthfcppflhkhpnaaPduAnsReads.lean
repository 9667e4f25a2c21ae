/-
  The package pdu: Answer, of reads; Answer in one word.
-/
import Derived.Test.YthfcppflhkhpnaaPduAns
import Derived.Deep.RegionHeld3
namespace Go.Proofs.Ythfcppflhkhpnaa
open Go.RowKit
set_option linter.unusedSimpArgs false

set_option maxRecDepth 20000 in
set_option maxHeartbeats 1000000 in
theorem Answer_1 (st ct : Int) (v u : Value) (vs ps : List Int) (w : World) (h : RdI w v vs) (hp : RdI w u ps) (hx : vs.length ≤ 140737488351232) (hy : ps.length ≤ 140737488351232) (hm : MayIs 1 st ct vs) (hri : rightB 1 ct 0 ps = true) :
    Calls Try.prog 12 #[.agg #[.int .i64 1, .int .i64 st, .int .i64 ct, v], .agg #[.int .i64 0, u]] w (AnsPost 1 st ct vs 0 ps w) := by
  obtain ⟨A, c, rfl, hc⟩ := h.form
  obtain ⟨Ap, cp, rfl, hcp⟩ := hp.form
  have hbx := balloc (bnew w (.cells #[.int .i64 1, .int .i64 st, .int .i64 ct, .slice A vs.length c] TReq)) (.cells #[.int .i64 0, .slice Ap ps.length cp] TRep)
  have hby := bnew (w.alloc (.cells #[.int .i64 1, .int .i64 st, .int .i64 ct, .slice A vs.length c] TReq)) (.cells #[.int .i64 0, .slice Ap ps.length cp] TRep)
  have Hb0 := Lib.hid (below_alloc (below_alloc (Below.refl _ w) (.cells #[.int .i64 1, .int .i64 st, .int .i64 ct, .slice A vs.length c] TReq)) (.cells #[.int .i64 0, .slice Ap ps.length cp] TRep))
  have Hr := Lib.hid (h.below Hb0.out)
  have Hp := Lib.hid (hp.below Hb0.out)
  have c0 := bcell hbx 0
  have c1 := bcell hbx 1
  have c2 := bcell hbx 2
  have c3 := bcell hbx 3
  have d0 := bcell hby 0
  have d1 := bcell hby 1
  simp only [List.getElem?_toArray, List.getElem?_cons_zero, List.getElem?_cons_succ, heap_size_alloc] at c0 c1 c2 c3 d0 d1
  have K0 := Lib.hid c0
  have K1 := Lib.hid c1
  have K2 := Lib.hid c2
  have K3 := Lib.hid c3
  have P0 := Lib.hid d0
  have P1 := Lib.hid d1
  clear hbx hby h hp c0 c1 c2 c3 d0 d1
  have Hok := Lib.hid (right_ok (by decide) hri)
  have Hpl := Lib.hid (right_255 (by decide) hm hri)
  have Hfin := Lib.hid (show answerL 1 st ct vs 0 ps = 1 :: ((packL 1 ps).length : Int) :: packL 1 ps by unfold answerL; rw [if_pos rfl, if_pos (by decide)])
  have hps := right_len (by decide) hm hri
  obtain ⟨ii, hi, hz0, hz1, hz2⟩ := info_parts infoB
  have Hmb := Lib.hid (mayB_iff.2 hm)
  have Hm := Lib.hid hm
  have Hri := Lib.hid hri
  clear hm hri
  go_enter Try.func12, Try.ntmps12
  go_wp2_with fail
  generalize (w.alloc (.cells #[.int .i64 1, .int .i64 st, .int .i64 ct, .slice A vs.length c] TReq)).alloc (.cells #[.int .i64 0, .slice Ap ps.length cp] TRep) = w1 at *
  refine (may_any 1 st ct _ vs _ Hr.out hx).mono ?_
  rintro e w2 ⟨rfl, hb2⟩
  have k0 := below_cell hb2 K0.out
  have k1 := below_cell hb2 K1.out
  have k2 := below_cell hb2 K2.out
  have k3 := below_cell hb2 K3.out
  have p0 := below_cell hb2 P0.out
  have p1 := below_cell hb2 P1.out
  have Hb2 := Lib.hid hb2
  clear hb2
  rw [Hmb.out]
  go_wp2_with fail
  refine (right_any 1 st ct 0 _ _ vs ps _ (Hr.out.below Hb2.out) (Hp.out.below Hb2.out) hy).mono ?_
  rintro e w3 ⟨rfl, hb3⟩
  rw [Hri.out]
  have Hb3 := Lib.hid (below_next Hb2.out hb3)
  clear hb3 k0 k1 k2 k3 p0 p1
  have k0 := below_cell Hb3.out K0.out
  have k1 := below_cell Hb3.out K1.out
  have k2 := below_cell Hb3.out K2.out
  have k3 := below_cell Hb3.out K3.out
  have p0 := below_cell Hb3.out P0.out
  have p1 := below_cell Hb3.out P1.out
  have Hb9 := Lib.hid (below_next Hb0.out Hb3.out)
  have Hp3 := Lib.hid (Hp.out.below Hb3.out)
  have Hpack := Lib.hid (fun (W : World) (hW : Below w3.heap.size w3 W) => pack_any 1 (.slice Ap ps.length cp) ps W (Hp3.out.below hW) hps Hok.out)
  have Hcount := Lib.hid (fun (v : Value) (W : World) (hW : RdB W v (packL 1 ps)) => counted_any v (packL 1 ps) W hW Hpl.out)
  have hpl1 : (packL 1 ps).length + 1 ≤ 256 := by have := Hpl.out; omega
  clear Hok Hpl
  generalize packL 1 ps = pk at *
  have Hrdl := Lib.hid (fun (W : World) (b : Nat) (v : Value) (h : W.ownsRow b TB 1 v pk.length (u8s pk)) => (show RdB W v pk from Rd1.of_own h))
  have hm9 : 1 + (pk.length + 1) ≤ maxLen := by unfold maxLen; omega
  have hm8 : (1 + (pk.length + 1)) * 1 ≤ 140737488355328 := by omega
  have hwf : IntKind.u8.wrap 1 = 1 := rfl
  have hkpos : 0 < pk.length + 1 := by omega
  go_wp2_with fail
  go_region_held3 (fun w' => Below w3.heap.size w3 w' ∧ w'.cell? ⟨w.heap.size, 0, none⟩ = some (.int .i64 1) ∧ w'.cell? ⟨w.heap.size + 1, 1, none⟩ = some (.slice Ap ps.length cp)) ((go_split_ands; refine keep2 ?_ k0 p1; (repeat' (first | (with_reducible exact Below.refl _ _) | (with_reducible assumption) | (with_reducible refine below_alloc ?_ _) | (with_reducible refine Below.drew ?_) | (with_reducible refine below_drewN ?_ _) | (exact below_next (by with_reducible assumption) (by first | with_reducible assumption | assumption)) | (refine below_next ?_ (by with_reducible assumption)) | fail)))) ((first
    | ((refine step_append_lies _ (by rfl) _ _ _ (by rfl) w3.heap.size TB ii (.int .u8 0) 1 1 Try.underlying27 hi hz0 hz1 hz2 rfl (Nat.le_refl 1) (.slice (some ⟨_, 0, none⟩) 1 1) 1 [.int .u8 1] (by rfl) (by first | exact orow_below (orow_below (litOne (w0 := w3) _ (by (repeat' (first | (with_reducible exact Below.refl _ _) | (with_reducible assumption) | (with_reducible refine below_alloc ?_ _) | (with_reducible refine Below.drew ?_) | (with_reducible refine below_drewN ?_ _) | (exact below_next (by with_reducible assumption) (by first | with_reducible assumption | assumption)) | (refine below_next ?_ (by with_reducible assumption)) | fail)))) hb6) hb7 | exact orow_below (orow_below (orow_drew (litOne (w0 := w3) _ (by (repeat' (first | (with_reducible exact Below.refl _ _) | (with_reducible assumption) | (with_reducible refine below_alloc ?_ _) | (with_reducible refine Below.drew ?_) | (with_reducible refine below_drewN ?_ _) | (exact below_next (by with_reducible assumption) (by first | with_reducible assumption | assumption)) | (refine below_next ?_ (by with_reducible assumption)) | fail))))) hb6) hb7 | exact orow_below (litOne (w0 := w3) _ (by (repeat' (first | (with_reducible exact Below.refl _ _) | (with_reducible assumption) | (with_reducible refine below_alloc ?_ _) | (with_reducible refine Below.drew ?_) | (with_reducible refine below_drewN ?_ _) | (exact below_next (by with_reducible assumption) (by first | with_reducible assumption | assumption)) | (refine below_next ?_ (by with_reducible assumption)) | fail)))) hb7 | exact orow_below (orow_drew (litOne (w0 := w3) _ (by (repeat' (first | (with_reducible exact Below.refl _ _) | (with_reducible assumption) | (with_reducible refine below_alloc ?_ _) | (with_reducible refine Below.drew ?_) | (with_reducible refine below_drewN ?_ _) | (exact below_next (by with_reducible assumption) (by first | with_reducible assumption | assumption)) | (refine below_next ?_ (by with_reducible assumption)) | fail))))) hb7 | exact litOne (w0 := w3) _ (by (repeat' (first | (with_reducible exact Below.refl _ _) | (with_reducible assumption) | (with_reducible refine below_alloc ?_ _) | (with_reducible refine Below.drew ?_) | (with_reducible refine below_drewN ?_ _) | (exact below_next (by with_reducible assumption) (by first | with_reducible assumption | assumption)) | (refine below_next ?_ (by with_reducible assumption)) | fail))) | exact orow_drew (litOne (w0 := w3) _ (by (repeat' (first | (with_reducible exact Below.refl _ _) | (with_reducible assumption) | (with_reducible refine below_alloc ?_ _) | (with_reducible refine Below.drew ?_) | (with_reducible refine below_drewN ?_ _) | (exact below_next (by with_reducible assumption) (by first | with_reducible assumption | assumption)) | (refine below_next ?_ (by with_reducible assumption)) | fail))))) ⟨g7, 0, none⟩ (pk.length + 1) c7 (u8s ((pk.length : Int) :: pk)) (by rfl) (by simp [u8s]) (by intro j u hu; first | exact orow_news hown7 j u hu | exact balloc_cell (orow_news hown7 j u hu) _) (ints_oneCell .u8 _) hkpos hm9 hm8 (by exact (show Below w3.heap.size w3 _ from by (repeat' (first | (with_reducible exact Below.refl _ _) | (with_reducible assumption) | (with_reducible refine below_alloc ?_ _) | (with_reducible refine Below.drew ?_) | (with_reducible refine below_drewN ?_ _) | (exact below_next (by with_reducible assumption) (by first | with_reducible assumption | assumption)) | (refine below_next ?_ (by with_reducible assumption)) | fail))).size) _ rfl ?_; intro g8 c8 w8 hown8 hg8 hat8 hlt8; have hB8 := grown_lit (w3 := w3) (by (repeat' (first | (with_reducible exact Below.refl _ _) | (with_reducible assumption) | (with_reducible refine below_alloc ?_ _) | (with_reducible refine Below.drew ?_) | (with_reducible refine below_drewN ?_ _) | (exact below_next (by with_reducible assumption) (by first | with_reducible assumption | assumption)) | (refine below_next ?_ (by with_reducible assumption)) | fail))) (by first | exact orow_below (orow_below (litOne (w0 := w3) _ (by (repeat' (first | (with_reducible exact Below.refl _ _) | (with_reducible assumption) | (with_reducible refine below_alloc ?_ _) | (with_reducible refine Below.drew ?_) | (with_reducible refine below_drewN ?_ _) | (exact below_next (by with_reducible assumption) (by first | with_reducible assumption | assumption)) | (refine below_next ?_ (by with_reducible assumption)) | fail)))) hb6) hb7 | exact orow_below (orow_below (orow_drew (litOne (w0 := w3) _ (by (repeat' (first | (with_reducible exact Below.refl _ _) | (with_reducible assumption) | (with_reducible refine below_alloc ?_ _) | (with_reducible refine Below.drew ?_) | (with_reducible refine below_drewN ?_ _) | (exact below_next (by with_reducible assumption) (by first | with_reducible assumption | assumption)) | (refine below_next ?_ (by with_reducible assumption)) | fail))))) hb6) hb7 | exact orow_below (litOne (w0 := w3) _ (by (repeat' (first | (with_reducible exact Below.refl _ _) | (with_reducible assumption) | (with_reducible refine below_alloc ?_ _) | (with_reducible refine Below.drew ?_) | (with_reducible refine below_drewN ?_ _) | (exact below_next (by with_reducible assumption) (by first | with_reducible assumption | assumption)) | (refine below_next ?_ (by with_reducible assumption)) | fail)))) hb7 | exact orow_below (orow_drew (litOne (w0 := w3) _ (by (repeat' (first | (with_reducible exact Below.refl _ _) | (with_reducible assumption) | (with_reducible refine below_alloc ?_ _) | (with_reducible refine Below.drew ?_) | (with_reducible refine below_drewN ?_ _) | (exact below_next (by with_reducible assumption) (by first | with_reducible assumption | assumption)) | (refine below_next ?_ (by with_reducible assumption)) | fail))))) hb7 | exact litOne (w0 := w3) _ (by (repeat' (first | (with_reducible exact Below.refl _ _) | (with_reducible assumption) | (with_reducible refine below_alloc ?_ _) | (with_reducible refine Below.drew ?_) | (with_reducible refine below_drewN ?_ _) | (exact below_next (by with_reducible assumption) (by first | with_reducible assumption | assumption)) | (refine below_next ?_ (by with_reducible assumption)) | fail))) | exact orow_drew (litOne (w0 := w3) _ (by (repeat' (first | (with_reducible exact Below.refl _ _) | (with_reducible assumption) | (with_reducible refine below_alloc ?_ _) | (with_reducible refine Below.drew ?_) | (with_reducible refine below_drewN ?_ _) | (exact below_next (by with_reducible assumption) (by first | with_reducible assumption | assumption)) | (refine below_next ?_ (by with_reducible assumption)) | fail))))) hg8))
    | (go_at_call 26; refine (Hpack.out _ ?_).mono ?_; ((repeat' (first | (with_reducible exact Below.refl _ _) | (with_reducible assumption) | (with_reducible refine below_alloc ?_ _) | (with_reducible refine Below.drew ?_) | (with_reducible refine below_drewN ?_ _) | (exact below_next (by with_reducible assumption) (by first | with_reducible assumption | assumption)) | (refine below_next ?_ (by with_reducible assumption)) | fail))); rintro e w6 ⟨v6, rfl, hown6, hb6⟩; obtain ⟨A6, c6, rfl, _⟩ := orow_form hown6) | (go_at_call 25; (refine (Hcount.out _ _ ((Hrdl.out _ _ _ hown6).below ?_)).mono ?_; ((repeat' (first | (with_reducible exact Below.refl _ _) | (with_reducible assumption) | (with_reducible refine below_alloc ?_ _) | (with_reducible refine Below.drew ?_) | (with_reducible refine below_drewN ?_ _) | (exact below_next (by with_reducible assumption) (by first | with_reducible assumption | assumption)) | (refine below_next ?_ (by with_reducible assumption)) | fail))); rintro e w7 ⟨v7, rfl, hown7, hb7⟩; obtain ⟨g7, c7, cur7, rfl, _⟩ := orow_pos hown7 hkpos))))
  all_goals
    have Hb8 := Lib.hid (below_next Hb9.out hB8)
    have Hown8 := Lib.hid (orow_weaken hown8 Hb9.out.size)
    clear hown8 hg8 hat8 hlt8 hb6 hb7 hown6 hown7 hB8 k0 k1 k2 k3 p0 p1
    go_wp2_with fail
    go_ret2
    exact ⟨.slice (some ⟨g8, 0, none⟩) (1 + (pk.length + 1)) c8, rfl, by rw [Hfin.out]; exact orow_fit Hown8.out rfl, Hb8.out⟩
set_option maxRecDepth 20000 in
set_option maxHeartbeats 1000000 in
theorem Answer_2 (st ct : Int) (v u : Value) (vs ps : List Int) (w : World) (h : RdI w v vs) (hp : RdI w u ps) (hx : vs.length ≤ 140737488351232) (hy : ps.length ≤ 140737488351232) (hm : MayIs 2 st ct vs) (hri : rightB 2 ct 0 ps = true) :
    Calls Try.prog 12 #[.agg #[.int .i64 2, .int .i64 st, .int .i64 ct, v], .agg #[.int .i64 0, u]] w (AnsPost 2 st ct vs 0 ps w) := by
  obtain ⟨A, c, rfl, hc⟩ := h.form
  obtain ⟨Ap, cp, rfl, hcp⟩ := hp.form
  have hbx := balloc (bnew w (.cells #[.int .i64 2, .int .i64 st, .int .i64 ct, .slice A vs.length c] TReq)) (.cells #[.int .i64 0, .slice Ap ps.length cp] TRep)
  have hby := bnew (w.alloc (.cells #[.int .i64 2, .int .i64 st, .int .i64 ct, .slice A vs.length c] TReq)) (.cells #[.int .i64 0, .slice Ap ps.length cp] TRep)
  have Hb0 := Lib.hid (below_alloc (below_alloc (Below.refl _ w) (.cells #[.int .i64 2, .int .i64 st, .int .i64 ct, .slice A vs.length c] TReq)) (.cells #[.int .i64 0, .slice Ap ps.length cp] TRep))
  have Hr := Lib.hid (h.below Hb0.out)
  have Hp := Lib.hid (hp.below Hb0.out)
  have c0 := bcell hbx 0
  have c1 := bcell hbx 1
  have c2 := bcell hbx 2
  have c3 := bcell hbx 3
  have d0 := bcell hby 0
  have d1 := bcell hby 1
  simp only [List.getElem?_toArray, List.getElem?_cons_zero, List.getElem?_cons_succ, heap_size_alloc] at c0 c1 c2 c3 d0 d1
  have K0 := Lib.hid c0
  have K1 := Lib.hid c1
  have K2 := Lib.hid c2
  have K3 := Lib.hid c3
  have P0 := Lib.hid d0
  have P1 := Lib.hid d1
  clear hbx hby h hp c0 c1 c2 c3 d0 d1
  have Hok := Lib.hid (right_ok (by decide) hri)
  have Hpl := Lib.hid (right_255 (by decide) hm hri)
  have Hfin := Lib.hid (show answerL 2 st ct vs 0 ps = 2 :: ((packL 2 ps).length : Int) :: packL 2 ps by unfold answerL; rw [if_pos rfl, if_pos (by decide)])
  have hps := right_len (by decide) hm hri
  obtain ⟨ii, hi, hz0, hz1, hz2⟩ := info_parts infoB
  have Hmb := Lib.hid (mayB_iff.2 hm)
  have Hm := Lib.hid hm
  have Hri := Lib.hid hri
  clear hm hri
  go_enter Try.func12, Try.ntmps12
  go_wp2_with fail
  generalize (w.alloc (.cells #[.int .i64 2, .int .i64 st, .int .i64 ct, .slice A vs.length c] TReq)).alloc (.cells #[.int .i64 0, .slice Ap ps.length cp] TRep) = w1 at *
  refine (may_any 2 st ct _ vs _ Hr.out hx).mono ?_
  rintro e w2 ⟨rfl, hb2⟩
  have k0 := below_cell hb2 K0.out
  have k1 := below_cell hb2 K1.out
  have k2 := below_cell hb2 K2.out
  have k3 := below_cell hb2 K3.out
  have p0 := below_cell hb2 P0.out
  have p1 := below_cell hb2 P1.out
  have Hb2 := Lib.hid hb2
  clear hb2
  rw [Hmb.out]
  go_wp2_with fail
  refine (right_any 2 st ct 0 _ _ vs ps _ (Hr.out.below Hb2.out) (Hp.out.below Hb2.out) hy).mono ?_
  rintro e w3 ⟨rfl, hb3⟩
  rw [Hri.out]
  have Hb3 := Lib.hid (below_next Hb2.out hb3)
  clear hb3 k0 k1 k2 k3 p0 p1
  have k0 := below_cell Hb3.out K0.out
  have k1 := below_cell Hb3.out K1.out
  have k2 := below_cell Hb3.out K2.out
  have k3 := below_cell Hb3.out K3.out
  have p0 := below_cell Hb3.out P0.out
  have p1 := below_cell Hb3.out P1.out
  have Hb9 := Lib.hid (below_next Hb0.out Hb3.out)
  have Hp3 := Lib.hid (Hp.out.below Hb3.out)
  have Hpack := Lib.hid (fun (W : World) (hW : Below w3.heap.size w3 W) => pack_any 2 (.slice Ap ps.length cp) ps W (Hp3.out.below hW) hps Hok.out)
  have Hcount := Lib.hid (fun (v : Value) (W : World) (hW : RdB W v (packL 2 ps)) => counted_any v (packL 2 ps) W hW Hpl.out)
  have hpl1 : (packL 2 ps).length + 1 ≤ 256 := by have := Hpl.out; omega
  clear Hok Hpl
  generalize packL 2 ps = pk at *
  have Hrdl := Lib.hid (fun (W : World) (b : Nat) (v : Value) (h : W.ownsRow b TB 1 v pk.length (u8s pk)) => (show RdB W v pk from Rd1.of_own h))
  have hm9 : 1 + (pk.length + 1) ≤ maxLen := by unfold maxLen; omega
  have hm8 : (1 + (pk.length + 1)) * 1 ≤ 140737488355328 := by omega
  have hwf : IntKind.u8.wrap 2 = 2 := rfl
  have hkpos : 0 < pk.length + 1 := by omega
  go_wp2_with fail
  go_region_held3 (fun w' => Below w3.heap.size w3 w' ∧ w'.cell? ⟨w.heap.size, 0, none⟩ = some (.int .i64 2) ∧ w'.cell? ⟨w.heap.size + 1, 1, none⟩ = some (.slice Ap ps.length cp)) ((go_split_ands; refine keep2 ?_ k0 p1; (repeat' (first | (with_reducible exact Below.refl _ _) | (with_reducible assumption) | (with_reducible refine below_alloc ?_ _) | (with_reducible refine Below.drew ?_) | (with_reducible refine below_drewN ?_ _) | (exact below_next (by with_reducible assumption) (by first | with_reducible assumption | assumption)) | (refine below_next ?_ (by with_reducible assumption)) | fail)))) ((first
    | ((refine step_append_lies _ (by rfl) _ _ _ (by rfl) w3.heap.size TB ii (.int .u8 0) 1 1 Try.underlying27 hi hz0 hz1 hz2 rfl (Nat.le_refl 1) (.slice (some ⟨_, 0, none⟩) 1 1) 1 [.int .u8 2] (by rfl) (by first | exact orow_below (orow_below (litOne (w0 := w3) _ (by (repeat' (first | (with_reducible exact Below.refl _ _) | (with_reducible assumption) | (with_reducible refine below_alloc ?_ _) | (with_reducible refine Below.drew ?_) | (with_reducible refine below_drewN ?_ _) | (exact below_next (by with_reducible assumption) (by first | with_reducible assumption | assumption)) | (refine below_next ?_ (by with_reducible assumption)) | fail)))) hb6) hb7 | exact orow_below (orow_below (orow_drew (litOne (w0 := w3) _ (by (repeat' (first | (with_reducible exact Below.refl _ _) | (with_reducible assumption) | (with_reducible refine below_alloc ?_ _) | (with_reducible refine Below.drew ?_) | (with_reducible refine below_drewN ?_ _) | (exact below_next (by with_reducible assumption) (by first | with_reducible assumption | assumption)) | (refine below_next ?_ (by with_reducible assumption)) | fail))))) hb6) hb7 | exact orow_below (litOne (w0 := w3) _ (by (repeat' (first | (with_reducible exact Below.refl _ _) | (with_reducible assumption) | (with_reducible refine below_alloc ?_ _) | (with_reducible refine Below.drew ?_) | (with_reducible refine below_drewN ?_ _) | (exact below_next (by with_reducible assumption) (by first | with_reducible assumption | assumption)) | (refine below_next ?_ (by with_reducible assumption)) | fail)))) hb7 | exact orow_below (orow_drew (litOne (w0 := w3) _ (by (repeat' (first | (with_reducible exact Below.refl _ _) | (with_reducible assumption) | (with_reducible refine below_alloc ?_ _) | (with_reducible refine Below.drew ?_) | (with_reducible refine below_drewN ?_ _) | (exact below_next (by with_reducible assumption) (by first | with_reducible assumption | assumption)) | (refine below_next ?_ (by with_reducible assumption)) | fail))))) hb7 | exact litOne (w0 := w3) _ (by (repeat' (first | (with_reducible exact Below.refl _ _) | (with_reducible assumption) | (with_reducible refine below_alloc ?_ _) | (with_reducible refine Below.drew ?_) | (with_reducible refine below_drewN ?_ _) | (exact below_next (by with_reducible assumption) (by first | with_reducible assumption | assumption)) | (refine below_next ?_ (by with_reducible assumption)) | fail))) | exact orow_drew (litOne (w0 := w3) _ (by (repeat' (first | (with_reducible exact Below.refl _ _) | (with_reducible assumption) | (with_reducible refine below_alloc ?_ _) | (with_reducible refine Below.drew ?_) | (with_reducible refine below_drewN ?_ _) | (exact below_next (by with_reducible assumption) (by first | with_reducible assumption | assumption)) | (refine below_next ?_ (by with_reducible assumption)) | fail))))) ⟨g7, 0, none⟩ (pk.length + 1) c7 (u8s ((pk.length : Int) :: pk)) (by rfl) (by simp [u8s]) (by intro j u hu; first | exact orow_news hown7 j u hu | exact balloc_cell (orow_news hown7 j u hu) _) (ints_oneCell .u8 _) hkpos hm9 hm8 (by exact (show Below w3.heap.size w3 _ from by (repeat' (first | (with_reducible exact Below.refl _ _) | (with_reducible assumption) | (with_reducible refine below_alloc ?_ _) | (with_reducible refine Below.drew ?_) | (with_reducible refine below_drewN ?_ _) | (exact below_next (by with_reducible assumption) (by first | with_reducible assumption | assumption)) | (refine below_next ?_ (by with_reducible assumption)) | fail))).size) _ rfl ?_; intro g8 c8 w8 hown8 hg8 hat8 hlt8; have hB8 := grown_lit (w3 := w3) (by (repeat' (first | (with_reducible exact Below.refl _ _) | (with_reducible assumption) | (with_reducible refine below_alloc ?_ _) | (with_reducible refine Below.drew ?_) | (with_reducible refine below_drewN ?_ _) | (exact below_next (by with_reducible assumption) (by first | with_reducible assumption | assumption)) | (refine below_next ?_ (by with_reducible assumption)) | fail))) (by first | exact orow_below (orow_below (litOne (w0 := w3) _ (by (repeat' (first | (with_reducible exact Below.refl _ _) | (with_reducible assumption) | (with_reducible refine below_alloc ?_ _) | (with_reducible refine Below.drew ?_) | (with_reducible refine below_drewN ?_ _) | (exact below_next (by with_reducible assumption) (by first | with_reducible assumption | assumption)) | (refine below_next ?_ (by with_reducible assumption)) | fail)))) hb6) hb7 | exact orow_below (orow_below (orow_drew (litOne (w0 := w3) _ (by (repeat' (first | (with_reducible exact Below.refl _ _) | (with_reducible assumption) | (with_reducible refine below_alloc ?_ _) | (with_reducible refine Below.drew ?_) | (with_reducible refine below_drewN ?_ _) | (exact below_next (by with_reducible assumption) (by first | with_reducible assumption | assumption)) | (refine below_next ?_ (by with_reducible assumption)) | fail))))) hb6) hb7 | exact orow_below (litOne (w0 := w3) _ (by (repeat' (first | (with_reducible exact Below.refl _ _) | (with_reducible assumption) | (with_reducible refine below_alloc ?_ _) | (with_reducible refine Below.drew ?_) | (with_reducible refine below_drewN ?_ _) | (exact below_next (by with_reducible assumption) (by first | with_reducible assumption | assumption)) | (refine below_next ?_ (by with_reducible assumption)) | fail)))) hb7 | exact orow_below (orow_drew (litOne (w0 := w3) _ (by (repeat' (first | (with_reducible exact Below.refl _ _) | (with_reducible assumption) | (with_reducible refine below_alloc ?_ _) | (with_reducible refine Below.drew ?_) | (with_reducible refine below_drewN ?_ _) | (exact below_next (by with_reducible assumption) (by first | with_reducible assumption | assumption)) | (refine below_next ?_ (by with_reducible assumption)) | fail))))) hb7 | exact litOne (w0 := w3) _ (by (repeat' (first | (with_reducible exact Below.refl _ _) | (with_reducible assumption) | (with_reducible refine below_alloc ?_ _) | (with_reducible refine Below.drew ?_) | (with_reducible refine below_drewN ?_ _) | (exact below_next (by with_reducible assumption) (by first | with_reducible assumption | assumption)) | (refine below_next ?_ (by with_reducible assumption)) | fail))) | exact orow_drew (litOne (w0 := w3) _ (by (repeat' (first | (with_reducible exact Below.refl _ _) | (with_reducible assumption) | (with_reducible refine below_alloc ?_ _) | (with_reducible refine Below.drew ?_) | (with_reducible refine below_drewN ?_ _) | (exact below_next (by with_reducible assumption) (by first | with_reducible assumption | assumption)) | (refine below_next ?_ (by with_reducible assumption)) | fail))))) hg8))
    | (go_at_call 26; refine (Hpack.out _ ?_).mono ?_; ((repeat' (first | (with_reducible exact Below.refl _ _) | (with_reducible assumption) | (with_reducible refine below_alloc ?_ _) | (with_reducible refine Below.drew ?_) | (with_reducible refine below_drewN ?_ _) | (exact below_next (by with_reducible assumption) (by first | with_reducible assumption | assumption)) | (refine below_next ?_ (by with_reducible assumption)) | fail))); rintro e w6 ⟨v6, rfl, hown6, hb6⟩; obtain ⟨A6, c6, rfl, _⟩ := orow_form hown6) | (go_at_call 25; (refine (Hcount.out _ _ ((Hrdl.out _ _ _ hown6).below ?_)).mono ?_; ((repeat' (first | (with_reducible exact Below.refl _ _) | (with_reducible assumption) | (with_reducible refine below_alloc ?_ _) | (with_reducible refine Below.drew ?_) | (with_reducible refine below_drewN ?_ _) | (exact below_next (by with_reducible assumption) (by first | with_reducible assumption | assumption)) | (refine below_next ?_ (by with_reducible assumption)) | fail))); rintro e w7 ⟨v7, rfl, hown7, hb7⟩; obtain ⟨g7, c7, cur7, rfl, _⟩ := orow_pos hown7 hkpos))))
  all_goals
    have Hb8 := Lib.hid (below_next Hb9.out hB8)
    have Hown8 := Lib.hid (orow_weaken hown8 Hb9.out.size)
    clear hown8 hg8 hat8 hlt8 hb6 hb7 hown6 hown7 hB8 k0 k1 k2 k3 p0 p1
    go_wp2_with fail
    go_ret2
    exact ⟨.slice (some ⟨g8, 0, none⟩) (1 + (pk.length + 1)) c8, rfl, by rw [Hfin.out]; exact orow_fit Hown8.out rfl, Hb8.out⟩
set_option maxRecDepth 20000 in
set_option maxHeartbeats 1000000 in
theorem Answer_3 (st ct : Int) (v u : Value) (vs ps : List Int) (w : World) (h : RdI w v vs) (hp : RdI w u ps) (hx : vs.length ≤ 140737488351232) (hy : ps.length ≤ 140737488351232) (hm : MayIs 3 st ct vs) (hri : rightB 3 ct 0 ps = true) :
    Calls Try.prog 12 #[.agg #[.int .i64 3, .int .i64 st, .int .i64 ct, v], .agg #[.int .i64 0, u]] w (AnsPost 3 st ct vs 0 ps w) := by
  obtain ⟨A, c, rfl, hc⟩ := h.form
  obtain ⟨Ap, cp, rfl, hcp⟩ := hp.form
  have hbx := balloc (bnew w (.cells #[.int .i64 3, .int .i64 st, .int .i64 ct, .slice A vs.length c] TReq)) (.cells #[.int .i64 0, .slice Ap ps.length cp] TRep)
  have hby := bnew (w.alloc (.cells #[.int .i64 3, .int .i64 st, .int .i64 ct, .slice A vs.length c] TReq)) (.cells #[.int .i64 0, .slice Ap ps.length cp] TRep)
  have Hb0 := Lib.hid (below_alloc (below_alloc (Below.refl _ w) (.cells #[.int .i64 3, .int .i64 st, .int .i64 ct, .slice A vs.length c] TReq)) (.cells #[.int .i64 0, .slice Ap ps.length cp] TRep))
  have Hr := Lib.hid (h.below Hb0.out)
  have Hp := Lib.hid (hp.below Hb0.out)
  have c0 := bcell hbx 0
  have c1 := bcell hbx 1
  have c2 := bcell hbx 2
  have c3 := bcell hbx 3
  have d0 := bcell hby 0
  have d1 := bcell hby 1
  simp only [List.getElem?_toArray, List.getElem?_cons_zero, List.getElem?_cons_succ, heap_size_alloc] at c0 c1 c2 c3 d0 d1
  have K0 := Lib.hid c0
  have K1 := Lib.hid c1
  have K2 := Lib.hid c2
  have K3 := Lib.hid c3
  have P0 := Lib.hid d0
  have P1 := Lib.hid d1
  clear hbx hby h hp c0 c1 c2 c3 d0 d1
  have Hok := Lib.hid (right_ok (by decide) hri)
  have Hpl := Lib.hid (right_255 (by decide) hm hri)
  have Hfin := Lib.hid (show answerL 3 st ct vs 0 ps = 3 :: ((packL 3 ps).length : Int) :: packL 3 ps by unfold answerL; rw [if_pos rfl, if_pos (by decide)])
  have hps := right_len (by decide) hm hri
  obtain ⟨ii, hi, hz0, hz1, hz2⟩ := info_parts infoB
  have Hmb := Lib.hid (mayB_iff.2 hm)
  have Hm := Lib.hid hm
  have Hri := Lib.hid hri
  clear hm hri
  go_enter Try.func12, Try.ntmps12
  go_wp2_with fail
  generalize (w.alloc (.cells #[.int .i64 3, .int .i64 st, .int .i64 ct, .slice A vs.length c] TReq)).alloc (.cells #[.int .i64 0, .slice Ap ps.length cp] TRep) = w1 at *
  refine (may_any 3 st ct _ vs _ Hr.out hx).mono ?_
  rintro e w2 ⟨rfl, hb2⟩
  have k0 := below_cell hb2 K0.out
  have k1 := below_cell hb2 K1.out
  have k2 := below_cell hb2 K2.out
  have k3 := below_cell hb2 K3.out
  have p0 := below_cell hb2 P0.out
  have p1 := below_cell hb2 P1.out
  have Hb2 := Lib.hid hb2
  clear hb2
  rw [Hmb.out]
  go_wp2_with fail
  refine (right_any 3 st ct 0 _ _ vs ps _ (Hr.out.below Hb2.out) (Hp.out.below Hb2.out) hy).mono ?_
  rintro e w3 ⟨rfl, hb3⟩
  rw [Hri.out]
  have Hb3 := Lib.hid (below_next Hb2.out hb3)
  clear hb3 k0 k1 k2 k3 p0 p1
  have k0 := below_cell Hb3.out K0.out
  have k1 := below_cell Hb3.out K1.out
  have k2 := below_cell Hb3.out K2.out
  have k3 := below_cell Hb3.out K3.out
  have p0 := below_cell Hb3.out P0.out
  have p1 := below_cell Hb3.out P1.out
  have Hb9 := Lib.hid (below_next Hb0.out Hb3.out)
  have Hp3 := Lib.hid (Hp.out.below Hb3.out)
  have Hpack := Lib.hid (fun (W : World) (hW : Below w3.heap.size w3 W) => pack_any 3 (.slice Ap ps.length cp) ps W (Hp3.out.below hW) hps Hok.out)
  have Hcount := Lib.hid (fun (v : Value) (W : World) (hW : RdB W v (packL 3 ps)) => counted_any v (packL 3 ps) W hW Hpl.out)
  have hpl1 : (packL 3 ps).length + 1 ≤ 256 := by have := Hpl.out; omega
  clear Hok Hpl
  generalize packL 3 ps = pk at *
  have Hrdl := Lib.hid (fun (W : World) (b : Nat) (v : Value) (h : W.ownsRow b TB 1 v pk.length (u8s pk)) => (show RdB W v pk from Rd1.of_own h))
  have hm9 : 1 + (pk.length + 1) ≤ maxLen := by unfold maxLen; omega
  have hm8 : (1 + (pk.length + 1)) * 1 ≤ 140737488355328 := by omega
  have hwf : IntKind.u8.wrap 3 = 3 := rfl
  have hkpos : 0 < pk.length + 1 := by omega
  go_wp2_with fail
  go_region_held3 (fun w' => Below w3.heap.size w3 w' ∧ w'.cell? ⟨w.heap.size, 0, none⟩ = some (.int .i64 3) ∧ w'.cell? ⟨w.heap.size + 1, 1, none⟩ = some (.slice Ap ps.length cp)) ((go_split_ands; refine keep2 ?_ k0 p1; (repeat' (first | (with_reducible exact Below.refl _ _) | (with_reducible assumption) | (with_reducible refine below_alloc ?_ _) | (with_reducible refine Below.drew ?_) | (with_reducible refine below_drewN ?_ _) | (exact below_next (by with_reducible assumption) (by first | with_reducible assumption | assumption)) | (refine below_next ?_ (by with_reducible assumption)) | fail)))) ((first
    | ((refine step_append_lies _ (by rfl) _ _ _ (by rfl) w3.heap.size TB ii (.int .u8 0) 1 1 Try.underlying27 hi hz0 hz1 hz2 rfl (Nat.le_refl 1) (.slice (some ⟨_, 0, none⟩) 1 1) 1 [.int .u8 3] (by rfl) (by first | exact orow_below (orow_below (litOne (w0 := w3) _ (by (repeat' (first | (with_reducible exact Below.refl _ _) | (with_reducible assumption) | (with_reducible refine below_alloc ?_ _) | (with_reducible refine Below.drew ?_) | (with_reducible refine below_drewN ?_ _) | (exact below_next (by with_reducible assumption) (by first | with_reducible assumption | assumption)) | (refine below_next ?_ (by with_reducible assumption)) | fail)))) hb6) hb7 | exact orow_below (orow_below (orow_drew (litOne (w0 := w3) _ (by (repeat' (first | (with_reducible exact Below.refl _ _) | (with_reducible assumption) | (with_reducible refine below_alloc ?_ _) | (with_reducible refine Below.drew ?_) | (with_reducible refine below_drewN ?_ _) | (exact below_next (by with_reducible assumption) (by first | with_reducible assumption | assumption)) | (refine below_next ?_ (by with_reducible assumption)) | fail))))) hb6) hb7 | exact orow_below (litOne (w0 := w3) _ (by (repeat' (first | (with_reducible exact Below.refl _ _) | (with_reducible assumption) | (with_reducible refine below_alloc ?_ _) | (with_reducible refine Below.drew ?_) | (with_reducible refine below_drewN ?_ _) | (exact below_next (by with_reducible assumption) (by first | with_reducible assumption | assumption)) | (refine below_next ?_ (by with_reducible assumption)) | fail)))) hb7 | exact orow_below (orow_drew (litOne (w0 := w3) _ (by (repeat' (first | (with_reducible exact Below.refl _ _) | (with_reducible assumption) | (with_reducible refine below_alloc ?_ _) | (with_reducible refine Below.drew ?_) | (with_reducible refine below_drewN ?_ _) | (exact below_next (by with_reducible assumption) (by first | with_reducible assumption | assumption)) | (refine below_next ?_ (by with_reducible assumption)) | fail))))) hb7 | exact litOne (w0 := w3) _ (by (repeat' (first | (with_reducible exact Below.refl _ _) | (with_reducible assumption) | (with_reducible refine below_alloc ?_ _) | (with_reducible refine Below.drew ?_) | (with_reducible refine below_drewN ?_ _) | (exact below_next (by with_reducible assumption) (by first | with_reducible assumption | assumption)) | (refine below_next ?_ (by with_reducible assumption)) | fail))) | exact orow_drew (litOne (w0 := w3) _ (by (repeat' (first | (with_reducible exact Below.refl _ _) | (with_reducible assumption) | (with_reducible refine below_alloc ?_ _) | (with_reducible refine Below.drew ?_) | (with_reducible refine below_drewN ?_ _) | (exact below_next (by with_reducible assumption) (by first | with_reducible assumption | assumption)) | (refine below_next ?_ (by with_reducible assumption)) | fail))))) ⟨g7, 0, none⟩ (pk.length + 1) c7 (u8s ((pk.length : Int) :: pk)) (by rfl) (by simp [u8s]) (by intro j u hu; first | exact orow_news hown7 j u hu | exact balloc_cell (orow_news hown7 j u hu) _) (ints_oneCell .u8 _) hkpos hm9 hm8 (by exact (show Below w3.heap.size w3 _ from by (repeat' (first | (with_reducible exact Below.refl _ _) | (with_reducible assumption) | (with_reducible refine below_alloc ?_ _) | (with_reducible refine Below.drew ?_) | (with_reducible refine below_drewN ?_ _) | (exact below_next (by with_reducible assumption) (by first | with_reducible assumption | assumption)) | (refine below_next ?_ (by with_reducible assumption)) | fail))).size) _ rfl ?_; intro g8 c8 w8 hown8 hg8 hat8 hlt8; have hB8 := grown_lit (w3 := w3) (by (repeat' (first | (with_reducible exact Below.refl _ _) | (with_reducible assumption) | (with_reducible refine below_alloc ?_ _) | (with_reducible refine Below.drew ?_) | (with_reducible refine below_drewN ?_ _) | (exact below_next (by with_reducible assumption) (by first | with_reducible assumption | assumption)) | (refine below_next ?_ (by with_reducible assumption)) | fail))) (by first | exact orow_below (orow_below (litOne (w0 := w3) _ (by (repeat' (first | (with_reducible exact Below.refl _ _) | (with_reducible assumption) | (with_reducible refine below_alloc ?_ _) | (with_reducible refine Below.drew ?_) | (with_reducible refine below_drewN ?_ _) | (exact below_next (by with_reducible assumption) (by first | with_reducible assumption | assumption)) | (refine below_next ?_ (by with_reducible assumption)) | fail)))) hb6) hb7 | exact orow_below (orow_below (orow_drew (litOne (w0 := w3) _ (by (repeat' (first | (with_reducible exact Below.refl _ _) | (with_reducible assumption) | (with_reducible refine below_alloc ?_ _) | (with_reducible refine Below.drew ?_) | (with_reducible refine below_drewN ?_ _) | (exact below_next (by with_reducible assumption) (by first | with_reducible assumption | assumption)) | (refine below_next ?_ (by with_reducible assumption)) | fail))))) hb6) hb7 | exact orow_below (litOne (w0 := w3) _ (by (repeat' (first | (with_reducible exact Below.refl _ _) | (with_reducible assumption) | (with_reducible refine below_alloc ?_ _) | (with_reducible refine Below.drew ?_) | (with_reducible refine below_drewN ?_ _) | (exact below_next (by with_reducible assumption) (by first | with_reducible assumption | assumption)) | (refine below_next ?_ (by with_reducible assumption)) | fail)))) hb7 | exact orow_below (orow_drew (litOne (w0 := w3) _ (by (repeat' (first | (with_reducible exact Below.refl _ _) | (with_reducible assumption) | (with_reducible refine below_alloc ?_ _) | (with_reducible refine Below.drew ?_) | (with_reducible refine below_drewN ?_ _) | (exact below_next (by with_reducible assumption) (by first | with_reducible assumption | assumption)) | (refine below_next ?_ (by with_reducible assumption)) | fail))))) hb7 | exact litOne (w0 := w3) _ (by (repeat' (first | (with_reducible exact Below.refl _ _) | (with_reducible assumption) | (with_reducible refine below_alloc ?_ _) | (with_reducible refine Below.drew ?_) | (with_reducible refine below_drewN ?_ _) | (exact below_next (by with_reducible assumption) (by first | with_reducible assumption | assumption)) | (refine below_next ?_ (by with_reducible assumption)) | fail))) | exact orow_drew (litOne (w0 := w3) _ (by (repeat' (first | (with_reducible exact Below.refl _ _) | (with_reducible assumption) | (with_reducible refine below_alloc ?_ _) | (with_reducible refine Below.drew ?_) | (with_reducible refine below_drewN ?_ _) | (exact below_next (by with_reducible assumption) (by first | with_reducible assumption | assumption)) | (refine below_next ?_ (by with_reducible assumption)) | fail))))) hg8))
    | (go_at_call 26; refine (Hpack.out _ ?_).mono ?_; ((repeat' (first | (with_reducible exact Below.refl _ _) | (with_reducible assumption) | (with_reducible refine below_alloc ?_ _) | (with_reducible refine Below.drew ?_) | (with_reducible refine below_drewN ?_ _) | (exact below_next (by with_reducible assumption) (by first | with_reducible assumption | assumption)) | (refine below_next ?_ (by with_reducible assumption)) | fail))); rintro e w6 ⟨v6, rfl, hown6, hb6⟩; obtain ⟨A6, c6, rfl, _⟩ := orow_form hown6) | (go_at_call 25; (refine (Hcount.out _ _ ((Hrdl.out _ _ _ hown6).below ?_)).mono ?_; ((repeat' (first | (with_reducible exact Below.refl _ _) | (with_reducible assumption) | (with_reducible refine below_alloc ?_ _) | (with_reducible refine Below.drew ?_) | (with_reducible refine below_drewN ?_ _) | (exact below_next (by with_reducible assumption) (by first | with_reducible assumption | assumption)) | (refine below_next ?_ (by with_reducible assumption)) | fail))); rintro e w7 ⟨v7, rfl, hown7, hb7⟩; obtain ⟨g7, c7, cur7, rfl, _⟩ := orow_pos hown7 hkpos))))
  all_goals
    have Hb8 := Lib.hid (below_next Hb9.out hB8)
    have Hown8 := Lib.hid (orow_weaken hown8 Hb9.out.size)
    clear hown8 hg8 hat8 hlt8 hb6 hb7 hown6 hown7 hB8 k0 k1 k2 k3 p0 p1
    go_wp2_with fail
    go_ret2
    exact ⟨.slice (some ⟨g8, 0, none⟩) (1 + (pk.length + 1)) c8, rfl, by rw [Hfin.out]; exact orow_fit Hown8.out rfl, Hb8.out⟩
set_option maxRecDepth 20000 in
set_option maxHeartbeats 1000000 in
theorem Answer_4 (st ct : Int) (v u : Value) (vs ps : List Int) (w : World) (h : RdI w v vs) (hp : RdI w u ps) (hx : vs.length ≤ 140737488351232) (hy : ps.length ≤ 140737488351232) (hm : MayIs 4 st ct vs) (hri : rightB 4 ct 0 ps = true) :
    Calls Try.prog 12 #[.agg #[.int .i64 4, .int .i64 st, .int .i64 ct, v], .agg #[.int .i64 0, u]] w (AnsPost 4 st ct vs 0 ps w) := by
  obtain ⟨A, c, rfl, hc⟩ := h.form
  obtain ⟨Ap, cp, rfl, hcp⟩ := hp.form
  have hbx := balloc (bnew w (.cells #[.int .i64 4, .int .i64 st, .int .i64 ct, .slice A vs.length c] TReq)) (.cells #[.int .i64 0, .slice Ap ps.length cp] TRep)
  have hby := bnew (w.alloc (.cells #[.int .i64 4, .int .i64 st, .int .i64 ct, .slice A vs.length c] TReq)) (.cells #[.int .i64 0, .slice Ap ps.length cp] TRep)
  have Hb0 := Lib.hid (below_alloc (below_alloc (Below.refl _ w) (.cells #[.int .i64 4, .int .i64 st, .int .i64 ct, .slice A vs.length c] TReq)) (.cells #[.int .i64 0, .slice Ap ps.length cp] TRep))
  have Hr := Lib.hid (h.below Hb0.out)
  have Hp := Lib.hid (hp.below Hb0.out)
  have c0 := bcell hbx 0
  have c1 := bcell hbx 1
  have c2 := bcell hbx 2
  have c3 := bcell hbx 3
  have d0 := bcell hby 0
  have d1 := bcell hby 1
  simp only [List.getElem?_toArray, List.getElem?_cons_zero, List.getElem?_cons_succ, heap_size_alloc] at c0 c1 c2 c3 d0 d1
  have K0 := Lib.hid c0
  have K1 := Lib.hid c1
  have K2 := Lib.hid c2
  have K3 := Lib.hid c3
  have P0 := Lib.hid d0
  have P1 := Lib.hid d1
  clear hbx hby h hp c0 c1 c2 c3 d0 d1
  have Hok := Lib.hid (right_ok (by decide) hri)
  have Hpl := Lib.hid (right_255 (by decide) hm hri)
  have Hfin := Lib.hid (show answerL 4 st ct vs 0 ps = 4 :: ((packL 4 ps).length : Int) :: packL 4 ps by unfold answerL; rw [if_pos rfl, if_pos (by decide)])
  have hps := right_len (by decide) hm hri
  obtain ⟨ii, hi, hz0, hz1, hz2⟩ := info_parts infoB
  have Hmb := Lib.hid (mayB_iff.2 hm)
  have Hm := Lib.hid hm
  have Hri := Lib.hid hri
  clear hm hri
  go_enter Try.func12, Try.ntmps12
  go_wp2_with fail
  generalize (w.alloc (.cells #[.int .i64 4, .int .i64 st, .int .i64 ct, .slice A vs.length c] TReq)).alloc (.cells #[.int .i64 0, .slice Ap ps.length cp] TRep) = w1 at *
  refine (may_any 4 st ct _ vs _ Hr.out hx).mono ?_
  rintro e w2 ⟨rfl, hb2⟩
  have k0 := below_cell hb2 K0.out
  have k1 := below_cell hb2 K1.out
  have k2 := below_cell hb2 K2.out
  have k3 := below_cell hb2 K3.out
  have p0 := below_cell hb2 P0.out
  have p1 := below_cell hb2 P1.out
  have Hb2 := Lib.hid hb2
  clear hb2
  rw [Hmb.out]
  go_wp2_with fail
  refine (right_any 4 st ct 0 _ _ vs ps _ (Hr.out.below Hb2.out) (Hp.out.below Hb2.out) hy).mono ?_
  rintro e w3 ⟨rfl, hb3⟩
  rw [Hri.out]
  have Hb3 := Lib.hid (below_next Hb2.out hb3)
  clear hb3 k0 k1 k2 k3 p0 p1
  have k0 := below_cell Hb3.out K0.out
  have k1 := below_cell Hb3.out K1.out
  have k2 := below_cell Hb3.out K2.out
  have k3 := below_cell Hb3.out K3.out
  have p0 := below_cell Hb3.out P0.out
  have p1 := below_cell Hb3.out P1.out
  have Hb9 := Lib.hid (below_next Hb0.out Hb3.out)
  have Hp3 := Lib.hid (Hp.out.below Hb3.out)
  have Hpack := Lib.hid (fun (W : World) (hW : Below w3.heap.size w3 W) => pack_any 4 (.slice Ap ps.length cp) ps W (Hp3.out.below hW) hps Hok.out)
  have Hcount := Lib.hid (fun (v : Value) (W : World) (hW : RdB W v (packL 4 ps)) => counted_any v (packL 4 ps) W hW Hpl.out)
  have hpl1 : (packL 4 ps).length + 1 ≤ 256 := by have := Hpl.out; omega
  clear Hok Hpl
  generalize packL 4 ps = pk at *
  have Hrdl := Lib.hid (fun (W : World) (b : Nat) (v : Value) (h : W.ownsRow b TB 1 v pk.length (u8s pk)) => (show RdB W v pk from Rd1.of_own h))
  have hm9 : 1 + (pk.length + 1) ≤ maxLen := by unfold maxLen; omega
  have hm8 : (1 + (pk.length + 1)) * 1 ≤ 140737488355328 := by omega
  have hwf : IntKind.u8.wrap 4 = 4 := rfl
  have hkpos : 0 < pk.length + 1 := by omega
  go_wp2_with fail
  go_region_held3 (fun w' => Below w3.heap.size w3 w' ∧ w'.cell? ⟨w.heap.size, 0, none⟩ = some (.int .i64 4) ∧ w'.cell? ⟨w.heap.size + 1, 1, none⟩ = some (.slice Ap ps.length cp)) ((go_split_ands; refine keep2 ?_ k0 p1; (repeat' (first | (with_reducible exact Below.refl _ _) | (with_reducible assumption) | (with_reducible refine below_alloc ?_ _) | (with_reducible refine Below.drew ?_) | (with_reducible refine below_drewN ?_ _) | (exact below_next (by with_reducible assumption) (by first | with_reducible assumption | assumption)) | (refine below_next ?_ (by with_reducible assumption)) | fail)))) ((first
    | ((refine step_append_lies _ (by rfl) _ _ _ (by rfl) w3.heap.size TB ii (.int .u8 0) 1 1 Try.underlying27 hi hz0 hz1 hz2 rfl (Nat.le_refl 1) (.slice (some ⟨_, 0, none⟩) 1 1) 1 [.int .u8 4] (by rfl) (by first | exact orow_below (orow_below (litOne (w0 := w3) _ (by (repeat' (first | (with_reducible exact Below.refl _ _) | (with_reducible assumption) | (with_reducible refine below_alloc ?_ _) | (with_reducible refine Below.drew ?_) | (with_reducible refine below_drewN ?_ _) | (exact below_next (by with_reducible assumption) (by first | with_reducible assumption | assumption)) | (refine below_next ?_ (by with_reducible assumption)) | fail)))) hb6) hb7 | exact orow_below (orow_below (orow_drew (litOne (w0 := w3) _ (by (repeat' (first | (with_reducible exact Below.refl _ _) | (with_reducible assumption) | (with_reducible refine below_alloc ?_ _) | (with_reducible refine Below.drew ?_) | (with_reducible refine below_drewN ?_ _) | (exact below_next (by with_reducible assumption) (by first | with_reducible assumption | assumption)) | (refine below_next ?_ (by with_reducible assumption)) | fail))))) hb6) hb7 | exact orow_below (litOne (w0 := w3) _ (by (repeat' (first | (with_reducible exact Below.refl _ _) | (with_reducible assumption) | (with_reducible refine below_alloc ?_ _) | (with_reducible refine Below.drew ?_) | (with_reducible refine below_drewN ?_ _) | (exact below_next (by with_reducible assumption) (by first | with_reducible assumption | assumption)) | (refine below_next ?_ (by with_reducible assumption)) | fail)))) hb7 | exact orow_below (orow_drew (litOne (w0 := w3) _ (by (repeat' (first | (with_reducible exact Below.refl _ _) | (with_reducible assumption) | (with_reducible refine below_alloc ?_ _) | (with_reducible refine Below.drew ?_) | (with_reducible refine below_drewN ?_ _) | (exact below_next (by with_reducible assumption) (by first | with_reducible assumption | assumption)) | (refine below_next ?_ (by with_reducible assumption)) | fail))))) hb7 | exact litOne (w0 := w3) _ (by (repeat' (first | (with_reducible exact Below.refl _ _) | (with_reducible assumption) | (with_reducible refine below_alloc ?_ _) | (with_reducible refine Below.drew ?_) | (with_reducible refine below_drewN ?_ _) | (exact below_next (by with_reducible assumption) (by first | with_reducible assumption | assumption)) | (refine below_next ?_ (by with_reducible assumption)) | fail))) | exact orow_drew (litOne (w0 := w3) _ (by (repeat' (first | (with_reducible exact Below.refl _ _) | (with_reducible assumption) | (with_reducible refine below_alloc ?_ _) | (with_reducible refine Below.drew ?_) | (with_reducible refine below_drewN ?_ _) | (exact below_next (by with_reducible assumption) (by first | with_reducible assumption | assumption)) | (refine below_next ?_ (by with_reducible assumption)) | fail))))) ⟨g7, 0, none⟩ (pk.length + 1) c7 (u8s ((pk.length : Int) :: pk)) (by rfl) (by simp [u8s]) (by intro j u hu; first | exact orow_news hown7 j u hu | exact balloc_cell (orow_news hown7 j u hu) _) (ints_oneCell .u8 _) hkpos hm9 hm8 (by exact (show Below w3.heap.size w3 _ from by (repeat' (first | (with_reducible exact Below.refl _ _) | (with_reducible assumption) | (with_reducible refine below_alloc ?_ _) | (with_reducible refine Below.drew ?_) | (with_reducible refine below_drewN ?_ _) | (exact below_next (by with_reducible assumption) (by first | with_reducible assumption | assumption)) | (refine below_next ?_ (by with_reducible assumption)) | fail))).size) _ rfl ?_; intro g8 c8 w8 hown8 hg8 hat8 hlt8; have hB8 := grown_lit (w3 := w3) (by (repeat' (first | (with_reducible exact Below.refl _ _) | (with_reducible assumption) | (with_reducible refine below_alloc ?_ _) | (with_reducible refine Below.drew ?_) | (with_reducible refine below_drewN ?_ _) | (exact below_next (by with_reducible assumption) (by first | with_reducible assumption | assumption)) | (refine below_next ?_ (by with_reducible assumption)) | fail))) (by first | exact orow_below (orow_below (litOne (w0 := w3) _ (by (repeat' (first | (with_reducible exact Below.refl _ _) | (with_reducible assumption) | (with_reducible refine below_alloc ?_ _) | (with_reducible refine Below.drew ?_) | (with_reducible refine below_drewN ?_ _) | (exact below_next (by with_reducible assumption) (by first | with_reducible assumption | assumption)) | (refine below_next ?_ (by with_reducible assumption)) | fail)))) hb6) hb7 | exact orow_below (orow_below (orow_drew (litOne (w0 := w3) _ (by (repeat' (first | (with_reducible exact Below.refl _ _) | (with_reducible assumption) | (with_reducible refine below_alloc ?_ _) | (with_reducible refine Below.drew ?_) | (with_reducible refine below_drewN ?_ _) | (exact below_next (by with_reducible assumption) (by first | with_reducible assumption | assumption)) | (refine below_next ?_ (by with_reducible assumption)) | fail))))) hb6) hb7 | exact orow_below (litOne (w0 := w3) _ (by (repeat' (first | (with_reducible exact Below.refl _ _) | (with_reducible assumption) | (with_reducible refine below_alloc ?_ _) | (with_reducible refine Below.drew ?_) | (with_reducible refine below_drewN ?_ _) | (exact below_next (by with_reducible assumption) (by first | with_reducible assumption | assumption)) | (refine below_next ?_ (by with_reducible assumption)) | fail)))) hb7 | exact orow_below (orow_drew (litOne (w0 := w3) _ (by (repeat' (first | (with_reducible exact Below.refl _ _) | (with_reducible assumption) | (with_reducible refine below_alloc ?_ _) | (with_reducible refine Below.drew ?_) | (with_reducible refine below_drewN ?_ _) | (exact below_next (by with_reducible assumption) (by first | with_reducible assumption | assumption)) | (refine below_next ?_ (by with_reducible assumption)) | fail))))) hb7 | exact litOne (w0 := w3) _ (by (repeat' (first | (with_reducible exact Below.refl _ _) | (with_reducible assumption) | (with_reducible refine below_alloc ?_ _) | (with_reducible refine Below.drew ?_) | (with_reducible refine below_drewN ?_ _) | (exact below_next (by with_reducible assumption) (by first | with_reducible assumption | assumption)) | (refine below_next ?_ (by with_reducible assumption)) | fail))) | exact orow_drew (litOne (w0 := w3) _ (by (repeat' (first | (with_reducible exact Below.refl _ _) | (with_reducible assumption) | (with_reducible refine below_alloc ?_ _) | (with_reducible refine Below.drew ?_) | (with_reducible refine below_drewN ?_ _) | (exact below_next (by with_reducible assumption) (by first | with_reducible assumption | assumption)) | (refine below_next ?_ (by with_reducible assumption)) | fail))))) hg8))
    | (go_at_call 26; refine (Hpack.out _ ?_).mono ?_; ((repeat' (first | (with_reducible exact Below.refl _ _) | (with_reducible assumption) | (with_reducible refine below_alloc ?_ _) | (with_reducible refine Below.drew ?_) | (with_reducible refine below_drewN ?_ _) | (exact below_next (by with_reducible assumption) (by first | with_reducible assumption | assumption)) | (refine below_next ?_ (by with_reducible assumption)) | fail))); rintro e w6 ⟨v6, rfl, hown6, hb6⟩; obtain ⟨A6, c6, rfl, _⟩ := orow_form hown6) | (go_at_call 25; (refine (Hcount.out _ _ ((Hrdl.out _ _ _ hown6).below ?_)).mono ?_; ((repeat' (first | (with_reducible exact Below.refl _ _) | (with_reducible assumption) | (with_reducible refine below_alloc ?_ _) | (with_reducible refine Below.drew ?_) | (with_reducible refine below_drewN ?_ _) | (exact below_next (by with_reducible assumption) (by first | with_reducible assumption | assumption)) | (refine below_next ?_ (by with_reducible assumption)) | fail))); rintro e w7 ⟨v7, rfl, hown7, hb7⟩; obtain ⟨g7, c7, cur7, rfl, _⟩ := orow_pos hown7 hkpos))))
  all_goals
    have Hb8 := Lib.hid (below_next Hb9.out hB8)
    have Hown8 := Lib.hid (orow_weaken hown8 Hb9.out.size)
    clear hown8 hg8 hat8 hlt8 hb6 hb7 hown6 hown7 hB8 k0 k1 k2 k3 p0 p1
    go_wp2_with fail
    go_ret2
    exact ⟨.slice (some ⟨g8, 0, none⟩) (1 + (pk.length + 1)) c8, rfl, by rw [Hfin.out]; exact orow_fit Hown8.out rfl, Hb8.out⟩

theorem Answer_ok (fn st ct code : Int) (v u : Value) (vs ps : List Int) (w : World) (h : RdI w v vs) (hp : RdI w u ps) (hy : ps.length ≤ 140737488351232) (hm : MayIs fn st ct vs) (hri : rightB fn ct code ps = true) :
    Calls Try.prog 12 #[.agg #[.int .i64 fn, .int .i64 st, .int .i64 ct, v], .agg #[.int .i64 code, u]] w (AnsPost fn st ct vs code ps w) := by
  have hx : vs.length ≤ 140737488351232 := by have := hm.vs2000; omega
  by_cases hc : code = 0
  · subst hc
    rcases known_cases hm.known with rfl | rfl | rfl | rfl | rfl | rfl | rfl | rfl
    · exact Answer_1 st ct v u vs ps w h hp hx hy hm hri
    · exact Answer_2 st ct v u vs ps w h hp hx hy hm hri
    · exact Answer_3 st ct v u vs ps w h hp hx hy hm hri
    · exact Answer_4 st ct v u vs ps w h hp hx hy hm hri
    · exact Answer_5 st ct v u vs ps w h hp hx hy hm hri
    · exact Answer_6 st ct v u vs ps w h hp hx hy hm hri
    · exact Answer_15 st ct v u vs ps w h hp hx hy hm hri
    · exact Answer_16 st ct v u vs ps w h hp hx hy hm hri
  · exact Answer_code fn st ct code v u vs ps w h hp hx hy hm hri hc
end Go.Proofs.Ythfcppflhkhpnaa

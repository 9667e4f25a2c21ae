/-
  PduBits: the walk.
-/
import Derived.Test.YthfcppflhkhpnaaPduFirst
import Derived.Test.YthfcppflhkhpnaaLaw
import Derived.Deep.RegionHeld3
namespace Go.Proofs.Ythfcppflhkhpnaa
open Go.RowKit
set_option linter.unusedSimpArgs false

theorem packByte_bit {l : List Int} (h : IsBit l) : ∀ k, k < l.length → packByte l / 2 ^ k % 2 = l.getD k 0 := by
  induction l with
  | nil => intro k hk; simp at hk
  | cons x xs ih =>
    intro k hk
    have hx := h x (List.mem_cons_self ..)
    have hp := (packByte_bd (fun y hy => h y (List.mem_cons_of_mem _ hy)) : 0 ≤ packByte xs ∧ _)
    cases k with
    | zero => simp only [packByte, List.getD_cons_zero]; rw [Int.pow_zero, Int.ediv_one]; omega
    | succ k =>
      have := ih (fun y hy => h y (List.mem_cons_of_mem _ hy)) k (by simpa using hk)
      rw [List.getD_cons_succ, ← this]
      have e : (2 : Int) ^ (k + 1) = 2 * 2 ^ k := by rw [Int.pow_succ, Int.mul_comm]
      have e2 : (x + 2 * packByte xs) / 2 = packByte xs := by omega
      simp only [packByte]
      rw [e, ← Int.ediv_ediv_of_nonneg (by omega), e2]
theorem byteAt_bit {l : List Int} (h : IsBit l) {i : Nat} (hi : i < l.length) : byteAt l (i / 8) / 2 ^ (i % 8) % 2 = l.getD i 0 := by
  unfold byteAt
  rw [packByte_bit ((h.drop _).take _) (i % 8) (by rw [List.length_take, List.length_drop]; omega)]
  simp only [List.getD_eq_getElem?_getD, List.getElem?_take, List.getElem?_drop]
  rw [if_pos (by omega), show 8 * (i / 8) + i % 8 = i by omega]
theorem and_one (y : Int) (j : Nat) (y0 : 0 ≤ y) (y1 : y ≤ 255) : bits .and .i64 (y / 2 ^ j) 1 = y / 2 ^ j % 2 := by
  obtain ⟨n, rfl⟩ := Int.eq_ofNat_of_zero_le y0
  have e : ((n : Int) / 2 ^ j) = ((n / 2 ^ j : Nat) : Int) := by push_cast; rfl
  have hle : n / 2 ^ j ≤ n := Nat.div_le_self _ _
  rw [e]
  generalize n / 2 ^ j = m at *
  have := i64_and_nat m 1 (by omega) (by omega)
  rw [Nat.and_one_is_mod] at this
  rw [show (1 : Int) = ((1 : Nat) : Int) from rfl, this]
  omega
theorem encodeL_15 (st ct : Int) (vs : List Int) : encodeL 15 st ct vs = [15, st / 256, st % 256, ct / 256, ct % 256, ((packBits vs).length : Int)] ++ packBits vs := by
  unfold encodeL packL; rw [if_neg (by decide), if_neg (by decide), if_pos (.inl rfl), if_pos (by decide)]; rfl
theorem encodeL_16 (st ct : Int) (vs : List Int) : encodeL 16 st ct vs = [16, st / 256, st % 256, ct / 256, ct % 256, ((packRegs vs).length : Int)] ++ packRegs vs := by
  unfold encodeL packL; rw [if_neg (by decide), if_neg (by decide), if_pos (.inr rfl), if_neg (by decide)]; rfl
theorem packRegs_at {l : List Int} : ∀ i, i < l.length → (packRegs l).getD (2 * i) 0 = l.getD i 0 / 256 ∧ (packRegs l).getD (2 * i + 1) 0 = l.getD i 0 % 256 := by
  induction l with
  | nil => intro i hi; simp at hi
  | cons x xs ih =>
    intro i hi
    cases i with
    | zero => simp [packRegs, be2]
    | succ i =>
      have := ih i (by simpa using hi)
      have e : packRegs (x :: xs) = x / 256 :: x % 256 :: packRegs xs := rfl
      rw [e, show 2 * (i + 1) = 2 * i + 1 + 1 by omega, show 2 * i + 1 + 1 + 1 = (2 * i + 1) + 1 + 1 by omega]
      simpa only [List.getD_cons_succ] using this

set_option maxRecDepth 100000 in
set_option maxHeartbeats 4000000 in
theorem bitsL_bad (fn st ct iv : Int) (v : Value) (vs : List Int) (w : World) (h : RdI w v vs) (hbad : vs.length ≤ 3000 → 15 ≤ fn → 0 ≤ iv → iv < vs.length → mayB fn st ct vs = false) :
    Calls Try.prog 7 #[.agg #[.int .i64 fn, .int .i64 st, .int .i64 ct, v], .int .i64 iv] w fun e w' => e = .returned (.bool true) ∧ Below w.heap.size w w' := by
  obtain ⟨A, c, rfl, hc⟩ := h.form
  have hbx := bnew w (.cells #[.int .i64 fn, .int .i64 st, .int .i64 ct, .slice A vs.length c] TReq)
  have Hb0 := Lib.hid (below_alloc (Below.refl _ w) (.cells #[.int .i64 fn, .int .i64 st, .int .i64 ct, .slice A vs.length c] TReq))
  have Hr := Lib.hid (h.below Hb0.out)
  have c0 := bcell hbx 0
  have c1 := bcell hbx 1
  have c2 := bcell hbx 2
  have c3 := bcell hbx 3
  simp only [List.getElem?_toArray, List.getElem?_cons_zero, List.getElem?_cons_succ] at c0 c1 c2 c3
  have K0 := Lib.hid c0
  have K1 := Lib.hid c1
  have K2 := Lib.hid c2
  have K3 := Lib.hid c3
  clear hbx h c0 c1 c2 c3
  have Hbad := Lib.hid hbad
  clear hbad
  go_enter Try.func7, Try.ntmps7
  go_wp2_with fail
  generalize w.alloc (.cells #[.int .i64 fn, .int .i64 st, .int .i64 ct, .slice A vs.length c] TReq) = w0 at *
  refine (first_true _).mono ?_
  rintro e w1 ⟨rfl, hb1⟩
  have k0 := below_cell hb1 K0.out
  have k1 := below_cell hb1 K1.out
  have k2 := below_cell hb1 K2.out
  have k3 := below_cell hb1 K3.out
  have Hb1 := Lib.hid (below_next Hb0.out hb1)
  have Hr1 := Lib.hid (Hr.out.below hb1)
  clear hb1
  by_cases h1 : 3000 < vs.length
  · go_wp2_with fail
    refine (first_true _).mono ?_
    rintro e w9 ⟨rfl, hb9⟩
    go_wp2_with fail
    go_ret
    exact ⟨rfl, below_next Hb1.out hb9⟩
  by_cases h2 : fn < 15
  · go_wp2_with fail
    refine (first_true _).mono ?_
    rintro e w9 ⟨rfl, hb9⟩
    go_wp2_with fail
    go_ret
    exact ⟨rfl, below_next Hb1.out hb9⟩
  by_cases h3 : iv < 0
  · go_wp2_with fail
    refine (first_true _).mono ?_
    rintro e w9 ⟨rfl, hb9⟩
    go_wp2_with fail
    go_ret
    exact ⟨rfl, below_next Hb1.out hb9⟩
  by_cases h4 : (vs.length : Int) ≤ iv
  · go_wp2_with fail
    refine (first_true _).mono ?_
    rintro e w9 ⟨rfl, hb9⟩
    go_wp2_with fail
    go_ret
    exact ⟨rfl, below_next Hb1.out hb9⟩
  have Hm := Lib.hid (Hbad.out (by omega) (by omega) (by omega) (by omega))
  go_wp2_with fail
  refine (Encode_bad fn st ct _ vs _ Hr1.out (by omega) Hm.out).mono ?_
  rintro e w3 ⟨er, rfl, her, hb3⟩
  obtain ⟨ex, rfl⟩ := her.form
  have Hb3 := Lib.hid (below_next Hb1.out hb3)
  clear her hb3
  go_wp2_with fail
  refine (first_true _).mono ?_
  rintro e w9 ⟨rfl, hb9⟩
  go_wp2_with fail
  go_ret
  exact ⟨rfl, below_next Hb3.out hb9⟩

set_option maxRecDepth 100000 in
set_option maxHeartbeats 4000000 in
theorem bitsL_15 (st ct : Int) (i : Nat) (v : Value) (vs : List Int) (w : World) (h : RdI w v vs) (hi : i < vs.length) (hm : MayIs 15 st ct vs) :
    Calls Try.prog 7 #[.agg #[.int .i64 15, .int .i64 st, .int .i64 ct, v], .int .i64 (i : Int)] w fun e w' => e = .returned (.bool true) ∧ Below w.heap.size w w' := by
  have Hbit := Lib.hid (OkVals.bit (fn := 15) hm.all rfl)
  have hlen := hm.len
  have hctm := hm.ctm
  have hc1 := hm.ct1
  replace hlen : (vs.length : Int) = ct := hlen
  replace hctm : ct ≤ 1968 := hctm
  have Hm := Lib.hid hm
  have Hlen := Lib.hid hlen
  have hvs2 : vs.length ≤ 1968 := by omega
  have hpl : (packBits vs).length ≤ 255 := by rw [packBits_len]; omega
  have hn6 : ([15, st / 256, st % 256, ct / 256, ct % 256, ((packBits vs).length : Int)] ++ packBits vs).length = (packBits vs).length + 6 := by simp
  have HE := Lib.hid (encodeL_15 st ct vs)
  obtain ⟨A, c, rfl, hc⟩ := h.form
  have hbx := bnew w (.cells #[.int .i64 15, .int .i64 st, .int .i64 ct, .slice A vs.length c] TReq)
  have Hb0 := Lib.hid (below_alloc (Below.refl _ w) (.cells #[.int .i64 15, .int .i64 st, .int .i64 ct, .slice A vs.length c] TReq))
  have Hr := Lib.hid (h.below Hb0.out)
  have c0 := bcell hbx 0
  have c1 := bcell hbx 1
  have c2 := bcell hbx 2
  have c3 := bcell hbx 3
  simp only [List.getElem?_toArray, List.getElem?_cons_zero, List.getElem?_cons_succ] at c0 c1 c2 c3
  have K0 := Lib.hid c0
  have K1 := Lib.hid c1
  have K2 := Lib.hid c2
  have K3 := Lib.hid c3
  clear hbx h c0 c1 c2 c3
  obtain ⟨gv, ov, rfl, cvi⟩ := Hr.out.at i hi
  have Cvi := Lib.hid cvi
  clear hm cvi hlen
  go_enter Try.func7, Try.ntmps7
  go_wp2_with fail
  generalize w.alloc (.cells #[.int .i64 15, .int .i64 st, .int .i64 ct, .slice (some ⟨gv, ov, none⟩) vs.length c] TReq) = w0 at *
  refine (first_true _).mono ?_
  rintro e w1 ⟨rfl, hb1⟩
  have k0 := below_cell hb1 K0.out
  have k1 := below_cell hb1 K1.out
  have k2 := below_cell hb1 K2.out
  have k3 := below_cell hb1 K3.out
  have Hb01 := Lib.hid hb1
  have Hb1 := Lib.hid (below_next Hb0.out hb1)
  have Hr1 := Lib.hid (Hr.out.below hb1)
  clear hb1
  go_wp2_with fail
  refine (Encode_ok 15 st ct _ vs _ Hr1.out Hm.out).mono ?_
  rintro e w3 ⟨v3, rfl, hown3, hb3⟩
  rw [HE.out] at hown3
  rw [hn6] at hown3
  have Hb03 := Lib.hid (below_next Hb01.out hb3)
  have Hb3 := Lib.hid (below_next Hb1.out hb3)
  clear k0 k1 k2 k3 hb3
  have k0 := below_cell Hb03.out K0.out
  have k1 := below_cell Hb03.out K1.out
  have k2 := below_cell Hb03.out K2.out
  have k3 := below_cell Hb03.out K3.out
  have cvi := below_cell Hb03.out Cvi.out
  obtain ⟨g3, c3, cur3, rfl, _, _, hc3, _⟩ := orow_pos hown3 (by omega)
  have b3 : w3.cell? ⟨g3, 3, none⟩ = some (.int .u8 (ct / 256)) := orow_cell (Value.int .u8) hown3 0 3 (by omega)
  have b4 : w3.cell? ⟨g3, 4, none⟩ = some (.int .u8 (ct % 256)) := orow_cell (Value.int .u8) hown3 0 4 (by omega)
  have b5 : w3.cell? ⟨g3, 5, none⟩ = some (.int .u8 ((packBits vs).length : Int)) := orow_cell (Value.int .u8) hown3 0 5 (by omega)
  have Hown3 := Lib.hid hown3
  clear hown3 hn6
  obtain ⟨t1, ht1⟩ : ∃ q, ct / 256 = q := ⟨_, rfl⟩
  obtain ⟨t2, ht2⟩ : ∃ q, ct % 256 = q := ⟨_, rfl⟩
  have z2 : 0 ≤ t1 ∧ t1 ≤ 255 ∧ 0 ≤ t2 ∧ t2 ≤ 255 ∧ 256 * t1 + t2 = ct := by omega
  rw [ht1] at b3
  rw [ht2] at b4
  clear ht1 ht2
  obtain ⟨e1, e2, e3, e4, e5⟩ := z2
  generalize hpn : (packBits vs).length = pn at *
  have Hpn := Lib.hid hpn
  clear hpn
  have hw3 : IntKind.i64.wrap t1 = t1 := IntWalk.i64_in _ (by omega)
  have hw4 : IntKind.i64.wrap t2 = t2 := IntWalk.i64_in _ (by omega)
  have hw5 : IntKind.i64.wrap (pn : Int) = (pn : Int) := IntWalk.i64_in _ (by omega)
  have hw6 : IntKind.i64.wrap (256 * t1) = 256 * t1 := IntWalk.i64_in _ (by omega)
  have hw8 : IntKind.i64.wrap (256 * t1 + t2) = 256 * t1 + t2 := IntWalk.i64_in _ (by omega)
  have n0 : decide ((pn : Int) + 6 < 6) = false := decide_eq_false (by omega)
  have hw9 : IntKind.i64.wrap ((pn : Int) + 6 - 6) = (pn : Int) + 6 - 6 := IntWalk.i64_in _ (by omega)
  have n1 : ((pn : Int) != (pn : Int) + 6 - 6) = false := bne_eq_false_iff_eq.2 (by omega)
  have n1' : ((pn : Int) != ((pn + 6 : Nat) : Int) - 6) = false := bne_eq_false_iff_eq.2 (by omega)
  have n2 : ((256 * t1 + t2) != (vs.length : Int)) = false := bne_eq_false_iff_eq.2 (by have := Hlen.out; omega)
  clear e5
  go_wp2_with fail
  go_quiet (fail)
  clear b3 b4 b5 hw3 hw4 hw5 hw6 hw8 hw9 n0 n1 n1' n2
  go_wp2_with fail
  have hj : i / 8 < pn := by rw [← Hpn.out, packBits_len]; omega
  have hbx : w3.cell? ⟨g3, 6 + i / 8, none⟩ = some (.int .u8 (byteAt vs (i / 8))) := by
    have := orow_cell (Value.int .u8) Hown3.out 0 (6 + i / 8) (by omega)
    rw [this, List.getD_eq_getElem?_getD, List.getElem?_append_right (by simp)]
    simp [packBits, show 6 + i / 8 - 6 = i / 8 by omega, List.getElem?_map, show i / 8 < (vs.length + 7) / 8 by omega]
  obtain ⟨y0, y1⟩ := byteAt_bd Hbit.out (i / 8)
  have hval := byteAt_bit Hbit.out hi
  have hand := and_one (byteAt vs (i / 8)) (i % 8) y0 y1
  rw [hval] at hand
  generalize byteAt vs (i / 8) = y at *
  generalize vs.getD i 0 = x at *
  clear hval
  have hwi : IntKind.i64.wrap (6 + (i : Int) / 8) = 6 + (i : Int) / 8 := IntWalk.i64_in _ (by omega)
  have hwy : IntKind.i64.wrap y = y := IntWalk.i64_in _ (by omega)
  have hwu : IntKind.u64.wrap ((i : Int) % 8) = (i : Int) % 8 := by rw [IntKind.wrap_u64]; omega
  have hx1 : (x == x) = true := beq_iff_eq.2 rfl
  have hi0 : (0 : Int) ≤ 6 + (i : Int) / 8 := by omega
  have hi1 : 6 + (i : Int) / 8 < (pn : Int) + 6 := by omega
  have hi1' : 6 + (i : Int) / 8 < ((pn + 6 : Nat) : Int) := by omega
  have hi2 : (6 + (i : Int) / 8).toNat = 6 + i / 8 := by omega
  have ht1 : Int.tdiv (i : Int) 8 = (i : Int) / 8 := Int.tdiv_eq_ediv_of_nonneg (by omega)
  have ht2 : Int.tmod (i : Int) 8 = (i : Int) % 8 := Int.tmod_eq_emod_of_nonneg (by omega)
  have hwq : IntKind.i64.wrap ((i : Int) / 8) = (i : Int) / 8 := IntWalk.i64_in _ (by omega)
  have hi3 : (0 : Int) ≤ (i : Int) := by omega
  have hi4 : (i : Int) < (vs.length : Int) := by omega
  have Hres := Lib.hid (show (bits .and .i64 (y / 2 ^ ((i : Int) % 8).toNat) 1 == x) = true from by first | exact beq_iff_eq.2 hand | (rw [show ((i : Int) % 8).toNat = i % 8 by omega]; exact beq_iff_eq.2 hand) | (rw [show ((i : Int) % 8).toNat = i % 8 by omega, hand]; exact hx1))
  generalize hwn : w3.drewN nq = w5 at *
  have Hb5 := Lib.hid (show Below w.heap.size w w5 by rw [← hwn]; exact below_drewN Hb3.out nq)
  have k3' : w5.cell? ⟨w.heap.size, 3, none⟩ = some (.slice (some ⟨gv, ov, none⟩) vs.length c) := by rw [← hwn]; exact k3
  have bx' : w5.cell? ⟨g3, 6 + i / 8, none⟩ = some (.int .u8 y) := by rw [← hwn]; exact hbx
  have cv' : w5.cell? ⟨gv, ov + i, none⟩ = some (.int .i64 x) := by rw [← hwn]; exact cvi
  clear hwn k0 k1 k2 k3 hbx cvi
  go_region_held3 (fun w' => Below w5.heap.size w5 w' ∧ w'.cell? ⟨w.heap.size, 3, none⟩ = some (.slice (some ⟨gv, ov, none⟩) vs.length c) ∧ w'.cell? ⟨g3, 6 + i / 8, none⟩ = some (.int .u8 y) ∧ w'.cell? ⟨gv, ov + i, none⟩ = some (.int .i64 x)) ((go_split_ands; refine keep3 ?_ k3' bx' cv'; (repeat' (first | (with_reducible exact Below.refl _ _) | (with_reducible assumption) | (with_reducible refine below_alloc ?_ _) | (with_reducible refine Below.drew ?_) | (with_reducible refine below_drewN ?_ _) | (exact below_next (by with_reducible assumption) (by first | with_reducible assumption | assumption)) | (refine below_next ?_ (by with_reducible assumption)) | fail))))
    (first | (go_at_call 11; refine (first_true _).mono ?_; rintro e w8 ⟨rfl, hb8⟩))
  clear ht1 ht2 hwq hi3 hi4 hwi hwy hwu hi0 hi1 hi1' hi2 hand
  go_wp2_with fail
  go_ret
  exact ⟨congrArg (fun b => Ending.returned (Value.bool b)) Hres.out, below_next Hb5.out (by (repeat' (first | (with_reducible exact Below.refl _ _) | (with_reducible assumption) | (with_reducible refine below_alloc ?_ _) | (with_reducible refine Below.drew ?_) | (with_reducible refine below_drewN ?_ _) | (exact below_next (by with_reducible assumption) (by first | with_reducible assumption | assumption)) | (refine below_next ?_ (by with_reducible assumption)) | fail)))⟩

set_option maxRecDepth 100000 in
set_option maxHeartbeats 4000000 in
theorem bitsL_16 (st ct : Int) (i : Nat) (v : Value) (vs : List Int) (w : World) (h : RdI w v vs) (hi : i < vs.length) (hm : MayIs 16 st ct vs) :
    Calls Try.prog 7 #[.agg #[.int .i64 16, .int .i64 st, .int .i64 ct, v], .int .i64 (i : Int)] w fun e w' => e = .returned (.bool true) ∧ Below w.heap.size w w' := by
  have hxi : 0 ≤ vs.getD i 0 ∧ vs.getD i 0 ≤ 65535 := (OkVals.reg (fn := 16) hm.all) _ (by rw [List.getD_eq_getElem?_getD, List.getElem?_eq_getElem hi]; exact List.getElem_mem _)
  have hlen := hm.len
  have hctm := hm.ctm
  have hc1 := hm.ct1
  replace hlen : (vs.length : Int) = ct := hlen
  replace hctm : ct ≤ 123 := hctm
  have Hm := Lib.hid hm
  have Hlen := Lib.hid hlen
  have hvs2 : vs.length ≤ 123 := by omega
  have hpl : (packRegs vs).length ≤ 255 := by rw [packRegs_len]; omega
  have hn6 : ([16, st / 256, st % 256, ct / 256, ct % 256, ((packRegs vs).length : Int)] ++ packRegs vs).length = (packRegs vs).length + 6 := by simp
  have HE := Lib.hid (encodeL_16 st ct vs)
  obtain ⟨A, c, rfl, hc⟩ := h.form
  have hbx := bnew w (.cells #[.int .i64 16, .int .i64 st, .int .i64 ct, .slice A vs.length c] TReq)
  have Hb0 := Lib.hid (below_alloc (Below.refl _ w) (.cells #[.int .i64 16, .int .i64 st, .int .i64 ct, .slice A vs.length c] TReq))
  have Hr := Lib.hid (h.below Hb0.out)
  have c0 := bcell hbx 0
  have c1 := bcell hbx 1
  have c2 := bcell hbx 2
  have c3 := bcell hbx 3
  simp only [List.getElem?_toArray, List.getElem?_cons_zero, List.getElem?_cons_succ] at c0 c1 c2 c3
  have K0 := Lib.hid c0
  have K1 := Lib.hid c1
  have K2 := Lib.hid c2
  have K3 := Lib.hid c3
  clear hbx h c0 c1 c2 c3
  obtain ⟨gv, ov, rfl, cvi⟩ := Hr.out.at i hi
  have Cvi := Lib.hid cvi
  clear hm cvi hlen
  go_enter Try.func7, Try.ntmps7
  go_wp2_with fail
  generalize w.alloc (.cells #[.int .i64 16, .int .i64 st, .int .i64 ct, .slice (some ⟨gv, ov, none⟩) vs.length c] TReq) = w0 at *
  refine (first_true _).mono ?_
  rintro e w1 ⟨rfl, hb1⟩
  have k0 := below_cell hb1 K0.out
  have k1 := below_cell hb1 K1.out
  have k2 := below_cell hb1 K2.out
  have k3 := below_cell hb1 K3.out
  have Hb01 := Lib.hid hb1
  have Hb1 := Lib.hid (below_next Hb0.out hb1)
  have Hr1 := Lib.hid (Hr.out.below hb1)
  clear hb1
  go_wp2_with fail
  refine (Encode_ok 16 st ct _ vs _ Hr1.out Hm.out).mono ?_
  rintro e w3 ⟨v3, rfl, hown3, hb3⟩
  rw [HE.out] at hown3
  rw [hn6] at hown3
  have Hb03 := Lib.hid (below_next Hb01.out hb3)
  have Hb3 := Lib.hid (below_next Hb1.out hb3)
  clear k0 k1 k2 k3 hb3
  have k0 := below_cell Hb03.out K0.out
  have k1 := below_cell Hb03.out K1.out
  have k2 := below_cell Hb03.out K2.out
  have k3 := below_cell Hb03.out K3.out
  have cvi := below_cell Hb03.out Cvi.out
  obtain ⟨g3, c3, cur3, rfl, _, _, hc3, _⟩ := orow_pos hown3 (by omega)
  have b3 : w3.cell? ⟨g3, 3, none⟩ = some (.int .u8 (ct / 256)) := orow_cell (Value.int .u8) hown3 0 3 (by omega)
  have b4 : w3.cell? ⟨g3, 4, none⟩ = some (.int .u8 (ct % 256)) := orow_cell (Value.int .u8) hown3 0 4 (by omega)
  have b5 : w3.cell? ⟨g3, 5, none⟩ = some (.int .u8 ((packRegs vs).length : Int)) := orow_cell (Value.int .u8) hown3 0 5 (by omega)
  have Hown3 := Lib.hid hown3
  clear hown3 hn6
  obtain ⟨t1, ht1⟩ : ∃ q, ct / 256 = q := ⟨_, rfl⟩
  obtain ⟨t2, ht2⟩ : ∃ q, ct % 256 = q := ⟨_, rfl⟩
  have z2 : 0 ≤ t1 ∧ t1 ≤ 255 ∧ 0 ≤ t2 ∧ t2 ≤ 255 ∧ 256 * t1 + t2 = ct := by omega
  rw [ht1] at b3
  rw [ht2] at b4
  clear ht1 ht2
  obtain ⟨e1, e2, e3, e4, e5⟩ := z2
  generalize hpn : (packRegs vs).length = pn at *
  have Hpn := Lib.hid hpn
  clear hpn
  have hw3 : IntKind.i64.wrap t1 = t1 := IntWalk.i64_in _ (by omega)
  have hw4 : IntKind.i64.wrap t2 = t2 := IntWalk.i64_in _ (by omega)
  have hw5 : IntKind.i64.wrap (pn : Int) = (pn : Int) := IntWalk.i64_in _ (by omega)
  have hw6 : IntKind.i64.wrap (256 * t1) = 256 * t1 := IntWalk.i64_in _ (by omega)
  have hw8 : IntKind.i64.wrap (256 * t1 + t2) = 256 * t1 + t2 := IntWalk.i64_in _ (by omega)
  have n0 : decide ((pn : Int) + 6 < 6) = false := decide_eq_false (by omega)
  have hw9 : IntKind.i64.wrap ((pn : Int) + 6 - 6) = (pn : Int) + 6 - 6 := IntWalk.i64_in _ (by omega)
  have n1 : ((pn : Int) != (pn : Int) + 6 - 6) = false := bne_eq_false_iff_eq.2 (by omega)
  have n1' : ((pn : Int) != ((pn + 6 : Nat) : Int) - 6) = false := bne_eq_false_iff_eq.2 (by omega)
  have n2 : ((256 * t1 + t2) != (vs.length : Int)) = false := bne_eq_false_iff_eq.2 (by have := Hlen.out; omega)
  clear e5
  go_wp2_with fail
  go_quiet (fail)
  clear b3 b4 b5 hw3 hw4 hw5 hw6 hw8 hw9 n0 n1 n1' n2
  go_wp2_with fail
  have hj : 2 * i + 1 < pn := by rw [← Hpn.out, packRegs_len]; omega
  obtain ⟨hpa, hpb⟩ := packRegs_at (l := vs) i hi
  have hbx : w3.cell? ⟨g3, 6 + 2 * i, none⟩ = some (.int .u8 (vs.getD i 0 / 256)) := by
    have := orow_cell (Value.int .u8) Hown3.out 0 (6 + 2 * i) (by omega)
    rw [this, ← hpa, List.getD_eq_getElem?_getD, List.getElem?_append_right (by simp), List.getD_eq_getElem?_getD]
    simp [show 6 + 2 * i - 6 = 2 * i by omega]
  have hby : w3.cell? ⟨g3, 7 + 2 * i, none⟩ = some (.int .u8 (vs.getD i 0 % 256)) := by
    have := orow_cell (Value.int .u8) Hown3.out 0 (7 + 2 * i) (by omega)
    rw [this, ← hpb, List.getD_eq_getElem?_getD, List.getElem?_append_right (by simp; omega), List.getD_eq_getElem?_getD]
    simp [show 7 + 2 * i - 6 = 2 * i + 1 by omega]
  obtain ⟨y1, hy1⟩ : ∃ q, vs.getD i 0 / 256 = q := ⟨_, rfl⟩
  obtain ⟨y2, hy2⟩ : ∃ q, vs.getD i 0 % 256 = q := ⟨_, rfl⟩
  have z : 0 ≤ y1 ∧ y1 ≤ 255 ∧ 0 ≤ y2 ∧ y2 ≤ 255 ∧ 256 * y1 + y2 = vs.getD i 0 := by omega
  rw [hy1] at hbx
  rw [hy2] at hby
  clear hy1 hy2 hpa hpb hxi
  generalize vs.getD i 0 = x at *
  obtain ⟨a1, a2, a3, a4, a5⟩ := z
  have hx1 : ((256 * y1 + y2) == x) = true := beq_iff_eq.2 a5
  clear a5
  have hw1 : IntKind.i64.wrap y1 = y1 := IntWalk.i64_in _ (by omega)
  have hw2 : IntKind.i64.wrap y2 = y2 := IntWalk.i64_in _ (by omega)
  have hw3 : IntKind.i64.wrap (256 * y1) = 256 * y1 := IntWalk.i64_in _ (by omega)
  have hw4 : IntKind.i64.wrap (256 * y1 + y2) = 256 * y1 + y2 := IntWalk.i64_in _ (by omega)
  have hwa : IntKind.i64.wrap (2 * (i : Int)) = 2 * (i : Int) := IntWalk.i64_in _ (by omega)
  have hwb : IntKind.i64.wrap (6 + 2 * (i : Int)) = 6 + 2 * (i : Int) := IntWalk.i64_in _ (by omega)
  have hwc : IntKind.i64.wrap (7 + 2 * (i : Int)) = 7 + 2 * (i : Int) := IntWalk.i64_in _ (by omega)
  have hi0 : (0 : Int) ≤ 6 + 2 * (i : Int) := by omega
  have hi1 : 6 + 2 * (i : Int) < (pn : Int) + 6 := by omega
  have hi5 : (0 : Int) ≤ 7 + 2 * (i : Int) := by omega
  have hi6 : 7 + 2 * (i : Int) < (pn : Int) + 6 := by omega
  have hi3 : (0 : Int) ≤ (i : Int) := by omega
  have hi4 : (i : Int) < (vs.length : Int) := by omega
  have hi2 : (6 + 2 * (i : Int)).toNat = 6 + 2 * i := by omega
  have hi7 : (7 + 2 * (i : Int)).toNat = 7 + 2 * i := by omega
  have Hres := Lib.hid hx1
  generalize hwn : w3.drewN nq = w5 at *
  have Hb5 := Lib.hid (show Below w.heap.size w w5 by rw [← hwn]; exact below_drewN Hb3.out nq)
  have k3' : w5.cell? ⟨w.heap.size, 3, none⟩ = some (.slice (some ⟨gv, ov, none⟩) vs.length c) := by rw [← hwn]; exact k3
  have bx' : w5.cell? ⟨g3, 6 + 2 * i, none⟩ = some (.int .u8 y1) := by rw [← hwn]; exact hbx
  have by' : w5.cell? ⟨g3, 7 + 2 * i, none⟩ = some (.int .u8 y2) := by rw [← hwn]; exact hby
  have cv' : w5.cell? ⟨gv, ov + i, none⟩ = some (.int .i64 x) := by rw [← hwn]; exact cvi
  clear hwn k0 k1 k2 k3 hbx hby cvi
  go_region_held3 (fun w' => Below w5.heap.size w5 w' ∧ w'.cell? ⟨w.heap.size, 3, none⟩ = some (.slice (some ⟨gv, ov, none⟩) vs.length c) ∧ w'.cell? ⟨g3, 6 + 2 * i, none⟩ = some (.int .u8 y1) ∧ w'.cell? ⟨g3, 7 + 2 * i, none⟩ = some (.int .u8 y2) ∧ w'.cell? ⟨gv, ov + i, none⟩ = some (.int .i64 x)) ((go_split_ands; refine keep4 ?_ k3' bx' by' cv'; (repeat' (first | (with_reducible exact Below.refl _ _) | (with_reducible assumption) | (with_reducible refine below_alloc ?_ _) | (with_reducible refine Below.drew ?_) | (with_reducible refine below_drewN ?_ _) | (exact below_next (by with_reducible assumption) (by first | with_reducible assumption | assumption)) | (refine below_next ?_ (by with_reducible assumption)) | fail))))
    (first | (go_at_call 11; refine (first_true _).mono ?_; rintro e w8 ⟨rfl, hb8⟩))
  clear hw1 hw2 hw3 hw4 hwa hwb hwc hi0 hi1 hi2 hi3 hi4 hi5 hi6 hi7
  go_wp2_with fail
  go_ret
  first
    | exact ⟨rfl, below_next Hb5.out (by (repeat' (first | (with_reducible exact Below.refl _ _) | (with_reducible assumption) | (with_reducible refine below_alloc ?_ _) | (with_reducible refine Below.drew ?_) | (with_reducible refine below_drewN ?_ _) | (exact below_next (by with_reducible assumption) (by first | with_reducible assumption | assumption)) | (refine below_next ?_ (by with_reducible assumption)) | fail)))⟩
    | exact ⟨congrArg (fun b => Ending.returned (Value.bool b)) Hres.out, below_next Hb5.out (by (repeat' (first | (with_reducible exact Below.refl _ _) | (with_reducible assumption) | (with_reducible refine below_alloc ?_ _) | (with_reducible refine Below.drew ?_) | (with_reducible refine below_drewN ?_ _) | (exact below_next (by with_reducible assumption) (by first | with_reducible assumption | assumption)) | (refine below_next ?_ (by with_reducible assumption)) | fail)))⟩

theorem bitsL_true (fn st ct iv : Int) (v : Value) (vs : List Int) (w : World) (h : RdI w v vs) :
    Calls Try.prog 7 #[.agg #[.int .i64 fn, .int .i64 st, .int .i64 ct, v], .int .i64 iv] w fun e w' => e = .returned (.bool true) ∧ Below w.heap.size w w' := by
  by_cases hg : vs.length ≤ 3000 ∧ 15 ≤ fn ∧ 0 ≤ iv ∧ iv < vs.length ∧ mayB fn st ct vs = true
  · obtain ⟨h1, h2, h3, h4, h5⟩ := hg
    have hm := mayB_iff.1 h5
    obtain ⟨i, rfl⟩ := Int.eq_ofNat_of_zero_le h3
    rcases known_cases hm.known with rfl | rfl | rfl | rfl | rfl | rfl | rfl | rfl
    · omega
    · omega
    · omega
    · omega
    · omega
    · omega
    · exact bitsL_15 st ct i v vs w h (by omega) hm
    · exact bitsL_16 st ct i v vs w h (by omega) hm
  · exact bitsL_bad fn st ct iv v vs w h (fun h1 h2 h3 h4 => by
      cases h5 : mayB fn st ct vs with
      | false => rfl
      | true => exact absurd ⟨h1, h2, h3, h4, h5⟩ hg)
end Go.Proofs.Ythfcppflhkhpnaa

/-
  PduCounts: the walk.
-/
import Derived.Test.YthfcppflhkhpnaaPduFirst
import Derived.Test.YthfcppflhkhpnaaPduAnsReads
import Derived.Test.YthfcppflhkhpnaaRefInts
import Derived.Test.YthfcppflhkhpnaaLaw
namespace Go.Proofs.Ythfcppflhkhpnaa
open Go.RowKit
set_option linter.unusedSimpArgs false

theorem right_short {fn ct : Int} {ps : List Int} (hr : readsB fn = true) (h : ¬ (ps.length : Int) = ct) : rightB fn ct 0 ps = false := by
  unfold rightB
  rw [if_neg (by rw [hr]; decide)]
  exact numsB_lenF h

theorem Rd1.blt {α : Type} {enc : α → Value} {d : α} {w : World} {v : Value} {xs : List α} (h : Rd1 enc d w v xs) (hp : 0 < xs.length) {k : Nat} (hk : v.ownBlock = some k) : k < w.heap.size := by
  obtain ⟨A, c, rfl, _, _, hh⟩ := h
  obtain ⟨g, o, rfl, hq⟩ := hh hp
  simp only [Value.ownBlock, Option.some.injEq] at hk
  subst hk
  exact World.block_lt_of_cell? w _ (hq 0 hp)
theorem Rd1.frp {α : Type} {enc : α → Value} {d : α} {S : Nat → Prop} {w w' : World} {v : Value} {xs : List α} (h : Rd1 enc d w v xs) (hf : Fr S w w') (hs : 0 < xs.length → ∀ k, v.ownBlock = some k → ¬ S k) : Rd1 enc d w' v xs := by
  obtain ⟨A, c, rfl, hc, hn, hh⟩ := h
  refine ⟨A, c, rfl, hc, hn, fun h0 => ?_⟩
  obtain ⟨g, o, rfl, hq⟩ := hh h0
  exact ⟨g, o, rfl, fun i hi => hf.cell (hq i hi) (hs h0 g rfl)⟩
theorem cnt_and {n : Int} (h0 : 0 ≤ n) (h1 : n ≤ 255) : bits .and .i64 n 255 = n := by
  obtain ⟨k, rfl⟩ := Int.eq_ofNat_of_zero_le h0
  have := i64_and_nat k 255 (by omega) (by omega)
  rw [show (255 : Nat) = 2 ^ 8 - 1 from rfl, Nat.and_two_pow_sub_one_eq_mod, Nat.mod_eq_of_lt (by omega)] at this
  exact this
theorem cnt_b3 {w3 wq w5 w6 : World} (h1 : Below w3.heap.size w3 wq) (h2 : Below wq.heap.size wq w5) (h3 : Fr (fun k => k = w3.heap.size) w5 w6) : Below w3.heap.size w3 w6 :=
  (below_next h1 h2).trans (h3.belowB (below_next h1 h2).size (fun k hk => Nat.le_of_eq hk.symm))
theorem cnt_len {fn : Int} {ps : List Int} (h1 : 1 ≤ fn) (h4 : fn ≤ 4) : (fn ≤ 2 → (packL fn ps).length = (ps.length + 7) / 8) ∧ (2 < fn → (packL fn ps).length = 2 * ps.length) := by
  obtain rfl | rfl | rfl | rfl : fn = 1 ∨ fn = 2 ∨ fn = 3 ∨ fn = 4 := by omega
  · exact ⟨fun _ => by rw [packL, if_pos (by decide), packBits_len], fun h => by omega⟩
  · exact ⟨fun _ => by rw [packL, if_pos (by decide), packBits_len], fun h => by omega⟩
  · exact ⟨fun h => by omega, fun _ => by rw [packL, if_neg (by decide), packRegs_len]⟩
  · exact ⟨fun h => by omega, fun _ => by rw [packL, if_neg (by decide), packRegs_len]⟩

set_option maxRecDepth 100000 in
set_option maxHeartbeats 4000000 in
theorem counts_true (fn st ct code : Int) (v u : Value) (vs ps : List Int) (w : World) (h : RdI w v vs) (hp : RdI w u ps) :
    Calls Try.prog 8 #[.agg #[.int .i64 fn, .int .i64 st, .int .i64 ct, v], .agg #[.int .i64 code, u]] w fun e w' => e = .returned (.bool true) ∧ Below w.heap.size w w' := by
  obtain ⟨A, c, rfl, hc⟩ := h.form
  obtain ⟨Ap, cp, rfl, hcp⟩ := hp.form
  have hbx := balloc (bnew w (.cells #[.int .i64 fn, .int .i64 st, .int .i64 ct, .slice A vs.length c] TReq)) (.cells #[.int .i64 code, .slice Ap ps.length cp] TRep)
  have hby := bnew (w.alloc (.cells #[.int .i64 fn, .int .i64 st, .int .i64 ct, .slice A vs.length c] TReq)) (.cells #[.int .i64 code, .slice Ap ps.length cp] TRep)
  have Hb0 := Lib.hid (below_alloc (below_alloc (Below.refl _ w) (.cells #[.int .i64 fn, .int .i64 st, .int .i64 ct, .slice A vs.length c] TReq)) (.cells #[.int .i64 code, .slice Ap ps.length cp] TRep))
  have Hr := Lib.hid (h.below Hb0.out)
  have Hp := Lib.hid (hp.below Hb0.out)
  have c0 := bcell hbx 0
  have c1 := bcell hbx 1
  have c2 := bcell hbx 2
  have c3 := bcell hbx 3
  have d0 := bcell hby 0
  have d1 := bcell hby 1
  simp only [List.getElem?_toArray, List.getElem?_cons_zero, List.getElem?_cons_succ, heap_size_alloc] at c0 c1 c2 c3 d0 d1
  have K0 := Lib.hid c0
  have K1 := Lib.hid c1
  have K2 := Lib.hid c2
  have K3 := Lib.hid c3
  have P0 := Lib.hid d0
  have P1 := Lib.hid d1
  clear hbx hby h hp c0 c1 c2 c3 d0 d1
  go_enter Try.func8, Try.ntmps8
  go_wp2_with fail
  generalize (w.alloc (.cells #[.int .i64 fn, .int .i64 st, .int .i64 ct, .slice A vs.length c] TReq)).alloc (.cells #[.int .i64 code, .slice Ap ps.length cp] TRep) = w1 at *
  refine (first_true _).mono ?_
  rintro e w2 ⟨rfl, hb2⟩
  have k0 := below_cell hb2 K0.out
  have k1 := below_cell hb2 K1.out
  have k2 := below_cell hb2 K2.out
  have k3 := below_cell hb2 K3.out
  have p0 := below_cell hb2 P0.out
  have p1 := below_cell hb2 P1.out
  have Hb12 := Lib.hid hb2
  have Hb2 := Lib.hid (below_next Hb0.out hb2)
  clear hb2
  by_cases g1 : 3000 < vs.length
  · go_wp2_with fail
    refine (first_true _).mono ?_
    rintro e w99 ⟨rfl, hb99⟩
    go_wp2_with fail
    go_ret
    exact ⟨rfl, below_next Hb2.out hb99⟩
  by_cases g2 : 3000 < ps.length
  · go_wp2_with fail
    refine (first_true _).mono ?_
    rintro e w99 ⟨rfl, hb99⟩
    go_wp2_with fail
    go_ret
    exact ⟨rfl, below_next Hb2.out hb99⟩
  by_cases g3 : fn < 1
  · go_wp2_with fail
    refine (first_true _).mono ?_
    rintro e w99 ⟨rfl, hb99⟩
    go_wp2_with fail
    go_ret
    exact ⟨rfl, below_next Hb2.out hb99⟩
  by_cases g4 : 4 < fn
  · go_wp2_with fail
    refine (first_true _).mono ?_
    rintro e w99 ⟨rfl, hb99⟩
    go_wp2_with fail
    go_ret
    exact ⟨rfl, below_next Hb2.out hb99⟩
  have hx : vs.length ≤ 140737488351232 := by omega
  have hy : ps.length ≤ 140737488351232 := by omega
  have Hrds := Lib.hid (show readsB fn = true by unfold readsB; simp; omega)
  by_cases hgood : mayB fn st ct vs = true ∧ rightB fn ct code ps = true
  · obtain ⟨hmb, hri⟩ := hgood
    have Hm := Lib.hid (mayB_iff.1 hmb)
    have Hri := Lib.hid hri
    clear hmb hri
    go_wp2_with fail
    refine (Answer_ok fn st ct code _ _ vs ps _ (Hr.out.below Hb12.out) (Hp.out.below Hb12.out) hy Hm.out Hri.out).mono ?_
    rintro e w3 ⟨v3, rfl, hown3, hb3⟩
    have Hb13 := Lib.hid (below_next Hb12.out hb3)
    have Hb3 := Lib.hid (below_next Hb2.out hb3)
    have Hown3 := Lib.hid hown3
    clear k0 k1 k2 k3 p0 p1 hb3
    have k0 := below_cell Hb13.out K0.out
    have k1 := below_cell Hb13.out K1.out
    have k2 := below_cell Hb13.out K2.out
    have k3 := below_cell Hb13.out K3.out
    have p0 := below_cell Hb13.out P0.out
    have p1 := below_cell Hb13.out P1.out
    obtain ⟨A3, c3, rfl, _⟩ := orow_form hown3
    clear hown3
    by_cases hcd : code = 0
    · subst hcd
      have hct := right_ct Hrds.out Hri.out
      have hc1 := Hm.out.ct1
      have hc2 := Hm.out.ct2000
      have hpl := right_255 Hrds.out Hm.out Hri.out
      have ha : answerL fn st ct vs 0 ps = fn :: ((packL fn ps).length : Int) :: packL fn ps := by unfold answerL; rw [if_pos rfl, if_pos Hrds.out]
      have Hn := Lib.hid (cnt_len (fn := fn) (ps := ps) g3 g4)
      rw [ha] at Hown3
      have Ha := Lib.hid ha
      obtain ⟨g3', c3', cur3, hv3, _, _, hcc, _⟩ := orow_pos Hown3.out (by simp)
      simp only [Value.slice.injEq, true_and] at hv3
      obtain ⟨rfl, rfl⟩ := hv3
      have b1 : w3.cell? ⟨g3', 1, none⟩ = some (.int .u8 ((packL fn ps).length : Int)) := orow_cell (Value.int .u8) Hown3.out 0 1 (by simp)
      have B1 := Lib.hid b1
      have hps1 : 1 ≤ ps.length := by omega
      have Hct := Lib.hid hct
      have hq := bnew w3 (.cells #[.int .i64 0, .slice Ap ps.length cp] TRep)
      have Hq := Lib.hid hq
      have Hbq := Lib.hid (below_alloc Hb3.out (.cells #[.int .i64 0, .slice Ap ps.length cp] TRep))
      have Hb1q := Lib.hid (below_alloc Hb13.out (.cells #[.int .i64 0, .slice Ap ps.length cp] TRep))
      rw [Ha.out]
      simp only [List.length_cons]
      generalize hmm : (packL fn ps).length = m at *
      have HM := Lib.hid hmm
      clear hmm hct ha b1 hq
      obtain ⟨ii, hi, hz0, hz1, hz2⟩ := info_parts infoI
      have hw1x : w.heap.size + 1 < w3.heap.size := World.block_lt_of_cell? w3 _ p1
      by_cases f2 : 2 < fn
      · have hN : (m : Int) = 2 * ct := by have := Hn.out.2 f2; have := Hct.out; omega
        have HN := Lib.hid hN
        have hN0 : 0 ≤ 2 * ct := by omega
        have hN1 : 2 * ct ≤ 255 := by omega
        clear hN Hn
        go_wp2_with fail
        generalize hwq : w3.alloc (.cells #[.int .i64 0, .slice Ap ps.length cp] TRep) = wq at *
        have Hwq := Lib.hid (show w3.heap.size < wq.heap.size by rw [← hwq]; simp)
        have Hq0 := Lib.hid (show Below w3.heap.size w3 wq by rw [← hwq]; exact below_alloc (Below.refl _ _) _)
        clear hwq
        refine (copyI _ ps _ (Hp.out.below Hb1q.out) (by omega)).mono ?_
        rintro e w4 ⟨v4, rfl, hown4, hb4⟩
        obtain ⟨A4, c4, rfl, _⟩ := orow_form hown4
        have Hown4 := Lib.hid hown4
        have Hb4 := Lib.hid hb4
        clear hown4 hb4 k0 k1 k2 k3 p0 p1
        go_wp2_with (at_builtin; go_loud (refine wpList_append_own _ rfl _ _ 22 rfl wq.heap.size TI ii (.int .i64 0) 1 8 Try.underlying22 hi hz0 hz1 hz2 rfl (by decide) _ ps.length (ints ps) rfl (orow_alloc Hown4.out _) ⟨w4.heap.size, 0, none⟩ 1 1 [.int .i64 0] rfl rfl (newsLit rfl _ _) (by simp [Value.oneCell']) (by unfold maxLen; omega) (by omega) (by simp; exact Nat.le_succ_of_le Hb4.out.size) ?_))
        intro v5 w5 hown5 hg5 hne5
        have hb5 : Below wq.heap.size wq w5 := (below_alloc Hb4.out _).grown hg5 (by simp; exact Nat.le_succ_of_le Hb4.out.size) (fun k hk => (orow_blk Hown4.out k hk).1)
        have hq5 := (hb5.block _ (blt Hq.out)).trans Hq.out
        have Hq5 := Lib.hid hq5
        have Hb15 := Lib.hid (below_next Hb1q.out hb5)
        have Hbw5 := Lib.hid (below_next Hbq.out hb5)
        have Hown5 := Lib.hid (show w5.ownsRow wq.heap.size TI 1 v5 (ps.length + 1) (ints (ps ++ [0])) by simpa [ints] using hown5)
        obtain ⟨A5, c5, rfl, _⟩ := orow_form hown5
        have s1 := bcell hq5 1
        have sf := bfroz hq5 1
        simp only [List.getElem?_toArray, List.getElem?_cons_zero, List.getElem?_cons_succ] at s1
        have hf6 : Fr (fun k => k = w3.heap.size) w5 (w5.setCell ⟨w3.heap.size, 1, none⟩ (.slice A5 (ps.length + 1) c5)) := Fr.setCell (S := fun k => k = w3.heap.size) (Fr.refl _ _) (p := ⟨w3.heap.size, 1, none⟩) (.inl rfl) _
        have Hf6 := Lib.hid hf6
        have hq6 : (w5.setCell ⟨w3.heap.size, 1, none⟩ (.slice A5 (ps.length + 1) c5)).heap[w3.heap.size]? = some (.cells #[.int .i64 0, .slice A5 (ps.length + 1) c5] TRep (0, 0)) := bset hq5 1 _
        have k0 := hf6.cell (below_cell Hb15.out K0.out) (show ¬ w.heap.size = w3.heap.size by omega)
        have k1 := hf6.cell (below_cell Hb15.out K1.out) (show ¬ w.heap.size = w3.heap.size by omega)
        have k2 := hf6.cell (below_cell Hb15.out K2.out) (show ¬ w.heap.size = w3.heap.size by omega)
        have k3 := hf6.cell (below_cell Hb15.out K3.out) (show ¬ w.heap.size = w3.heap.size by omega)
        have p0 := hf6.cell (below_cell Hb15.out P0.out) (show ¬ w.heap.size + 1 = w3.heap.size by omega)
        have p1 := hf6.cell (below_cell Hb15.out P1.out) (show ¬ w.heap.size + 1 = w3.heap.size by omega)
        have q0 := bcell hq6 0
        have q1 := bcell hq6 1
        simp only [List.getElem?_toArray, List.getElem?_cons_zero, List.getElem?_cons_succ] at q0 q1
        have Hq6 := Lib.hid hq6
        have K0' := Lib.hid k0
        have K1' := Lib.hid k1
        have K2' := Lib.hid k2
        have K3' := Lib.hid k3
        have P1' := Lib.hid p1
        have Hr6 := Lib.hid ((Hr.out.below Hb15.out).frp hf6 (fun hp k hk e => by have h8 := Rd1.blt Hr.out hp hk; have h9 := Hb13.out.size; omega))
        have Hp6 := Lib.hid ((Hp.out.below Hb15.out).frp hf6 (fun hp k hk e => by have h8 := Rd1.blt Hp.out hp hk; have h9 := Hb13.out.size; omega))
        have Hv6 := Lib.hid (show RdI (w5.setCell ⟨w3.heap.size, 1, none⟩ (.slice A5 (ps.length + 1) c5)) (.slice A5 (ps.length + 1) c5) (ps ++ [0]) by
          have := orow_fr Hown5.out hf6 (fun k hk e => orow_ne Hown5.out hq5 (by decide) (e ▸ hk))
          have e : ps.length + 1 = (ps ++ [0]).length := by simp
          rw [e] at this ⊢
          exact Rd1.of_own this)
        have Hb36 := Lib.hid (cnt_b3 (w3 := w3) Hq0.out hb5 hf6)
        have Hb6 := Lib.hid (Hbw5.out.trans (hf6.belowB Hbw5.out.size (fun k hk => by omega)))
        clear hown5 hg5 hne5 hb5 hq5 hf6 hq6
        go_wp2_with fail
        generalize w5.setCell ⟨w3.heap.size, 1, none⟩ (.slice A5 (ps.length + 1) c5) = w6 at *
        have Hbad1 := Lib.hid (right_short (fn := fn) (ct := ct) (ps := ps ++ [0]) Hrds.out (by rw [List.length_append]; simp; have := Hct.out; omega))
        have hvl : (ps ++ [0]).length = ps.length + 1 := by simp
        have Hv7 := Hv6
        refine (Answer_bad fn st ct 0 _ _ vs (ps ++ [0]) _ Hr6.out Hv7.out hx (by rw [hvl]; omega) (.inr Hbad1.out)).mono ?_
        rintro e w7 ⟨er7, rfl, her7, hb7⟩
        obtain ⟨ex7, rfl⟩ := her7.form
        have Hb7 := Lib.hid (below_next Hb6.out hb7)
        have Hb67 := Lib.hid hb7
        have hq7 := (hb7.block _ (blt Hq6.out)).trans Hq6.out
        have Hq7 := Lib.hid hq7
        clear her7 hb7 k0 k1 k2 k3 p0 p1 q0 q1 s1 sf hvl
        have k0 := below_cell Hb67.out K0'.out
        have k1 := below_cell Hb67.out K1'.out
        have k2 := below_cell Hb67.out K2'.out
        have k3 := below_cell Hb67.out K3'.out
        have p1 := below_cell Hb67.out P1'.out
        have q0 := bcell hq7 0
        have q1 := bcell hq7 1
        have qf := bfroz hq7 1
        simp only [List.getElem?_toArray, List.getElem?_cons_zero, List.getElem?_cons_succ] at q0 q1
        have hf8 : Fr (fun k => k = w3.heap.size) w7 (w7.setCell ⟨w3.heap.size, 1, none⟩ (.slice Ap (ps.length - 1) cp)) := Fr.setCell (S := fun k => k = w3.heap.size) (Fr.refl _ _) (p := ⟨w3.heap.size, 1, none⟩) (.inl rfl) _
        have Hf8 := Lib.hid hf8
        have hq8 : (w7.setCell ⟨w3.heap.size, 1, none⟩ (.slice Ap (ps.length - 1) cp)).heap[w3.heap.size]? = some (.cells #[.int .i64 0, .slice Ap (ps.length - 1) cp] TRep (0, 0)) := bset hq7 1 _
        have k08 := hf8.cell k0 (show ¬ w.heap.size = w3.heap.size by omega)
        have k18 := hf8.cell k1 (show ¬ w.heap.size = w3.heap.size by omega)
        have k28 := hf8.cell k2 (show ¬ w.heap.size = w3.heap.size by omega)
        have k38 := hf8.cell k3 (show ¬ w.heap.size = w3.heap.size by omega)
        have p18 := hf8.cell p1 (show ¬ w.heap.size + 1 = w3.heap.size by omega)
        have q08 := bcell hq8 0
        have q18 := bcell hq8 1
        simp only [List.getElem?_toArray, List.getElem?_cons_zero, List.getElem?_cons_succ] at q08 q18
        have K28 := Lib.hid k28
        have P18 := Lib.hid p18
        have Hr8 := Lib.hid ((Hr6.out.below Hb67.out).frp hf8 (fun hp k hk e => by have h8 := Rd1.blt Hr.out hp hk; have h9 := Hb13.out.size; omega))
        have Hp8 := Lib.hid (((Hp6.out.below Hb67.out).frp hf8 (fun hp k hk e => by have h8 := Rd1.blt Hp.out hp hk; have h9 := Hb13.out.size; omega)).take (ps.length - 1) (by omega))
        have Hb8 := Lib.hid (Hb7.out.trans (hf8.belowB Hb7.out.size (fun k hk => by omega)))
        have Hw38 := Lib.hid ((below_next Hb36.out Hb67.out).trans (hf8.belowB (below_next Hb36.out Hb67.out).size (fun k hk => Nat.le_of_eq hk.symm)))
        clear hq7 hf8 hq8
        go_wp2_with fail
        generalize w7.setCell ⟨w3.heap.size, 1, none⟩ (.slice Ap (ps.length - 1) cp) = w8 at *
        have hl8 : (ps.take (ps.length - 1)).length = ps.length - 1 := by rw [List.length_take]; omega
        have Hbad2 := Lib.hid (right_short (fn := fn) (ct := ct) (ps := ps.take (ps.length - 1)) Hrds.out (by rw [hl8]; have := Hct.out; omega))
        refine (Answer_bad fn st ct 0 _ _ vs (ps.take (ps.length - 1)) _ Hr8.out Hp8.out hx (by rw [hl8]; omega) (.inr Hbad2.out)).mono ?_
        rintro e w9 ⟨er9, rfl, her9, hb9⟩
        obtain ⟨ex9, rfl⟩ := her9.form
        have Hb9 := Lib.hid (below_next Hb8.out hb9)
        have Hb89 := Lib.hid hb9
        have Hb39 := Lib.hid (below_next Hw38.out hb9)
        clear her9 hb9 k0 k1 k2 k3 p1 q0 q1 qf k08 k18 k28 k38 p18 q08 q18 hl8
        go_wp2_with fail
        refine (first_true _).mono ?_
        rintro e w10 ⟨rfl, hb10⟩
        have k2 := below_cell hb10 (below_cell Hb89.out K28.out)
        have p1 := below_cell hb10 (below_cell Hb89.out P18.out)
        have b1 := below_cell hb10 (below_cell Hb39.out B1.out)
        have Hb10 := Lib.hid (below_next Hb9.out hb10)
        have n1 : ((ps.length : Int) == ct) = true := beq_iff_eq.2 Hct.out
        have hk : bits .and .i64 (2 * ct) 255 = 2 * ct := cnt_and hN0 hN1
        have hwm : IntKind.i64.wrap (m : Int) = (m : Int) := IntWalk.i64_in _ (by omega)
        have n2 : ((m : Int) == 2 * ct) = true := beq_iff_eq.2 HN.out
        have n3 : ((m : Int) + 1 + 1 == 2 + (2 * ct)) = true := beq_iff_eq.2 (by have := HN.out; omega)
        clear hb10
        go_wp2_with fail
        go_ret
        exact ⟨rfl, Hb10.out⟩
      · have hN : (m : Int) = (ct + 7) / 8 := by have := Hn.out.1 (by omega); have := Hct.out; omega
        have HN := Lib.hid hN
        have hN0 : 0 ≤ (ct + 7) / 8 := by omega
        have hN1 : (ct + 7) / 8 ≤ 255 := by omega
        clear hN Hn
        go_wp2_with fail
        generalize hwq : w3.alloc (.cells #[.int .i64 0, .slice Ap ps.length cp] TRep) = wq at *
        have Hwq := Lib.hid (show w3.heap.size < wq.heap.size by rw [← hwq]; simp)
        have Hq0 := Lib.hid (show Below w3.heap.size w3 wq by rw [← hwq]; exact below_alloc (Below.refl _ _) _)
        clear hwq
        refine (copyI _ ps _ (Hp.out.below Hb1q.out) (by omega)).mono ?_
        rintro e w4 ⟨v4, rfl, hown4, hb4⟩
        obtain ⟨A4, c4, rfl, _⟩ := orow_form hown4
        have Hown4 := Lib.hid hown4
        have Hb4 := Lib.hid hb4
        clear hown4 hb4 k0 k1 k2 k3 p0 p1
        go_wp2_with (at_builtin; go_loud (refine wpList_append_own _ rfl _ _ 22 rfl wq.heap.size TI ii (.int .i64 0) 1 8 Try.underlying22 hi hz0 hz1 hz2 rfl (by decide) _ ps.length (ints ps) rfl (orow_alloc Hown4.out _) ⟨w4.heap.size, 0, none⟩ 1 1 [.int .i64 0] rfl rfl (newsLit rfl _ _) (by simp [Value.oneCell']) (by unfold maxLen; omega) (by omega) (by simp; exact Nat.le_succ_of_le Hb4.out.size) ?_))
        intro v5 w5 hown5 hg5 hne5
        have hb5 : Below wq.heap.size wq w5 := (below_alloc Hb4.out _).grown hg5 (by simp; exact Nat.le_succ_of_le Hb4.out.size) (fun k hk => (orow_blk Hown4.out k hk).1)
        have hq5 := (hb5.block _ (blt Hq.out)).trans Hq.out
        have Hq5 := Lib.hid hq5
        have Hb15 := Lib.hid (below_next Hb1q.out hb5)
        have Hbw5 := Lib.hid (below_next Hbq.out hb5)
        have Hown5 := Lib.hid (show w5.ownsRow wq.heap.size TI 1 v5 (ps.length + 1) (ints (ps ++ [0])) by simpa [ints] using hown5)
        obtain ⟨A5, c5, rfl, _⟩ := orow_form hown5
        have s1 := bcell hq5 1
        have sf := bfroz hq5 1
        simp only [List.getElem?_toArray, List.getElem?_cons_zero, List.getElem?_cons_succ] at s1
        have hf6 : Fr (fun k => k = w3.heap.size) w5 (w5.setCell ⟨w3.heap.size, 1, none⟩ (.slice A5 (ps.length + 1) c5)) := Fr.setCell (S := fun k => k = w3.heap.size) (Fr.refl _ _) (p := ⟨w3.heap.size, 1, none⟩) (.inl rfl) _
        have Hf6 := Lib.hid hf6
        have hq6 : (w5.setCell ⟨w3.heap.size, 1, none⟩ (.slice A5 (ps.length + 1) c5)).heap[w3.heap.size]? = some (.cells #[.int .i64 0, .slice A5 (ps.length + 1) c5] TRep (0, 0)) := bset hq5 1 _
        have k0 := hf6.cell (below_cell Hb15.out K0.out) (show ¬ w.heap.size = w3.heap.size by omega)
        have k1 := hf6.cell (below_cell Hb15.out K1.out) (show ¬ w.heap.size = w3.heap.size by omega)
        have k2 := hf6.cell (below_cell Hb15.out K2.out) (show ¬ w.heap.size = w3.heap.size by omega)
        have k3 := hf6.cell (below_cell Hb15.out K3.out) (show ¬ w.heap.size = w3.heap.size by omega)
        have p0 := hf6.cell (below_cell Hb15.out P0.out) (show ¬ w.heap.size + 1 = w3.heap.size by omega)
        have p1 := hf6.cell (below_cell Hb15.out P1.out) (show ¬ w.heap.size + 1 = w3.heap.size by omega)
        have q0 := bcell hq6 0
        have q1 := bcell hq6 1
        simp only [List.getElem?_toArray, List.getElem?_cons_zero, List.getElem?_cons_succ] at q0 q1
        have Hq6 := Lib.hid hq6
        have K0' := Lib.hid k0
        have K1' := Lib.hid k1
        have K2' := Lib.hid k2
        have K3' := Lib.hid k3
        have P1' := Lib.hid p1
        have Hr6 := Lib.hid ((Hr.out.below Hb15.out).frp hf6 (fun hp k hk e => by have h8 := Rd1.blt Hr.out hp hk; have h9 := Hb13.out.size; omega))
        have Hp6 := Lib.hid ((Hp.out.below Hb15.out).frp hf6 (fun hp k hk e => by have h8 := Rd1.blt Hp.out hp hk; have h9 := Hb13.out.size; omega))
        have Hv6 := Lib.hid (show RdI (w5.setCell ⟨w3.heap.size, 1, none⟩ (.slice A5 (ps.length + 1) c5)) (.slice A5 (ps.length + 1) c5) (ps ++ [0]) by
          have := orow_fr Hown5.out hf6 (fun k hk e => orow_ne Hown5.out hq5 (by decide) (e ▸ hk))
          have e : ps.length + 1 = (ps ++ [0]).length := by simp
          rw [e] at this ⊢
          exact Rd1.of_own this)
        have Hb36 := Lib.hid (cnt_b3 (w3 := w3) Hq0.out hb5 hf6)
        have Hb6 := Lib.hid (Hbw5.out.trans (hf6.belowB Hbw5.out.size (fun k hk => by omega)))
        clear hown5 hg5 hne5 hb5 hq5 hf6 hq6
        go_wp2_with fail
        generalize w5.setCell ⟨w3.heap.size, 1, none⟩ (.slice A5 (ps.length + 1) c5) = w6 at *
        have Hbad1 := Lib.hid (right_short (fn := fn) (ct := ct) (ps := ps ++ [0]) Hrds.out (by rw [List.length_append]; simp; have := Hct.out; omega))
        have hvl : (ps ++ [0]).length = ps.length + 1 := by simp
        have Hv7 := Hv6
        refine (Answer_bad fn st ct 0 _ _ vs (ps ++ [0]) _ Hr6.out Hv7.out hx (by rw [hvl]; omega) (.inr Hbad1.out)).mono ?_
        rintro e w7 ⟨er7, rfl, her7, hb7⟩
        obtain ⟨ex7, rfl⟩ := her7.form
        have Hb7 := Lib.hid (below_next Hb6.out hb7)
        have Hb67 := Lib.hid hb7
        have hq7 := (hb7.block _ (blt Hq6.out)).trans Hq6.out
        have Hq7 := Lib.hid hq7
        clear her7 hb7 k0 k1 k2 k3 p0 p1 q0 q1 s1 sf hvl
        have k0 := below_cell Hb67.out K0'.out
        have k1 := below_cell Hb67.out K1'.out
        have k2 := below_cell Hb67.out K2'.out
        have k3 := below_cell Hb67.out K3'.out
        have p1 := below_cell Hb67.out P1'.out
        have q0 := bcell hq7 0
        have q1 := bcell hq7 1
        have qf := bfroz hq7 1
        simp only [List.getElem?_toArray, List.getElem?_cons_zero, List.getElem?_cons_succ] at q0 q1
        have hf8 : Fr (fun k => k = w3.heap.size) w7 (w7.setCell ⟨w3.heap.size, 1, none⟩ (.slice Ap (ps.length - 1) cp)) := Fr.setCell (S := fun k => k = w3.heap.size) (Fr.refl _ _) (p := ⟨w3.heap.size, 1, none⟩) (.inl rfl) _
        have Hf8 := Lib.hid hf8
        have hq8 : (w7.setCell ⟨w3.heap.size, 1, none⟩ (.slice Ap (ps.length - 1) cp)).heap[w3.heap.size]? = some (.cells #[.int .i64 0, .slice Ap (ps.length - 1) cp] TRep (0, 0)) := bset hq7 1 _
        have k08 := hf8.cell k0 (show ¬ w.heap.size = w3.heap.size by omega)
        have k18 := hf8.cell k1 (show ¬ w.heap.size = w3.heap.size by omega)
        have k28 := hf8.cell k2 (show ¬ w.heap.size = w3.heap.size by omega)
        have k38 := hf8.cell k3 (show ¬ w.heap.size = w3.heap.size by omega)
        have p18 := hf8.cell p1 (show ¬ w.heap.size + 1 = w3.heap.size by omega)
        have q08 := bcell hq8 0
        have q18 := bcell hq8 1
        simp only [List.getElem?_toArray, List.getElem?_cons_zero, List.getElem?_cons_succ] at q08 q18
        have K28 := Lib.hid k28
        have P18 := Lib.hid p18
        have Hr8 := Lib.hid ((Hr6.out.below Hb67.out).frp hf8 (fun hp k hk e => by have h8 := Rd1.blt Hr.out hp hk; have h9 := Hb13.out.size; omega))
        have Hp8 := Lib.hid (((Hp6.out.below Hb67.out).frp hf8 (fun hp k hk e => by have h8 := Rd1.blt Hp.out hp hk; have h9 := Hb13.out.size; omega)).take (ps.length - 1) (by omega))
        have Hb8 := Lib.hid (Hb7.out.trans (hf8.belowB Hb7.out.size (fun k hk => by omega)))
        have Hw38 := Lib.hid ((below_next Hb36.out Hb67.out).trans (hf8.belowB (below_next Hb36.out Hb67.out).size (fun k hk => Nat.le_of_eq hk.symm)))
        clear hq7 hf8 hq8
        go_wp2_with fail
        generalize w7.setCell ⟨w3.heap.size, 1, none⟩ (.slice Ap (ps.length - 1) cp) = w8 at *
        have hl8 : (ps.take (ps.length - 1)).length = ps.length - 1 := by rw [List.length_take]; omega
        have Hbad2 := Lib.hid (right_short (fn := fn) (ct := ct) (ps := ps.take (ps.length - 1)) Hrds.out (by rw [hl8]; have := Hct.out; omega))
        refine (Answer_bad fn st ct 0 _ _ vs (ps.take (ps.length - 1)) _ Hr8.out Hp8.out hx (by rw [hl8]; omega) (.inr Hbad2.out)).mono ?_
        rintro e w9 ⟨er9, rfl, her9, hb9⟩
        obtain ⟨ex9, rfl⟩ := her9.form
        have Hb9 := Lib.hid (below_next Hb8.out hb9)
        have Hb89 := Lib.hid hb9
        have Hb39 := Lib.hid (below_next Hw38.out hb9)
        clear her9 hb9 k0 k1 k2 k3 p1 q0 q1 qf k08 k18 k28 k38 p18 q08 q18 hl8
        go_wp2_with fail
        refine (first_true _).mono ?_
        rintro e w10 ⟨rfl, hb10⟩
        have k2 := below_cell hb10 (below_cell Hb89.out K28.out)
        have p1 := below_cell hb10 (below_cell Hb89.out P18.out)
        have b1 := below_cell hb10 (below_cell Hb39.out B1.out)
        have Hb10 := Lib.hid (below_next Hb9.out hb10)
        have n1 : ((ps.length : Int) == ct) = true := beq_iff_eq.2 Hct.out
        have hk : bits .and .i64 ((ct + 7) / 8) 255 = (ct + 7) / 8 := cnt_and hN0 hN1
        have hwm : IntKind.i64.wrap (m : Int) = (m : Int) := IntWalk.i64_in _ (by omega)
        have n2 : ((m : Int) == (ct + 7) / 8) = true := beq_iff_eq.2 HN.out
        have n3 : ((m : Int) + 1 + 1 == 2 + ((ct + 7) / 8)) = true := beq_iff_eq.2 (by have := HN.out; omega)
        clear hb10
        go_wp2_with fail
        go_ret
        exact ⟨rfl, Hb10.out⟩
    · have hne : (code != 0) = true := bne_iff_ne.2 hcd
      go_wp2_with fail
      refine (first_true _).mono ?_
      rintro e w99 ⟨rfl, hb99⟩
      go_wp2_with fail
      go_ret
      exact ⟨rfl, below_next Hb3.out hb99⟩
  · have Hbad := Lib.hid (show mayB fn st ct vs = false ∨ rightB fn ct code ps = false by
      cases h1 : mayB fn st ct vs with
      | false => exact .inl rfl
      | true => cases h2 : rightB fn ct code ps with
        | false => exact .inr rfl
        | true => exact absurd ⟨h1, h2⟩ hgood)
    clear hgood
    go_wp2_with fail
    refine (Answer_bad fn st ct code _ _ vs ps _ (Hr.out.below Hb12.out) (Hp.out.below Hb12.out) hx hy Hbad.out).mono ?_
    rintro e w3 ⟨er, rfl, her, hb3⟩
    obtain ⟨ex, rfl⟩ := her.form
    have Hb3 := Lib.hid (below_next Hb2.out hb3)
    clear her hb3 k0 k1 k2 k3 p0 p1
    go_wp2_with fail
    refine (first_true _).mono ?_
    rintro e w99 ⟨rfl, hb99⟩
    go_wp2_with fail
    go_ret
    exact ⟨rfl, below_next Hb3.out hb99⟩
end Go.Proofs.Ythfcppflhkhpnaa

/-
  PlanDue: the walk.
-/
import Derived.Test.YtbafjbpbpobocaaPlanFair
namespace Go.Proofs.Ytbafjbpbpobocaa
open Go.RowKit

def dueB (du : List Int) (now : Int) : Nat → Bool
  | 0 => false
  | k + 1 => dueB du now k || decide (du.getD k 0 ≤ now)
theorem nxt_dueB (du : List Int) (now : Int) (k : Nat) : (nxt du now k).2 = dueB du now k := by
  induction k with
  | zero => rfl
  | succ k ih =>
    unfold nxt dueB
    rw [← ih]
    generalize nxt du now k = r at *
    obtain ⟨b, ok⟩ := r
    cases ok with
    | false =>
      by_cases h : du.getD k 0 ≤ now
      · rw [if_pos ⟨h, .inl rfl⟩]; simp only [h, decide_true, Bool.or_true]
      · rw [if_neg (fun hc => h hc.1)]; simp only [h, decide_false, Bool.or_false]
    | true => split <;> simp

/-- One more int at the end of a row of the call's own. -/
theorem take_snocD (du : List Int) (k : Nat) (h : k < du.length) : du.take (k + 1) = du.take k ++ [du.getD k 0] := by
  rw [List.take_succ_eq_append_getElem h, List.getD_eq_getElem?_getD, List.getElem?_eq_getElem h]; rfl

set_option maxRecDepth 100000 in
set_option maxHeartbeats 2000000 in
theorem due_true (v u : Value) (ev : List Int) (ops : List (Int × Int × Int)) (now : Int) (w : World) (h : RdI w v ev) (hu : RdS 3 int3 w u ops) :
    Calls Try.prog 5 #[v, u, .int .i64 now] w fun e w' => e = .returned (.bool true) ∧ Below w.heap.size w w' := by
  obtain ⟨A, c, rfl, hc⟩ := h.form
  obtain ⟨A2, c2, rfl, hc2⟩ := hu.form
  have Hr := Lib.hid h
  have Hu := Lib.hid hu
  clear h hu
  by_cases h16 : 16 < ev.length
  · go_enter Try.func5, Try.ntmps5
    go_wp2_with (go_at_call 7; refine (first_true _).mono ?_; rintro e w1 ⟨rfl, hb1⟩)
    go_ret
    exact ⟨rfl, by (repeat' (first | (with_reducible exact Below.refl _ _) | (with_reducible assumption) | (with_reducible refine below_alloc ?_ _) | (with_reducible refine Below.drew ?_) | (with_reducible refine below_drewN ?_ _) | (with_reducible exact below_next (by with_reducible assumption) (by with_reducible assumption))))⟩
  by_cases h200 : 200 < ops.length
  · go_enter Try.func5, Try.ntmps5
    go_wp2_with (go_at_call 7; refine (first_true _).mono ?_; rintro e w1 ⟨rfl, hb1⟩)
    go_ret
    exact ⟨rfl, by (repeat' (first | (with_reducible exact Below.refl _ _) | (with_reducible assumption) | (with_reducible refine below_alloc ?_ _) | (with_reducible refine Below.drew ?_) | (with_reducible refine below_drewN ?_ _) | (with_reducible exact below_next (by with_reducible assumption) (by with_reducible assumption))))⟩
  go_enter Try.func5, Try.ntmps5
  go_wp2_with fail
  refine (first_true _).mono ?_
  rintro e w1 ⟨rfl, hb1⟩
  have Hb1 := Lib.hid hb1
  clear hb1
  go_wp2_with fail
  refine (planNew _ ev _ (Hr.out.below Hb1.out) (by omega)).mono ?_
  rintro e w2 ⟨hb2, h⟩
  have Hb2 := Lib.hid (below_next Hb1.out hb2)
  rcases h with ⟨h, er, rfl⟩ | ⟨h, p, rfl, hp⟩
  · clear h hb2
    go_wp2_with (go_at_call 7; refine (first_true _).mono ?_; rintro e w3 ⟨rfl, hb3⟩)
    go_ret
    exact ⟨rfl, below_next Hb2.out hb3⟩
  obtain ⟨_, hev⟩ := good_of ev h
  have Hev := Lib.hid hev
  obtain ⟨bp, ve, vd, rfl, hp, hbp, hve, hvd⟩ := hp
  have Hst := Lib.hid (show ∃ du, du.length = ev.length ∧ PlanAt w2 bp ve vd ev du ∧ Below w.heap.size w w2 from ⟨_, by simp, hp, Hb2.out⟩)
  have Hvd := Lib.hid (fun k hk => Nat.le_trans Hb1.out.size (hvd k hk))
  obtain ⟨i, hi, hz0, hz1, hz2⟩ := info_parts infoI
  clear h hev hp hve hvd hbp hb2
  go_wp2_with fail
  go_loopw [9] (fun t wr => ∃ k : Nat, k ≤ ops.length ∧ t = .int .i64 k ∧ ∃ du, du.length = ev.length ∧ PlanAt wr bp ve vd ev du ∧ Below w.heap.size w wr) (fun t _ => ops.length - (intOf t).toNat)
  case atStart => exact ⟨0, by omega, rfl, Hst.out⟩
  case round =>
    obtain ⟨k, hk, rfl, du, hdl, hp, hbw⟩ := hrel
    have HP := Lib.hid hp
    have Hbw := Lib.hid hbw
    have Hdl := Lib.hid hdl
    clear hp hbw Hst hdl
    by_cases hlt : k < ops.length
    · go_wp2_with fail
      obtain ⟨W0, hW0⟩ : ∃ W0, W0 = wr := ⟨_, rfl⟩
      subst hW0
      go_loopw [10, 11] (fun tw t wr2 => ∃ m : Nat, m ≤ ev.length ∧ t = .int .i64 m ∧ wr2.ownsRow W0.heap.size TI 1 tw m (ints (du.take m)) ∧ Below W0.heap.size W0 wr2) (fun _ t _ => ev.length - (intOf t).toNat)
      case atStart => exact ⟨0, by omega, rfl, orow_nil _ _ _ _, Below.refl _ _⟩
      case round =>
        obtain ⟨m, hm, rfl, hown, hb0⟩ := hrel
        have Hown := Lib.hid hown
        have Hb0 := Lib.hid hb0
        have HP2 := Lib.hid (HP.out.fr (Fr.of_below (S := NoB) hb0) id (fun _ _ => id) (fun _ _ => id))
        clear hown hb0
        by_cases hlt2 : m < ev.length
        · have hd := Lib.hid (show dueOf du (m : Int) = (du.getD m 0, true) by unfold dueOf; rw [if_pos (by have := Hdl.out; omega)]; simp)
          have hts := Lib.hid (take_snocD du m (by have := Hdl.out; omega))
          go_wp2_with fail
          refine (due_any _ _ _ _ _ _ _ HP2.out).mono ?_
          rintro e w' ⟨rfl, rfl⟩
          rw [hd.out]
          generalize du.getD m 0 = t at *
          go_wp2_with (at_builtin; refine wpList_append_own _ rfl _ _ 28 rfl W0.heap.size TI i (.int .i64 0) 1 8 Try.underlying28 hi hz0 hz1 hz2 rfl (by decide) _ m (ints (du.take m)) rfl (orow_alloc Hown.out _) ⟨wr.heap.size, 0, none⟩ 1 1 [.int .i64 t] rfl rfl (fun j u hu => by rw [Addr.add_lit, bcell (bnew wr _), Nat.zero_add]; simpa using hu) (by simp [Value.oneCell']) (by unfold maxLen; omega) (by omega) (by simp; exact Nat.le_succ_of_le Hb0.out.size) ?_)
          intro v' w' hown' hgrow hne
          have hown2 : w'.ownsRow W0.heap.size TI 1 v' (m + 1) (ints (du.take (m + 1))) := by
            rw [hts.out]
            simpa [ints, List.map_take] using hown'
          have Hown2 := Lib.hid hown2
          have hb2 : Below W0.heap.size W0 w' := (Hb0.out.alloc Hb0.out.size _).grown hgrow (by simp; exact Nat.le_succ_of_le Hb0.out.size) (fun x hx => (orow_blk Hown.out x hx).1)
          have Hb2' := Lib.hid hb2
          clear hown' hgrow hne hown2 hb2
          go_wp2_with fail
          go_roundw
          case rel => exact ⟨m + 1, by omega, by go_num, Hown2.out, Hb2'.out⟩
          case measure => simp [intOf]; omega
        · obtain rfl : m = ev.length := by omega
          obtain ⟨g, o, rfl, hcell⟩ := Hu.out.at k hlt
          have Hk := Lib.hid (And.intro (hcell 1 _ rfl) (hcell 2 _ rfl))
          generalize ops[k].2.1 = oi at *
          generalize ops[k].2.2 = on at *
          have k1 := below_cell (below_next (Hbw.out) Hb0.out) Hk.out.1
          have k2 := below_cell (below_next (Hbw.out) Hb0.out) Hk.out.2
          clear hcell
          have hlt1 : (0 : Int) ≤ (k : Int) := by omega
          have hlt3 : (k : Int) < (ops.length : Int) := by omega
          go_wp2_with fail
          go_region_with (go_at_call 10; refine (done_any _ _ _ _ _ _ _ _ (HP2.out.fr (Fr.refl NoB _).drew id (fun _ _ => id) (fun _ _ => id)) Hev.out).mono ?_; rintro e w3 ⟨er, rfl, hor, hp3, hf3⟩)
          all_goals
            have HP3 := Lib.hid hp3
            have Hb3 := Lib.hid ((below_next Hbw.out Hb0.out).drew.trans (hf3.belowB (w := wr.drew) (B := w.heap.size) (below_next Hbw.out Hb0.out).size Hvd.out))
            have Hrow := Lib.hid (show w3.ownsRow 0 TI 1 u10 ev.length (ints du) from orow_weaken (by
              have h1 : wr.drew.ownsRow W0.heap.size TI 1 u10 ev.length (ints du) := by
                have := Hown.out
                rw [List.take_of_length_le (by have := Hdl.out; omega)] at this
                exact this
              exact orow_fr h1 hf3 (fun x hx e => by have := (orow_blk Hown.out x hx).1; have := (orow_blk HP.out.own2 x e).2.1; omega)) (Nat.zero_le _))
            clear hp3 hf3
            have Hdl3 := Lib.hid (show (doneDu du ev oi on).length = ev.length by rw [doneDu_length]; exact Hdl.out)
            have hcase : (doneOk du oi on ∧ er = .nilIface) ∨ (¬ doneOk du oi on ∧ ∃ p, er = .iface 48 p) := hor
            clear hor Hown HP2 k1 k2
            obtain ⟨W3, hW3⟩ : ∃ W3, W3 = w3 := ⟨_, rfl⟩
            subst hW3
            rcases hcase with ⟨hok, rfl⟩ | ⟨hbad, pe, rfl⟩
            · have Hok := Lib.hid hok
              clear hok
              go_wp2_with fail
              go_loopw [15] (fun t wr3 => ∃ m : Nat, m ≤ ev.length ∧ t = .int .i64 m ∧ Below W3.heap.size W3 wr3) (fun t _ => ev.length - (intOf t).toNat)
              case atStart => exact ⟨0, by omega, rfl, Below.refl _ _⟩
              case round =>
                obtain ⟨m, hm, rfl, hbq⟩ := hrel
                have Hbq := Lib.hid hbq
                have HB := Lib.hid (below_next Hb3.out hbq)
                have HP4 := Lib.hid (HP3.out.fr (Fr.of_below (S := NoB) hbq) id (fun _ _ => id) (fun _ _ => id))
                have Hrow4 := Lib.hid (orow_below Hrow.out hbq)
                clear hbq
                by_cases hlt5 : m < ev.length
                · obtain ⟨gw, cw, _, rfl, _, _, hw1, hw2, _⟩ := orow_pos Hrow4.out (by omega)
                  obtain ⟨ge, oe, rfl, ce⟩ := (Hr.out.below HB.out).at m hlt5
                  have hep := ev_pos Hev.out m hlt5
                  have cx := orow_cell (Value.int .i64) Hrow4.out 0 m (by have := Hdl.out; omega)
                  unfold maxLen at hw2
                  have e1 := below_cell HB.out Hk.out.1
                  have e2 := below_cell HB.out Hk.out.2
                  have em1 : (0 : Int) ≤ (m : Int) := by omega
                  have em2 : (m : Int) < (ev.length : Int) := by omega
                  by_cases hmi : oi = (m : Int)
                  · subst hmi
                    obtain ⟨z1, z2, z3, z4⟩ := Hok.out
                    have Hd := Lib.hid (show dueOf (doneDu du ev (m : Int) on) (m : Int) = (on + ev.getD m 0, true) by
                      unfold dueOf; rw [if_pos (by have := Hdl3.out; omega), Int.toNat_natCast, doneDu_ok Hok.out, getD_set _ _ _ _ _ (by omega), Int.toNat_natCast, if_pos rfl])
                    generalize ev.getD m 0 = E at *
                    generalize du.getD m 0 = X at *
                    go_wp2_with fail
                    refine (due_any _ _ _ _ _ _ _ HP4.out).mono ?_
                    rintro e w' ⟨rfl, rfl⟩
                    rw [Hd.out]
                    clear Hd
                    go_wp2_with fail
                    go_quiet (fail)
                    go_wp2_with fail
                    go_roundw
                    case rel => exact ⟨m + 1, by omega, by go_num, below_drewN Hbq.out _⟩
                    case measure => simp [intOf]; omega
                  · have hne1 : ((m : Int) == oi) = false := by simpa using fun e => hmi e.symm
                    have hne2 : ((m : Int) != oi) = true := by simpa using fun e => hmi e.symm
                    obtain ⟨z1, z2, z3, z4⟩ := Hok.out
                    have Hd := Lib.hid (show dueOf (doneDu du ev oi on) (m : Int) = (du.getD m 0, true) by
                      unfold dueOf; rw [if_pos (by have := Hdl3.out; omega), Int.toNat_natCast, doneDu_ok Hok.out, getD_set _ _ _ _ _ (by omega), if_neg (by omega)])
                    generalize ev.getD m 0 = E at *
                    generalize du.getD m 0 = X at *
                    go_wp2_with fail
                    refine (due_any _ _ _ _ _ _ _ HP4.out).mono ?_
                    rintro e w' ⟨rfl, rfl⟩
                    rw [Hd.out]
                    clear Hd
                    go_wp2_with fail
                    go_quiet (fail)
                    go_wp2_with fail
                    go_roundw
                    case rel => exact ⟨m + 1, by omega, by go_num, below_drewN Hbq.out _⟩
                    case measure => simp [intOf]; omega
                · clear Hrow4 Hrow Hbq Hok Hdl3 Hb3 HP3
                  go_wp2_with fail
                  go_roundw
                  case rel => exact ⟨k + 1, by omega, by go_num, doneDu du ev oi on, by rw [doneDu_length]; exact Hdl.out, HP4.out, HB.out⟩
                  case measure => simp [intOf]; omega
            · have Hok := Lib.hid hbad
              clear hbad
              go_wp2_with fail
              go_loopw [15] (fun t wr3 => ∃ m : Nat, m ≤ ev.length ∧ t = .int .i64 m ∧ Below W3.heap.size W3 wr3) (fun t _ => ev.length - (intOf t).toNat)
              case atStart => exact ⟨0, by omega, rfl, Below.refl _ _⟩
              case round =>
                obtain ⟨m, hm, rfl, hbq⟩ := hrel
                have Hbq := Lib.hid hbq
                have HB := Lib.hid (below_next Hb3.out hbq)
                have HP4 := Lib.hid (HP3.out.fr (Fr.of_below (S := NoB) hbq) id (fun _ _ => id) (fun _ _ => id))
                have Hrow4 := Lib.hid (orow_below Hrow.out hbq)
                clear hbq
                by_cases hlt5 : m < ev.length
                · obtain ⟨gw, cw, _, rfl, _, _, hw1, hw2, _⟩ := orow_pos Hrow4.out (by omega)
                  obtain ⟨ge, oe, rfl, ce⟩ := (Hr.out.below HB.out).at m hlt5
                  have hep := ev_pos Hev.out m hlt5
                  have cx := orow_cell (Value.int .i64) Hrow4.out 0 m (by have := Hdl.out; omega)
                  unfold maxLen at hw2
                  have e1 := below_cell HB.out Hk.out.1
                  have e2 := below_cell HB.out Hk.out.2
                  have em1 : (0 : Int) ≤ (m : Int) := by omega
                  have em2 : (m : Int) < (ev.length : Int) := by omega
                  have Hd := Lib.hid (show dueOf (doneDu du ev oi on) (m : Int) = (du.getD m 0, true) by
                    unfold dueOf; rw [if_pos (by have := Hdl3.out; omega), Int.toNat_natCast, doneDu_bad Hok.out])
                  generalize ev.getD m 0 = E at *
                  generalize du.getD m 0 = X at *
                  go_wp2_with fail
                  refine (due_any _ _ _ _ _ _ _ HP4.out).mono ?_
                  rintro e w' ⟨rfl, rfl⟩
                  rw [Hd.out]
                  clear Hd
                  go_wp2_with fail
                  go_quiet (fail)
                  go_wp2_with fail
                  go_roundw
                  case rel => exact ⟨m + 1, by omega, by go_num, below_drewN Hbq.out _⟩
                  case measure => simp [intOf]; omega
                · clear Hrow4 Hrow Hbq Hok Hdl3 Hb3 HP3
                  go_wp2_with fail
                  go_roundw
                  case rel => exact ⟨k + 1, by omega, by go_num, doneDu du ev oi on, by rw [doneDu_length]; exact Hdl.out, HP4.out, HB.out⟩
                  case measure => simp [intOf]; omega
    · have Hn := Lib.hid (nxt_spec du now du.length)
      have Hq := Lib.hid (nxt_dueB du now du.length)
      go_wp2_with fail
      refine (next_any _ _ _ _ _ _ _ HP.out).mono ?_
      rintro e w' ⟨rfl, rfl⟩
      generalize nxt du now du.length = r at *
      obtain ⟨b, ok⟩ := r
      simp only at Hn Hq
      go_wp2_with fail
      go_loop [20, 21] (fun td t => ∃ m : Nat, m ≤ ev.length ∧ t = .int .i64 m ∧ td = .bool (dueB du now m)) (fun _ t => ev.length - (intOf t).toNat)
      case atStart => exact ⟨0, by omega, rfl, rfl⟩
      case round =>
        obtain ⟨m, hm, rfl, rfl⟩ := hrel
        by_cases hlt6 : m < ev.length
        · have hd := Lib.hid (show dueOf du (m : Int) = (du.getD m 0, true) by unfold dueOf; rw [if_pos (by have := Hdl.out; omega)]; simp)
          have hbn : b < du.length := by
            have h1 := Hn.out
            have h2 := Hdl.out
            cases ok with
            | true => exact (h1.1 rfl).1
            | false => have := (h1.2 rfl).1; omega
          have hd2 := Lib.hid (show dueOf du (b : Int) = (du.getD b 0, true) by unfold dueOf; rw [if_pos (by omega)]; simp)
          have hstep := Lib.hid (show dueB du now (m + 1) = (dueB du now m || decide (du.getD m 0 ≤ now)) from rfl)
          have hmin := Lib.hid (show ok = true → du.getD b 0 ≤ du.getD m 0 ∧ (m < b → du.getD b 0 < du.getD m 0) from fun h => (Hn.out.1 h).2.2 m (by have := Hdl.out; omega))
          clear hbn
          go_wp2_with fail
          refine (due_any _ _ _ _ _ _ _ HP.out).mono ?_
          rintro e w' ⟨rfl, rfl⟩
          rw [hd.out]
          clear hd
          generalize hX : du.getD m 0 = X at *
          have HX := Lib.hid hX
          clear hX
          generalize dueB du now m = db at *
          have key : ∀ Y : Int, du.getD b 0 = Y → (ok = true → Y ≤ X ∧ (m < b → Y < X)) := by
            rintro Y rfl; exact hmin.out
          have Key := Lib.hid key
          clear key hmin
          by_cases hXn : X ≤ now
          all_goals cases db
          all_goals
            go_wp2_with fail
            refine (due_any _ _ _ _ _ _ _ HP.out).mono ?_
            rintro e w' ⟨rfl, rfl⟩
            rw [hd2.out]
            have hk := Key.out _ rfl
            clear Key
            generalize du.getD b 0 = Y at *
            cases ok
            · go_wp2_with fail
              go_round
              case rel => exact ⟨m + 1, by omega, by go_num, by rw [hstep.out]; simp [hXn]⟩
              case measure => simp [intOf]; omega
            · obtain ⟨hk1, hk2⟩ := hk rfl
              clear hk
              by_cases hYX : X = Y
              · have hmb : ¬ m < b := fun h => by have := hk2 h; omega
                clear hk2
                subst hYX
                have hmb1 : (b : Int) ≤ (m : Int) := by omega
                go_wp2_with fail
                go_round
                case rel => exact ⟨m + 1, by omega, by go_num, by rw [hstep.out]; simp [hXn]⟩
                case measure => simp [intOf]; omega
              · have hne : (X == Y) = false := by simpa using hYX
                clear hk2
                have hk3 : Y < X := by omega
                go_wp2_with fail
                go_round
                case rel => exact ⟨m + 1, by omega, by go_num, by rw [hstep.out]; simp [hXn]⟩
                case measure => simp [intOf]; omega
        · obtain rfl : m = ev.length := by omega
          have hfin := Lib.hid (show ok = dueB du now ev.length by have := Hq.out; rw [this, Hdl.out])
          go_wp2_with fail
          refine (first_true _).mono ?_
          rintro e w5 ⟨rfl, hb5⟩
          rw [hfin.out]
          go_wp2_with fail
          go_ret
          exact ⟨rfl, below_next Hbw.out hb5⟩
end Go.Proofs.Ytbafjbpbpobocaa

/-
  PlanFair: the walk.
-/
import Derived.Test.YtbafjbpbpobocaaPlanStarts
import Derived.Test.YtbafjbpbpobocaaFairMath
namespace Go.Proofs.Ytbafjbpbpobocaa
open Go.RowKit

open Classical in
/-- What is due behind Done. -/
noncomputable def doneDu (du ev : List Int) (i now : Int) : List Int := if doneOk du i now then du.set i.toNat (now + ev.getD i.toNat 0) else du
theorem doneDu_length (du ev : List Int) (i now : Int) : (doneDu du ev i now).length = du.length := by unfold doneDu; split <;> simp
theorem doneDu_ok {du ev : List Int} {i now : Int} (h : doneOk du i now) : doneDu du ev i now = du.set i.toNat (now + ev.getD i.toNat 0) := if_pos h
theorem doneDu_bad {du ev : List Int} {i now : Int} (h : ¬ doneOk du i now) : doneDu du ev i now = du := if_neg h

/-- Done, whatever it is told. -/
theorem done_any (b : Nat) (ve vd : Value) (ev du : List Int) (i now : Int) (w : World) (h : PlanAt w b ve vd ev du) (hev : ∀ n ∈ ev, 1 ≤ n ∧ n ≤ 10000) :
    Calls Try.prog 10 #[.pointer (some ⟨b, 0, none⟩), .int .i64 i, .int .i64 now] w fun e w' => ∃ er, e = .returned er ∧ ((doneOk du i now ∧ er = .nilIface) ∨ (¬ doneOk du i now ∧ ∃ p, er = .iface 48 p)) ∧
      PlanAt w' b ve vd ev (doneDu du ev i now) ∧ Fr (fun k => vd.ownBlock = some k) w w' := by
  by_cases hok : doneOk du i now
  · refine (done_ok b ve vd ev du i now w h hok hev).mono ?_
    rintro e w' ⟨rfl, hp, hf⟩
    exact ⟨_, rfl, .inl ⟨hok, rfl⟩, by rw [doneDu_ok hok]; exact hp, hf⟩
  · refine (done_bad b ve vd ev du i now w h hok).mono ?_
    rintro e w' ⟨c, rfl, rfl⟩
    exact ⟨_, rfl, .inr ⟨hok, _, rfl⟩, by rw [doneDu_bad hok]; exact h.fr ((Fr.refl NoB _).alloc _) id (fun _ _ => id) (fun _ _ => id), (Fr.refl _ _).alloc _⟩

/-- All that is due is no less than 0. -/
def duePos (du : List Int) : Prop := ∀ j, j < du.length → 0 ≤ du.getD j 0
theorem duePos_done {du ev : List Int} {i now : Int} (h : duePos du) (hl : du.length = ev.length) (hev : ∀ n ∈ ev, 1 ≤ n ∧ n ≤ 10000) : duePos (doneDu du ev i now) := by
  by_cases hok : doneOk du i now
  · rw [doneDu_ok hok]
    obtain ⟨h0, h1, h2, h3⟩ := hok
    intro j hj
    rw [List.length_set] at hj
    rw [getD_set _ _ _ _ _ (by omega)]
    split
    · have := ev_pos hev i.toNat (by omega); omega
    · exact h j hj
  · rw [doneDu_bad hok]; exact h

theorem infoBool : (Try.prog.info? 4).map (fun i => (i.zero, i.size, i.bytes)) = some (some (.bool false), 1, 1) := by kernel_rfl

set_option maxRecDepth 100000 in
set_option maxHeartbeats 2000000 in
theorem fair_true (v u : Value) (ev : List Int) (ops : List (Int × Int × Int)) (now : Int) (w : World) (h : RdI w v ev) (hu : RdS 3 int3 w u ops) :
    Calls Try.prog 4 #[v, u, .int .i64 now] w fun e w' => e = .returned (.bool true) ∧ Below w.heap.size w w' := by
  obtain ⟨A, c, rfl, hc⟩ := h.form
  obtain ⟨A2, c2, rfl, hc2⟩ := hu.form
  have Hr := Lib.hid h
  have Hu := Lib.hid hu
  clear h hu
  by_cases hg : 16 < ev.length ∨ 200 < ops.length ∨ now < 0 ∨ 549755813888 < now
  · by_cases h16 : 16 < ev.length
    · go_enter Try.func4, Try.ntmps4
      go_wp2_with (go_at_call 7; refine (first_true _).mono ?_; rintro e w1 ⟨rfl, hb1⟩)
      go_ret
      exact ⟨rfl, by (repeat' (first | (with_reducible exact Below.refl _ _) | (with_reducible assumption) | (with_reducible refine below_alloc ?_ _) | (with_reducible refine Below.drew ?_) | (with_reducible refine below_drewN ?_ _) | (with_reducible exact below_next (by with_reducible assumption) (by with_reducible assumption))))⟩
    by_cases h200 : 200 < ops.length
    · go_enter Try.func4, Try.ntmps4
      go_wp2_with (go_at_call 7; refine (first_true _).mono ?_; rintro e w1 ⟨rfl, hb1⟩)
      go_ret
      exact ⟨rfl, by (repeat' (first | (with_reducible exact Below.refl _ _) | (with_reducible assumption) | (with_reducible refine below_alloc ?_ _) | (with_reducible refine Below.drew ?_) | (with_reducible refine below_drewN ?_ _) | (with_reducible exact below_next (by with_reducible assumption) (by with_reducible assumption))))⟩
    by_cases h0 : now < 0
    · go_enter Try.func4, Try.ntmps4
      go_wp2_with (go_at_call 7; refine (first_true _).mono ?_; rintro e w1 ⟨rfl, hb1⟩)
      go_ret
      exact ⟨rfl, by (repeat' (first | (with_reducible exact Below.refl _ _) | (with_reducible assumption) | (with_reducible refine below_alloc ?_ _) | (with_reducible refine Below.drew ?_) | (with_reducible refine below_drewN ?_ _) | (with_reducible exact below_next (by with_reducible assumption) (by with_reducible assumption))))⟩
    have h1 : 549755813888 < now := by omega
    clear hg
    go_enter Try.func4, Try.ntmps4
    go_wp2_with (go_at_call 7; refine (first_true _).mono ?_; rintro e w1 ⟨rfl, hb1⟩)
    go_ret
    exact ⟨rfl, by (repeat' (first | (with_reducible exact Below.refl _ _) | (with_reducible assumption) | (with_reducible refine below_alloc ?_ _) | (with_reducible refine Below.drew ?_) | (with_reducible refine below_drewN ?_ _) | (with_reducible exact below_next (by with_reducible assumption) (by with_reducible assumption))))⟩
  have g1 : ev.length ≤ 16 := by omega
  have g2 : ops.length ≤ 200 := by omega
  have g3 : 0 ≤ now := by omega
  have g4 : now ≤ 549755813888 := by omega
  clear hg
  go_enter Try.func4, Try.ntmps4
  go_wp2_with fail
  refine (first_true _).mono ?_
  rintro e w1 ⟨rfl, hb1⟩
  have Hb1 := Lib.hid hb1
  clear hb1
  go_wp2_with fail
  refine (planNew _ ev _ (Hr.out.below Hb1.out) (by omega)).mono ?_
  rintro e w2 ⟨hb2, h⟩
  have Hb2 := Lib.hid (below_next Hb1.out hb2)
  rcases h with ⟨h, er, rfl⟩ | ⟨h, p, rfl, hp⟩
  · clear h hb2
    go_wp2_with (go_at_call 7; refine (first_true _).mono ?_; rintro e w3 ⟨rfl, hb3⟩)
    go_ret
    exact ⟨rfl, below_next Hb2.out hb3⟩
  obtain ⟨_, hev⟩ := good_of ev h
  have Hev := Lib.hid hev
  obtain ⟨bp, ve, vd, rfl, hp, hbp, hve, hvd⟩ := hp
  have Hst := Lib.hid (show ∃ du, duePos du ∧ du.length = ev.length ∧ PlanAt w2 bp ve vd ev du ∧ Below w.heap.size w w2 from ⟨_, by intro j hj; simp at hj; simp [List.getD_eq_getElem?_getD, hj], by simp, hp, Hb2.out⟩)
  have Hvd := Lib.hid (fun k hk => Nat.le_trans Hb1.out.size (hvd k hk))
  clear h hev hp hve hvd hbp hb2
  go_wp2_with fail
  go_loopw [9] (fun t wr => ∃ k : Nat, k ≤ ops.length ∧ t = .int .i64 k ∧ ∃ du, duePos du ∧ du.length = ev.length ∧ PlanAt wr bp ve vd ev du ∧ Below w.heap.size w wr) (fun t _ => ops.length - (intOf t).toNat)
  case atStart => exact ⟨0, by omega, rfl, Hst.out⟩
  case round =>
    obtain ⟨k, hk, rfl, du, hpos, hdl, hp, hbw⟩ := hrel
    have HP := Lib.hid hp
    have Hbw := Lib.hid hbw
    have Hpos := Lib.hid hpos
    have Hdl := Lib.hid hdl
    clear hp hbw Hst hpos hdl
    by_cases hlt : k < ops.length
    · obtain ⟨g, o, rfl, hcell⟩ := (Hu.out.below Hbw.out).at k hlt
      have k1 := hcell 1 _ rfl
      have k2 := hcell 2 _ rfl
      generalize ops[k].2.1 = oi at *
      generalize ops[k].2.2 = on at *
      clear hcell
      have hlt1 : (0 : Int) ≤ (k : Int) := by omega
      have hlt2 : (k : Int) < (ops.length : Int) := by omega
      go_wp2_with fail
      go_region_with (go_at_call 10; refine (done_any _ _ _ _ _ _ _ _ (HP.out.fr (Fr.refl NoB _).drew id (fun _ _ => id) (fun _ _ => id)) Hev.out).mono ?_; rintro e w3 ⟨er, rfl, hor, hp3, hf3⟩)
      all_goals
        have HP3 := Lib.hid hp3
        have Hb3 := Lib.hid (Hbw.out.drew.trans (hf3.belowB (w := wr.drew) (B := w.heap.size) Hbw.out.size Hvd.out))
        clear hp3 hf3 hor
        go_wp2_with fail
        go_roundw
        case rel => exact ⟨k + 1, by omega, by go_num, _, duePos_done Hpos.out Hdl.out Hev.out, by rw [doneDu_length]; exact Hdl.out, HP3.out, Hb3.out⟩
        case measure => simp [intOf]; omega
    · clear Hu
      go_wp2_with fail
      go_loop [10] (fun t => ∃ k : Nat, k ≤ ev.length ∧ t = .int .i64 k ∧ ∀ j, j < k → du.getD j 0 ≤ now) (fun t => ev.length - (intOf t).toNat)
      case atStart => exact ⟨0, by omega, rfl, fun j hj => by omega⟩
      case round =>
        obtain ⟨m, hm, rfl, hle⟩ := hrel
        have Hle := Lib.hid hle
        clear hle
        by_cases hlt2 : m < ev.length
        · have hd := Lib.hid (show dueOf du (m : Int) = (du.getD m 0, true) by unfold dueOf; rw [if_pos (by have := Hdl.out; omega)]; simp)
          have hstep : du.getD m 0 ≤ now → ∀ j, j < m + 1 → du.getD j 0 ≤ now := by
            intro h j hj
            by_cases e : j = m
            · rw [e]; exact h
            · exact Hle.out j (by omega)
          have Hstep := Lib.hid hstep
          clear hstep
          go_wp2_with fail
          refine (due_any _ _ _ _ _ _ _ HP.out).mono ?_
          rintro e w' ⟨rfl, rfl⟩
          rw [hd.out]
          clear hd
          generalize du.getD m 0 = t at *
          by_cases ht : t ≤ now
          · go_wp2_with fail
            go_round
            case rel => exact ⟨m + 1, by omega, by go_num, Hstep.out ht⟩
            case measure => simp [intOf]; omega
          · go_wp2_with (go_at_call 7; refine (first_true _).mono ?_; rintro e w3 ⟨rfl, hb3⟩)
            go_ret
            exact ⟨rfl, below_next Hbw.out hb3⟩
        · obtain rfl : m = ev.length := by omega
          obtain ⟨i, hi, hz0, hz1, hz2⟩ := info_parts infoBool
          have hmk : ∀ W : World, (Instr.makeSlice 36 (.int .i64 (ev.length : Int)) (.int .i64 (ev.length : Int))).run Try.prog W = .ok (.slice (some ⟨W.heap.size, 0, none⟩) ev.length ev.length) (W.alloc (.cells (madeCells #[.bool false] ev.length) 4)) := fun W => by
            have := run_make_rowN (P := Try.prog) 36 4 i (.bool false) Try.underlying36 hi hz0 .i64 .i64 ev.length ev.length (Nat.le_refl _) (by rw [hz2]; omega) (by omega) W
            rw [hz1, Nat.mul_one] at this
            exact this
          have hrow := orow_made wr wr.heap.size 4 (.bool false) ev.length (Nat.le_refl _) (by unfold maxLen; omega)
          have hrow' : (wr.alloc (.cells (madeCells #[.bool false] ev.length) 4)).ownsRow w.heap.size 4 1 (.slice (some ⟨wr.heap.size, 0, none⟩) ev.length ev.length) ev.length ((List.replicate ev.length false).map Value.bool) := by
            simpa using orow_weaken hrow Hbw.out.size
          have Hst := Lib.hid (show ∃ (met : List Bool) (last : Int), met.length = ev.length ∧ cnt met = 0 ∧ (∀ j, j < ev.length → met.getD j false = false → last ≤ du.getD j 0) ∧ last = -1 ∧
              (wr.alloc (.cells (madeCells #[.bool false] ev.length) 4)).ownsRow w.heap.size 4 1 (.slice (some ⟨wr.heap.size, 0, none⟩) ev.length ev.length) ev.length (met.map Value.bool) ∧
              PlanAt (wr.alloc (.cells (madeCells #[.bool false] ev.length) 4)) bp ve vd ev (fairDu du ev met now) ∧ Below w.heap.size w (wr.alloc (.cells (madeCells #[.bool false] ev.length) 4)) from
            ⟨List.replicate ev.length false, -1, by simp, cnt_none _, fun j hj _ => by have := Hpos.out j (by have := Hdl.out; omega); omega, rfl, hrow', by rw [fairDu_none _ _ _ Hdl.out]; exact HP.out.fr ((Fr.refl NoB _).alloc _) id (fun _ _ => id) (fun _ _ => id), below_alloc Hbw.out _⟩)
          have Hvm := Lib.hid (fun k (hk : vd.ownBlock = some k) => (show k ≠ wr.heap.size by have := (orow_blk HP.out.own2 k hk).2.1; omega))
          clear hrow hrow' hi hz0 hz1 hz2 HP
          go_wp2_with fail
          go_loopw [14, 15] (fun tl tk wr2 => ∃ k : Nat, k ≤ ev.length ∧ tk = .int .i64 k ∧ ∃ (met : List Bool) (last : Int), met.length = ev.length ∧ cnt met = k ∧ (∀ j, j < ev.length → met.getD j false = false → last ≤ du.getD j 0) ∧ tl = .int .i64 last ∧
              wr2.ownsRow w.heap.size 4 1 (.slice (some ⟨wr.heap.size, 0, none⟩) ev.length ev.length) ev.length (met.map Value.bool) ∧
              PlanAt wr2 bp ve vd ev (fairDu du ev met now) ∧ Below w.heap.size w wr2) (fun _ t _ => ev.length - (intOf t).toNat)
          case atStart =>
            obtain ⟨met, last, i1, i2, i3, rfl, i5⟩ := Hst.out
            exact ⟨0, by omega, rfl, met, -1, i1, i2, i3, rfl, i5⟩
          case round =>
            obtain ⟨k, hk, rfl, met, last, hml, hcnt, hlast, rfl, hown, hp, hbw2⟩ := hrel
            have HP := Lib.hid hp
            have Hbw2 := Lib.hid hbw2
            have Hown := Lib.hid hown
            have Hlast := Lib.hid hlast
            have Hml := Lib.hid hml
            have Hcnt := Lib.hid hcnt
            clear hp hbw2 hown hlast hml hcnt Hst hmk
            have hfl := fairDu_length du ev met now
            have Hfl := Lib.hid hfl
            clear hfl
            by_cases hlt3 : k < ev.length
            · obtain ⟨i, q1, q2, q3, q4, q5⟩ := fair_round du ev met now Hml.out (by rw [Hcnt.out]; exact hlt3) Hev.out (fun j hj => Hle.out j hj)
              have Q1 := Lib.hid (show nxt (fairDu du ev met now) now (fairDu du ev met now).length = (i, true) by rw [Hfl.out]; exact q1)
              have Q3 := Lib.hid q3
              have Q5 := Lib.hid q5
              have Qd := Lib.hid (show dueOf (fairDu du ev met now) (i : Int) = (du.getD i 0, true) by unfold dueOf; rw [if_pos (by rw [Hfl.out]; omega), Int.toNat_natCast, q4])
              have Ql := Lib.hid (Hlast.out i q2 q3)
              have ck := orow_cell Value.bool Hown.out false i q2
              rw [q3] at ck
              have fk := orow_froz Hown.out i
              have hown2 := orow_store Value.bool Hown.out i true
              have Hown2 := Lib.hid hown2
              have hbb := (orow_blk Hown.out _ rfl).1
              have Hsb := Lib.hid (Hbw2.out.setCell (p := ⟨_, i, none⟩) hbb (.bool true))
              have HP2 := Lib.hid (HP.out.fr (Fr.setCell (S := fun x => x = _) (Fr.refl _ wr) (p := ⟨_, i, none⟩) (.inl rfl) (.bool true)) (fun e => by
                have h1 := HP.out.str
                obtain ⟨_, _, cs, h2⟩ := orow_blk Hown.out _ rfl
                exact bne h1 h2 (by decide) e) (fun x hx e => by
                obtain ⟨_, _, cs, h2⟩ := orow_blk Hown.out _ rfl
                obtain ⟨_, _, cs', h1⟩ := orow_blk HP.out.own1 x hx
                exact bne h1 h2 (by decide) e) (fun x hx e => by
                obtain ⟨_, _, cs, h2⟩ := orow_blk Hown.out _ rfl
                obtain ⟨_, _, cs', h1⟩ := orow_blk HP.out.own2 x hx
                exact bne h1 h2 (by decide) e))
              clear q1 q3 q4 q5 hown2 hbb
              have iq1 : (0 : Int) ≤ (i : Int) := by omega
              have iq2 : (i : Int) < (ev.length : Int) := by omega
              go_wp2_with fail
              refine (next_any _ _ _ _ _ _ _ HP.out).mono ?_
              rintro e w' ⟨rfl, rfl⟩
              rw [Q1.out]
              go_wp2_with fail
              refine (due_any _ _ _ _ _ _ _ HP.out).mono ?_
              rintro e w' ⟨rfl, rfl⟩
              rw [Qd.out]
              have ql := Ql.out
              generalize hd0 : du.getD i 0 = t at *
              have Hd0 := Lib.hid hd0
              clear hd0
              go_wp2_with fail
              refine (done_ok _ _ _ _ _ _ _ _ HP2.out ⟨by omega, by rw [Hfl.out]; exact iq2, by omega, by omega⟩ Hev.out).mono ?_
              rintro e w3 ⟨rfl, hp3, hf3⟩
              rw [Int.toNat_natCast, fairDu_set _ _ _ _ _ Hml.out q2] at hp3
              have HP3 := Lib.hid hp3
              have Hb3 := Lib.hid (Hsb.out.trans (hf3.belowB Hsb.out.size Hvd.out))
              have Hown3 := Lib.hid (orow_fr Hown2.out hf3 (fun x hx e => by
                obtain ⟨_, _, cs, h2⟩ := orow_blk Hown.out x hx
                obtain ⟨_, _, cs', h1⟩ := orow_blk HP.out.own2 x e
                exact bne h1 h2 (by decide) rfl))
              clear hp3 hf3
              go_wp2_with fail
              go_roundw
              case rel =>
                refine ⟨k + 1, by omega, by go_num, met.set i true, t, by rw [List.length_set]; exact Hml.out, by rw [cnt_set _ _ (by rw [Hml.out]; exact q2) Q3.out, Hcnt.out], ?_, rfl, Hown3.out, HP3.out, Hb3.out⟩
                intro j hj hmj
                rw [getD_set _ _ _ _ _ (by rw [Hml.out]; exact q2)] at hmj
                by_cases e : i = j
                · rw [if_pos e] at hmj; cases hmj
                · rw [if_neg e] at hmj
                  exact Q5.out j hj hmj
              case measure => simp [intOf]; omega
            · have hN := Lib.hid (show nxt (fairDu du ev met now) now (fairDu du ev met now).length = (0, false) by rw [Hfl.out]; exact fair_end _ _ _ _ Hml.out (by rw [Hcnt.out]; omega) Hev.out)
              go_wp2_with fail
              refine (next_any _ _ _ _ _ _ _ HP.out).mono ?_
              rintro e w' ⟨rfl, rfl⟩
              rw [hN.out]
              go_wp2_with fail
              refine (first_true _).mono ?_
              rintro e w5 ⟨rfl, hb5⟩
              go_wp2_with fail
              go_ret
              exact ⟨rfl, below_next Hbw2.out hb5⟩
end Go.Proofs.Ytbafjbpbpobocaa

/-
  PlanEvery: the walk.
-/
import Derived.Test.YtbafjbpbpobocaaPlanFirst
namespace Go.Proofs.Ytbafjbpbpobocaa
open Go.RowKit

/-- d is the first time from k on at which a poll of every a ticks is due. -/
def DueAt (a k d : Int) : Prop := k ≤ d ∧ d < k + a ∧ a ∣ d
theorem DueAt.zero {a : Int} (h : 1 ≤ a) : DueAt a 0 0 := ⟨by omega, by omega, ⟨0, by omega⟩⟩
theorem DueAt.next {a k d : Int} (h : DueAt a k d) (hne : d ≠ k) : DueAt a (k + 1) d := ⟨by have := h.1; omega, by have := h.2.1; omega, h.2.2⟩
theorem DueAt.done {a k : Int} (h1 : 1 ≤ a) (h : DueAt a k k) : DueAt a (k + 1) (k + a) := ⟨by omega, by omega, Int.dvd_add h.2.2 (Int.dvd_refl a)⟩
theorem DueAt.iff {a k d : Int} (h : DueAt a k d) : d = k ↔ k % a = 0 := by
  constructor
  · rintro rfl; exact Int.emod_eq_zero_of_dvd h.2.2
  · intro e
    have h1 : a ∣ d - k := Int.dvd_sub h.2.2 (Int.dvd_of_emod_eq_zero e)
    have e2 := Int.emod_eq_of_lt (a := d - k) (b := a) (by have := h.1; omega) (by have := h.2.1; omega)
    have e3 := Int.emod_eq_zero_of_dvd h1
    omega

theorem nxt_two (d0 d1 now : Int) : nxt [d0, d1] now 2 = if d0 ≤ now then (if d1 ≤ now ∧ d1 < d0 then (1, true) else (0, true)) else if d1 ≤ now then (1, true) else (0, false) := by
  simp only [nxt, List.getD_cons_zero, List.getD_cons_succ]
  by_cases h0 : d0 ≤ now <;> by_cases h1 : d1 ≤ now <;> by_cases h2 : d1 < d0 <;> simp [h0, h1, h2]

set_option maxHeartbeats 1000000 in
theorem every_true (a b n : Int) (w : World) (hn : n ≤ 9223372036854775807) : Calls Try.prog 3 #[.int .i64 a, .int .i64 b, .int .i64 n] w fun e w' => e = .returned (.bool true) ∧ Below w.heap.size w w' := by
  by_cases h0 : n < 0 ∨ 300 < n
  · rcases h0 with h0 | h0
    · go_enter Try.func3, Try.ntmps3
      go_wp2_with fail
      refine (first_true _).mono ?_
      rintro e w1 ⟨rfl, hb1⟩
      go_wp2_with fail
      refine (first_true _).mono ?_
      rintro e w2 ⟨rfl, hb2⟩
      go_wp2_with fail
      go_ret
      exact ⟨rfl, below_next hb1 hb2⟩
    · have h0' : ¬ n < 0 := by omega
      go_enter Try.func3, Try.ntmps3
      go_wp2_with fail
      refine (first_true _).mono ?_
      rintro e w1 ⟨rfl, hb1⟩
      go_wp2_with fail
      refine (first_true _).mono ?_
      rintro e w2 ⟨rfl, hb2⟩
      go_wp2_with fail
      go_ret
      exact ⟨rfl, below_next hb1 hb2⟩
  have h1 : 0 ≤ n := by omega
  have h2 : n ≤ 300 := by omega
  clear h0 hn
  have hrd : ∀ w1 : World, RdI (w1.alloc (.cells #[.int .i64 a, .int .i64 b] TI)) (.slice (some ⟨w1.heap.size, 0, none⟩) 2 2) [a, b] := fun w1 =>
    Rd1.lit (bnew w1 _) rfl (Nat.le_refl _) fun i hi => by
      have hi' : i < 2 := hi
      match i, hi' with
      | 0, _ => rfl
      | 1, _ => rfl
  have Hrd := Lib.hid hrd
  clear hrd
  have hbd : planBad [a, b] = (decide (a < 1) || decide (10000 < a) || (decide (b < 1) || decide (10000 < b))) := by simp [planBad]
  have Hbd := Lib.hid hbd
  clear hbd
  go_enter Try.func3, Try.ntmps3
  go_wp2_with fail
  refine (first_true _).mono ?_
  rintro e w1 ⟨rfl, hb1⟩
  have Hb1 := Lib.hid hb1
  clear hb1
  go_wp2_with fail
  refine (planNew _ [a, b] _ (Hrd.out _) (by simp)).mono ?_
  rintro e w2 ⟨hb2, h⟩
  have hb2 := below_next (below_alloc Hb1.out _) hb2
  rcases h with ⟨h, er, rfl⟩ | ⟨h, p, rfl, hp⟩
  · rw [Hbd.out] at h
    simp only [Bool.or_eq_true, decide_eq_true_eq] at h
    have Hb2 := Lib.hid hb2
    clear hb2
    by_cases ha : a < 1
    · clear h
      go_wp2_with (go_at_call 7; refine (first_true _).mono ?_; rintro e w3 ⟨rfl, hb3⟩)
      go_ret
      exact ⟨rfl, below_next Hb2.out hb3⟩
    by_cases ha2 : 10000 < a
    · clear h
      go_wp2_with (go_at_call 7; refine (first_true _).mono ?_; rintro e w3 ⟨rfl, hb3⟩)
      go_ret
      exact ⟨rfl, below_next Hb2.out hb3⟩
    by_cases hb : b < 1
    · clear h
      go_wp2_with (go_at_call 7; refine (first_true _).mono ?_; rintro e w3 ⟨rfl, hb3⟩)
      go_ret
      exact ⟨rfl, below_next Hb2.out hb3⟩
    have hb4 : 10000 < b := by omega
    clear h
    go_wp2_with (go_at_call 7; refine (first_true _).mono ?_; rintro e w3 ⟨rfl, hb3⟩)
    go_ret
    exact ⟨rfl, below_next Hb2.out hb3⟩
  · rw [Hbd.out] at h
    simp only [Bool.or_eq_false_iff, decide_eq_false_iff_not] at h
    obtain ⟨⟨g1, g2⟩, g3, g4⟩ := h
    obtain ⟨bb, ve, vd, rfl, hp, hbb, hve, hvd⟩ := hp
    replace hp : PlanAt w2 bb ve vd [a, b] [0, 0] := hp
    have hsz : w.heap.size ≤ (w1.alloc (.cells #[.int .i64 a, .int .i64 b] TI)).heap.size := by simp; exact Nat.le_succ_of_le Hb1.out.size
    have Hvd := Lib.hid (fun k hk => Nat.le_trans hsz (hvd k hk))
    have Hev := Lib.hid (show ∀ n ∈ [a, b], 1 ≤ n ∧ n ≤ 10000 by intro n hn; simp at hn; omega)
    have Hst := Lib.hid (show ∃ da db, DueAt a 0 da ∧ DueAt b 0 db ∧ PlanAt w2 bb ve vd [a, b] [da, db] ∧ Below w.heap.size w w2 from ⟨0, 0, DueAt.zero (by omega), DueAt.zero (by omega), hp, hb2⟩)
    clear hp hb2 hbb hve hvd hsz
    go_wp2_with fail
    go_loopw [9] (fun t wr => ∃ k : Nat, (k : Int) ≤ n ∧ t = .int .i64 k ∧ ∃ da db, DueAt a k da ∧ DueAt b k db ∧ PlanAt wr bb ve vd [a, b] [da, db] ∧ Below w.heap.size w wr) (fun t _ => n.toNat - (intOf t).toNat)
    case atStart => exact ⟨0, by omega, rfl, Hst.out⟩
    case round =>
      obtain ⟨k, hk, rfl, da, db, hda, hdb, hp, hbw⟩ := hrel
      have Hp := Lib.hid hp
      have Hbw := Lib.hid hbw
      have Hda := Lib.hid hda
      have Hdb := Lib.hid hdb
      clear hp hbw hda hdb Hst
      by_cases hlt : (k : Int) < n
      · go_wp2_with fail
        go_loopw [10, 11, 12] (fun vx vy vi wr => ∃ x y : Bool, vx = .bool x ∧ vy = .bool y ∧ vi = .int .i64 ((x.toNat + y.toNat : Nat) : Int) ∧ (x = true → da = k) ∧ (y = true → db = k) ∧ (x = false → y = true → da ≠ k) ∧
            PlanAt wr bb ve vd [a, b] [if x then k + a else da, if y then k + b else db] ∧ Below w.heap.size w wr) (fun _ _ i _ => 3 - (intOf i).toNat)
        case atStart => exact ⟨false, false, rfl, rfl, rfl, by simp, by simp, by simp, Hp.out, Hbw.out⟩
        case round =>
          obtain ⟨x, y, rfl, rfl, rfl, hx, hy, hxy, hp, hbw⟩ := hrel
          have Hp2 := Lib.hid hp
          have Hbw2 := Lib.hid hbw
          clear hp hbw
          cases x <;> cases y
          · have hx0 : (((false.toNat + false.toNat : Nat) : Int)) = 0 := rfl
            by_cases ea : da = k
            · have HN := Lib.hid (show nxt [da, db] k 2 = (0, true) by rw [nxt_two, if_pos (by omega), if_neg (by have := Hdb.out.1; omega)])
              rw [hx0]
              have Hp3 := Lib.hid (show PlanAt wr bb ve vd [a, b] [da, db] from Hp2.out)
              clear Hp2
              go_wp2_with fail
              refine (next_any _ _ _ _ _ _ _ Hp3.out).mono ?_
              rintro e w' ⟨rfl, rfl⟩
              rw [show nxt [da, db] k ([da, db] : List Int).length = (0, true) from HN.out]
              go_wp2_with fail
              refine (done_ok _ _ _ _ _ _ _ _ Hp3.out ⟨by omega, by simp, by omega, by omega⟩ Hev.out).mono ?_
              rintro e w3 ⟨rfl, hp4, hf⟩
              have Hp4 := Lib.hid hp4
              have Hb4 := Lib.hid (Hbw2.out.trans (hf.belowB Hbw2.out.size Hvd.out))
              clear hp4 hf
              go_wp2_with fail
              go_roundw
              case rel => exact ⟨true, false, rfl, rfl, rfl, fun _ => ea, by simp, by simp, Hp4.out, Hb4.out⟩
              case measure => simp [intOf]
            · have HN0 := Lib.hid Hda.out.1
              by_cases eb : db = k
              · have HN := Lib.hid (show nxt [da, db] k 2 = (1, true) by rw [nxt_two, if_neg (by have := HN0.out; omega), if_pos (by omega)])
                rw [hx0]
                have Hp3 := Lib.hid (show PlanAt wr bb ve vd [a, b] [da, db] from Hp2.out)
                clear Hp2
                go_wp2_with fail
                refine (next_any _ _ _ _ _ _ _ Hp3.out).mono ?_
                rintro e w' ⟨rfl, rfl⟩
                rw [show nxt [da, db] k ([da, db] : List Int).length = (1, true) from HN.out]
                go_wp2_with fail
                refine (done_ok _ _ _ _ _ _ _ _ Hp3.out ⟨by omega, by simp, by omega, by omega⟩ Hev.out).mono ?_
                rintro e w3 ⟨rfl, hp4, hf⟩
                have Hp4 := Lib.hid hp4
                have Hb4 := Lib.hid (Hbw2.out.trans (hf.belowB Hbw2.out.size Hvd.out))
                clear hp4 hf
                go_wp2_with fail
                go_roundw
                case rel => exact ⟨false, true, rfl, rfl, rfl, by simp, fun _ => eb, fun _ _ => ea, Hp4.out, Hb4.out⟩
                case measure => simp [intOf]
              · have HN := Lib.hid (show nxt [da, db] k 2 = (0, false) by rw [nxt_two, if_neg (by have := HN0.out; omega), if_neg (by have := Hdb.out.1; omega)])
                rw [hx0]
                have Hp3 := Lib.hid (show PlanAt wr bb ve vd [a, b] [da, db] from Hp2.out)
                have e1 : (((k : Nat) : Int) % a == 0) = false := by simpa using (fun h => ea (Hda.out.iff.2 h))
                have e2 : (((k : Nat) : Int) % b == 0) = false := by simpa using (fun h => eb (Hdb.out.iff.2 h))
                clear Hp2
                go_wp2_with fail
                refine (next_any _ _ _ _ _ _ _ Hp3.out).mono ?_
                rintro e w' ⟨rfl, rfl⟩
                rw [show nxt [da, db] k ([da, db] : List Int).length = (0, false) from HN.out]
                go_wp2_with fail
                refine ⟨?_, by simp [intOf]; omega⟩
                exact ⟨k + 1, by omega, by go_num, da, db, by simpa using Hda.out.next ea, by simpa using Hdb.out.next eb, Hp3.out, Hbw2.out⟩
          · have hx0 : (((false.toNat + true.toNat : Nat) : Int)) = 1 := rfl
            have eb := hy rfl
            have ea := hxy rfl rfl
            have HN0 := Lib.hid Hda.out.1
            have HN := Lib.hid (show nxt [da, k + b] k 2 = (0, false) by rw [nxt_two, if_neg (by have := HN0.out; omega), if_neg (by omega)])
            rw [hx0]
            have Hp3 := Lib.hid (show PlanAt wr bb ve vd [a, b] [da, k + b] from Hp2.out)
            have e1 : (((k : Nat) : Int) % a == 0) = false := by simpa using (fun h => ea (Hda.out.iff.2 h))
            have e2 : (((k : Nat) : Int) % b == 0) = true := by simpa using Hdb.out.iff.1 eb
            clear Hp2
            go_wp2_with fail
            refine (next_any _ _ _ _ _ _ _ Hp3.out).mono ?_
            rintro e w' ⟨rfl, rfl⟩
            rw [show nxt [da, k + b] k ([da, k + b] : List Int).length = (0, false) from HN.out]
            go_wp2_with fail
            refine ⟨?_, by simp [intOf]; omega⟩
            exact ⟨k + 1, by omega, by go_num, da, k + b, by simpa using Hda.out.next ea, by simpa using DueAt.done (by omega) (eb ▸ Hdb.out), Hp3.out, Hbw2.out⟩
          · have hx0 : (((true.toNat + false.toNat : Nat) : Int)) = 1 := rfl
            have ea := hx rfl
            by_cases eb : db = k
            · have HN := Lib.hid (show nxt [k + a, db] k 2 = (1, true) by rw [nxt_two, if_neg (by omega), if_pos (by omega)])
              rw [hx0]
              have Hp3 := Lib.hid (show PlanAt wr bb ve vd [a, b] [k + a, db] from Hp2.out)
              clear Hp2
              go_wp2_with fail
              refine (next_any _ _ _ _ _ _ _ Hp3.out).mono ?_
              rintro e w' ⟨rfl, rfl⟩
              rw [show nxt [k + a, db] k ([k + a, db] : List Int).length = (1, true) from HN.out]
              go_wp2_with fail
              refine (done_ok _ _ _ _ _ _ _ _ Hp3.out ⟨by omega, by simp, by omega, by omega⟩ Hev.out).mono ?_
              rintro e w3 ⟨rfl, hp4, hf⟩
              have Hp4 := Lib.hid hp4
              have Hb4 := Lib.hid (Hbw2.out.trans (hf.belowB Hbw2.out.size Hvd.out))
              clear hp4 hf
              go_wp2_with fail
              go_roundw
              case rel => exact ⟨true, true, rfl, rfl, rfl, fun _ => ea, fun _ => eb, by simp, Hp4.out, Hb4.out⟩
              case measure => simp [intOf]
            · have HN := Lib.hid (show nxt [k + a, db] k 2 = (0, false) by rw [nxt_two, if_neg (by omega), if_neg (by have := Hdb.out.1; omega)])
              rw [hx0]
              have Hp3 := Lib.hid (show PlanAt wr bb ve vd [a, b] [k + a, db] from Hp2.out)
              have e1 : (((k : Nat) : Int) % a == 0) = true := by simpa using Hda.out.iff.1 ea
              have e2 : (((k : Nat) : Int) % b == 0) = false := by simpa using (fun h => eb (Hdb.out.iff.2 h))
              clear Hp2
              go_wp2_with fail
              refine (next_any _ _ _ _ _ _ _ Hp3.out).mono ?_
              rintro e w' ⟨rfl, rfl⟩
              rw [show nxt [k + a, db] k ([k + a, db] : List Int).length = (0, false) from HN.out]
              go_wp2_with fail
              refine ⟨?_, by simp [intOf]; omega⟩
              exact ⟨k + 1, by omega, by go_num, k + a, db, by simpa using DueAt.done (by omega) (ea ▸ Hda.out), by simpa using Hdb.out.next eb, Hp3.out, Hbw2.out⟩
          · have hx0 : (((true.toNat + true.toNat : Nat) : Int)) = 2 := rfl
            have ea := hx rfl
            have eb := hy rfl
            have HN := Lib.hid (show nxt [k + a, k + b] k 2 = (0, false) by rw [nxt_two, if_neg (by omega), if_neg (by omega)])
            rw [hx0]
            have Hp3 := Lib.hid (show PlanAt wr bb ve vd [a, b] [k + a, k + b] from Hp2.out)
            have e1 : (((k : Nat) : Int) % a == 0) = true := by simpa using Hda.out.iff.1 ea
            have e2 : (((k : Nat) : Int) % b == 0) = true := by simpa using Hdb.out.iff.1 eb
            clear Hp2
            go_wp2_with fail
            refine (next_any _ _ _ _ _ _ _ Hp3.out).mono ?_
            rintro e w' ⟨rfl, rfl⟩
            rw [show nxt [k + a, k + b] k ([k + a, k + b] : List Int).length = (0, false) from HN.out]
            go_wp2_with fail
            refine ⟨?_, by simp [intOf]; omega⟩
            exact ⟨k + 1, by omega, by go_num, k + a, k + b, by simpa using DueAt.done (by omega) (ea ▸ Hda.out), by simpa using DueAt.done (by omega) (eb ▸ Hdb.out), Hp3.out, Hbw2.out⟩
      · go_wp2_with (go_at_call 7; refine (first_true _).mono ?_; rintro e w3 ⟨rfl, hb3⟩)
        go_ret
        exact ⟨rfl, below_next Hbw.out hb3⟩
end Go.Proofs.Ytbafjbpbpobocaa

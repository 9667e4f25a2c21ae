/-
  The package plan: contracts.
-/
import Derived.Test.YtbafjbpbpobocaaFail
import Derived.Test.YtbafjbpbpobocaaPlanMath
namespace Go.Proofs.Ytbafjbpbpobocaa
open Go.RowKit

abbrev i64 (n : Int) : Value := .int .i64 n
abbrev ints (xs : List Int) : List Value := xs.map (Value.int .i64)
abbrev TI : Nat := 3
abbrev planStr : ByteArray := { data := #[112, 108, 97, 110] }

set_option maxHeartbeats 400000 in
theorem planIn (i c : Int) (w : World) :
    Calls Try.prog 14 #[.int .i64 i, .int .i64 c] w fun e w' => e = .returned (failed w) ∧ w.alloc (failCells planStr i (.iface 42 (.int .i64 c))) = w' := by
  go_enter Try.func14, Try.ntmps14
  go_wp2_with (go_at_call 17; refine (In_err _ _ _ _ _).mono ?_; rintro e w' ⟨rfl, rfl⟩)
  go_ret
  exact ⟨rfl, rfl⟩

/-- A plan at block b: its two rows. -/
structure PlanAt (w : World) (b : Nat) (ve vd : Value) (ev du : List Int) : Prop where
  str : w.heap[b]? = some (.cells #[ve, vd] 45 (0, 0))
  len : du.length = ev.length
  most : ev.length ≤ 16
  own1 : w.ownsRow 0 TI 1 ve ev.length (ints ev)
  own2 : w.ownsRow 0 TI 1 vd du.length (ints du)
  ne : ∀ k, ve.ownBlock = some k → vd.ownBlock ≠ some k

theorem PlanAt.fr {S : Nat → Prop} {w w' : World} {b : Nat} {ve vd : Value} {ev du : List Int} (h : PlanAt w b ve vd ev du) (hf : Fr S w w')
    (h1 : ¬ S b) (h2 : ∀ k, ve.ownBlock = some k → ¬ S k) (h3 : ∀ k, vd.ownBlock = some k → ¬ S k) : PlanAt w' b ve vd ev du :=
  ⟨hf.blk h.str h1, h.len, h.most, orow_fr h.own1 hf h2, orow_fr h.own2 hf h3, h.ne⟩

set_option maxHeartbeats 400000 in
theorem has_any (b : Nat) (ve vd : Value) (ev du : List Int) (i : Int) (w : World) (h : PlanAt w b ve vd ev du) :
    Calls Try.prog 16 #[.pointer (some ⟨b, 0, none⟩), .int .i64 i] w fun e w' => e = .returned (.bool (decide (0 ≤ i) && decide (i < du.length))) ∧ w = w' := by
  obtain ⟨A, c, rfl, hc⟩ := orow_form h.own2
  have c0 := bcell h.str 0
  have c1 := bcell h.str 1
  simp only [List.getElem?_toArray, List.getElem?_cons_zero, List.getElem?_cons_succ] at c0 c1
  clear h
  by_cases h0 : 0 ≤ i
  · go_enter Try.func16, Try.ntmps16
    go_wp2_with fail
    go_ret
    simp [h0]
  · go_enter Try.func16, Try.ntmps16
    go_wp2_with fail
    go_ret
    simp; omega

set_option maxHeartbeats 400000 in
theorem planLen (b : Nat) (ve vd : Value) (ev du : List Int) (w : World) (h : PlanAt w b ve vd ev du) :
    Calls Try.prog 13 #[.pointer (some ⟨b, 0, none⟩)] w fun e w' => e = .returned (.int .i64 du.length) ∧ w = w' := by
  obtain ⟨A, c, rfl, hc⟩ := orow_form h.own2
  have c0 := bcell h.str 0
  have c1 := bcell h.str 1
  simp only [List.getElem?_toArray, List.getElem?_cons_zero, List.getElem?_cons_succ] at c0 c1
  clear h
  go_enter Try.func13, Try.ntmps13
  go_wp2_with fail
  go_ret
  exact ⟨rfl, rfl⟩

/-- Due tells. -/
def dueOf (du : List Int) (i : Int) : Int × Bool := if 0 ≤ i ∧ i < du.length then (du.getD i.toNat 0, true) else (0, false)

set_option maxHeartbeats 400000 in
theorem due_any (b : Nat) (ve vd : Value) (ev du : List Int) (i : Int) (w : World) (h : PlanAt w b ve vd ev du) :
    Calls Try.prog 11 #[.pointer (some ⟨b, 0, none⟩), .int .i64 i] w fun e w' => e = .returned (.tuple #[.int .i64 (dueOf du i).1, .bool (dueOf du i).2]) ∧ w = w' := by
  have hH := Lib.hid h
  by_cases hi : 0 ≤ i ∧ i < du.length
  · obtain ⟨h0, h1⟩ := hi
    obtain ⟨n, rfl⟩ := Int.eq_ofNat_of_zero_le h0
    obtain ⟨g, cap, cur, rfl, _, _, hn, hm, _⟩ := orow_pos h.own2 (by omega)
    have c0 := bcell h.str 0
    have c1 := bcell h.str 1
    have c2 := orow_cell _ h.own2 0 n (by omega)
    simp only [List.getElem?_toArray, List.getElem?_cons_zero, List.getElem?_cons_succ] at c0 c1
    unfold maxLen at hm
    clear h
    go_enter Try.func11, Try.ntmps11
    go_wp2_with (go_at_call 16; refine (has_any _ _ _ _ _ _ _ hH.out).mono ?_; rintro e w' ⟨rfl, rfl⟩)
    go_ret2
    refine ⟨?_, rfl⟩
    unfold dueOf
    rw [if_pos ⟨h0, h1⟩]
    simp
  · have hb : (decide (0 ≤ i) && decide (i < du.length)) = false := by simp; omega
    clear h
    go_enter Try.func11, Try.ntmps11
    go_wp2_with (go_at_call 16; refine (has_any _ _ _ _ _ _ _ hH.out).mono ?_; rintro e w' ⟨rfl, rfl⟩; rw [hb])
    go_ret2
    refine ⟨?_, rfl⟩
    unfold dueOf
    rw [if_neg hi]
    simp

set_option maxHeartbeats 400000 in
theorem next_any (b : Nat) (ve vd : Value) (ev du : List Int) (now : Int) (w : World) (h : PlanAt w b ve vd ev du) :
    Calls Try.prog 9 #[.pointer (some ⟨b, 0, none⟩), .int .i64 now] w fun e w' => e = .returned (.tuple #[.int .i64 ((nxt du now du.length).1 : Nat), .bool (nxt du now du.length).2]) ∧ w = w' := by
  have hmost := h.most
  have hlen := h.len
  have hl16 : du.length ≤ 16 := by omega
  clear hlen hmost
  have hcell : ∀ k, k < du.length → ∃ g cap, vd = .slice (some ⟨g, 0, none⟩) du.length cap ∧ du.length ≤ cap ∧ ∀ j, j < du.length → w.cell? ⟨g, j, none⟩ = some (.int .i64 (du.getD j 0)) := by
    intro k hk
    obtain ⟨g, cap, cur, rfl, _, _, hn, hm, _⟩ := orow_pos h.own2 (by omega)
    exact ⟨g, cap, rfl, hn, fun j hj => orow_cell _ h.own2 0 j hj⟩
  have Hcell := Lib.hid hcell
  clear hcell
  obtain ⟨A, c, rfl, hc⟩ := orow_form h.own2
  have c0 := bcell h.str 0
  have c1 := bcell h.str 1
  simp only [List.getElem?_toArray, List.getElem?_cons_zero, List.getElem?_cons_succ] at c0 c1
  clear h
  go_enter Try.func9, Try.ntmps9
  go_wp2_with fail
  go_loop [6, 7, 15] (fun bst ok i => ∃ k : Nat, k ≤ du.length ∧ i = .int .i64 k ∧ bst = .int .i64 ((nxt du now k).1 : Nat) ∧ ok = .bool (nxt du now k).2) (fun _ _ i => du.length - (intOf i).toNat)
  case atStart => exact ⟨0, by omega, rfl, rfl, rfl⟩
  case round =>
    obtain ⟨k, hk, rfl, rfl, rfl⟩ := hrel
    by_cases hlt : k < du.length
    · obtain ⟨g, cap, hv, hn, hcs⟩ := Hcell.out k hlt
      simp only [Value.slice.injEq, true_and] at hv
      obtain ⟨rfl, rfl⟩ := hv
      have hnx : nxt du now (k + 1) = if du.getD k 0 ≤ now ∧ ((nxt du now k).2 = false ∨ du.getD k 0 < du.getD (nxt du now k).1 0) then (k, true) else nxt du now k := rfl
      have hbl := nxt_lt du now k
      have ck := hcs k hlt
      have cb : (nxt du now k).2 = true → w.cell? ⟨g, (nxt du now k).1, none⟩ = some (.int .i64 (du.getD (nxt du now k).1 0)) := fun h2 => hcs _ (by have := hbl h2; omega)
      clear hcs
      generalize hr : nxt du now k = r at *
      obtain ⟨bs, ok⟩ := r
      have Hnx := Lib.hid hnx
      clear hnx hr
      generalize du.getD k 0 = t at *
      cases ok with
      | false =>
        by_cases ht : t ≤ now
        all_goals
          go_wp2_with fail
          all_goals
            go_round
            case rel => exact ⟨k + 1, by omega, by go_num, by rw [Hnx.out]; simp [ht], by rw [Hnx.out]; simp [ht]⟩
            case measure => simp [intOf]; omega
      | true =>
        have hb1 := hbl rfl
        have cb1 := cb rfl
        clear hbl cb
        generalize du.getD bs 0 = t2 at *
        by_cases ht : t ≤ now
        · by_cases ht2 : t < t2
          all_goals
            go_wp2_with fail
            all_goals
              go_round
              case rel => exact ⟨k + 1, by omega, by go_num, by rw [Hnx.out]; simp [ht, ht2], by rw [Hnx.out]; simp [ht, ht2]⟩
              case measure => simp [intOf]; omega
        · go_wp2_with fail
          all_goals
            go_round
            case rel => exact ⟨k + 1, by omega, by go_num, by rw [Hnx.out]; simp [ht], by rw [Hnx.out]; simp [ht]⟩
            case measure => simp [intOf]; omega
    · obtain rfl : k = du.length := by omega
      go_wp2_with fail
      go_ret2
      exact ⟨rfl, rfl⟩

/-- What a slice of ints reads as. -/
abbrev RdI (w : World) (v : Value) (xs : List Int) : Prop := Rd1 (Value.int .i64) 0 w v xs
theorem infoI : (Try.prog.info? TI).map (fun i => (i.zero, i.size, i.bytes)) = some (some (.int .i64 0), 1, 8) := by kernel_rfl

set_option maxHeartbeats 400000 in
theorem clone_any (v : Value) (xs : List Int) (w : World) (h : RdI w v xs) (hx : xs.length * 8 ≤ 140737488351232) :
    Calls Try.prog 15 #[v] w fun e w' => ∃ v', e = .returned v' ∧ w'.ownsRow w.heap.size TI 1 v' xs.length (ints xs) ∧ Below w.heap.size w w' := by
  have hnews0 := fun j (hj : j < xs.length) => h
  obtain ⟨A, c, rfl, hc, hnil, hh⟩ := h
  cases A with
  | none =>
    obtain rfl := hnil rfl
    obtain rfl : xs = [] := List.eq_nil_of_length_eq_zero (by omega)
    clear hnil hh hnews0
    simp only [List.length_nil]
    go_enter Try.func15, Try.ntmps15
    go_wp2_with fail
    go_ret
    exact ⟨_, rfl, orow_nil _ _ _ _, Below.refl _ _⟩
  | some a =>
    obtain ⟨i, hi, hz0, hz1, hz2⟩ := info_parts infoI
    have hlx : (ints xs).length = xs.length * 1 := by simp
    have hnews : ∀ j u, (ints xs)[j]? = some u → w.cell? (a.add j) = some u := by
      intro j u hu
      have hj : j < xs.length := by have := (List.getElem?_eq_some_iff.1 hu).1; simpa using this
      obtain ⟨g, o, ha, hq⟩ := hh (by omega)
      simp only [Option.some.injEq] at ha
      subst ha
      rw [Addr.add_lit, hq j hj]
      simp [List.getD_eq_getElem?_getD, List.getElem?_eq_getElem hj] at hu ⊢
      exact hu
    have Hnews := Lib.hid hnews
    have Hone := Lib.hid (ints_oneCell .i64 xs)
    have hown0 := Lib.hid (World.ownsRow_lit (base := w.heap.size) (e := TI) (size := 1) w #[] 0 (Nat.le_refl _) (by simp) rfl)
    clear hnews hh hnil hnews0
    go_enter Try.func15, Try.ntmps15
    go_wp2_with (at_builtin; refine wpList_append_own _ rfl _ _ 28 rfl w.heap.size TI i (.int .i64 0) 1 8 Try.underlying28 hi hz0 hz1 hz2 rfl (by decide) _ 0 [] rfl hown0.out a xs.length c (ints xs) rfl hlx (fun j u hu => balloc_cell (Hnews.out j u hu) _) Hone.out (by unfold maxLen; omega) (by omega) (by simp) ?_)
    intro v' w1 hown hg hnil
    clear hnil
    go_wp2_with fail
    go_ret
    refine ⟨_, rfl, hown, ?_⟩
    exact ((Below.refl _ _).alloc (Nat.le_refl _) _).grown hg (by simp) (by simp [Value.ownBlock])

def planBad (ev : List Int) : Bool := decide (16 < ev.length) || ev.any (fun n => decide (n < 1) || decide (10000 < n))

/-- A new plan, all its blocks from B on. -/
def NewPlan (B : Nat) (w : World) (v : Value) (ev du : List Int) : Prop :=
  ∃ b ve vd, v = .pointer (some ⟨b, 0, none⟩) ∧ PlanAt w b ve vd ev du ∧ B ≤ b ∧ (∀ k, ve.ownBlock = some k → B ≤ k) ∧ (∀ k, vd.ownBlock = some k → B ≤ k)

theorem newPlan_mk {B H : Nat} {w : World} {ve vd : Value} {ev du : List Int} (hB : B ≤ w.heap.size) (h1 : w.ownsRow B TI 1 ve ev.length (ints ev)) (h2 : w.ownsRow B TI 1 vd du.length (ints du))
    (hl : du.length = ev.length) (hm : ev.length ≤ 16) (ne : ∀ k, ve.ownBlock = some k → vd.ownBlock ≠ some k) (hH : w.heap.size = H) :
    NewPlan B (w.alloc (.cells #[ve, vd] 45)) (.pointer (some ⟨H, 0, none⟩)) ev du := by
  subst hH
  exact
  ⟨_, ve, vd, rfl, ⟨bnew _ _, hl, hm, orow_weaken (orow_alloc h1 _) (Nat.zero_le _), orow_weaken (orow_alloc h2 _) (Nat.zero_le _), ne⟩, hB, fun k hk => (orow_blk h1 k hk).1, fun k hk => (orow_blk h2 k hk).1⟩

theorem zeroRow (W : World) (base n : Nat) (hb : base ≤ W.heap.size) (hn : n ≤ maxLen) :
    (W.alloc (.cells (madeCells #[.int .i64 0] n) TI)).ownsRow base TI 1 (.slice (some ⟨W.heap.size, 0, none⟩) n n) (List.replicate n (0 : Int)).length (ints (List.replicate n 0)) := by
  have := orow_made W base TI (.int .i64 0) n hb hn
  simpa [ints] using this

set_option maxHeartbeats 400000 in
theorem planNew (v : Value) (ev : List Int) (w : World) (h : RdI w v ev) (hx : ev.length * 8 ≤ 140737488351232) :
    Calls Try.prog 8 #[v] w fun e w' => Below w.heap.size w w' ∧
      ((planBad ev = true ∧ ∃ er, e = .returned (.tuple #[.pointer none, .iface 48 er])) ∨
       (planBad ev = false ∧ ∃ p, e = .returned (.tuple #[p, .nilIface]) ∧ NewPlan w.heap.size w' p ev (List.replicate ev.length 0))) := by
  have hr := Lib.hid h
  obtain ⟨A, c, rfl, hc⟩ := h.form
  have hcell := fun k (hk : k < ev.length) => h.at k hk
  have Hcell := Lib.hid hcell
  clear hcell
  by_cases h16 : 16 < ev.length
  · have hb : planBad ev = true := by simp [planBad, h16]
    have Hb := Lib.hid hb
    clear hb h
    go_enter Try.func8, Try.ntmps8
    go_wp2_with (go_at_call 14; refine (planIn _ _ _).mono ?_; rintro e w' ⟨rfl, rfl⟩)
    go_ret2
    exact ⟨(Below.refl _ _).alloc (Nat.le_refl _) _, .inl ⟨Hb.out, _, rfl⟩⟩
  · clear h
    go_enter Try.func8, Try.ntmps8
    go_wp2_with fail
    go_loop [12] (fun i => ∃ k : Nat, k ≤ ev.length ∧ i = .int .i64 k ∧ ∀ j, j < k → 1 ≤ ev.getD j 0 ∧ ev.getD j 0 ≤ 10000) (fun i => ev.length - (intOf i).toNat)
    case atStart => exact ⟨0, by omega, rfl, fun j hj => by omega⟩
    case round =>
      obtain ⟨k, hk, rfl, hgood⟩ := hrel
      have Hgood := Lib.hid hgood
      clear hgood
      by_cases hlt : k < ev.length
      · obtain ⟨g, o, rfl, ck⟩ := Hcell.out k hlt
        have hbad : ¬ (1 ≤ ev.getD k 0 ∧ ev.getD k 0 ≤ 10000) → planBad ev = true := by
          intro hb
          have hg : ev.getD k 0 = ev[k] := by rw [List.getD_eq_getElem?_getD, List.getElem?_eq_getElem hlt]; rfl
          rw [hg] at hb
          simp only [planBad, Bool.or_eq_true, List.any_eq_true, decide_eq_true_eq]
          exact .inr ⟨ev[k], List.getElem_mem hlt, by omega⟩
        have Hbad := Lib.hid hbad
        clear hbad
        have hstep : 1 ≤ ev.getD k 0 → ev.getD k 0 ≤ 10000 → ∀ j, j < k + 1 → 1 ≤ ev.getD j 0 ∧ ev.getD j 0 ≤ 10000 := by
          intro h1 h2 j hj
          by_cases e : j = k
          · subst e; exact ⟨h1, h2⟩
          · exact Hgood.out j (by omega)
        have Hstep := Lib.hid hstep
        clear hstep
        generalize ev.getD k 0 = t at *
        by_cases ht : t < 1
        · go_wp2_with (go_at_call 14; refine (planIn _ _ _).mono ?_; rintro e w' ⟨rfl, rfl⟩)
          go_ret2
          exact ⟨(Below.refl _ _).alloc (Nat.le_refl _) _, .inl ⟨Hbad.out (by omega), _, rfl⟩⟩
        · by_cases ht2 : 10000 < t
          · go_wp2_with (go_at_call 14; refine (planIn _ _ _).mono ?_; rintro e w' ⟨rfl, rfl⟩)
            go_ret2
            exact ⟨(Below.refl _ _).alloc (Nat.le_refl _) _, .inl ⟨Hbad.out (by omega), _, rfl⟩⟩
          · go_wp2_with fail
            go_round
            case rel => exact ⟨k + 1, by omega, by go_num, Hstep.out (by omega) (by omega)⟩
            case measure => simp [intOf]; omega
      · obtain rfl : k = ev.length := by omega
        have hok : planBad ev = false := by
          rw [Bool.eq_false_iff]
          intro hb
          simp only [planBad, Bool.or_eq_true, List.any_eq_true, decide_eq_true_eq] at hb
          rcases hb with hb | ⟨x, hx, hb⟩
          · omega
          · obtain ⟨j, hj, rfl⟩ := List.getElem_of_mem hx
            have := Hgood.out j hj
            have hg : ev.getD j 0 = ev[j] := by rw [List.getD_eq_getElem?_getD, List.getElem?_eq_getElem hj]; rfl
            rw [hg] at this
            omega
        have Hok := Lib.hid hok
        clear hok
        go_wp2_with fail
        clear Hgood Hcell
        obtain ⟨i, hi, hz0, hz1, hz2⟩ := info_parts infoI
        have hmk : ∀ W : World, (Instr.makeSlice 28 (.int .i64 (ev.length : Int)) (.int .i64 (ev.length : Int))).run Try.prog W = .ok (.slice (some ⟨W.heap.size, 0, none⟩) ev.length ev.length) (W.alloc (.cells (madeCells #[.int .i64 0] ev.length) TI)) := fun W => by
          have := run_make_rowN (P := Try.prog) 28 TI i (.int .i64 0) Try.underlying28 hi hz0 .i64 .i64 ev.length ev.length (Nat.le_refl _) (by rw [hz2]; omega) (by omega) W
          rw [hz1, Nat.mul_one] at this
          exact this
        clear hi hz0 hz1 hz2
        go_region_held3 (fun w' => Below w.heap.size w w') (repeat' (first | (with_reducible exact Below.refl _ _) | (with_reducible assumption) | (with_reducible refine below_alloc ?_ _) | (with_reducible refine Below.drew ?_) | (with_reducible refine below_drewN ?_ _) | (with_reducible exact below_next (by with_reducible assumption) (by with_reducible assumption))))
          (first | (go_at_call 15; refine (clone_any _ ev _ (hr.out.fr (Fr.of_below ?_) (fun _ _ => id)) hx).mono ?_; (assumption); rintro e w' ⟨v', rfl, hown, hb⟩; obtain ⟨A', c', rfl, _⟩ := orow_form hown))
        all_goals (go_wp2_with fail; go_ret2)
        · refine ⟨by assumption, .inr ⟨Hok.out, _, rfl, ?_⟩⟩
          refine newPlan_mk (B := w.heap.size) (w := w'.alloc _) (by simpa using Nat.le_succ_of_le hb.size) (orow_alloc hown _) (zeroRow w' w.heap.size ev.length hb.size (by unfold maxLen; omega)) (by simp) (by omega) ?_ (by simp)
          intro k hk he
          have := (orow_blk hown k hk).2.1
          simp [Value.ownBlock] at he
          omega
        · refine ⟨by assumption, .inr ⟨Hok.out, _, rfl, ?_⟩⟩
          have hz := zeroRow w.drew w.heap.size ev.length (Nat.le_refl _) (by unfold maxLen; omega)
          refine newPlan_mk (w := w') (Nat.le_trans (by simp) hb.size) (orow_weaken hown (by simp)) (orow_below hz hb) (by simp) (by omega) ?_ rfl
          intro k hk he
          have := (orow_blk hown k hk).1
          simp [Value.ownBlock] at he this
          omega

/-- Done may be done. -/
def doneOk (du : List Int) (i now : Int) : Prop := 0 ≤ i ∧ i < du.length ∧ 0 ≤ now ∧ now ≤ 1099511627776

set_option maxHeartbeats 400000 in
theorem done_ok (b : Nat) (ve vd : Value) (ev du : List Int) (i now : Int) (w : World) (h : PlanAt w b ve vd ev du) (hok : doneOk du i now) (hev : ∀ n ∈ ev, 1 ≤ n ∧ n ≤ 10000) :
    Calls Try.prog 10 #[.pointer (some ⟨b, 0, none⟩), .int .i64 i, .int .i64 now] w fun e w' => e = .returned .nilIface ∧
      PlanAt w' b ve vd ev (du.set i.toNat (now + ev.getD i.toNat 0)) ∧ Fr (fun k => vd.ownBlock = some k) w w' := by
  obtain ⟨h0, h1, h2, h3⟩ := hok
  have hH := Lib.hid h
  obtain ⟨n, rfl⟩ := Int.eq_ofNat_of_zero_le h0
  have hlen := h.len
  have hmost := h.most
  have hn1 : n < du.length := by omega
  have hn2 : n < ev.length := by omega
  have hl16 : du.length ≤ 16 := by omega
  clear hlen
  obtain ⟨g, cap, cur, rfl, _, hbd, hn, hm, _⟩ := orow_pos h.own2 (by omega)
  obtain ⟨g2, cap2, cur2, rfl, _, hbe, hn', hm2, _⟩ := orow_pos h.own1 (by omega)
  have c0 := bcell h.str 0
  have c1 := bcell h.str 1
  have c2 := orow_cell _ h.own2 0 n (by omega)
  have c3 := orow_cell _ h.own1 0 n (by omega)
  have f2 := orow_froz h.own2 n
  simp only [List.getElem?_toArray, List.getElem?_cons_zero, List.getElem?_cons_succ] at c0 c1
  have hg : ev.getD n 0 = ev[n] := by rw [List.getD_eq_getElem?_getD, List.getElem?_eq_getElem hn2]; rfl
  have hpos := hev ev[n] (List.getElem_mem hn2)
  rw [← hg] at hpos
  obtain ⟨hp1, hp2⟩ := hpos
  have hne1 : b ≠ g := bne h.str hbd (by decide)
  have hfin : PlanAt (w.drew.setCell ⟨g, n, none⟩ (.int .i64 (now + ev.getD n 0))) b (.slice (some ⟨g2, 0, none⟩) ev.length cap2) (.slice (some ⟨g, 0, none⟩) du.length cap) ev (du.set n (now + ev.getD n 0)) := by
    have hneg : g2 ≠ g := fun e => h.ne g2 rfl (by rw [e]; rfl)
    refine ⟨bfar (w := w.drew) h.str hne1 _, by rw [List.length_set]; exact h.len, h.most, orow_keep (w := w.drew) h.own1 ?_, ?_, h.ne⟩
    · intro k hk
      simp only [Value.ownBlock, Option.some.injEq] at hk
      exact Below.heap_setCell _ _ _ _ (by rw [← hk]; exact hneg)
    · have := orow_store (w := w.drew) _ h.own2 n (now + ev.getD n 0)
      rwa [List.length_set]
  have hfr : Fr (fun k => (Value.slice (some ⟨g, 0, none⟩) du.length cap).ownBlock = some k) w (w.drew.setCell ⟨g, n, none⟩ (.int .i64 (now + ev.getD n 0))) := Fr.setCell (S := fun k => (Value.slice (some ⟨g, 0, none⟩) du.length cap).ownBlock = some k) (Fr.refl _ _).drew (p := ⟨g, n, none⟩) (.inl rfl) _
  have Hfin := Lib.hid hfin
  have Hfr := Lib.hid hfr
  clear h hev hg hfin hfr hbd hbe hne1
  have hbt : (decide (0 ≤ (n : Int)) && decide ((n : Int) < du.length)) = true := by simp; omega
  generalize ht : ev.getD n 0 = t at *
  have Ht := Lib.hid ht
  clear ht
  go_enter Try.func10, Try.ntmps10
  go_wp2_with (go_at_call 16; refine (has_any _ _ _ _ _ _ _ hH.out).mono ?_; rintro e w' ⟨rfl, rfl⟩; rw [hbt])
  have hwrap : IntKind.i64.wrap (now + t) = now + t := IntWalk.i64_in _ (by omega)
  go_region
  go_wp2_with fail
  go_ret
  refine ⟨rfl, ?_, Hfr.out⟩
  rw [Int.toNat_natCast, Ht.out]
  exact Hfin.out

set_option maxHeartbeats 400000 in
theorem done_bad (b : Nat) (ve vd : Value) (ev du : List Int) (i now : Int) (w : World) (h : PlanAt w b ve vd ev du) (hok : ¬ doneOk du i now) :
    Calls Try.prog 10 #[.pointer (some ⟨b, 0, none⟩), .int .i64 i, .int .i64 now] w fun e w' => ∃ c, e = .returned (failed w) ∧
      w.alloc (failCells planStr i (.iface 42 (.int .i64 c))) = w' := by
  have hH := Lib.hid h
  by_cases hi : 0 ≤ i ∧ i < du.length
  · have hbt : (decide (0 ≤ i) && decide (i < du.length)) = true := by simp; omega
    have hn : ¬ (0 ≤ now ∧ now ≤ 1099511627776) := fun hc => hok ⟨hi.1, hi.2, hc.1, hc.2⟩
    clear hok h hi
    by_cases h0 : now < 0
    · clear hn
      go_enter Try.func10, Try.ntmps10
      go_wp2_with (first | (go_at_call 16; refine (has_any _ _ _ _ _ _ _ hH.out).mono ?_; rintro e w' ⟨rfl, rfl⟩; rw [hbt]) | (go_at_call 14; refine (planIn _ _ _).mono ?_; rintro e w' ⟨rfl, rfl⟩))
      go_ret
      exact ⟨_, rfl, rfl⟩
    · have h1 : 1099511627776 < now := by omega
      clear hn
      go_enter Try.func10, Try.ntmps10
      go_wp2_with (first | (go_at_call 16; refine (has_any _ _ _ _ _ _ _ hH.out).mono ?_; rintro e w' ⟨rfl, rfl⟩; rw [hbt]) | (go_at_call 14; refine (planIn _ _ _).mono ?_; rintro e w' ⟨rfl, rfl⟩))
      go_ret
      exact ⟨_, rfl, rfl⟩
  · have hbt : (decide (0 ≤ i) && decide (i < du.length)) = false := by simp; omega
    clear hok h hi
    go_enter Try.func10, Try.ntmps10
    go_wp2_with (first | (go_at_call 16; refine (has_any _ _ _ _ _ _ _ hH.out).mono ?_; rintro e w' ⟨rfl, rfl⟩; rw [hbt]) | (go_at_call 14; refine (planIn _ _ _).mono ?_; rintro e w' ⟨rfl, rfl⟩))
    go_ret
    exact ⟨_, rfl, rfl⟩

end Go.Proofs.Ytbafjbpbpobocaa

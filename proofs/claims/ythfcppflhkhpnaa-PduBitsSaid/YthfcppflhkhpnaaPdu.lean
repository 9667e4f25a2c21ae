/-
  The package pdu: the small functions.
-/
import Derived.Test.YthfcppflhkhpnaaFail
import Derived.Test.YthfcppflhkhpnaaPduMath
namespace Go.Proofs.Ythfcppflhkhpnaa
open Go.RowKit
set_option linter.unusedSimpArgs false

abbrev pduStr : ByteArray := { data := #[112, 100, 117] }
abbrev TI : Nat := 3
abbrev TReq : Nat := 24
abbrev TRep : Nat := 26
abbrev RdI (w : World) (v : Value) (xs : List Int) : Prop := Rd1 (Value.int .i64) 0 w v xs

set_option maxHeartbeats 400000 in
theorem pduIn (i c : Int) (w : World) :
    Calls Try.prog 23 #[.int .i64 i, .int .i64 c] w fun e w' => e = .returned (failed w) ∧ w.alloc (failCells pduStr i (.iface 54 (.int .i64 c))) = w' := by
  go_enter Try.func23, Try.ntmps23
  go_wp2_with (go_at_call 34; refine (In_err _ _ _ _ _).mono ?_; rintro e w' ⟨rfl, rfl⟩)
  go_ret
  exact ⟨rfl, rfl⟩

theorem ret_bool {a b : Bool} (h : a = b) : Ending.returned (.bool a) = .returned (.bool b) := by rw [h]
theorem ret_int {k : IntKind} {a b : Int} (h : a = b) : Ending.returned (.int k a) = .returned (.int k b) := by rw [h]

set_option maxHeartbeats 400000 in
theorem bits_any (fn : Int) (w : World) : Calls Try.prog 40 #[.int .i64 fn] w fun e w' => e = .returned (.bool (bitsB fn)) ∧ w = w' := by
  by_cases h1 : fn = 1
  · subst h1
    go_enter Try.func40, Try.ntmps40
    go_wp2_with fail
    go_ret
    exact ⟨rfl, rfl⟩
  by_cases h2 : fn = 2
  · subst h2
    go_enter Try.func40, Try.ntmps40
    go_wp2_with fail
    go_ret
    exact ⟨rfl, rfl⟩
  by_cases h5 : fn = 5
  · subst h5
    go_enter Try.func40, Try.ntmps40
    go_wp2_with fail
    go_ret
    exact ⟨rfl, rfl⟩
  by_cases h15 : fn = 15
  · subst h15
    go_enter Try.func40, Try.ntmps40
    go_wp2_with fail
    go_ret
    exact ⟨rfl, rfl⟩
  have b1 : (fn == 1) = false := beq_eq_false_iff_ne.2 h1
  have b2 : (fn == 2) = false := beq_eq_false_iff_ne.2 h2
  have b5 : (fn == 5) = false := beq_eq_false_iff_ne.2 h5
  have b15 : (fn == 15) = false := beq_eq_false_iff_ne.2 h15
  go_enter Try.func40, Try.ntmps40
  go_wp2_with fail
  go_ret
  exact ⟨ret_bool (by simp [bitsB, b1, b2, b5, b15]), rfl⟩

set_option maxHeartbeats 400000 in
theorem reads_any (fn : Int) (w : World) : Calls Try.prog 27 #[.int .i64 fn] w fun e w' => e = .returned (.bool (readsB fn)) ∧ w = w' := by
  by_cases h1 : 1 ≤ fn
  · go_enter Try.func27, Try.ntmps27
    go_wp2_with fail
    go_ret
    exact ⟨ret_bool (by simp [readsB, h1]), rfl⟩
  · go_enter Try.func27, Try.ntmps27
    go_wp2_with fail
    go_ret
    exact ⟨ret_bool (by simp [readsB]; omega), rfl⟩

set_option maxHeartbeats 800000 in
theorem known_any (fn : Int) (w : World) : Calls Try.prog 32 #[.int .i64 fn] w fun e w' => e = .returned (.bool (knownB fn)) ∧ w = w' := by
  by_cases h15 : fn = 15
  · subst h15
    go_enter Try.func32, Try.ntmps32
    go_wp2_with fail
    go_ret
    exact ⟨rfl, rfl⟩
  have b15 : (fn == 15) = false := beq_eq_false_iff_ne.2 h15
  by_cases h1 : 1 ≤ fn
  · by_cases h6 : fn ≤ 6
    · have b16 : (fn == 16) = false := beq_eq_false_iff_ne.2 (by omega)
      go_enter Try.func32, Try.ntmps32
      go_wp2_with fail
      go_ret
      exact ⟨ret_bool (by simp [knownB, h1, h6, b15, b16]), rfl⟩
    · have d6 : decide (fn ≤ 6) = false := decide_eq_false h6
      go_enter Try.func32, Try.ntmps32
      go_wp2_with fail
      go_ret
      exact ⟨ret_bool (by simp [knownB, h1, d6, b15]), rfl⟩
  · have d1 : decide (1 ≤ fn) = false := decide_eq_false h1
    go_enter Try.func32, Try.ntmps32
    go_wp2_with fail
    go_ret
    exact ⟨ret_bool (by simp [knownB, d1, b15]), rfl⟩

set_option maxHeartbeats 800000 in
theorem most_any (fn : Int) (w : World) : Calls Try.prog 30 #[.int .i64 fn] w fun e w' => e = .returned (.int .i64 (mostN fn)) ∧ w = w' := by
  by_cases h1 : fn = 1
  · subst h1
    go_enter Try.func30, Try.ntmps30
    go_wp2_with fail
    go_ret
    exact ⟨rfl, rfl⟩
  have b1 : (fn == 1) = false := beq_eq_false_iff_ne.2 h1
  by_cases h2 : fn = 2
  · subst h2
    go_enter Try.func30, Try.ntmps30
    go_wp2_with fail
    go_ret
    exact ⟨rfl, rfl⟩
  have b2 : (fn == 2) = false := beq_eq_false_iff_ne.2 h2
  by_cases h3 : fn = 3
  · subst h3
    go_enter Try.func30, Try.ntmps30
    go_wp2_with fail
    go_ret
    exact ⟨rfl, rfl⟩
  have b3 : (fn == 3) = false := beq_eq_false_iff_ne.2 h3
  by_cases h4 : fn = 4
  · subst h4
    go_enter Try.func30, Try.ntmps30
    go_wp2_with fail
    go_ret
    exact ⟨rfl, rfl⟩
  have b4 : (fn == 4) = false := beq_eq_false_iff_ne.2 h4
  by_cases h5 : fn = 5
  · subst h5
    go_enter Try.func30, Try.ntmps30
    go_wp2_with fail
    go_ret
    exact ⟨rfl, rfl⟩
  have b5 : (fn == 5) = false := beq_eq_false_iff_ne.2 h5
  by_cases h6 : fn = 6
  · subst h6
    go_enter Try.func30, Try.ntmps30
    go_wp2_with fail
    go_ret
    exact ⟨rfl, rfl⟩
  have b6 : (fn == 6) = false := beq_eq_false_iff_ne.2 h6
  by_cases h15 : fn = 15
  · subst h15
    go_enter Try.func30, Try.ntmps30
    go_wp2_with fail
    go_ret
    exact ⟨rfl, rfl⟩
  have b15 : (fn == 15) = false := beq_eq_false_iff_ne.2 h15
  by_cases h16 : fn = 16
  · subst h16
    go_enter Try.func30, Try.ntmps30
    go_wp2_with fail
    go_ret
    exact ⟨rfl, rfl⟩
  have b16 : (fn == 16) = false := beq_eq_false_iff_ne.2 h16
  have H := Lib.hid (show mostN fn = 0 by unfold mostN; rw [if_neg h1, if_neg h2, if_neg h3, if_neg h4, if_neg h5, if_neg h6, if_neg h15, if_neg h16])
  go_enter Try.func30, Try.ntmps30
  go_wp2_with fail
  go_ret
  exact ⟨ret_int H.out.symm, rfl⟩

theorem numsB_lenF {fn n : Int} {l : List Int} (h : ¬ (l.length : Int) = n) : numsB fn n l = false := by simp [numsB, h]
theorem numsB_badF {fn n : Int} {l : List Int} {k : Nat} (hk : k < l.length) (h : okN fn (l.getD k 0) = false) : numsB fn n l = false := by
  rw [List.getD_eq_getElem?_getD, List.getElem?_eq_getElem hk] at h
  simp only [numsB, Bool.and_eq_false_imp]
  intro _
  rw [List.all_eq_false]
  exact ⟨l[k], List.getElem_mem hk, by simpa using h⟩
theorem numsB_okT {fn n : Int} {l : List Int} (hn : (l.length : Int) = n) (h : ∀ j, j < l.length → okN fn (l.getD j 0) = true) : numsB fn n l = true := by
  simp only [numsB, Bool.and_eq_true, decide_eq_true_eq, List.all_eq_true]
  refine ⟨hn, fun x hx => ?_⟩
  obtain ⟨j, hj, rfl⟩ := List.getElem_of_mem hx
  have := h j hj
  rwa [List.getD_eq_getElem?_getD, List.getElem?_eq_getElem hj] at this
theorem okN_low {fn v : Int} (h : v < 0) : okN fn v = false := by simp [okN]; omega
theorem okN_high {fn v hi : Int} (hh : highN fn = hi) (h : hi < v) : okN fn v = false := by simp [okN]; omega
theorem okN_in {fn v hi : Int} (hh : highN fn = hi) (h0 : 0 ≤ v) (h : v ≤ hi) : okN fn v = true := by simp [okN]; omega

set_option maxHeartbeats 1000000 in
theorem numbers_any (fn n : Int) (v : Value) (l : List Int) (w : World) (h : RdI w v l) (hx : l.length ≤ 140737488351232) :
    Calls Try.prog 31 #[.int .i64 fn, .int .i64 n, v] w fun e w' => e = .returned (.bool (numsB fn n l)) ∧ w = w' := by
  obtain ⟨A, c, rfl, hc⟩ := h.form
  have Hr := Lib.hid h
  clear h
  by_cases hn : (l.length : Int) = n
  · have Hn := Lib.hid hn
    have bn : ((l.length : Int) != n) = false := bne_eq_false_iff_eq.2 hn
    clear hn
    cases hb : bitsB fn with
    | true =>
      have Hb := Lib.hid hb
      have Hh := Lib.hid (show highN fn = 1 by unfold highN; rw [if_pos hb])
      clear hb
      go_enter Try.func31, Try.ntmps31
      go_wp2_with (go_at_call 40; refine (bits_any _ _).mono ?_; rintro e w' ⟨rfl, rfl⟩; rw [Hb.out])
      go_loop [18] (fun i => ∃ k : Nat, k ≤ l.length ∧ i = .int .i64 k ∧ ∀ j, j < k → okN fn (l.getD j 0) = true) (fun i => l.length - (intOf i).toNat)
      case atStart => exact ⟨0, by omega, rfl, fun j hj => by omega⟩
      case round =>
        obtain ⟨k, hk, rfl, hgood⟩ := hrel
        have Hgood := Lib.hid hgood
        clear hgood
        by_cases hlt : k < l.length
        · obtain ⟨g, o, rfl, ck⟩ := Hr.out.at k hlt
          have Hbad := Lib.hid (fun (hb : okN fn (l.getD k 0) = false) => numsB_badF (n := n) hlt hb)
          have Hstep := Lib.hid (fun (h1 : okN fn (l.getD k 0) = true) (j : Nat) (hj : j < k + 1) => (show okN fn (l.getD j 0) = true by
            by_cases e : j = k
            · subst e; exact h1
            · exact Hgood.out j (by omega)))
          generalize l.getD k 0 = t at *
          by_cases ht : t < 0
          · go_wp2_with fail
            go_ret
            exact ⟨ret_bool (Hbad.out (okN_low ht)).symm, rfl⟩
          · by_cases ht2 : 1 < t
            · go_wp2_with fail
              go_ret
              exact ⟨ret_bool (Hbad.out (okN_high Hh.out ht2)).symm, rfl⟩
            · have ht3 : 0 ≤ t := by omega
              have ht4 : t ≤ 1 := by omega
              clear ht ht2
              go_wp2_with fail
              go_round
              case rel => exact ⟨k + 1, by omega, by go_num, Hstep.out (okN_in Hh.out ht3 ht4)⟩
              case measure => simp [intOf]; omega
        · obtain rfl : k = l.length := by omega
          have Hok := Lib.hid (numsB_okT Hn.out Hgood.out)
          go_wp2_with fail
          go_ret
          exact ⟨ret_bool Hok.out.symm, rfl⟩
    | false =>
      have Hb := Lib.hid hb
      have Hh := Lib.hid (show highN fn = 65535 by unfold highN; rw [if_neg (by rw [hb]; decide)])
      clear hb
      go_enter Try.func31, Try.ntmps31
      go_wp2_with (go_at_call 40; refine (bits_any _ _).mono ?_; rintro e w' ⟨rfl, rfl⟩; rw [Hb.out])
      go_loop [18] (fun i => ∃ k : Nat, k ≤ l.length ∧ i = .int .i64 k ∧ ∀ j, j < k → okN fn (l.getD j 0) = true) (fun i => l.length - (intOf i).toNat)
      case atStart => exact ⟨0, by omega, rfl, fun j hj => by omega⟩
      case round =>
        obtain ⟨k, hk, rfl, hgood⟩ := hrel
        have Hgood := Lib.hid hgood
        clear hgood
        by_cases hlt : k < l.length
        · obtain ⟨g, o, rfl, ck⟩ := Hr.out.at k hlt
          have Hbad := Lib.hid (fun (hb : okN fn (l.getD k 0) = false) => numsB_badF (n := n) hlt hb)
          have Hstep := Lib.hid (fun (h1 : okN fn (l.getD k 0) = true) (j : Nat) (hj : j < k + 1) => (show okN fn (l.getD j 0) = true by
            by_cases e : j = k
            · subst e; exact h1
            · exact Hgood.out j (by omega)))
          generalize l.getD k 0 = t at *
          by_cases ht : t < 0
          · go_wp2_with fail
            go_ret
            exact ⟨ret_bool (Hbad.out (okN_low ht)).symm, rfl⟩
          · by_cases ht2 : 65535 < t
            · go_wp2_with fail
              go_ret
              exact ⟨ret_bool (Hbad.out (okN_high Hh.out ht2)).symm, rfl⟩
            · have ht3 : 0 ≤ t := by omega
              have ht4 : t ≤ 65535 := by omega
              clear ht ht2
              go_wp2_with fail
              go_round
              case rel => exact ⟨k + 1, by omega, by go_num, Hstep.out (okN_in Hh.out ht3 ht4)⟩
              case measure => simp [intOf]; omega
        · obtain rfl : k = l.length := by omega
          have Hok := Lib.hid (numsB_okT Hn.out Hgood.out)
          go_wp2_with fail
          go_ret
          exact ⟨ret_bool Hok.out.symm, rfl⟩
  · have bn : ((l.length : Int) != n) = true := bne_iff_ne.2 hn
    have Hf := Lib.hid (numsB_lenF (fn := fn) hn)
    clear hn
    go_enter Try.func31, Try.ntmps31
    go_wp2_with fail
    go_ret
    exact ⟨ret_bool Hf.out.symm, rfl⟩
/-- May, one way: the tests that are decided are facts. -/
def mayV (fn st ct : Int) (v : Value) : Value := .agg #[.int .i64 fn, .int .i64 st, .int .i64 ct, v]

set_option maxRecDepth 20000 in
set_option maxHeartbeats 2000000 in
theorem may_any (fn st ct : Int) (v : Value) (vs : List Int) (w : World) (h : RdI w v vs) (hx : vs.length ≤ 140737488351232) :
    Calls Try.prog 16 #[.agg #[.int .i64 fn, .int .i64 st, .int .i64 ct, v]] w fun e w' => e = .returned (.bool (mayB fn st ct vs)) ∧ Below w.heap.size w w' := by
  obtain ⟨A, c, rfl, hc⟩ := h.form
  have Hr := Lib.hid (h.below (below_alloc (Below.refl _ w) (.cells #[.int .i64 fn, .int .i64 st, .int .i64 ct, .slice A vs.length c] TReq)))
  have Hb := Lib.hid (below_alloc (Below.refl _ w) (.cells #[.int .i64 fn, .int .i64 st, .int .i64 ct, .slice A vs.length c] TReq))
  clear h
  cases hrd : readsB fn with
  | true =>
    have Hrd := Lib.hid hrd
    have Hw := Lib.hid (show wantN fn ct = 0 by unfold wantN; rw [if_pos hrd])
    clear hrd
    by_cases h1 : 1 ≤ ct
    · have d1 : decide (1 ≤ ct) = true := decide_eq_true h1
      by_cases h2 : ct ≤ mostN fn
      · have h2k := (mostN_le fn).2
        have d2 : decide (ct ≤ mostN fn) = true := decide_eq_true h2
        by_cases h3 : 0 ≤ st
        · have d3 : decide (0 ≤ st) = true := decide_eq_true h3
          have hw : IntKind.i64.wrap (65536 - ct) = 65536 - ct := IntWalk.i64_in _ (by omega)
          by_cases h4 : st ≤ 65536 - ct
          · have d4 : decide (st ≤ 65536 - ct) = true := decide_eq_true h4
            have Hfin := Lib.hid (show numsB fn 0 vs = mayB fn st ct vs by unfold mayB; rw [d1, d2, d3, d4, Hw.out]; rfl)
            clear h4
            go_enter Try.func16, Try.ntmps16
            go_wp2_with (go_at_call 27; refine (reads_any _ _).mono ?_; rintro e w' ⟨rfl, rfl⟩; rw [Hrd.out])
            go_quiet ((first | (go_at_call 30; exact quiet_left (most_any _ _)) | (go_at_call 31; exact quiet_left (numbers_any fn 0 _ vs _ (Hr.out.below (below_drewN (Below.refl _ _) _)) hx))))
            go_wp2_with fail
            go_ret
            exact ⟨ret_bool (by first | exact Hfin.out | simpa using Hfin.out), below_drewN Hb.out _⟩
          · have d4 : decide (st ≤ 65536 - ct) = false := decide_eq_false h4
            have Hfin := Lib.hid (show false = mayB fn st ct vs by unfold mayB; rw [d4]; simp)
            clear h4
            go_enter Try.func16, Try.ntmps16
            go_wp2_with (go_at_call 27; refine (reads_any _ _).mono ?_; rintro e w' ⟨rfl, rfl⟩; rw [Hrd.out])
            go_quiet ((first | (go_at_call 30; exact quiet_left (most_any _ _)) | (go_at_call 31; exact quiet_left (numbers_any fn 0 _ vs _ (Hr.out.below (below_drewN (Below.refl _ _) _)) hx))))
            go_wp2_with fail
            go_ret
            exact ⟨ret_bool Hfin.out, below_drewN Hb.out _⟩
        · have d3 : decide (0 ≤ st) = false := decide_eq_false h3
          have Hfin := Lib.hid (show false = mayB fn st ct vs by unfold mayB; rw [d3]; simp)
          clear h3
          go_enter Try.func16, Try.ntmps16
          go_wp2_with (go_at_call 27; refine (reads_any _ _).mono ?_; rintro e w' ⟨rfl, rfl⟩; rw [Hrd.out])
          go_quiet ((first | (go_at_call 30; exact quiet_left (most_any _ _)) | (go_at_call 31; exact quiet_left (numbers_any fn 0 _ vs _ (Hr.out.below (below_drewN (Below.refl _ _) _)) hx))))
          go_wp2_with fail
          go_ret
          exact ⟨ret_bool Hfin.out, below_drewN Hb.out _⟩
      · have d2 : decide (ct ≤ mostN fn) = false := decide_eq_false h2
        have Hfin := Lib.hid (show false = mayB fn st ct vs by unfold mayB; rw [d2]; simp)
        clear h2
        go_enter Try.func16, Try.ntmps16
        go_wp2_with (go_at_call 27; refine (reads_any _ _).mono ?_; rintro e w' ⟨rfl, rfl⟩; rw [Hrd.out])
        go_quiet ((first | (go_at_call 30; exact quiet_left (most_any _ _)) | (go_at_call 31; exact quiet_left (numbers_any fn 0 _ vs _ (Hr.out.below (below_drewN (Below.refl _ _) _)) hx))))
        go_wp2_with fail
        go_ret
        exact ⟨ret_bool Hfin.out, below_drewN Hb.out _⟩
    · have d1 : decide (1 ≤ ct) = false := decide_eq_false h1
      have Hfin := Lib.hid (show false = mayB fn st ct vs by unfold mayB; rw [d1]; simp)
      clear h1
      go_enter Try.func16, Try.ntmps16
      go_wp2_with (go_at_call 27; refine (reads_any _ _).mono ?_; rintro e w' ⟨rfl, rfl⟩; rw [Hrd.out])
      go_quiet ((first | (go_at_call 30; exact quiet_left (most_any _ _)) | (go_at_call 31; exact quiet_left (numbers_any fn 0 _ vs _ (Hr.out.below (below_drewN (Below.refl _ _) _)) hx))))
      go_wp2_with fail
      go_ret
      exact ⟨ret_bool Hfin.out, below_drewN Hb.out _⟩
  | false =>
    have Hrd := Lib.hid hrd
    have Hw := Lib.hid (show wantN fn ct = ct by unfold wantN; rw [if_neg (by rw [hrd]; decide)])
    clear hrd
    by_cases h1 : 1 ≤ ct
    · have d1 : decide (1 ≤ ct) = true := decide_eq_true h1
      by_cases h2 : ct ≤ mostN fn
      · have h2k := (mostN_le fn).2
        have d2 : decide (ct ≤ mostN fn) = true := decide_eq_true h2
        by_cases h3 : 0 ≤ st
        · have d3 : decide (0 ≤ st) = true := decide_eq_true h3
          have hw : IntKind.i64.wrap (65536 - ct) = 65536 - ct := IntWalk.i64_in _ (by omega)
          by_cases h4 : st ≤ 65536 - ct
          · have d4 : decide (st ≤ 65536 - ct) = true := decide_eq_true h4
            have Hfin := Lib.hid (show numsB fn ct vs = mayB fn st ct vs by unfold mayB; rw [d1, d2, d3, d4, Hw.out]; rfl)
            clear h4
            go_enter Try.func16, Try.ntmps16
            go_wp2_with (go_at_call 27; refine (reads_any _ _).mono ?_; rintro e w' ⟨rfl, rfl⟩; rw [Hrd.out])
            go_quiet ((first | (go_at_call 30; exact quiet_left (most_any _ _)) | (go_at_call 31; exact quiet_left (numbers_any fn ct _ vs _ (Hr.out.below (below_drewN (Below.refl _ _) _)) hx))))
            go_wp2_with fail
            go_ret
            exact ⟨ret_bool (by first | exact Hfin.out | simpa using Hfin.out), below_drewN Hb.out _⟩
          · have d4 : decide (st ≤ 65536 - ct) = false := decide_eq_false h4
            have Hfin := Lib.hid (show false = mayB fn st ct vs by unfold mayB; rw [d4]; simp)
            clear h4
            go_enter Try.func16, Try.ntmps16
            go_wp2_with (go_at_call 27; refine (reads_any _ _).mono ?_; rintro e w' ⟨rfl, rfl⟩; rw [Hrd.out])
            go_quiet ((first | (go_at_call 30; exact quiet_left (most_any _ _)) | (go_at_call 31; exact quiet_left (numbers_any fn ct _ vs _ (Hr.out.below (below_drewN (Below.refl _ _) _)) hx))))
            go_wp2_with fail
            go_ret
            exact ⟨ret_bool Hfin.out, below_drewN Hb.out _⟩
        · have d3 : decide (0 ≤ st) = false := decide_eq_false h3
          have Hfin := Lib.hid (show false = mayB fn st ct vs by unfold mayB; rw [d3]; simp)
          clear h3
          go_enter Try.func16, Try.ntmps16
          go_wp2_with (go_at_call 27; refine (reads_any _ _).mono ?_; rintro e w' ⟨rfl, rfl⟩; rw [Hrd.out])
          go_quiet ((first | (go_at_call 30; exact quiet_left (most_any _ _)) | (go_at_call 31; exact quiet_left (numbers_any fn ct _ vs _ (Hr.out.below (below_drewN (Below.refl _ _) _)) hx))))
          go_wp2_with fail
          go_ret
          exact ⟨ret_bool Hfin.out, below_drewN Hb.out _⟩
      · have d2 : decide (ct ≤ mostN fn) = false := decide_eq_false h2
        have Hfin := Lib.hid (show false = mayB fn st ct vs by unfold mayB; rw [d2]; simp)
        clear h2
        go_enter Try.func16, Try.ntmps16
        go_wp2_with (go_at_call 27; refine (reads_any _ _).mono ?_; rintro e w' ⟨rfl, rfl⟩; rw [Hrd.out])
        go_quiet ((first | (go_at_call 30; exact quiet_left (most_any _ _)) | (go_at_call 31; exact quiet_left (numbers_any fn ct _ vs _ (Hr.out.below (below_drewN (Below.refl _ _) _)) hx))))
        go_wp2_with fail
        go_ret
        exact ⟨ret_bool Hfin.out, below_drewN Hb.out _⟩
    · have d1 : decide (1 ≤ ct) = false := decide_eq_false h1
      have Hfin := Lib.hid (show false = mayB fn st ct vs by unfold mayB; rw [d1]; simp)
      clear h1
      go_enter Try.func16, Try.ntmps16
      go_wp2_with (go_at_call 27; refine (reads_any _ _).mono ?_; rintro e w' ⟨rfl, rfl⟩; rw [Hrd.out])
      go_quiet ((first | (go_at_call 30; exact quiet_left (most_any _ _)) | (go_at_call 31; exact quiet_left (numbers_any fn ct _ vs _ (Hr.out.below (below_drewN (Below.refl _ _) _)) hx))))
      go_wp2_with fail
      go_ret
      exact ⟨ret_bool Hfin.out, below_drewN Hb.out _⟩
end Go.Proofs.Ythfcppflhkhpnaa

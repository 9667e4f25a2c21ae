/-
  The package pdu: unpack.
-/
import Derived.Test.YthfcppflhkhpnaaPduPack
import Derived.Deep.RegionLaw
namespace Go.Proofs.Ythfcppflhkhpnaa
open Go.RowKit
set_option linter.unusedSimpArgs false

abbrev ints (xs : List Int) : List Value := xs.map (Value.int .i64)
theorem infoI : (Try.prog.info? TI).map (fun i => (i.zero, i.size, i.bytes)) = some (some (.int .i64 0), 1, 8) := by kernel_rfl
def bitOf (b : List Int) (i : Nat) : Int := b.getD (i / 8) 0 / 2 ^ (i % 8) % 2
def regOf (b : List Int) (i : Nat) : Int := b.getD (2 * i) 0 * 256 + b.getD (2 * i + 1) 0
def unpackL (fn : Int) (n : Nat) (b : List Int) : List Int :=
  if bitsB fn = true then (List.range (min n (8 * b.length))).map (bitOf b) else (List.range (min n (b.length / 2))).map (regOf b)
theorem unpackL_bits {fn : Int} (h : bitsB fn = true) (n : Nat) (b : List Int) : unpackL fn n b = (List.range (min n (8 * b.length))).map (bitOf b) := by unfold unpackL; rw [if_pos h]
theorem unpackL_regs {fn : Int} (h : bitsB fn = false) (n : Nat) (b : List Int) : unpackL fn n b = (List.range (min n (b.length / 2))).map (regOf b) := by unfold unpackL; rw [if_neg (by rw [h]; decide)]
theorem unpack_stepB {fn : Int} {n : Nat} {b : List Int} (h : bitsB fn = true) (hi : n / 8 < b.length) : unpackL fn (n + 1) b = unpackL fn n b ++ [bitOf b n] := by
  rw [unpackL_bits h, unpackL_bits h, Nat.min_eq_left (by omega), Nat.min_eq_left (by omega), List.range_succ, List.map_append]; rfl
theorem unpack_skipB {fn : Int} {n : Nat} {b : List Int} (h : bitsB fn = true) (hi : ¬ n / 8 < b.length) : unpackL fn (n + 1) b = unpackL fn n b := by
  rw [unpackL_bits h, unpackL_bits h, Nat.min_eq_right (by omega), Nat.min_eq_right (by omega)]
theorem unpack_stepR {fn : Int} {n : Nat} {b : List Int} (h : bitsB fn = false) (hi : 2 * n + 1 < b.length) : unpackL fn (n + 1) b = unpackL fn n b ++ [regOf b n] := by
  rw [unpackL_regs h, unpackL_regs h, Nat.min_eq_left (by omega), Nat.min_eq_left (by omega), List.range_succ, List.map_append]; rfl
theorem unpack_skipR {fn : Int} {n : Nat} {b : List Int} (h : bitsB fn = false) (hi : ¬ 2 * n + 1 < b.length) : unpackL fn (n + 1) b = unpackL fn n b := by
  rw [unpackL_regs h, unpackL_regs h, Nat.min_eq_right (by omega), Nat.min_eq_right (by omega)]
theorem unpackL_len_le (fn : Int) (n : Nat) (b : List Int) : (unpackL fn n b).length ≤ n := by
  unfold unpackL; split <;> simp <;> omega
theorem unpackL_zero (fn : Int) (b : List Int) : unpackL fn 0 b = [] := by
  unfold unpackL; split <;> simp
theorem unpackL_ok {fn : Int} {b : List Int} (n : Nat) (hb : IsB b) : OkVals fn (unpackL fn n b) := by
  intro v hv
  cases h : bitsB fn with
  | true =>
    rw [unpackL_bits h] at hv
    obtain ⟨i, hi, rfl⟩ := List.mem_map.1 hv
    unfold highN; rw [if_pos h]; unfold bitOf
    generalize b.getD (i / 8) 0 / 2 ^ (i % 8) = y
    omega
  | false =>
    rw [unpackL_regs h] at hv
    obtain ⟨i, hi, rfl⟩ := List.mem_map.1 hv
    have hi := List.mem_range.1 hi
    unfold highN; rw [if_neg (by rw [h]; decide)]; unfold regOf
    have h1 := hb.at (2 * i) (by omega)
    have h2 := hb.at (2 * i + 1) (by omega)
    omega

theorem bit_val (y : Int) (j : Nat) (y0 : 0 ≤ y) (y1 : y ≤ 255) : ∃ z, bits .and .u8 (y / 2 ^ j) 1 = z ∧ 0 ≤ z ∧ z ≤ 1 ∧ y / 2 ^ j % 2 = z := by
  obtain ⟨n, rfl⟩ := Int.eq_ofNat_of_zero_le y0
  have e : ((n : Int) / 2 ^ j) = ((n / 2 ^ j : Nat) : Int) := by push_cast; rfl
  have hle : n / 2 ^ j ≤ n := Nat.div_le_self _ _
  rw [e]
  generalize n / 2 ^ j = m at *
  refine ⟨((m % 2 : Nat) : Int), ?_, by omega, by omega, by omega⟩
  have ev : ∀ n : Nat, n < 256 → (BitVec.ofInt 8 (n : Int)).toNat = n := fun n hn => by
    rw [BitVec.ofInt_natCast, BitVec.toNat_ofNat]; exact Nat.mod_eq_of_lt (by omega)
  show IntKind.u8.wrap ((BitVec.ofInt 8 (m : Int) &&& BitVec.ofInt 8 ((1 : Nat) : Int)).toNat : Int) = _
  rw [BitVec.toNat_and, ev m (by omega), ev 1 (by omega), IntKind.wrap_u8, Nat.and_one_is_mod]
  omega
theorem reg_val (y x : Int) (y0 : 0 ≤ y) (y1 : y ≤ 255) (x0 : 0 ≤ x) (x1 : x ≤ 255) : ∃ z, bits .or .i64 (y * 256) x = z ∧ 0 ≤ z ∧ z ≤ 65535 ∧ y * 256 + x = z := by
  obtain ⟨n, rfl⟩ := Int.eq_ofNat_of_zero_le y0
  obtain ⟨m, rfl⟩ := Int.eq_ofNat_of_zero_le x0
  refine ⟨((n * 256 + m : Nat) : Int), ?_, by omega, by omega, by omega⟩
  have := i64_or_nat (n * 256) m (by omega) (by omega)
  have h2 : n * 256 ||| m = n * 256 + m := by
    have := Nat.two_pow_add_eq_or_of_lt (i := 8) (b := m) (by omega) n
    rw [Nat.mul_comm n 256]; exact this.symm
  rw [h2] at this
  rw [show ((n * 256 : Nat) : Int) = (n : Int) * 256 by omega] at this
  exact this

set_option maxHeartbeats 400000 in
theorem pduEqual (v u : Value) (xs ys : List Int) (w : World) (h : RdB w v xs) (h2 : RdB w u ys) (hx : IsB xs) (hy : IsB ys) :
    Calls Try.prog 29 #[v, u] w fun e w' => e = .returned (.bool (decide (xs = ys))) ∧ w = w' := by
  have c1 := conv_bytes h
  have c2 := conv_bytes h2
  have e := Lib.hid (bytes_eq hx hy)
  clear h h2
  go_enter Try.func29, Try.ntmps29
  go_wp2_with fail
  go_ret
  exact ⟨by rw [← e.out]; rfl, rfl⟩

theorem orow_drew {w : World} {base n : Nat} {e : TypeId} {size : Nat} {v : Value} {xs : List Value} (h : w.ownsRow base e size v n xs) : w.drew.ownsRow base e size v n xs := h
theorem newsLitD {w : World} {g : Nat} (hg : w.heap.size = g) (ys : List Value) (t : TypeId) : ∀ j u, ys[j]? = some u → (w.alloc (.cells ys.toArray t)).drew.cell? ((⟨g, 0, none⟩ : Addr).add j) = some u := newsLit hg ys t
/-- What unpack leaves. -/
def UnPost (fn : Int) (n : Nat) (b : List Int) (w : World) (e : Ending) (w' : World) : Prop :=
  ∃ v q, e = .returned (.tuple #[v, .bool q]) ∧ w'.ownsRow w.heap.size TI 1 v (unpackL fn n b).length (ints (unpackL fn n b)) ∧ Below w.heap.size w w'

set_option maxRecDepth 20000 in
set_option maxHeartbeats 1000000 in
theorem unpack_any (fn : Int) (n : Nat) (v : Value) (b : List Int) (w : World) (h : RdB w v b) (hb : IsB b) (hn : n ≤ 2000) (hx : b.length ≤ 100000) :
    Calls Try.prog 28 #[.int .i64 fn, .int .i64 (n : Int), v] w (UnPost fn n b w) := by
  obtain ⟨A, c, rfl, hc⟩ := h.form
  have Hr := Lib.hid h
  have Hib := Lib.hid hb
  clear h hb
  obtain ⟨ii, hi, hz0, hz1, hz2⟩ := info_parts infoI
  go_enter Try.func28, Try.ntmps28
  go_wp2_with fail
  go_loopw [8, 11] (fun vl vi wr => ∃ (k m : Nat), k ≤ n ∧ m = (unpackL fn k b).length ∧ vi = .int .i64 k ∧ wr.ownsRow w.heap.size TI 1 vl m (ints (unpackL fn k b)) ∧ Below w.heap.size w wr) (fun _ vi _ => n - (intOf vi).toNat)
  case atStart => exact ⟨0, 0, by omega, by rw [unpackL_zero]; rfl, rfl, by rw [unpackL_zero]; exact orow_nil _ _ _ _, Below.refl _ _⟩
  case round =>
    obtain ⟨k, m, hk, hm, rfl, hown, hbel⟩ := hrel
    have Hbel := Lib.hid hbel
    have Hown := Lib.hid hown
    have hrk := Hr.out.below hbel
    have hm2 : m ≤ 2000 := by have := unpackL_len_le fn k b; omega
    obtain ⟨Al, cl, rfl, _⟩ := orow_form hown
    have Hm := Lib.hid hm
    clear hbel hown hm
    by_cases hlt : k < n
    · cases hbt : bitsB fn with
      | true =>
        have Hbt := Lib.hid hbt
        by_cases h8 : k / 8 < b.length
        · obtain ⟨g, o, rfl, ck⟩ := hrk.at (k / 8) h8
          obtain ⟨y0, y1⟩ := Hib.out.at (k / 8) h8
          obtain ⟨z, e1, z0, z1, hz⟩ := bit_val (b.getD (k / 8) 0) (k % 8) y0 y1
          have Hst := Lib.hid (show unpackL fn (k + 1) b = unpackL fn k b ++ [z] by rw [unpack_stepB (n := k) hbt h8, bitOf, hz])
          have d8 : (k : Int) / 8 < (b.length : Int) := by omega
          clear hbt hz
          generalize b.getD (k / 8) 0 = y at *
          go_wp2_with (first | (go_at_call 40; refine (bits_any _ _).mono ?_; rintro e w' ⟨rfl, rfl⟩; rw [Hbt.out]) | (at_builtin; refine wpList_append_own _ rfl _ _ 22 rfl w.heap.size TI ii (.int .i64 0) 1 8 Try.underlying22 hi hz0 hz1 hz2 rfl (by decide) _ m (ints (unpackL fn k b)) rfl (orow_alloc Hown.out _) ⟨wr.heap.size, 0, none⟩ 1 1 [.int .i64 z] rfl rfl (newsLit rfl _ _) (by simp [Value.oneCell']) (by unfold maxLen; omega) (by omega) (by simp; exact Nat.le_succ_of_le Hbel.out.size) ?_))
          intro v2 w2 hown2 hg2 hne2
          have Hown2 := Lib.hid (show w2.ownsRow w.heap.size TI 1 v2 (m + 1) (ints (unpackL fn (k + 1) b)) by rw [Hst.out]; simpa [ints] using hown2)
          have Hm2 := Lib.hid (show m + 1 = (unpackL fn (k + 1) b).length by rw [Hst.out, List.length_append, ← Hm.out]; rfl)
          have Hbel2 := Lib.hid (show Below w.heap.size w w2 from (below_alloc Hbel.out _).grown hg2 (by simp; exact Nat.le_succ_of_le Hbel.out.size) (fun k hk => (orow_blk Hown.out k hk).1))
          clear hown2 hg2 hne2
          go_wp2_with (first | (go_at_call 40; refine (bits_any _ _).mono ?_; rintro e w' ⟨rfl, rfl⟩; rw [Hbt.out]))
          go_roundw
          case rel => exact ⟨k + 1, m + 1, by omega, Hm2.out, by go_num, Hown2.out, Hbel2.out⟩
          case measure => simp [intOf]; omega
        · have Hst := Lib.hid (unpack_skipB (n := k) hbt h8)
          have d8 : ¬ (k : Int) / 8 < (b.length : Int) := by omega
          clear hbt
          go_wp2_with (first | (go_at_call 40; refine (bits_any _ _).mono ?_; rintro e w' ⟨rfl, rfl⟩; rw [Hbt.out]))
          go_roundw
          case rel => exact ⟨k + 1, m, by omega, by rw [Hst.out]; exact Hm.out, by go_num, by rw [Hst.out]; exact Hown.out, Hbel.out⟩
          case measure => simp [intOf]; omega
      | false =>
        have Hbt := Lib.hid hbt
        by_cases h8 : 2 * k + 1 < b.length
        · obtain ⟨g, o, rfl, ck⟩ := hrk.at (2 * k) (by omega)
          obtain ⟨g', o', he, ck1⟩ := hrk.at (2 * k + 1) (by omega)
          simp only [Option.some.injEq, Addr.mk.injEq, and_true] at he
          obtain ⟨rfl, rfl⟩ := he
          obtain ⟨y0, y1⟩ := Hib.out.at (2 * k) (by omega)
          obtain ⟨x0, x1⟩ := Hib.out.at (2 * k + 1) h8
          obtain ⟨z, e1, z0, z1, hz⟩ := reg_val (b.getD (2 * k) 0) (b.getD (2 * k + 1) 0) y0 y1 x0 x1
          have Hst := Lib.hid (show unpackL fn (k + 1) b = unpackL fn k b ++ [z] by rw [unpack_stepR (n := k) hbt h8, regOf, hz])
          have d8 : 2 * (k : Int) + 1 < (b.length : Int) := by omega
          clear hbt hz
          generalize b.getD (2 * k) 0 = y at *
          generalize b.getD (2 * k + 1) 0 = x at *
          have hiw1 : IntKind.i64.wrap (2 * (k : Int)) = 2 * (k : Int) := IntWalk.i64_in _ (by omega)
          have hiw2 : IntKind.i64.wrap (2 * (k : Int) + 1) = 2 * (k : Int) + 1 := IntWalk.i64_in _ (by omega)
          go_wp2_with (first | (go_at_call 40; refine (bits_any _ _).mono ?_; rintro e w' ⟨rfl, rfl⟩; rw [Hbt.out]))
          have Hownd := Lib.hid (show wr.drew.ownsRow w.heap.size TI 1 (.slice Al m cl) m (ints (unpackL fn k b)) from Hown.out)
          have Hbd := Lib.hid (Below.drew Hbel.out)
          have h20 : (0 : Int) ≤ 2 * (k : Int) := by omega
          have h21 : 2 * (k : Int) < (b.length : Int) := by omega
          have h23 : (0 : Int) ≤ 2 * (k : Int) + 1 := by omega
          have h25 := d8
          have h22 : (2 * (k : Int)).toNat = 2 * k := by omega
          have h24 : (2 * (k : Int) + 1).toNat = 2 * k + 1 := by omega
          have hwy : IntKind.i64.wrap y = y := IntWalk.i64_in _ (by omega)
          have hwx : IntKind.i64.wrap x = x := IntWalk.i64_in _ (by omega)
          have hwy2 : IntKind.i64.wrap (y * 256) = y * 256 := IntWalk.i64_in _ (by omega)
          have hm9 : m + 1 ≤ maxLen := by unfold maxLen; omega
          have hm8 : (m + 1) * 8 ≤ 140737488355328 := by omega
          have hbs : w.heap.size ≤ wr.heap.size + 1 := Nat.le_succ_of_le Hbel.out.size
          go_region_law ((refine step_append_lies _ (by rfl) _ _ _ (by rfl) w.heap.size TI ii (.int .i64 0) 1 8 Try.underlying22 hi hz0 hz1 hz2 rfl (Nat.le_refl 1) _ _ (ints (unpackL fn k b)) (by rfl) (orow_drew (orow_alloc Hown.out _)) ⟨wr.heap.size, 0, none⟩ 1 1 [.int .i64 z] (by rfl) rfl (newsLitD rfl _ _) (by simp [Value.oneCell']) (Nat.le_refl 1) hm9 hm8 (by simpa using hbs) _ rfl ?_; intro g4 cap4 w2 hown2 hg2 hat2 hlt2))
          all_goals
            clear h20 h21 h22 h23 h24 h25 hwy hwx hwy2 hm9 hm8 hbs hat2 hlt2
            have Hown2 := Lib.hid (show w2.ownsRow w.heap.size TI 1 _ (m + 1) (ints (unpackL fn (k + 1) b)) by rw [Hst.out]; simpa [ints] using hown2)
            have Hm2 := Lib.hid (show m + 1 = (unpackL fn (k + 1) b).length by rw [Hst.out, List.length_append, ← Hm.out]; rfl)
            have Hbel2 := Lib.hid (show Below w.heap.size w w2 from (Below.drew (below_alloc Hbel.out _)).grown hg2 (by simp; exact Nat.le_succ_of_le Hbel.out.size) (fun k hk => (orow_blk Hown.out k hk).1))
            clear hown2 hg2
            go_wp2_with fail
            go_roundw
            case rel => exact ⟨k + 1, m + 1, by omega, Hm2.out, by go_num, Hown2.out, Hbel2.out⟩
            case measure => simp [intOf]; omega
        · have Hst := Lib.hid (unpack_skipR (n := k) hbt h8)
          have d8 : ¬ 2 * (k : Int) + 1 < (b.length : Int) := by omega
          clear hbt
          go_wp2_with (first | (go_at_call 40; refine (bits_any _ _).mono ?_; rintro e w' ⟨rfl, rfl⟩; rw [Hbt.out]))
          go_roundw
          case rel => exact ⟨k + 1, m, by omega, by rw [Hst.out]; exact Hm.out, by go_num, by rw [Hst.out]; exact Hown.out, Hbel.out⟩
          case measure => simp [intOf]; omega
    · obtain rfl : k = n := by omega
      have Hok := Lib.hid (unpackL_ok (fn := fn) k Hib.out)
      by_cases hmn : m = k
      · have hq : ((m : Int) == (k : Int)) = true := beq_iff_eq.2 (by omega)
        have Hrl := Lib.hid (show RdI wr (.slice Al m cl) (unpackL fn k b) from Rd1.of_own Hown.out)
        have Hrb := Lib.hid hrk
        have hlm := Hm.out
        have Hpl := Lib.hid (packL_isB Hok.out)
        clear hmn hrk hlm
        go_wp2_with fail
        refine (pack_any fn _ (unpackL fn k b) _ Hrl.out (by have := Hm.out; omega) Hok.out).mono ?_
        rintro e w3 ⟨v3, rfl, hown3, hb3⟩
        obtain ⟨A3, c3, rfl, _⟩ := orow_form hown3
        have Hp3 := Lib.hid (show RdB w3 _ (packL fn (unpackL fn k b)) from Rd1.of_own hown3)
        have Hb3 := Lib.hid hb3
        clear hown3 hb3
        go_wp2_with fail
        refine (pduEqual _ _ _ b _ Hp3.out (Hrb.out.below Hb3.out) Hpl.out Hib.out).mono ?_
        rintro e w4 ⟨rfl, rfl⟩
        go_wp2_with fail
        go_ret2
        exact ⟨_, _, rfl, by rw [← Hm.out]; exact orow_below Hown.out Hb3.out, below_next Hbel.out Hb3.out⟩
      · have hq : ((m : Int) == (k : Int)) = false := beq_eq_false_iff_ne.2 (by omega)
        clear hmn hrk
        go_wp2_with fail
        go_ret2
        exact ⟨_, _, rfl, by rw [← Hm.out]; exact Hown.out, Hbel.out⟩
end Go.Proofs.Ythfcppflhkhpnaa

/-
  RtuBack: the walk.
-/
import Derived.Test.YtdgmaooioekmnaaCrcMath
namespace Go.Proofs.Ytdgmaooioekmnaa
open Go.RowKit

theorem ErrIs.wide {w : World} {v : Value} {s : ByteArray} {n c : Int} (h : ErrIs w v s n c) : ∃ x, v = .iface 51 x := h.form

theorem u8_xor_nat (a b : Nat) (ha : a < 256) (hb : b < 256) : bits .xor .u8 (a : Int) (b : Int) = ((a ^^^ b : Nat) : Int) := by
  have hx : a ^^^ b < 2 ^ 8 := Nat.xor_lt_two_pow ha hb
  have e : ∀ n : Nat, n < 256 → (BitVec.ofInt 8 (n : Int)).toNat = n := fun n hn => by
    rw [BitVec.ofInt_natCast, BitVec.toNat_ofNat]; exact Nat.mod_eq_of_lt (by omega)
  show IntKind.u8.wrap ((BitVec.ofInt 8 (a : Int) ^^^ BitVec.ofInt 8 (b : Int)).toNat : Int) = _
  rw [BitVec.toNat_xor, e a ha, e b hb, IntKind.wrap_u8]
  omega
theorem u8_turn (y i : Nat) (hy : y < 256) (hi : i < 8) : bits .xor .u8 (y : Int) ((2 : Int) ^ i % 256) = ((y ^^^ 2 ^ i : Nat) : Int) := by
  have h2 : 2 ^ i < 256 := by
    have : 2 ^ i < 2 ^ 8 := Nat.pow_lt_pow_right (by omega) hi
    omega
  rw [← u8_xor_nat y (2 ^ i) hy h2]
  congr 1
  rw [Int.natCast_pow]
  have : ((2 ^ i : Nat) : Int) < 256 := by omega
  rw [Int.natCast_pow] at this
  have h0 : (0 : Int) ≤ ((2 ^ i : Nat) : Int) := Int.natCast_nonneg _
  rw [Int.natCast_pow] at h0
  exact Int.emod_eq_of_lt h0 this

set_option maxRecDepth 20000 in
set_option maxHeartbeats 2000000 in
theorem back_true (addr bit : Int) (v : Value) (bs : List Int) (w : World) (h : RdB w v bs) (hbs : IsB bs) (hb63 : bit ≤ 9223372036854775807) :
    Calls Try.prog 6 #[.int .i64 addr, v, .int .i64 bit] w fun e w' => e = .returned (.bool true) ∧ Below w.heap.size w w' := by
  obtain ⟨A, c, rfl, hc⟩ := h.form
  have Hr := Lib.hid h
  have Hi := Lib.hid hbs
  clear h hbs
  by_cases h3000 : 3000 < bs.length
  · go_enter Try.func6, Try.ntmps6
    go_wp2_with (go_at_call 7; refine (first_true _).mono ?_; rintro e w9 ⟨rfl, hb9⟩)
    go_ret
    exact ⟨rfl, by (repeat' (first | (with_reducible exact Below.refl _ _) | (with_reducible assumption) | (with_reducible refine below_alloc ?_ _) | (with_reducible refine Below.drew ?_) | (with_reducible refine below_drewN ?_ _) | (exact below_next (by with_reducible assumption) (by first | with_reducible assumption | assumption)) | (refine below_next ?_ (by with_reducible assumption)) | fail))⟩
  by_cases hok : ¬ (0 ≤ addr ∧ addr ≤ 255 ∧ 0 < bs.length ∧ bs.length ≤ 253)
  · have Hok := Lib.hid hok
    by_cases a1 : addr < 0
    · clear hok
      go_enter Try.func6, Try.ntmps6
      go_wp2_with (first | (go_at_call 7; refine (first_true _).mono ?_; rintro e w9 ⟨rfl, hb9⟩) | (go_at_call 13; refine (rtuFrame_bad addr _ bs _ (Hr.out.below (by assumption)) Hok.out).mono ?_; rintro e w5 ⟨rfl, rfl⟩))
      go_ret
      exact ⟨rfl, by (repeat' (first | (with_reducible exact Below.refl _ _) | (with_reducible assumption) | (with_reducible refine below_alloc ?_ _) | (with_reducible refine Below.drew ?_) | (with_reducible refine below_drewN ?_ _) | (exact below_next (by with_reducible assumption) (by first | with_reducible assumption | assumption)) | (refine below_next ?_ (by with_reducible assumption)) | fail))⟩
    by_cases a2 : 255 < addr
    · clear hok
      go_enter Try.func6, Try.ntmps6
      go_wp2_with (first | (go_at_call 7; refine (first_true _).mono ?_; rintro e w9 ⟨rfl, hb9⟩) | (go_at_call 13; refine (rtuFrame_bad addr _ bs _ (Hr.out.below (by assumption)) Hok.out).mono ?_; rintro e w5 ⟨rfl, rfl⟩))
      go_ret
      exact ⟨rfl, by (repeat' (first | (with_reducible exact Below.refl _ _) | (with_reducible assumption) | (with_reducible refine below_alloc ?_ _) | (with_reducible refine Below.drew ?_) | (with_reducible refine below_drewN ?_ _) | (exact below_next (by with_reducible assumption) (by first | with_reducible assumption | assumption)) | (refine below_next ?_ (by with_reducible assumption)) | fail))⟩
    by_cases a3 : bs.length = 0
    · have hz : ((bs.length : Int) == 0) = true := beq_iff_eq.2 (by omega)
      clear hok a3
      go_enter Try.func6, Try.ntmps6
      go_wp2_with (first | (go_at_call 7; refine (first_true _).mono ?_; rintro e w9 ⟨rfl, hb9⟩) | (go_at_call 13; refine (rtuFrame_bad addr _ bs _ (Hr.out.below (by assumption)) Hok.out).mono ?_; rintro e w5 ⟨rfl, rfl⟩))
      go_ret
      exact ⟨rfl, by (repeat' (first | (with_reducible exact Below.refl _ _) | (with_reducible assumption) | (with_reducible refine below_alloc ?_ _) | (with_reducible refine Below.drew ?_) | (with_reducible refine below_drewN ?_ _) | (exact below_next (by with_reducible assumption) (by first | with_reducible assumption | assumption)) | (refine below_next ?_ (by with_reducible assumption)) | fail))⟩
    · have hz : ((bs.length : Int) == 0) = false := beq_eq_false_iff_ne.2 (by omega)
      have a4 : 253 < bs.length := by omega
      have a5 : (253 : Int) < (bs.length : Int) := by omega
      clear hok a3
      go_enter Try.func6, Try.ntmps6
      go_wp2_with (first | (go_at_call 7; refine (first_true _).mono ?_; rintro e w9 ⟨rfl, hb9⟩) | (go_at_call 13; refine (rtuFrame_bad addr _ bs _ (Hr.out.below (by assumption)) Hok.out).mono ?_; rintro e w5 ⟨rfl, rfl⟩))
      go_ret
      exact ⟨by simp, by (repeat' (first | (with_reducible exact Below.refl _ _) | (with_reducible assumption) | (with_reducible refine below_alloc ?_ _) | (with_reducible refine Below.drew ?_) | (with_reducible refine below_drewN ?_ _) | (exact below_next (by with_reducible assumption) (by first | with_reducible assumption | assumption)) | (refine below_next ?_ (by with_reducible assumption)) | fail))⟩
  obtain ⟨o1, o2, o3, o4⟩ : 0 ≤ addr ∧ addr ≤ 255 ∧ 0 < bs.length ∧ bs.length ≤ 253 := by omega
  have hbc : IsB (addr :: bs) := by
    intro x hx
    rcases List.mem_cons.1 hx with rfl | hx
    · exact ⟨o1, o2⟩
    · exact Hi.out x hx
  have Hbc := Lib.hid hbc
  have hFl := rtuFrame_length addr bs
  have HFl := Lib.hid hFl
  have HFb := Lib.hid (rtuFrame_isB hbc)
  have HFs := Lib.hid (show rtuSum ((rtuFrame addr bs).take ((rtuFrame addr bs).length - 2)) = tailSum (rtuFrame addr bs) by rw [rtuFrame_take, rtuFrame_tail hbc])
  have HFd := Lib.hid (show ((rtuFrame addr bs).take ((rtuFrame addr bs).length - 2)).drop 1 = bs by rw [rtuFrame_take]; rfl)
  have HFh := Lib.hid (rtuFrame_head addr bs)
  have HFt := Lib.hid (fun (j y : Nat) => rtuFrame_turned hbc j y)
  clear hok hbc hFl
  go_enter Try.func6, Try.ntmps6
  go_wp2_with fail
  refine (first_true _).mono ?_
  rintro e w1 ⟨rfl, hb1⟩
  have Hb1 := Lib.hid hb1
  clear hb1
  go_wp2_with fail
  refine (rtuFrame_ok addr _ bs _ (Hr.out.below Hb1.out) Hi.out o1 o2 o3 o4).mono ?_
  rintro e w2 ⟨v2, rfl, hown, hb2⟩
  generalize rtuFrame addr bs = F at *
  have hFl := HFl.out
  obtain ⟨g, c2, _, rfl, hg0, hg1, hc2, hm2, _⟩ := orow_pos hown (by omega)
  rw [hFl] at hown hc2
  have Hown := Lib.hid hown
  have Hb2 := Lib.hid (below_next Hb1.out hb2)
  have Hg := Lib.hid hg0
  rw [hFl]
  clear hown hb2 hFl hg0 hg1
  go_wp2_with fail
  refine (rtuOpen_ok _ F _ (Rd1.of_own Hown.out) HFb.out (by have := HFl.out; omega) (by have := HFl.out; omega) HFs.out).mono ?_
  rintro e w3 ⟨v3, rfl, hown3, hb3⟩
  rw [HFd.out] at hown3
  rw [HFh.out]
  have Hrd3 := Lib.hid (show RdB w3 v3 bs from Rd1.of_own hown3)
  have Hb3 := Lib.hid hb3
  clear hown3 hb3
  go_wp2_with fail
  refine (bytesEq _ _ bs bs _ Hrd3.out (Hr.out.below (below_next Hb2.out Hb3.out)) Hi.out Hi.out).mono ?_
  rintro e w4 ⟨rfl, rfl⟩
  rw [decide_eq_true rfl]
  by_cases hbit : bit < 0
  · go_wp2_with (go_at_call 7; refine (first_true _).mono ?_; rintro e w9 ⟨rfl, hb9⟩)
    go_ret
    exact ⟨rfl, below_next (below_next Hb2.out Hb3.out) hb9⟩
  have Hown3 := Lib.hid (orow_below Hown.out Hb3.out)
  -- which byte, which bit
  obtain ⟨nb, rfl⟩ := Int.eq_ofNat_of_zero_le (show 0 ≤ bit by omega)
  obtain ⟨k, hk⟩ : ∃ k, k = nb % (8 * (bs.length + 3)) := ⟨_, rfl⟩
  have hk2 : k < 8 * (bs.length + 3) := by rw [hk]; exact Nat.mod_lt _ (by omega)
  have hkI : (nb : Int) % (8 * ((bs.length : Int) + 3)) = (k : Int) := by
    have h8 : ((8 * (bs.length + 3) : Nat) : Int) = 8 * ((bs.length : Int) + 3) := by omega
    rw [hk, Int.natCast_emod, h8]
  have Hk := Lib.hid hk
  clear hk
  have ck := orow_cell (Value.int .u8) Hown3.out 0 (k / 8) (by omega)
  have fk := orow_froz Hown3.out (k / 8)
  obtain ⟨x0, x1⟩ := HFb.out.at (k / 8) (by have := HFl.out; omega)
  have hxe : F.getD (k / 8) 0 = F.getD (k / 8) 0 := rfl
  generalize hx : F.getD (k / 8) 0 = x at *
  have Hx := Lib.hid hx
  obtain ⟨y, rfl⟩ := Int.eq_ofNat_of_zero_le x0
  clear hx hxe x0
  have hturn := u8_turn y (k % 8) (by omega) (by omega)
  have Hbit := Lib.hid (xor_bit y (k % 8) (by omega) (by omega))
  have Hset := Lib.hid (orow_store (Value.int .u8) Hown3.out (k / 8) ((y ^^^ 2 ^ (k % 8) : Nat) : Int))
  have Hset2 := Lib.hid ((below_next Hb2.out Hb3.out).setCell (p := ⟨g, k / 8, none⟩) (Nat.le_trans Hb1.out.size Hg.out) (.int .u8 ((y ^^^ 2 ^ (k % 8) : Nat) : Int)))
  go_wp2_with fail
  refine (rtuOpen_sum _ (F.set (k / 8) ((y ^^^ 2 ^ (k % 8) : Nat) : Int)) _ (Rd1.of_own Hset.out) ?_ ?_ ?_ ?_).mono ?_
  · intro z hz
    rcases List.mem_or_eq_of_mem_set hz with hz | rfl
    · exact HFb.out z hz
    · have := Hbit.out.1; omega
  · rw [List.length_set, HFl.out]; omega
  · rw [List.length_set, HFl.out]; omega
  · exact HFt.out (k / 8) _ (by rw [HFl.out]; omega) Hbit.out.1 (by rw [Hx.out]; exact fun e => Hbit.out.2 (by omega))
  rintro e w5 ⟨er, rfl, her, hb5⟩
  obtain ⟨ex, rfl⟩ := her.form
  have Hb5 := Lib.hid hb5
  clear her hb5
  go_wp2_with (go_at_call 7; refine (first_true _).mono ?_; rintro e w9 ⟨rfl, hb9⟩)
  go_ret
  exact ⟨rfl, below_next (below_next Hset2.out Hb5.out) hb9⟩
end Go.Proofs.Ytdgmaooioekmnaa

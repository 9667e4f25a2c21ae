/-
  crc.Step and crc.Modbus: contracts, over natural numbers.
-/
import Derived.Test.YtdgmaooioekmnaaProg
import Derived.Test.YtdgmaooioekmnaaBase
import Derived.Laws.BitsAllLaws
import Derived.Laws.BitsLemmas
namespace Go.Proofs.Ytdgmaooioekmnaa
open Go.RowKit

theorem ofInt_i64 (a : Nat) (ha : a < 9223372036854775808) : (BitVec.ofInt 64 (a : Int)).toNat = a := by
  rw [BitVec.ofInt_natCast, BitVec.toNat_ofNat]; exact Nat.mod_eq_of_lt (by omega)
theorem i64_and_nat (a b : Nat) (ha : a < 9223372036854775808) (hb : b < 9223372036854775808) : bits .and .i64 (a : Int) (b : Int) = ((a &&& b : Nat) : Int) := by
  have hx : a &&& b < 2 ^ 63 := Nat.and_lt_two_pow _ (by omega)
  show IntKind.i64.wrap ((BitVec.ofInt 64 (a : Int) &&& BitVec.ofInt 64 (b : Int)).toNat : Int) = _
  rw [BitVec.toNat_and, ofInt_i64 a ha, ofInt_i64 b hb, IntKind.wrap_i64]
  omega
theorem i64_or_nat (a b : Nat) (ha : a < 9223372036854775808) (hb : b < 9223372036854775808) : bits .or .i64 (a : Int) (b : Int) = ((a ||| b : Nat) : Int) := by
  have hx : a ||| b < 2 ^ 63 := Nat.or_lt_two_pow (by omega) (by omega)
  show IntKind.i64.wrap ((BitVec.ofInt 64 (a : Int) ||| BitVec.ofInt 64 (b : Int)).toNat : Int) = _
  rw [BitVec.toNat_or, ofInt_i64 a ha, ofInt_i64 b hb, IntKind.wrap_i64]
  omega
theorem i64_xor_nat (a b : Nat) (ha : a < 9223372036854775808) (hb : b < 9223372036854775808) : bits .xor .i64 (a : Int) (b : Int) = ((a ^^^ b : Nat) : Int) := by
  have hx : a ^^^ b < 2 ^ 63 := Nat.xor_lt_two_pow (by omega) (by omega)
  show IntKind.i64.wrap ((BitVec.ofInt 64 (a : Int) ^^^ BitVec.ofInt 64 (b : Int)).toNat : Int) = _
  rw [BitVec.toNat_xor, ofInt_i64 a ha, ofInt_i64 b hb, IntKind.wrap_i64]
  omega

/-- One bit of a byte. -/
def crcRound (p s : Nat) : Nat := if s % 2 = 1 then s / 2 ^^^ p else s / 2
def crcRounds (p : Nat) : Nat → Nat → Nat
  | 0, s => s
  | k + 1, s => crcRound p (crcRounds p k s)
def crcStep (p s b : Nat) : Nat := crcRounds p 8 (s ^^^ b)
def crcModbus : Nat → List Nat → Nat
  | s, [] => s
  | s, b :: l => crcModbus (crcStep 40961 s b) l
theorem xor_16 {a b : Nat} (ha : a < 65536) (hb : b < 65536) : a ^^^ b < 65536 := Nat.xor_lt_two_pow (n := 16) ha hb
theorem crcRound_lt {p s : Nat} (hp : p < 65536) (hs : s < 65536) : crcRound p s < 65536 := by
  unfold crcRound
  split
  · exact xor_16 (by omega) hp
  · omega
theorem crcRounds_lt {p : Nat} (hp : p < 65536) (k : Nat) {s : Nat} (hs : s < 65536) : crcRounds p k s < 65536 := by
  induction k with
  | zero => exact hs
  | succ k ih => exact crcRound_lt hp ih
theorem crcStep_lt {p s b : Nat} (hp : p < 65536) (hs : s < 65536) (hb : b < 256) : crcStep p s b < 65536 := crcRounds_lt hp 8 (xor_16 hs (by omega))
theorem crcModbus_lt (l : List Nat) {s : Nat} (hs : s < 65536) (hl : ∀ b ∈ l, b < 256) : crcModbus s l < 65536 := by
  induction l generalizing s with
  | nil => exact hs
  | cons b l ih => exact ih (crcStep_lt (by omega) hs (hl b (List.mem_cons_self ..))) fun x hx => hl x (List.mem_cons_of_mem _ hx)

theorem and_all {a : Nat} (ha : a < 65536) : bits .and .i64 (a : Int) 65535 = (a : Int) := by
  have h := i64_and_nat a 65535 (by omega) (by omega)
  have h2 : a &&& 65535 = a := by
    rw [show (65535 : Nat) = 2 ^ 16 - 1 from rfl, Nat.and_two_pow_sub_one_eq_mod]; omega
  rw [h2] at h
  exact h
theorem and_one {a : Nat} (ha : a < 65536) : bits .and .i64 (a : Int) 1 = ((a % 2 : Nat) : Int) := by
  have h := i64_and_nat a 1 (by omega) (by omega)
  rw [Nat.and_one_is_mod] at h
  exact h

set_option maxHeartbeats 400000 in
theorem crcStep_any (p s b : Nat) (w : World) (hp : p < 65536) (hs : s < 65536) (hb : b < 256) :
    Calls Try.prog 20 #[.int .i64 p, .int .i64 s, .int .u8 b] w fun e w' => e = .returned (.int .i64 (crcStep p s b : Nat)) ∧ w = w' := by
  have e1 := and_all hp
  have e2 := and_all hs
  have e3 := i64_xor_nat s b (by omega) (by omega)
  have hx := xor_16 hs (show b < 65536 by omega)
  go_enter Try.func20, Try.ntmps20
  go_wp2_with fail
  clear e1 e2 e3
  have e0 : crcStep p s b = crcRounds p 8 (s ^^^ b) := rfl
  have E0 := Lib.hid e0
  clear e0
  generalize s ^^^ b = t at *
  go_loop [1, 15] (fun v i => ∃ k : Nat, k ≤ 8 ∧ i = .int .i64 k ∧ v = .int .i64 (crcRounds p k t : Nat)) (fun _ i => 8 - (intOf i).toNat)
  case atStart => exact ⟨0, by omega, rfl, rfl⟩
  case round =>
    obtain ⟨k, hk, rfl, rfl⟩ := hrel
    have hlt := crcRounds_lt hp k hx
    have hst : crcRounds p (k + 1) t = if crcRounds p k t % 2 = 1 then crcRounds p k t / 2 ^^^ p else crcRounds p k t / 2 := rfl
    have Hst := Lib.hid hst
    clear hst
    by_cases hk8 : k < 8
    · generalize crcRounds p k t = r at *
      have e1 := and_one hlt
      have e2 : bits .xor .i64 ((r : Int) / 2) (p : Int) = ((r / 2 ^^^ p : Nat) : Int) := by
        rw [← i64_xor_nat (r / 2) p (by omega) (by omega), Int.natCast_ediv]; rfl
      by_cases hr : r % 2 = 1
      · rw [hr] at e1
        go_wp2_with fail
        go_round
        case rel => exact ⟨k + 1, by omega, by go_num, by rw [Hst.out, if_pos hr]⟩
        case measure => simp [intOf]; omega
      · have hr0 : r % 2 = 0 := by omega
        rw [hr0] at e1
        go_wp2_with fail
        go_round
        case rel => exact ⟨k + 1, by omega, by go_num, by rw [Hst.out, if_neg hr, Int.natCast_ediv]; rfl⟩
        case measure => simp [intOf]; omega
    · obtain rfl : k = 8 := by omega
      go_wp2_with fail
      go_ret
      exact ⟨by rw [E0.out]; rfl, rfl⟩

/-- The bytes as natural numbers. -/
def nats (xs : List Int) : List Nat := xs.map Int.toNat
def IsB (xs : List Int) : Prop := ∀ x ∈ xs, 0 ≤ x ∧ x ≤ 255
theorem IsB.at {xs : List Int} (h : IsB xs) (i : Nat) (hi : i < xs.length) : 0 ≤ xs.getD i 0 ∧ xs.getD i 0 ≤ 255 := by
  have hg : xs.getD i 0 = xs[i] := by rw [List.getD_eq_getElem?_getD, List.getElem?_eq_getElem hi]; rfl
  rw [hg]; exact h _ (List.getElem_mem hi)
theorem IsB.nats {xs : List Int} (h : IsB xs) : ∀ b ∈ nats xs, b < 256 := by
  intro b hb
  obtain ⟨x, hx, rfl⟩ := List.mem_map.1 hb
  have := h x hx
  omega
abbrev RdB (w : World) (v : Value) (xs : List Int) : Prop := Rd1 (Value.int .u8) 0 w v xs
theorem crcModbus_snoc (l : List Nat) (b s : Nat) : crcModbus s (l ++ [b]) = crcStep 40961 (crcModbus s l) b := by
  induction l generalizing s with
  | nil => rfl
  | cons x l ih => exact ih _

set_option maxHeartbeats 400000 in
theorem modbus_any (v : Value) (xs : List Int) (w : World) (h : RdB w v xs) (hb : IsB xs) (hx : xs.length ≤ 140737488351232) :
    Calls Try.prog 17 #[v] w fun e w' => e = .returned (.int .i64 (crcModbus 65535 (nats xs) : Nat)) ∧ w = w' := by
  obtain ⟨A, c, rfl, hc⟩ := h.form
  have Hr := Lib.hid h
  have Hb := Lib.hid hb
  clear h hb
  go_enter Try.func17, Try.ntmps17
  go_wp2_with fail
  go_loop [3, 8] (fun s i => ∃ k : Nat, k ≤ xs.length ∧ i = .int .i64 k ∧ s = .int .i64 (crcModbus 65535 (nats (xs.take k)) : Nat)) (fun _ i => xs.length - (intOf i).toNat)
  case atStart => exact ⟨0, by omega, rfl, rfl⟩
  case round =>
    obtain ⟨k, hk, rfl, rfl⟩ := hrel
    by_cases hlt : k < xs.length
    · obtain ⟨g, o, rfl, hcell⟩ := Hr.out.at k hlt
      have hbk := Hb.out.at k hlt
      have hsl := crcModbus_lt (nats (xs.take k)) (s := 65535) (by omega) (IsB.nats fun x hx => Hb.out x (List.mem_of_mem_take hx))
      have hst : crcModbus 65535 (nats (xs.take (k + 1))) = crcStep 40961 (crcModbus 65535 (nats (xs.take k))) (xs.getD k 0).toNat := by
        rw [← crcModbus_snoc]
        congr 1
        rw [List.take_succ_eq_append_getElem hlt, nats, nats, List.map_append, List.getD_eq_getElem?_getD, List.getElem?_eq_getElem hlt]; rfl
      have Hst := Lib.hid hst
      clear hst
      generalize crcModbus 65535 (nats (xs.take k)) = s at *
      obtain ⟨h0, h1⟩ := hbk
      obtain ⟨b, hbe⟩ := Int.eq_ofNat_of_zero_le h0
      rw [hbe] at hcell h1
      rw [hbe, Int.toNat_natCast] at Hst
      have Hbe := Lib.hid hbe
      clear hbe h0
      go_wp2_with (go_at_call 20; refine (crcStep_any 40961 s b _ (by omega) hsl (by omega)).mono ?_; rintro e w' ⟨rfl, rfl⟩)
      go_round
      case rel => exact ⟨k + 1, by omega, by go_num, by rw [Hst.out]⟩
      case measure => simp [intOf]; omega
    · obtain rfl : k = xs.length := by omega
      go_wp2_with fail
      go_ret
      exact ⟨rfl, rfl⟩
end Go.Proofs.Ytdgmaooioekmnaa

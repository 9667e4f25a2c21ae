/-
  The package pdu: bits and registers as bytes, without a program.
-/
import Derived.Test.YthfcppflhkhpnaaPduMath
import Derived.Test.YthfcppflhkhpnaaBytesB
namespace Go.Proofs.Ythfcppflhkhpnaa
open Go.RowKit

def packByte : List Int → Int
  | [] => 0
  | x :: xs => x + 2 * packByte xs
def byteAt (l : List Int) (j : Nat) : Int := packByte ((l.drop (8 * j)).take 8)
def packBits (l : List Int) : List Int := (List.range ((l.length + 7) / 8)).map (byteAt l)
def be2 (v : Int) : List Int := [v / 256, v % 256]
def packRegs (l : List Int) : List Int := l.flatMap be2
def packL (fn : Int) (l : List Int) : List Int := if bitsB fn = true then packBits l else packRegs l
def IsBit (l : List Int) : Prop := ∀ x ∈ l, 0 ≤ x ∧ x ≤ 1
def IsReg (l : List Int) : Prop := ∀ x ∈ l, 0 ≤ x ∧ x ≤ 65535

theorem packByte_snoc (xs : List Int) (x : Int) : packByte (xs ++ [x]) = packByte xs + x * 2 ^ xs.length := by
  induction xs with
  | nil => simp [packByte]
  | cons y ys ih =>
    simp only [List.cons_append, packByte, ih, List.length_cons]
    rw [Int.pow_succ, Int.mul_add]
    have : 2 * (x * 2 ^ ys.length) = x * (2 ^ ys.length * 2) := by
      rw [Int.mul_left_comm, Int.mul_comm 2 (2 ^ ys.length)]
    omega
theorem packByte_bd {l : List Int} (h : IsBit l) : 0 ≤ packByte l ∧ packByte l < 2 ^ l.length := by
  induction l with
  | nil => simp [packByte]
  | cons y ys ih =>
    have h0 := h y (List.mem_cons_self ..)
    have h1 := ih (fun x hx => h x (List.mem_cons_of_mem _ hx))
    simp only [packByte, List.length_cons]
    rw [Int.pow_succ]
    omega
theorem IsBit.take {l : List Int} (h : IsBit l) (k : Nat) : IsBit (l.take k) := fun x hx => h x (List.mem_of_mem_take hx)
theorem IsBit.drop {l : List Int} (h : IsBit l) (k : Nat) : IsBit (l.drop k) := fun x hx => h x (List.mem_of_mem_drop hx)
theorem byteAt_bd {l : List Int} (h : IsBit l) (j : Nat) : 0 ≤ byteAt l j ∧ byteAt l j ≤ 255 := by
  have h1 := packByte_bd ((h.drop (8 * j)).take 8)
  have h2 : ((l.drop (8 * j)).take 8).length ≤ 8 := List.length_take_le _ _
  have h3 : (2 : Int) ^ ((l.drop (8 * j)).take 8).length ≤ 2 ^ 8 := by
    have := Nat.pow_le_pow_right (n := 2) (by omega) h2
    exact_mod_cast this
  unfold byteAt
  omega
theorem packBits_isB {l : List Int} (h : IsBit l) : IsB (packBits l) := by
  intro x hx
  obtain ⟨j, _, rfl⟩ := List.mem_map.1 hx
  exact byteAt_bd h j
theorem packBits_len (l : List Int) : (packBits l).length = (l.length + 7) / 8 := by simp [packBits]
theorem packRegs_isB {l : List Int} (h : IsReg l) : IsB (packRegs l) := by
  intro x hx
  obtain ⟨v, hv, hx⟩ := List.mem_flatMap.1 hx
  have := h v hv
  simp only [be2, List.mem_cons, List.not_mem_nil, or_false] at hx
  rcases hx with rfl | rfl <;> omega
theorem packRegs_len (l : List Int) : (packRegs l).length = 2 * l.length := by
  induction l with
  | nil => rfl
  | cons x xs ih => simp [packRegs, be2] at ih ⊢; omega
/-- What a byte holds ahead of bit i. -/
theorem byteAt_head {l : List Int} (h : IsBit l) {i : Nat} (hi : i < l.length) : 0 ≤ byteAt (l.take i) (i / 8) ∧ byteAt (l.take i) (i / 8) < 2 ^ (i % 8) := by
  have h1 := packByte_bd (((h.take i).drop (8 * (i / 8))).take 8)
  have h2 : (((l.take i).drop (8 * (i / 8))).take 8).length = i % 8 := by
    rw [List.length_take, List.length_drop, List.length_take]; omega
  rw [h2] at h1
  exact h1
theorem byteAt_step {l : List Int} {i : Nat} (hi : i < l.length) : byteAt (l.take (i + 1)) (i / 8) = byteAt (l.take i) (i / 8) + l.getD i 0 * 2 ^ (i % 8) := by
  have e : l.take (i + 1) = l.take i ++ [l.getD i 0] := by
    rw [List.take_succ_eq_append_getElem hi, List.getD_eq_getElem?_getD, List.getElem?_eq_getElem hi]; rfl
  have h2 : ((l.take i).drop (8 * (i / 8))).length = i % 8 := by
    rw [List.length_drop, List.length_take]; omega
  unfold byteAt
  rw [e, List.drop_append_of_le_length (by rw [List.length_take]; omega)]
  rw [List.take_of_length_le (by simp [h2]; omega), List.take_of_length_le (l := (l.take i).drop (8 * (i / 8))) (by omega), packByte_snoc, h2]
theorem byteAt_other {l : List Int} {i j : Nat} (hi : i < l.length) (hj : j ≠ i / 8) : byteAt (l.take (i + 1)) j = byteAt (l.take i) j := by
  have e : l.take (i + 1) = l.take i ++ [l.getD i 0] := by
    rw [List.take_succ_eq_append_getElem hi, List.getD_eq_getElem?_getD, List.getElem?_eq_getElem hi]; rfl
  unfold byteAt
  rw [e]
  have hl : (l.take i).length = i := by rw [List.length_take]; omega
  by_cases h : 8 * j ≤ i
  · rw [List.drop_append_of_le_length (by omega), List.take_append_of_le_length]
    rw [List.length_drop, hl]; omega
  · rw [List.drop_of_length_le (by simp [hl]; omega), List.drop_of_length_le (by omega)]
/-- One round of pack's loop. -/
theorem packBits_step {l : List Int} {i nb : Nat} (hi : i < l.length) (hn : nb = (l.length + 7) / 8) :
    ((List.range nb).map (byteAt (l.take i))).set (i / 8) (byteAt (l.take i) (i / 8) + l.getD i 0 * 2 ^ (i % 8)) = (List.range nb).map (byteAt (l.take (i + 1))) := by
  apply List.ext_getElem
  · simp
  · intro j h1 h2
    simp only [List.getElem_set, List.getElem_map, List.getElem_range]
    by_cases hj : i / 8 = j
    · rw [if_pos hj, ← hj, byteAt_step hi]
    · rw [if_neg hj, byteAt_other hi (fun e => hj e.symm)]
theorem packBits_start (nb : Nat) : List.replicate nb 0 = (List.range nb).map (byteAt ([] : List Int)) := by
  apply List.ext_getElem
  · simp
  · intro j h1 h2; simp [byteAt, packByte]
/-- The bits of a sum whose parts share none. -/
theorem u8_or_sum (a b m : Nat) (ha : a < 2 ^ m) (hb : b ≤ 1) (hm : m < 8) : bits .or .u8 (a : Int) ((b * 2 ^ m : Nat) : Int) = ((a + b * 2 ^ m : Nat) : Int) := by
  have hle : 2 ^ m ≤ 2 ^ 7 := Nat.pow_le_pow_right (by omega) (by omega)
  have hx : b * 2 ^ m ≤ 2 ^ m := by rcases Nat.le_one_iff_eq_zero_or_eq_one.1 hb with rfl | rfl <;> omega
  have e : ∀ n : Nat, n < 256 → (BitVec.ofInt 8 (n : Int)).toNat = n := fun n hn => by
    rw [BitVec.ofInt_natCast, BitVec.toNat_ofNat]; exact Nat.mod_eq_of_lt (by omega)
  show IntKind.u8.wrap ((BitVec.ofInt 8 (a : Int) ||| BitVec.ofInt 8 ((b * 2 ^ m : Nat) : Int)).toNat : Int) = _
  rw [BitVec.toNat_or, e a (by omega), e (b * 2 ^ m) (by omega), IntKind.wrap_u8]
  have h : a ||| b * 2 ^ m = a + b * 2 ^ m := by
    rw [Nat.or_comm, Nat.mul_comm b, ← Nat.two_pow_add_eq_or_of_lt ha, Nat.add_comm]
  rw [h]
  omega
theorem packBits_val {a x : Int} {m : Nat} (a0 : 0 ≤ a) (a1 : a < 2 ^ m) (x0 : 0 ≤ x) (x1 : x ≤ 1) (hm : m < 8) : bits .or .u8 a (wrap64 (x * 2 ^ m) % 256) = a + x * 2 ^ m := by
  obtain ⟨na, rfl⟩ := Int.eq_ofNat_of_zero_le a0
  obtain ⟨nx, rfl⟩ := Int.eq_ofNat_of_zero_le x0
  have ha : na < 2 ^ m := by exact_mod_cast a1
  have hle : 2 ^ m ≤ 2 ^ 7 := Nat.pow_le_pow_right (by omega) (by omega)
  have hx : nx * 2 ^ m ≤ 2 ^ m := by rcases Nat.le_one_iff_eq_zero_or_eq_one.1 (show nx ≤ 1 by omega) with rfl | rfl <;> omega
  have e : ((nx : Int) * 2 ^ m) = ((nx * 2 ^ m : Nat) : Int) := by push_cast; rfl
  have e2 : wrap64 ((nx : Int) * 2 ^ m) % 256 = ((nx * 2 ^ m : Nat) : Int) := by
    rw [e]; generalize nx * 2 ^ m = y at *; unfold wrap64; omega
  rw [e2, u8_or_sum na nx m ha (by omega) hm, e]
  push_cast; rfl
end Go.Proofs.Ythfcppflhkhpnaa

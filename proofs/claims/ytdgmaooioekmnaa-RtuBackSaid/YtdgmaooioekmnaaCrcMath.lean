/-
  The sum of Modbus tells one byte from another.
-/
import Derived.Test.YtdgmaooioekmnaaRtuSizes
namespace Go.Proofs.Ytdgmaooioekmnaa

theorem xor_cancel_r {a b c : Nat} (h : a ^^^ c = b ^^^ c) : a = b := by
  have := congrArg (· ^^^ c) h
  simpa [Nat.xor_assoc] using this
theorem crcRound_inj {p s t : Nat} (hp : 32768 ≤ p) (hs : s < 65536) (ht : t < 65536) (h : crcRound p s = crcRound p t) : s = t := by
  have mixed : ∀ {a c : Nat}, a < 32768 → c < 32768 → a ^^^ p ≠ c := by
    intro a c ha hc e
    have h1 : p = a ^^^ c := by rw [← e, ← Nat.xor_assoc, Nat.xor_self, Nat.zero_xor]
    have h2 : a ^^^ c < 2 ^ 15 := Nat.xor_lt_two_pow ha hc
    omega
  unfold crcRound at h
  split at h <;> split at h
  · have := xor_cancel_r h; omega
  · exact absurd h (mixed (by omega) (by omega))
  · exact absurd h.symm (mixed (by omega) (by omega))
  · omega
theorem crcRounds_inj {p : Nat} (hp : 32768 ≤ p) (hp2 : p < 65536) (k : Nat) : ∀ {s t : Nat}, s < 65536 → t < 65536 → crcRounds p k s = crcRounds p k t → s = t := by
  induction k with
  | zero => intro s t _ _ h; exact h
  | succ k ih => intro s t hs ht h; exact ih hs ht (crcRound_inj hp (crcRounds_lt hp2 k hs) (crcRounds_lt hp2 k ht) h)
theorem crcStep_inj {s t b : Nat} (hs : s < 65536) (ht : t < 65536) (hb : b < 256) (h : crcStep 40961 s b = crcStep 40961 t b) : s = t :=
  xor_cancel_r (crcRounds_inj (by omega) (by omega) 8 (xor_16 hs (by omega)) (xor_16 ht (by omega)) h)
theorem crcStep_byte {s x y : Nat} (hs : s < 65536) (hx : x < 256) (hy : y < 256) (h : crcStep 40961 s x = crcStep 40961 s y) : x = y := by
  have := crcRounds_inj (p := 40961) (by omega) (by omega) 8 (xor_16 hs (show x < 65536 by omega)) (xor_16 hs (show y < 65536 by omega)) h
  rw [Nat.xor_comm s x, Nat.xor_comm s y] at this
  exact xor_cancel_r this
theorem crcModbus_inj (l : List Nat) : ∀ {s t : Nat}, s < 65536 → t < 65536 → (∀ b ∈ l, b < 256) → crcModbus s l = crcModbus t l → s = t := by
  induction l with
  | nil => intro s t _ _ _ h; exact h
  | cons b l ih =>
    intro s t hs ht hl h
    have hb := hl b (List.mem_cons_self ..)
    exact crcStep_inj hs ht hb (ih (crcStep_lt (by omega) hs hb) (crcStep_lt (by omega) ht hb) (fun x hx => hl x (List.mem_cons_of_mem _ hx)) h)
theorem crcModbus_set (l : List Nat) : ∀ {s : Nat} (j y : Nat), s < 65536 → (∀ b ∈ l, b < 256) → y < 256 → j < l.length → crcModbus s (l.set j y) = crcModbus s l → l.getD j 0 = y := by
  induction l with
  | nil => intro s j y _ _ _ hj; simp at hj
  | cons b l ih =>
    intro s j y hs hl hy hj h
    have hb := hl b (List.mem_cons_self ..)
    have hl' : ∀ x ∈ l, x < 256 := fun x hx => hl x (List.mem_cons_of_mem _ hx)
    cases j with
    | zero =>
      have := crcModbus_inj l (crcStep_lt (by omega) hs hy) (crcStep_lt (by omega) hs hb) hl' h
      exact (crcStep_byte hs hy hb this).symm
    | succ j =>
      have := ih j y (crcStep_lt (p := 40961) (by omega) hs hb) hl' hy (by simpa using hj) h
      simpa using this
theorem nats_set (l : List Int) (j : Nat) (y : Int) : nats (l.set j y) = (nats l).set j y.toNat := by simp [nats, List.map_set]
theorem nats_get (l : List Int) (j : Nat) : (nats l).getD j 0 = (l.getD j 0).toNat := by
  simp only [nats, List.getD_eq_getElem?_getD, List.getElem?_map]
  cases l[j]? <;> rfl

/-- The sum behind a frame is its sum. -/
theorem rtuFrame_isB {addr : Int} {p : List Int} (hb : IsB (addr :: p)) : IsB (rtuFrame addr p) := by
  have hs := crcModbus_lt (nats (addr :: p)) (s := 65535) (by omega) hb.nats
  intro x hx
  unfold rtuFrame rtuSum at hx
  rcases List.mem_append.1 hx with h | h
  · exact hb x h
  · simp at h
    rcases h with rfl | rfl <;> omega
theorem rtuFrame_take (addr : Int) (p : List Int) : (rtuFrame addr p).take ((rtuFrame addr p).length - 2) = addr :: p := by
  rw [rtuFrame_length, show p.length + 3 - 2 = (addr :: p).length by simp]
  exact List.take_left' rfl
theorem rtuFrame_tail {addr : Int} {p : List Int} (hb : IsB (addr :: p)) : tailSum (rtuFrame addr p) = rtuSum (addr :: p) := by
  have hs := crcModbus_lt (nats (addr :: p)) (s := 65535) (by omega) hb.nats
  have e1 : (rtuFrame addr p).getD ((rtuFrame addr p).length - 2) 0 = ((rtuSum (addr :: p) % 256 : Nat) : Int) := by
    rw [rtuFrame_length, show p.length + 3 - 2 = (addr :: p).length by simp, List.getD_eq_getElem?_getD]
    unfold rtuFrame
    rw [List.getElem?_append_right (Nat.le_refl _)]; simp
  have e2 : (rtuFrame addr p).getD ((rtuFrame addr p).length - 1) 0 = ((rtuSum (addr :: p) / 256 : Nat) : Int) := by
    rw [rtuFrame_length, show p.length + 3 - 1 = (addr :: p).length + 1 by simp, List.getD_eq_getElem?_getD]
    unfold rtuFrame
    rw [List.getElem?_append_right (by omega)]; simp
  unfold tailSum
  rw [e1, e2, Int.toNat_natCast, Int.toNat_natCast]
  omega
theorem getD_setI (l : List Int) (i j : Nat) (x : Int) (hi : i < l.length) : (l.set i x).getD j 0 = if i = j then x else l.getD j 0 := by
  rw [List.getD_eq_getElem?_getD, List.getElem?_set, List.getD_eq_getElem?_getD]
  by_cases e : i = j
  · subst e; rw [if_pos rfl, if_pos rfl, if_pos hi]; rfl
  · rw [if_neg e, if_neg e]
/-- One byte turned: the sum does not fit. -/
theorem rtuFrame_turned {addr : Int} {p : List Int} (hb : IsB (addr :: p)) (j : Nat) (y : Nat) (hj : j < (rtuFrame addr p).length) (hy : y < 256) (hne : (rtuFrame addr p).getD j 0 ≠ (y : Int)) :
    rtuSum (((rtuFrame addr p).set j (y : Int)).take (((rtuFrame addr p).set j (y : Int)).length - 2)) ≠ tailSum ((rtuFrame addr p).set j (y : Int)) := by
  have htl := rtuFrame_tail hb
  have hlen := rtuFrame_length addr p
  have hib := rtuFrame_isB hb
  intro h
  rw [List.length_set, List.take_set, rtuFrame_take] at h
  unfold tailSum at h htl
  rw [List.length_set, getD_setI _ _ _ _ hj, getD_setI _ _ _ _ hj] at h
  have b1 := hib.at ((rtuFrame addr p).length - 2) (by omega)
  have b2 := hib.at ((rtuFrame addr p).length - 1) (by omega)
  by_cases c1 : j < (rtuFrame addr p).length - 2
  · rw [if_neg (by omega), if_neg (by omega), htl] at h
    unfold rtuSum at h
    rw [nats_set, Int.toNat_natCast] at h
    have := crcModbus_set _ j y (by omega) hb.nats hy (by simp [nats]; omega) h
    rw [nats_get] at this
    have hget : (addr :: p).getD j 0 = (rtuFrame addr p).getD j 0 := by
      rw [List.getD_eq_getElem?_getD, List.getD_eq_getElem?_getD]
      unfold rtuFrame
      rw [List.getElem?_append_left (by simp; omega)]
    rw [hget] at this
    have b3 := hib.at j hj
    omega
  · have hset : (addr :: p).set j (y : Int) = addr :: p := List.set_eq_of_length_le (by simp; omega)
    rw [hset, ← htl] at h
    by_cases c2 : j = (rtuFrame addr p).length - 2
    · rw [if_pos c2, if_neg (by omega), Int.toNat_natCast] at h
      rw [c2] at hne
      omega
    · rw [if_neg c2, if_pos (by omega), Int.toNat_natCast] at h
      rw [show j = (rtuFrame addr p).length - 1 by omega] at hne
      omega
theorem xor_bit (x i : Nat) (hx : x < 256) (hi : i < 8) : x ^^^ 2 ^ i < 256 ∧ x ^^^ 2 ^ i ≠ x := by
  have h2 : 2 ^ i < 256 := by
    have : 2 ^ i < 2 ^ 8 := Nat.pow_lt_pow_right (by omega) hi
    omega
  refine ⟨Nat.xor_lt_two_pow (n := 8) hx h2, fun h => ?_⟩
  have h3 : x ^^^ 2 ^ i = x ^^^ 0 := by rw [h, Nat.xor_zero]
  rw [Nat.xor_comm, Nat.xor_comm x 0] at h3
  have := xor_cancel_r h3
  have : 0 < 2 ^ i := Nat.pow_pos (by omega)
  omega
end Go.Proofs.Ytdgmaooioekmnaa

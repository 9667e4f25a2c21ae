/-
  The package trans: Feed, the other roads; Feed in one word.
-/
import Derived.Test.YtaahigdkbmifbaaTrans3
namespace Go.Proofs.Ytaahigdkbmifbaa
open Go.RowKit

set_option maxRecDepth 20000 in
set_option maxHeartbeats 1000000 in
theorem feed_none (w : World) (g : Nat) (v : Value) (seg : List Int) (hr : RdB w v seg) (hb : ¬ (2 ≤ seg.length ∧ seg.length ≤ 250)) :
    Calls Try.prog 12 #[.pointer (some ⟨g, 0, none⟩), v] w fun e w' => e = .returned (.tuple #[.slice none 0 0, .bool false]) ∧ w = w' := by
  obtain ⟨A, c, rfl, hc⟩ := hr.form
  clear hr
  by_cases h : seg.length < 2
  · clear hb
    go_enter Try.func12, Try.ntmps12
    go_wp2_with fail
    go_ret2
    exact ⟨rfl, rfl⟩
  · have h2 : 250 < seg.length := by omega
    clear hb
    go_enter Try.func12, Try.ntmps12
    go_wp2_with fail
    go_ret2
    exact ⟨rfl, rfl⟩

set_option maxRecDepth 20000 in
set_option maxHeartbeats 1000000 in
theorem feed_skip (w : World) (g : Nat) (s : JSt) (v : Value) (seg : List Int) (h : JAt w g s) (hr : RdB w v seg) (hib : IsB seg) (h2 : 2 ≤ seg.length) (h3 : seg.length ≤ 250) (hf : firB (seg.getD 0 0).toNat = false) (hsk : s.op = false ∨ seg = s.last) :
    Calls Try.prog 12 #[.pointer (some ⟨g, 0, none⟩), v] w fun e w' => e = .returned (.tuple #[.slice none 0 0, .bool false]) ∧ w = w' := by
  obtain ⟨A, c, rfl, hc⟩ := hr.form
  obtain ⟨gs, os, rfl, ck⟩ := hr.at 0 (by omega)
  rw [Nat.add_zero] at ck
  obtain ⟨x0, x1⟩ := hib.at 0 (by omega)
  generalize seg.getD 0 0 = x at *
  obtain ⟨y, rfl⟩ := Int.eq_ofNat_of_zero_le x0
  rw [Int.toNat_natCast] at hf
  have e1 := u8_and_nat y 64 (by omega) (by omega)
  have b1 : (((y &&& 64 : Nat) : Int) != 0) = false := by rw [bne_eq_false_iff_eq]; have := of_decide_eq_false hf; omega
  have Hr := Lib.hid hr
  have Hib := Lib.hid hib
  obtain ⟨ok, vb, vl, hst, hvb, hvl⟩ := h
  have z1 : (1 : Int) ≤ (seg.length : Int) := by omega
  have hz0 : (0 : Int) < (seg.length : Int) := by omega
  simp only [show ((64 : Nat) : Int) = 64 from rfl] at e1
  have t0 := bcell hst 0
  have t2 := bcell hst 2
  simp only [List.getElem?_toArray, List.getElem?_cons_zero, List.getElem?_cons_succ] at t0 t2
  have Hl := Lib.hid (show RdB w vl s.last from Rd1.of_own hvl)
  have Hil := Lib.hid ok.il
  by_cases hop : s.op = false
  · rw [hop] at t0
    clear hr hib ok hst hvb hvl hf x0 hsk hop
    go_enter Try.func12, Try.ntmps12
    go_wp2_with fail
    go_ret2
    exact ⟨rfl, rfl⟩
  · have hop2 : s.op = true := by simpa using hop
    have hse : seg = s.last := by
      rcases hsk with h | h
      · exact absurd h hop
      · exact h
    have Hse := Lib.hid (decide_eq_true hse)
    rw [hop2] at t0
    clear hr hib ok hst hvb hvl hf x0 hsk hop hop2 hse
    go_enter Try.func12, Try.ntmps12
    go_wp2_with fail
    refine (bytesEq2 _ _ seg s.last _ Hr.out Hl.out Hib.out Hil.out).mono ?_
    rintro e w1 ⟨rfl, rfl⟩
    rw [Hse.out]
    go_wp2_with fail
    go_ret2
    exact ⟨rfl, rfl⟩

set_option maxRecDepth 20000 in
set_option maxHeartbeats 1000000 in
theorem feed_broken (w : World) (g : Nat) (s : JSt) (v : Value) (seg : List Int) (h : JAt w g s) (hr : RdB w v seg) (hib : IsB seg) (h2 : 2 ≤ seg.length) (h3 : seg.length ≤ 250) (hf : firB (seg.getD 0 0).toNat = false) (hop : s.op = true) (hne : seg ≠ s.last)
    (hbr : (seg.getD 0 0).toNat % 64 ≠ ((s.last.getD 0 0).toNat + 1) % 64 ∨ 2049 < s.b.length + seg.length) :
    Calls Try.prog 12 #[.pointer (some ⟨g, 0, none⟩), v] w fun e w' => e = .returned (.tuple #[.slice none 0 0, .bool false]) ∧ JAt w' g JSt.empty ∧ Fr (fun k => k = g) w w' := by
  obtain ⟨A, c, rfl, hc⟩ := hr.form
  obtain ⟨gs, os, rfl, ck⟩ := hr.at 0 (by omega)
  rw [Nat.add_zero] at ck
  obtain ⟨x0, x1⟩ := hib.at 0 (by omega)
  generalize seg.getD 0 0 = x at *
  obtain ⟨y, rfl⟩ := Int.eq_ofNat_of_zero_le x0
  rw [Int.toNat_natCast] at hf hbr
  have e1 := u8_and_nat y 64 (by omega) (by omega)
  have b1 : (((y &&& 64 : Nat) : Int) != 0) = false := by rw [bne_eq_false_iff_eq]; have := of_decide_eq_false hf; omega
  have Hr := Lib.hid hr
  have Hib := Lib.hid hib
  obtain ⟨ok, vb, vl, hst, hvb, hvl⟩ := h
  have Hst := Lib.hid hst
  have z1 : (1 : Int) ≤ (seg.length : Int) := by omega
  have hz0 : (0 : Int) < (seg.length : Int) := by omega
  simp only [show ((64 : Nat) : Int) = 64 from rfl] at e1
  obtain ⟨Al, cl, rfl, hcl⟩ := orow_form hvl
  have hlpos := ok.pos hop
  obtain ⟨gl, ol, hle, cl0⟩ := (show RdB w _ s.last from Rd1.of_own hvl).at 0 hlpos
  subst hle
  rw [Nat.add_zero] at cl0
  obtain ⟨l0, l1⟩ := ok.il.at 0 hlpos
  generalize s.last.getD 0 0 = xl at *
  obtain ⟨yl, rfl⟩ := Int.eq_ofNat_of_zero_le l0
  rw [Int.toNat_natCast] at hbr
  obtain ⟨Ab, cb, rfl, hcb⟩ := orow_form hvb
  have t0 := bcell hst 0
  have t1 := bcell hst 1
  have t2 := bcell hst 2
  simp only [List.getElem?_toArray, List.getElem?_cons_zero, List.getElem?_cons_succ] at t0 t1 t2
  rw [hop] at t0
  have n1 : bits .and .u8 (y : Int) 63 = ((y % 64 : Nat) : Int) := by
    have := u8_and_nat y 63 (by omega) (by omega)
    rwa [show (63 : Nat) = 2 ^ 6 - 1 from rfl, Nat.and_two_pow_sub_one_eq_mod] at this
  have n3 : IntKind.u8.wrap ((yl : Int) + 1) = (((yl + 1) % 256 : Nat) : Int) := by rw [IntKind.wrap_u8]; omega
  have n2 : bits .and .u8 (IntKind.u8.wrap ((yl : Int) + 1)) 63 = (((yl + 1) % 64 : Nat) : Int) := by
    have := u8_and_nat ((yl + 1) % 256) 63 (by omega) (by omega)
    rw [show (63 : Nat) = 2 ^ 6 - 1 from rfl, Nat.and_two_pow_sub_one_eq_mod] at this
    rw [n3, show (yl + 1) % 64 = (yl + 1) % 256 % 2 ^ 6 by omega]; exact this
  have n4 : ((yl : Int) + 1) % 64 = (((yl + 1) % 64 : Nat) : Int) := by omega
  clear n3
  generalize y % 64 = m at *
  generalize (yl + 1) % 64 = n at *
  have hlz : (0 : Int) < (s.last.length : Int) := by omega
  have Hl := Lib.hid (show RdB w _ s.last from Rd1.of_own hvl)
  have Hil := Lib.hid ok.il
  have Hne := Lib.hid (decide_eq_false hne)
  have hlb1 := ok.lb
  have hlb2 := ok.ll
  by_cases hmn : m = n
  · subst hmn
    have hl1 : (2048 : Int) < (s.b.length : Int) + (seg.length : Int) - 1 := by
      rcases hbr with h | h
      · exact absurd rfl h
      · omega
    clear hr hib ok hst hvb hvl hf x0 l0 hne hop hbr
    go_enter Try.func12, Try.ntmps12
    go_wp2_with fail
    refine (bytesEq2 _ _ seg s.last _ Hr.out Hl.out Hib.out Hil.out).mono ?_
    rintro e w1 ⟨rfl, rfl⟩
    rw [Hne.out]
    go_wp2_with fail
    refine (jReset _ _ _ _ _ Hst.out).mono ?_
    rintro e w8 ⟨rfl, hj8, hf8⟩
    have Hj8 := Lib.hid hj8
    have Hf8 := Lib.hid hf8
    clear hj8 hf8
    go_wp2_with fail
    go_ret2
    exact ⟨rfl, Hj8.out, Hf8.out⟩
  · have hmn2 : ((m : Int) != (n : Int)) = true := by rw [bne_iff_ne]; omega
    clear hr hib ok hst hvb hvl hf x0 l0 hne hop hbr
    go_enter Try.func12, Try.ntmps12
    go_wp2_with fail
    refine (bytesEq2 _ _ seg s.last _ Hr.out Hl.out Hib.out Hil.out).mono ?_
    rintro e w1 ⟨rfl, rfl⟩
    rw [Hne.out]
    go_wp2_with fail
    refine (jReset _ _ _ _ _ Hst.out).mono ?_
    rintro e w8 ⟨rfl, hj8, hf8⟩
    have Hj8 := Lib.hid hj8
    have Hf8 := Lib.hid hf8
    clear hj8 hf8
    go_wp2_with fail
    go_ret2
    exact ⟨rfl, Hj8.out, Hf8.out⟩

/-- Feed as a function: the state behind, what is told, whether something is told. -/
def feedF (s : JSt) (seg : List Int) : JSt × List Int × Bool :=
  if ¬ (2 ≤ seg.length ∧ seg.length ≤ 250) then (s, [], false)
  else if firB (seg.getD 0 0).toNat = true then
    (if finB (seg.getD 0 0).toNat = true then (JSt.empty, seg.drop 1, true) else (JSt.empty.took seg, [], false))
  else if s.op = false ∨ seg = s.last then (s, [], false)
  else if (seg.getD 0 0).toNat % 64 ≠ ((s.last.getD 0 0).toNat + 1) % 64 ∨ 2049 < s.b.length + seg.length then (JSt.empty, [], false)
  else if finB (seg.getD 0 0).toNat = true then (JSt.empty, s.b ++ seg.drop 1, true) else (s.took seg, [], false)

/-- Feed, whatever comes. What is told lies in a row of its own. -/
theorem feed_any (w : World) (g : Nat) (s : JSt) (v : Value) (seg : List Int) (h : JAt w g s) (hr : RdB w v seg) (hib : IsB seg) :
    Calls Try.prog 12 #[.pointer (some ⟨g, 0, none⟩), v] w fun e w' => ∃ r, e = .returned (.tuple #[r, .bool (feedF s seg).2.2]) ∧
      w'.ownsRow w.heap.size TB 1 r (feedF s seg).2.1.length (u8s (feedF s seg).2.1) ∧ JAt w' g (feedF s seg).1 ∧ Fr (fun k => k = g) w w' := by
  have base : ∀ {r : Value} {w' : World} {n : Nat} {xs : List Value}, w'.ownsRow 0 TB 1 r n xs → (∀ k, r.ownBlock = some k → w.heap.size ≤ k) → w'.ownsRow w.heap.size TB 1 r n xs := by
    intro r w' n xs h1 h2
    refine ⟨h1.1, ?_⟩
    rcases h1.2 with h | ⟨g, cap, cur, rfl, _, q⟩
    · exact .inl h
    · exact .inr ⟨g, cap, cur, rfl, h2 g rfl, q⟩
  unfold feedF
  by_cases c1 : 2 ≤ seg.length ∧ seg.length ≤ 250
  · rw [if_neg (fun h => h c1)]
    obtain ⟨h2, h3⟩ := c1
    by_cases c2 : firB (seg.getD 0 0).toNat = true
    · rw [if_pos c2]
      by_cases c3 : finB (seg.getD 0 0).toNat = true
      · rw [if_pos c3]
        refine (feed_only w g s v seg h hr hib h2 h3 c2 c3).mono ?_
        rintro e w' ⟨r, rfl, h4, h5, h6, h7⟩
        exact ⟨r, rfl, base h4 h5, h6, h7⟩
      · rw [if_neg c3]
        refine (feed_first w g s v seg h hr hib h2 h3 c2 (by simpa using c3)).mono ?_
        rintro e w' ⟨rfl, h6, h7⟩
        exact ⟨_, rfl, orow_nil _ _ _ _, h6, h7⟩
    · rw [if_neg c2]
      have c2' : firB (seg.getD 0 0).toNat = false := by simpa using c2
      by_cases c4 : s.op = false ∨ seg = s.last
      · rw [if_pos c4]
        refine (feed_skip w g s v seg h hr hib h2 h3 c2' c4).mono ?_
        rintro e w' ⟨rfl, rfl⟩
        exact ⟨_, rfl, orow_nil _ _ _ _, h, Fr.refl _ _⟩
      · rw [if_neg c4]
        have hop : s.op = true := by
          cases ho : s.op with
          | true => rfl
          | false => exact absurd (.inl ho) c4
        have hne : seg ≠ s.last := fun e => c4 (.inr e)
        by_cases c5 : (seg.getD 0 0).toNat % 64 ≠ ((s.last.getD 0 0).toNat + 1) % 64 ∨ 2049 < s.b.length + seg.length
        · rw [if_pos c5]
          refine (feed_broken w g s v seg h hr hib h2 h3 c2' hop hne c5).mono ?_
          rintro e w' ⟨rfl, h6, h7⟩
          exact ⟨_, rfl, orow_nil _ _ _ _, h6, h7⟩
        · rw [if_neg c5]
          have c6 : (seg.getD 0 0).toNat % 64 = ((s.last.getD 0 0).toNat + 1) % 64 := by
            by_cases e : (seg.getD 0 0).toNat % 64 = ((s.last.getD 0 0).toNat + 1) % 64
            · exact e
            · exact absurd (.inl e) c5
          have c7 : s.b.length + seg.length ≤ 2049 := by
            by_cases e : 2049 < s.b.length + seg.length
            · exact absurd (.inr e) c5
            · omega
          by_cases c3 : finB (seg.getD 0 0).toNat = true
          · rw [if_pos c3]
            refine (feed_last w g s v seg h hr hib h2 h3 c2' c3 hop hne c6 c7).mono ?_
            rintro e w' ⟨r, rfl, h4, h5, h6, h7⟩
            exact ⟨r, rfl, base h4 h5, h6, h7⟩
          · rw [if_neg c3]
            refine (feed_next w g s v seg h hr hib h2 h3 c2' (by simpa using c3) hop hne c6 c7).mono ?_
            rintro e w' ⟨rfl, h6, h7⟩
            exact ⟨_, rfl, orow_nil _ _ _ _, h6, h7⟩
  · rw [if_pos c1]
    refine (feed_none w g v seg hr c1).mono ?_
    rintro e w' ⟨rfl, rfl⟩
    exact ⟨_, rfl, orow_nil _ _ _ _, h, Fr.refl _ _⟩
end Go.Proofs.Ytaahigdkbmifbaa

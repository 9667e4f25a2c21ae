/-
  RtuSilence: the walk.
-/
import Derived.Test.YtdgmaooioekmnaaRtuFirst
namespace Go.Proofs.Ytdgmaooioekmnaa
open Go.RowKit

theorem byteF_take (bs : List Int) (i : Nat) (hi : i < bs.length) (h : bs.length ≤ 256) : byteF (bs.take i) (bs.getD i 0) = bs.take (i + 1) := by
  unfold byteF
  rw [if_pos (by rw [List.length_take]; omega), List.take_succ_eq_append_getElem hi, List.getD_eq_getElem?_getD, List.getElem?_eq_getElem hi]; rfl
theorem tick_quiet {sil q : Int} {bs : List Int} (h : q + 1 < sil) : tickEnds sil q bs = false := by
  unfold tickEnds
  rw [decide_eq_false (by omega : ¬ sil ≤ q + 1)]; simp
theorem tick_quietQ {sil q : Int} {bs : List Int} (h : q + 1 < sil) (hb : 0 < bs.length) : tickQ sil q bs = q + 1 := by
  unfold tickQ; rw [tick_quiet h, if_neg (by simp), if_pos hb]
theorem tick_quietBs {sil q : Int} {bs : List Int} (h : q + 1 < sil) : tickBs sil q bs = bs := by
  unfold tickBs; rw [tick_quiet h]; rfl
theorem tick_ends {sil q : Int} {bs : List Int} (h : sil ≤ q + 1) (hb : 0 < bs.length) : tickEnds sil q bs = true := by
  unfold tickEnds; simp [h, hb]
theorem tick_endsQ {sil q : Int} {bs : List Int} (h : sil ≤ q + 1) (hb : 0 < bs.length) : tickQ sil q bs = 0 ∧ tickBs sil q bs = [] ∧ tickOut sil q bs = bs := by
  unfold tickQ tickBs tickOut; rw [tick_ends h hb]; simp
theorem tick_none {sil q : Int} : tickEnds sil q [] = false := by simp [tickEnds]
theorem tick_noneQ {sil q : Int} : tickQ sil q [] = q ∧ tickBs sil q [] = [] := by simp [tickQ, tickBs, tickEnds]

theorem tickB_empty (B b : Nat) (sil q : Int) (w : World) (h : FrB B w b sil q []) :
    Calls Try.prog 10 #[.pointer (some ⟨b, 0, none⟩)] w fun e w' => e = .returned (.tuple #[.slice none 0 0, .bool false]) ∧ w = w' := by
  obtain ⟨vb, h1, _, _⟩ := h
  exact frTick_empty b sil q vb w h1

set_option maxRecDepth 20000 in
set_option maxHeartbeats 2000000 in
theorem silence_true (sil gap : Int) (v : Value) (bs : List Int) (w : World) (h : RdB w v bs) (hbs : IsB bs) (hg : gap ≤ 9223372036854775807) :
    Calls Try.prog 4 #[.int .i64 sil, v, .int .i64 gap] w fun e w' => e = .returned (.bool true) ∧ Below w.heap.size w w' := by
  obtain ⟨A, c, rfl, hc⟩ := h.form
  have Hr := Lib.hid h
  have Hi := Lib.hid hbs
  clear h hbs
  by_cases hs : ¬ (1 ≤ sil ∧ sil ≤ 100)
  · have Hs := Lib.hid hs
    clear hs
    go_enter Try.func4, Try.ntmps4
    go_wp2_with fail
    refine (first_true _).mono ?_
    rintro e w1 ⟨rfl, hb1⟩
    have Hb1 := Lib.hid hb1
    clear hb1
    go_wp2_with fail
    refine (rtuNew_bad sil _ Hs.out).mono ?_
    rintro e w2 ⟨rfl, rfl⟩
    go_wp2_with (go_at_call 7; refine (first_true _).mono ?_; rintro e w9 ⟨rfl, hb9⟩)
    go_ret
    exact ⟨rfl, below_next (below_alloc Hb1.out _) hb9⟩
  have hs1 : 1 ≤ sil := by omega
  have hs2 : sil ≤ 100 := by omega
  clear hs
  go_enter Try.func4, Try.ntmps4
  go_wp2_with fail
  refine (first_true _).mono ?_
  rintro e w1 ⟨rfl, hb1⟩
  have Hb1 := Lib.hid hb1
  clear hb1
  go_wp2_with fail
  refine (newB sil _ ⟨hs1, hs2⟩).mono ?_
  rintro e w2 ⟨rfl, hf2, hb2⟩
  have Hf2 := Lib.hid (hf2.lower Hb1.out.size)
  have Hb2 := Lib.hid (below_next Hb1.out hb2)
  clear hf2 hb2
  generalize w1.heap.size = b at *
  by_cases h0 : bs.length = 0
  · have hz : ((bs.length : Int) == 0) = true := beq_iff_eq.2 (by omega)
    clear h0
    go_wp2_with (go_at_call 7; refine (first_true _).mono ?_; rintro e w9 ⟨rfl, hb9⟩)
    go_ret
    exact ⟨rfl, below_next Hb2.out hb9⟩
  have hz : ((bs.length : Int) == 0) = false := beq_eq_false_iff_ne.2 (by omega)
  have hpos : 0 < bs.length := by omega
  clear h0
  by_cases h256 : 256 < bs.length
  · go_wp2_with (go_at_call 7; refine (first_true _).mono ?_; rintro e w9 ⟨rfl, hb9⟩)
    go_ret
    exact ⟨rfl, below_next Hb2.out hb9⟩
  by_cases hg0 : gap < 0
  · go_wp2_with (go_at_call 7; refine (first_true _).mono ?_; rintro e w9 ⟨rfl, hb9⟩)
    go_ret
    exact ⟨rfl, below_next Hb2.out hb9⟩
  by_cases hg1 : sil ≤ gap
  · go_wp2_with (go_at_call 7; refine (first_true _).mono ?_; rintro e w9 ⟨rfl, hb9⟩)
    go_ret
    exact ⟨rfl, below_next Hb2.out hb9⟩
  go_wp2_with fail
  go_loopw [9] (fun t wr => ∃ i : Nat, i ≤ bs.length ∧ t = .int .i64 i ∧ FrB w.heap.size wr b sil 0 (bs.take i) ∧ Below w.heap.size w wr) (fun t _ => bs.length - (intOf t).toNat)
  case atStart => exact ⟨0, by omega, rfl, Hf2.out, Hb2.out⟩
  case round =>
    obtain ⟨i, hi, rfl, hf, hb⟩ := hrel
    have Hf := Lib.hid hf
    have Hb := Lib.hid hb
    clear hf hb Hf2 Hb2
    by_cases hlt : i < bs.length
    · have hpi : 0 < i → 0 < (bs.take i).length := fun h => by rw [List.length_take]; omega
      have Hpi := Lib.hid hpi
      clear hpi
      go_wp2_with fail
      go_loopw [10] (fun t wr => ∃ k : Nat, (k : Int) ≤ gap ∧ t = .int .i64 k ∧ FrB w.heap.size wr b sil (if i = 0 then 0 else k) (bs.take i) ∧ Below w.heap.size w wr) (fun t _ => gap.toNat - (intOf t).toNat)
      case atStart => exact ⟨0, by omega, rfl, by simpa using Hf.out, Hb.out⟩
      case round =>
        obtain ⟨k, hk, rfl, hf, hb⟩ := hrel
        have Hf3 := Lib.hid hf
        have Hb3 := Lib.hid hb
        clear hf hb
        by_cases hgo : (k : Int) < gap ∧ 0 < i
        · obtain ⟨hg2, hi0⟩ := hgo
          have hf4 : FrB w.heap.size wr b sil k (bs.take i) := by have := Hf3.out; rwa [if_neg (by omega)] at this
          have Hf4 := Lib.hid hf4
          clear hf4
          go_wp2_with fail
          refine (tickB _ _ _ _ _ _ Hf4.out).mono ?_
          rintro e w4 ⟨r, rfl, hf5, hb5, _⟩
          rw [tick_quiet (by omega)]
          rw [tick_quietQ (by omega) (Hpi.out hi0), tick_quietBs (by omega)] at hf5
          have Hf5 := Lib.hid hf5
          have Hb5 := Lib.hid (Hb3.out.trans hb5)
          clear hf5 hb5
          go_wp2_with fail
          go_roundw
          case rel => exact ⟨k + 1, by omega, by go_num, by rw [if_neg (by omega)]; exact Hf5.out, Hb5.out⟩
          case measure => simp [intOf]; omega
        · obtain ⟨g, o, rfl, ck⟩ := (Hr.out.below Hb3.out).at i hlt
          have hbyte := byteF_take bs i hlt (by omega)
          have Hbyte := Lib.hid hbyte
          clear hbyte
          generalize bs.getD i 0 = x at *
          have hz1 : (0 : Int) ≤ (i : Int) := by omega
          by_cases hg2 : (k : Int) < gap
          all_goals
            go_wp2_with fail
            refine (byteB _ _ _ _ _ _ _ Hf3.out).mono ?_
            rintro e w4 ⟨rfl, hf5, hb5⟩
            rw [Hbyte.out] at hf5
            have Hf5 := Lib.hid hf5
            have Hb5 := Lib.hid (Hb3.out.trans hb5)
            clear hf5 hb5
            go_wp2_with fail
            go_roundw
            case rel => exact ⟨i + 1, by omega, by go_num, Hf5.out, Hb5.out⟩
            case measure => simp [intOf]; omega
    · have hf' : FrB w.heap.size wr b sil 0 bs := by have := Hf.out; rwa [List.take_of_length_le (by omega)] at this
      have Hf' := Lib.hid hf'
      clear hf' Hf
      go_wp2_with fail
      go_loopw [13] (fun t wr => ∃ k : Nat, 1 ≤ k ∧ (k : Int) ≤ sil ∧ t = .int .i64 k ∧ FrB w.heap.size wr b sil ((k : Int) - 1) bs ∧ Below w.heap.size w wr) (fun t _ => sil.toNat - (intOf t).toNat)
      case atStart => exact ⟨1, by omega, by omega, rfl, by simpa using Hf'.out, Hb.out⟩
      case round =>
        obtain ⟨k, hk1, hk, rfl, hf, hb⟩ := hrel
        have Hf3 := Lib.hid hf
        have Hb3 := Lib.hid hb
        clear hf hb
        by_cases hlt2 : (k : Int) < sil
        · go_wp2_with fail
          refine (tickB _ _ _ _ _ _ Hf3.out).mono ?_
          rintro e w4 ⟨r, rfl, hf5, hb5, _⟩
          rw [tick_quiet (by omega)]
          rw [tick_quietQ (by omega) hpos, tick_quietBs (by omega)] at hf5
          have Hf5 := Lib.hid hf5
          have Hb5 := Lib.hid (Hb3.out.trans hb5)
          clear hf5 hb5
          go_wp2_with fail
          go_roundw
          case rel => exact ⟨k + 1, by omega, by omega, by go_num, by rw [show ((k + 1 : Nat) : Int) - 1 = (k : Int) - 1 + 1 by omega]; exact Hf5.out, Hb5.out⟩
          case measure => simp [intOf]; omega
        · have hte := tick_endsQ (sil := sil) (q := (k : Int) - 1) (bs := bs) (by omega) hpos
          have Hte := Lib.hid hte
          clear hte
          go_wp2_with fail
          refine (tickB _ _ _ _ _ _ Hf3.out).mono ?_
          rintro e w4 ⟨r, rfl, hf5, hb5, hr5⟩
          rw [tick_ends (by omega) hpos]
          rw [Hte.out.1, Hte.out.2.1] at hf5
          rw [Hte.out.2.2] at hr5
          have Hf5 := Lib.hid hf5
          have Hb5 := Lib.hid (Hb3.out.trans hb5)
          have Hr5 := Lib.hid hr5
          clear hf5 hb5 hr5
          go_wp2_with fail
          refine (tickB_empty _ _ _ _ _ Hf5.out).mono ?_
          rintro e w5 ⟨rfl, rfl⟩
          go_wp2_with fail
          refine (first_true _).mono ?_
          rintro e w6 ⟨rfl, hb7⟩
          have Hb7 := Lib.hid hb7
          clear hb7
          go_wp2_with fail
          refine (bytesEq _ _ bs bs _ (Hr5.out.below Hb7.out) (Hr.out.below (below_next Hb5.out Hb7.out)) Hi.out Hi.out).mono ?_
          rintro e w7 ⟨rfl, rfl⟩
          rw [decide_eq_true rfl]
          go_wp2_with fail
          refine (pendB _ _ _ _ _ _ (Hf5.out.below Hb7.out)).mono ?_
          rintro e w7 ⟨rfl, rfl⟩
          go_wp2_with fail
          go_ret
          exact ⟨rfl, below_next Hb5.out Hb7.out⟩
end Go.Proofs.Ytdgmaooioekmnaa

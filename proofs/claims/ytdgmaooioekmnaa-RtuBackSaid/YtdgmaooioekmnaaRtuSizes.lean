/-
  RtuSizes: the walk.
-/
import Derived.Test.YtdgmaooioekmnaaRtuSilence
namespace Go.Proofs.Ytdgmaooioekmnaa
open Go.RowKit

theorem rtuFrame_length (addr : Int) (p : List Int) : (rtuFrame addr p).length = p.length + 3 := by simp [rtuFrame]
theorem rtuFrame_head (addr : Int) (p : List Int) : (rtuFrame addr p).getD 0 0 = addr := rfl
theorem rtuFrame_body (addr : Int) (p : List Int) : ((rtuFrame addr p).take (p.length + 1)).drop 1 = p := by
  have h : (rtuFrame addr p).take (p.length + 1) = addr :: p := by
    rw [show rtuFrame addr p = (addr :: p) ++ _ from rfl, List.take_append_of_le_length (by simp)]
    exact List.take_of_length_le (by simp)
  rw [h]; rfl

set_option maxRecDepth 20000 in
set_option maxHeartbeats 2000000 in
theorem sizes_true (addr sil n : Int) (v : Value) (bs : List Int) (w : World) (h : RdB w v bs) (hbs : IsB bs) (hn : n ≤ 9223372036854775807) :
    Calls Try.prog 5 #[.int .i64 addr, v, .int .i64 sil, .int .i64 n] w fun e w' => e = .returned (.bool true) ∧ Below w.heap.size w w' := by
  obtain ⟨A, c, rfl, hc⟩ := h.form
  have Hr := Lib.hid h
  have Hi := Lib.hid hbs
  clear h hbs
  by_cases hs : ¬ (1 ≤ sil ∧ sil ≤ 100)
  · have Hs := Lib.hid hs
    clear hs
    go_enter Try.func5, Try.ntmps5
    go_wp2_with fail
    refine (first_true _).mono ?_
    rintro e w1 ⟨rfl, hb1⟩
    have Hb1 := Lib.hid hb1
    clear hb1
    go_wp2_with fail
    refine (rtuNew_bad sil _ Hs.out).mono ?_
    rintro e w2 ⟨rfl, rfl⟩
    go_wp2_with (go_at_call 7; refine (first_true _).mono ?_; rintro e w9 ⟨rfl, hb9⟩)
    go_ret
    exact ⟨rfl, below_next (below_alloc Hb1.out _) hb9⟩
  have hs1 : 1 ≤ sil := by omega
  have hs2 : sil ≤ 100 := by omega
  clear hs
  go_enter Try.func5, Try.ntmps5
  go_wp2_with fail
  refine (first_true _).mono ?_
  rintro e w1 ⟨rfl, hb1⟩
  have Hb1 := Lib.hid hb1
  clear hb1
  go_wp2_with fail
  refine (newB sil _ ⟨hs1, hs2⟩).mono ?_
  rintro e w2 ⟨rfl, hf2, hb2⟩
  have Hf2 := Lib.hid (hf2.lower Hb1.out.size)
  have Hb2 := Lib.hid (below_next Hb1.out hb2)
  clear hf2 hb2
  generalize w1.heap.size = b at *
  by_cases h3000 : 3000 < bs.length
  · go_wp2_with (go_at_call 7; refine (first_true _).mono ?_; rintro e w9 ⟨rfl, hb9⟩)
    go_ret
    exact ⟨rfl, below_next Hb2.out hb9⟩
  by_cases hn0 : n < 0
  · go_wp2_with (go_at_call 7; refine (first_true _).mono ?_; rintro e w9 ⟨rfl, hb9⟩)
    go_ret
    exact ⟨rfl, below_next Hb2.out hb9⟩
  by_cases hn1 : 300 < n
  · go_wp2_with (go_at_call 7; refine (first_true _).mono ?_; rintro e w9 ⟨rfl, hb9⟩)
    go_ret
    exact ⟨rfl, below_next Hb2.out hb9⟩
  go_wp2_with fail
  go_loop [11] (fun t => ∃ i : Nat, (i : Int) ≤ n ∧ t = .int .i64 i) (fun t => n.toNat - (intOf t).toNat)
  case atStart => exact ⟨0, by omega, rfl⟩
  case round =>
    obtain ⟨i, hi, rfl⟩ := hrel
    by_cases hlt : (i : Int) < n
    · go_wp2_with fail
      refine (tickB_empty _ _ _ _ _ Hf2.out).mono ?_
      rintro e w5 ⟨rfl, rfl⟩
      go_wp2_with fail
      refine (pendB _ _ _ _ _ _ Hf2.out).mono ?_
      rintro e w5 ⟨rfl, rfl⟩
      simp only [List.length_nil, Int.natCast_zero]
      go_wp2_with fail
      go_round
      case rel => exact ⟨i + 1, by omega, by go_num⟩
      case measure => simp [intOf]; omega
    · by_cases hok : 0 ≤ addr ∧ addr ≤ 255 ∧ 0 < bs.length ∧ bs.length ≤ 253
      · obtain ⟨o1, o2, o3, o4⟩ := hok
        go_wp2_with fail
        refine (rtuFrame_ok addr _ bs _ (Hr.out.below Hb2.out) Hi.out o1 o2 o3 o4).mono ?_
        rintro e w5 ⟨v5, rfl, hown, hb5⟩
        rw [rtuFrame_length] at hown
        obtain ⟨g5, c5, _, rfl, _, _, hc5, hm5, _⟩ := orow_pos hown (by omega)
        have Hrd := Lib.hid (show RdB w5 (.slice (some ⟨g5, 0, none⟩) (bs.length + 3) c5) (rtuFrame addr bs) from Rd1.of_own hown)
        have Hb5 := Lib.hid (below_next Hb2.out hb5)
        clear hown hb5
        go_wp2_with fail
        refine (first_true _).mono ?_
        rintro e w6 ⟨rfl, hb6⟩
        have Hb6 := Lib.hid hb6
        have Hrd6 := Lib.hid (Hrd.out.below hb6)
        clear hb6
        obtain ⟨g', o', he, ck⟩ := Hrd6.out.at 0 (by rw [rtuFrame_length]; omega)
        simp only [Option.some.injEq, Addr.mk.injEq, and_true] at he
        obtain ⟨rfl, rfl⟩ := he
        rw [rtuFrame_head] at ck
        have hcut := Hrd6.out.cut 1 (bs.length + 1) (by omega) (by omega)
        rw [rtuFrame_body] at hcut
        have Hcut := Lib.hid hcut
        have hwr : IntKind.i64.wrap addr = addr := IntWalk.i64_in _ (by omega)
        have hc1 : ¬ c5 = 1 := by omega
        clear hcut
        go_wp2_with fail
        refine (bytesEq _ _ bs bs _ ?_ (Hr.out.below (Below.trans (Hb5.out.mono (Nat.le_refl _)) (Hb6.out.mono Hb5.out.size))) Hi.out Hi.out).mono ?_
        · have := Hcut.out
          simpa using this
        rintro e w7 ⟨rfl, rfl⟩
        rw [decide_eq_true rfl]
        go_wp2_with fail
        go_ret
        exact ⟨rfl, below_next Hb5.out Hb6.out⟩
      · have Hok := Lib.hid hok
        clear hok
        go_wp2_with fail
        refine (rtuFrame_bad addr _ bs _ (Hr.out.below Hb2.out) Hok.out).mono ?_
        rintro e w5 ⟨rfl, rfl⟩
        go_wp2_with (go_at_call 7; refine (first_true _).mono ?_; rintro e w9 ⟨rfl, hb9⟩)
        go_ret
        exact ⟨rfl, below_next (below_alloc Hb2.out _) hb9⟩
end Go.Proofs.Ytdgmaooioekmnaa

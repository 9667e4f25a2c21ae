/-
  TransHeads: the walk.
-/
import Derived.Test.YtaahigdkbmifbaaTransFirst
namespace Go.Proofs.Ytaahigdkbmifbaa
open Go.RowKit

theorem splitF_len (frag : List Int) (seq : Int) : (splitF frag seq).length = segN frag.length := by simp [splitF]
theorem splitF_getD (frag : List Int) (seq : Int) (i : Nat) (hi : i < segN frag.length) : (splitF frag seq).getD i [] = segF frag seq i := by
  rw [List.getD_eq_getElem?_getD]; simp [splitF, hi]
theorem segF_len (frag : List Int) (seq : Int) (i : Nat) : (segF frag seq i).length = 1 + (min (249 * i + 249) frag.length - 249 * i) := by
  simp [segF, Nat.add_comm]
theorem segF_head (frag : List Int) (seq : Int) (i : Nat) : (segF frag seq i).getD 0 0 = (segH frag.length seq i : Int) := rfl
theorem segF_isB {frag : List Int} (h : IsB frag) (seq : Int) (i : Nat) : IsB (segF frag seq i) := by
  intro x hx
  rcases List.mem_cons.1 hx with rfl | hx
  · have := segH_lt frag.length seq i; omega
  · exact h x (List.mem_of_mem_take (List.mem_of_mem_drop hx))
theorem segN_pos {n : Nat} (h : 1 ≤ n) : 1 ≤ segN n := by unfold segN; omega
theorem segN_le {n : Nat} (h : n ≤ 2048) : segN n ≤ 9 := by unfold segN; omega
/-- A segment in the row that Split made. -/
theorem seg_at {B : Nat} {w : World} {g n c : Nat} {frag : List Int} {seq : Int} (h : OwnBs B w (.slice (some ⟨g, 0, none⟩) n c) (splitF frag seq)) (i : Nat) (hi : i < segN frag.length) :
    ∃ gy oy cy, w.cell? ⟨g, i, none⟩ = some (.slice (some ⟨gy, oy, none⟩) (segF frag seq i).length cy) ∧ w.cell? ⟨gy, oy, none⟩ = some (.int .u8 (segH frag.length seq i)) ∧ RdB w (.slice (some ⟨gy, oy, none⟩) (segF frag seq i).length cy) (segF frag seq i) := by
  obtain ⟨g', Ay, cy, hg, hc, ho⟩ := h.at i (by rw [splitF_len]; exact hi)
  simp only [Option.some.injEq, Addr.mk.injEq, and_true] at hg
  subst hg
  rw [splitF_getD _ _ _ hi] at hc ho
  have hr : RdB w (.slice Ay (segF frag seq i).length cy) (segF frag seq i) := Rd1.of_own ho
  obtain ⟨gy, oy, rfl, hc0⟩ := hr.at 0 (by rw [segF_len]; omega)
  exact ⟨gy, oy, cy, hc, hc0, hr⟩
theorem OwnBs.at0 {B : Nat} {w : World} {A : Option Addr} {n c : Nat} {frag : List Int} {seq : Int} (h : OwnBs B w (.slice A n c) (splitF frag seq)) (h1 : 1 ≤ frag.length) : ∃ g, A = some ⟨g, 0, none⟩ := by
  obtain ⟨g, _, _, hg, _⟩ := h.at 0 (by rw [splitF_len]; exact segN_pos h1)
  exact ⟨g, hg⟩

theorem and64_all : ∀ h : Nat, h < 256 → h &&& 64 = 64 * (h / 64 % 2) := by decide +kernel
theorem and128_all : ∀ h : Nat, h < 256 → h &&& 128 = 128 * (h / 128) := by decide +kernel

set_option maxRecDepth 20000 in
set_option maxHeartbeats 4000000 in
theorem heads_true (v : Value) (frag : List Int) (seq : Int) (w : World) (h : RdB w v frag) (hib : IsB frag) :
    Calls Try.prog 6 #[v, .int .i64 seq] w fun e w' => e = .returned (.bool true) ∧ Below w.heap.size w w' := by
  obtain ⟨A, c, rfl, hc⟩ := h.form
  have Hr := Lib.hid h
  have Hi := Lib.hid hib
  clear h hib
  go_enter Try.func6, Try.ntmps6
  go_wp2_with fail
  refine (first_true _).mono ?_
  rintro e w1 ⟨rfl, hb1⟩
  have Hb1 := Lib.hid hb1
  have Hr1 := Lib.hid (Hr.out.below hb1)
  clear hb1
  by_cases h9000 : 9000 < frag.length
  · go_wp2_with (go_at_call 9; refine (first_true _).mono ?_; rintro e w9 ⟨rfl, hb9⟩)
    go_ret
    exact ⟨rfl, below_next Hb1.out hb9⟩
  by_cases hbad : ¬ (1 ≤ frag.length ∧ frag.length ≤ 2048)
  · have Hbad := Lib.hid hbad
    clear hbad
    go_wp2_with fail
    refine (split_bad _ frag seq _ Hr1.out Hbad.out).mono ?_
    rintro e w2 ⟨er, rfl, her, hb2⟩
    obtain ⟨te, ge, rfl⟩ := her.form
    have Hb2 := Lib.hid (below_next Hb1.out hb2)
    clear her hb2
    go_wp2_with (go_at_call 9; refine (first_true _).mono ?_; rintro e w9 ⟨rfl, hb9⟩)
    go_wp2_with fail
    go_ret
    exact ⟨rfl, below_next Hb2.out hb9⟩
  have h1 : 1 ≤ frag.length := by omega
  have h2 : frag.length ≤ 2048 := by omega
  clear hbad
  go_wp2_with fail
  refine (split_ok _ frag seq _ Hr1.out Hi.out h1 h2).mono ?_
  rintro e w2 ⟨v2, rfl, hown2, hb2⟩
  obtain ⟨A2, c2, rfl, _⟩ := hown2.form
  obtain ⟨g2, rfl⟩ := hown2.at0 h1
  have Hown := Lib.hid hown2
  have Hb2 := Lib.hid (below_next Hb1.out hb2)
  rw [splitF_len]
  obtain ⟨s0, hs0⟩ : ∃ s0 : Nat, (s0 : Int) = seq % 64 := ⟨(seq % 64).toNat, by omega⟩
  have fseq : bits .and .i64 seq 63 = (s0 : Int) := by rw [and_63, hs0]
  have fend : bits .and .i64 ((s0 : Int) + (segN frag.length : Int)) 63 = (seq + segN frag.length) % 64 := by rw [and_63]; omega
  have hL1 := segN_pos h1
  have hL9 := segN_le h2
  have hLn : frag.length ≤ 249 * segN frag.length := by unfold segN; omega
  have hLm : 249 * segN frag.length < frag.length + 249 := by unfold segN; omega
  have Hs0 := Lib.hid hs0
  have hs064 : s0 < 64 := by omega
  have Hsl := Lib.hid (fun i => segF_len frag seq i)
  have Hat := Lib.hid (fun i hi => seg_at hown2 i hi)
  clear hs0 hown2 hb2
  generalize hL : segN frag.length = L at *
  have HL := Lib.hid hL
  generalize (seq + (L : Int)) % 64 = nx at *
  clear hL
  go_wp2_with fail
  go_loopw [8, 9] (fun vn vi wr => ∃ i : Nat, i ≤ L ∧ vi = .int .i64 i ∧ vn = .int .i64 (min (249 * i) frag.length : Nat) ∧ wr = w2) (fun _ vi _ => L - (intOf vi).toNat)
  case atStart => exact ⟨0, by omega, rfl, rfl, rfl⟩
  case round =>
    obtain ⟨i, hi, rfl, rfl, rfl⟩ := hrel
    by_cases hlt : i < L
    · obtain ⟨gy, oy, cy, ca, cb, _⟩ := Hat.out i hlt
      have hsl := Hsl.out i
      obtain ⟨m, hm⟩ : ∃ m : Nat, (m : Int) = (seq + i) % 64 := ⟨((seq + i) % 64).toNat, by omega⟩
      have hH : segH frag.length seq i = m + (if i = 0 then 64 else 0) + (if i + 1 < L then 0 else 128) := by
        unfold segH
        rw [show ((seq + (i : Int)) % 64).toNat = m by omega]
        by_cases hq : i + 1 < L
        · rw [if_pos hq, if_pos (show 249 * i + 249 < frag.length by omega)]
        · rw [if_neg hq, if_neg (show ¬ 249 * i + 249 < frag.length by omega)]
      have hm64 : m < 64 := by omega
      have fm : bits .and .i64 ((s0 : Int) + (i : Int)) 63 = (m : Int) := by rw [and_63]; have := Hs0.out; omega
      generalize segH frag.length seq i = hh at *
      generalize (segF frag seq i).length = ln at *
      have hh256 : hh < 256 := by rw [hH]; split <;> split <;> omega
      have fh : bits .and .i64 (hh : Int) 63 = (m : Int) := by rw [and_63, hH]; split <;> split <;> omega
      have a64 := u8_and_nat hh 64 hh256 (by omega)
      have a128 := u8_and_nat hh 128 hh256 (by omega)
      rw [and64_all hh hh256] at a64
      rw [and128_all hh hh256] at a128
      simp only [show ((64 : Nat) : Int) = 64 from rfl, show ((128 : Nat) : Int) = 128 from rfl] at a64 a128
      by_cases hi0 : i = 0
      · have hz : ((i : Int) == 0) = true := beq_iff_eq.2 (by omega)
        rw [show 64 * (hh / 64 % 2) = 64 by rw [hH, if_pos hi0]; split <;> omega] at a64
        by_cases hq : i + 1 < L
        · rw [show 128 * (hh / 128) = 0 by rw [hH, if_pos hi0, if_pos hq]; omega] at a128
          have hl := (beq_eq_false_iff_ne.2 (by omega) : ((i : Int) == (L : Int) - 1) = false); have hc := (show (i : Int) < (L : Int) - 1 by omega); have hln := (show ln = 250 by omega); have hmn : min (249 * (i + 1)) frag.length = min (249 * i) frag.length + (ln - 1) := (by omega); have Hmn := Lib.hid hmn; have hln2 : 2 ≤ ln := (by omega); have hq9 : min (249 * i) frag.length ≤ 2048 := (by omega); clear hmn hH hsl hi0 hq; generalize min (249 * i) frag.length = q at *; have hln1 : ((ln - 1 : Nat) : Int) = (ln : Int) - 1 := (by omega); (go_wp2_with fail); go_roundw; (case rel => exact ⟨i + 1, by omega, by go_num, by rw [Hmn.out]; go_num, trivial⟩); (case measure => simp [intOf]; omega)
        · rw [show 128 * (hh / 128) = 128 by rw [hH, if_pos hi0, if_neg hq]; omega] at a128
          have hl := (beq_iff_eq.2 (by omega) : ((i : Int) == (L : Int) - 1) = true); have hc := (show ¬ (i : Int) < (L : Int) - 1 by omega); have hln := (show ln ≤ 250 by omega); have hmn : min (249 * (i + 1)) frag.length = min (249 * i) frag.length + (ln - 1) := (by omega); have Hmn := Lib.hid hmn; have hln2 : 2 ≤ ln := (by omega); have hq9 : min (249 * i) frag.length ≤ 2048 := (by omega); clear hmn hH hsl hi0 hq; generalize min (249 * i) frag.length = q at *; have hln1 : ((ln - 1 : Nat) : Int) = (ln : Int) - 1 := (by omega); (go_wp2_with fail); go_roundw; (case rel => exact ⟨i + 1, by omega, by go_num, by rw [Hmn.out]; go_num, trivial⟩); (case measure => simp [intOf]; omega)
      · have hz : ((i : Int) == 0) = false := beq_eq_false_iff_ne.2 (by omega)
        rw [show 64 * (hh / 64 % 2) = 0 by rw [hH, if_neg hi0]; split <;> omega] at a64
        by_cases hq : i + 1 < L
        · rw [show 128 * (hh / 128) = 0 by rw [hH, if_neg hi0, if_pos hq]; omega] at a128
          have hl := (beq_eq_false_iff_ne.2 (by omega) : ((i : Int) == (L : Int) - 1) = false); have hc := (show (i : Int) < (L : Int) - 1 by omega); have hln := (show ln = 250 by omega); have hmn : min (249 * (i + 1)) frag.length = min (249 * i) frag.length + (ln - 1) := (by omega); have Hmn := Lib.hid hmn; have hln2 : 2 ≤ ln := (by omega); have hq9 : min (249 * i) frag.length ≤ 2048 := (by omega); clear hmn hH hsl hi0 hq; generalize min (249 * i) frag.length = q at *; have hln1 : ((ln - 1 : Nat) : Int) = (ln : Int) - 1 := (by omega); (go_wp2_with fail); go_roundw; (case rel => exact ⟨i + 1, by omega, by go_num, by rw [Hmn.out]; go_num, trivial⟩); (case measure => simp [intOf]; omega)
        · rw [show 128 * (hh / 128) = 128 by rw [hH, if_neg hi0, if_neg hq]; omega] at a128
          have hl := (beq_iff_eq.2 (by omega) : ((i : Int) == (L : Int) - 1) = true); have hc := (show ¬ (i : Int) < (L : Int) - 1 by omega); have hln := (show ln ≤ 250 by omega); have hmn : min (249 * (i + 1)) frag.length = min (249 * i) frag.length + (ln - 1) := (by omega); have Hmn := Lib.hid hmn; have hln2 : 2 ≤ ln := (by omega); have hq9 : min (249 * i) frag.length ≤ 2048 := (by omega); clear hmn hH hsl hi0 hq; generalize min (249 * i) frag.length = q at *; have hln1 : ((ln - 1 : Nat) : Int) = (ln : Int) - 1 := (by omega); (go_wp2_with fail); go_roundw; (case rel => exact ⟨i + 1, by omega, by go_num, by rw [Hmn.out]; go_num, trivial⟩); (case measure => simp [intOf]; omega)
    · have hiL : i = L := by omega
      have hmin : min (249 * i) frag.length = frag.length := by omega
      rw [hmin]
      have Hii := Lib.hid hiL
      clear hiL hmin
      go_wp2_with fail
      refine (first_true _).mono ?_
      rintro e w9 ⟨rfl, hb9⟩
      go_wp2_with fail
      go_ret
      exact ⟨rfl, below_next Hb2.out hb9⟩
end Go.Proofs.Ytaahigdkbmifbaa

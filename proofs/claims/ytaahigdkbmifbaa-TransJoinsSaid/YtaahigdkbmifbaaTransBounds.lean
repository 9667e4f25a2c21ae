/-
  TransBounds: the walk; few.
-/
import Derived.Test.YtaahigdkbmifbaaTransFirst
import Derived.Test.YtaahigdkbmifbaaLawBB
namespace Go.Proofs.Ytaahigdkbmifbaa
open Go.RowKit

def FewRet (n : Nat) (e : Ending) : Prop := ∃ b : Bool, e = .returned (.bool b) ∧ (b = true → n ≤ 300)
set_option maxRecDepth 20000 in
set_option maxHeartbeats 1000000 in
theorem few_any (v : Value) (xss : List (List Int)) (w : World) (h : RdBs w v xss) : Calls Try.prog 15 #[v] w fun e w' => FewRet xss.length e ∧ w = w' := by
  obtain ⟨A, c, rfl, hc⟩ := h.form
  have Hr := Lib.hid h
  clear h
  go_enter Try.func15, Try.ntmps15
  go_wp2_with fail
  go_loopw [3, 4] (fun vn vi wr => ∃ i n : Nat, i ≤ xss.length ∧ i ≤ 300 ∧ n ≤ 9001 * i ∧ vi = .int .i64 i ∧ vn = .int .i64 n ∧ wr = w) (fun _ vi _ => xss.length - (intOf vi).toNat)
  case atStart => exact ⟨0, 0, by omega, by omega, by omega, rfl, rfl, rfl⟩
  case round =>
    obtain ⟨i, n, hi, hi3, hn, rfl, rfl, rfl⟩ := hrel
    by_cases hlt : i < xss.length
    · by_cases h3 : i < 300
      · obtain ⟨g, o, rfl⟩ := Hr.out.at0 (by omega)
        obtain ⟨Ay, cy, ca, _⟩ := Hr.out.at i hlt
        generalize (xss.getD i []).length = ln at *
        by_cases hln : 9001 < ln
        · go_wp2_with fail
          go_roundw
          case rel => exact ⟨i + 1, n + 9001, by omega, by omega, by omega, by go_num, by go_num, trivial⟩
          case measure => simp [intOf]; omega
        · by_cases hln2 : ln = 9001
          · subst hln2
            go_wp2_with fail
            go_roundw
            case rel => exact ⟨i + 1, n + 9001, by omega, by omega, by omega, by go_num, by go_num, trivial⟩
            case measure => simp [intOf]; omega
          · have hln3 : ln < 9001 := by omega
            clear hln hln2
            go_wp2_with fail
            go_roundw
            case rel => exact ⟨i + 1, n + ln, by omega, by omega, by omega, by go_num, by go_num, trivial⟩
            case measure => simp [intOf]; omega
      · have h4 : 300 ≤ i := by omega
        clear h3 hi3
        go_wp2_with fail
        all_goals go_ret
        all_goals exact ⟨⟨_, rfl, fun h => by first | (cases h; done) | omega⟩, rfl⟩
    · go_wp2_with fail
      all_goals go_ret
      all_goals exact ⟨⟨_, rfl, fun h => by first | (cases h; done) | omega⟩, rfl⟩

/-- What Feed tells, and what is there behind it. -/
theorem feedF_told {s : JSt} {seg : List Int} (h : JOk s) (ht : (feedF s seg).2.2 = true) : (feedF s seg).1.op = false ∧ 1 ≤ (feedF s seg).2.1.length ∧ (feedF s seg).2.1.length ≤ 2048 := by
  have h1 := h.lb
  unfold feedF at ht ⊢
  by_cases c1 : ¬ (2 ≤ seg.length ∧ seg.length ≤ 250)
  · rw [if_pos c1] at ht; cases ht
  rw [if_neg c1] at ht ⊢
  by_cases c2 : firB (seg.getD 0 0).toNat = true
  · rw [if_pos c2] at ht ⊢
    by_cases c3 : finB (seg.getD 0 0).toNat = true
    · rw [if_pos c3] at ht ⊢
      simp [JSt.empty]; omega
    · rw [if_neg c3] at ht; cases ht
  rw [if_neg c2] at ht ⊢
  by_cases c4 : s.op = false ∨ seg = s.last
  · rw [if_pos c4] at ht; cases ht
  rw [if_neg c4] at ht ⊢
  by_cases c5 : (seg.getD 0 0).toNat % 64 ≠ ((s.last.getD 0 0).toNat + 1) % 64 ∨ 2049 < s.b.length + seg.length
  · rw [if_pos c5] at ht; cases ht
  rw [if_neg c5] at ht ⊢
  by_cases c3 : finB (seg.getD 0 0).toNat = true
  · rw [if_pos c3] at ht ⊢
    simp [JSt.empty]; omega
  · rw [if_neg c3] at ht; cases ht
theorem feedF_untold {s : JSt} {seg : List Int} (ht : (feedF s seg).2.2 = false) : (feedF s seg).2.1 = [] := by
  unfold feedF at ht ⊢
  by_cases c1 : ¬ (2 ≤ seg.length ∧ seg.length ≤ 250)
  · rw [if_pos c1]
  rw [if_neg c1] at ht ⊢
  by_cases c2 : firB (seg.getD 0 0).toNat = true
  · rw [if_pos c2] at ht ⊢
    by_cases c3 : finB (seg.getD 0 0).toNat = true
    · rw [if_pos c3] at ht; cases ht
    · rw [if_neg c3]
  rw [if_neg c2] at ht ⊢
  by_cases c4 : s.op = false ∨ seg = s.last
  · rw [if_pos c4]
  rw [if_neg c4] at ht ⊢
  by_cases c5 : (seg.getD 0 0).toNat % 64 ≠ ((s.last.getD 0 0).toNat + 1) % 64 ∨ 2049 < s.b.length + seg.length
  · rw [if_pos c5]
  rw [if_neg c5] at ht ⊢
  by_cases c3 : finB (seg.getD 0 0).toNat = true
  · rw [if_pos c3] at ht; cases ht
  · rw [if_neg c3]

set_option maxRecDepth 20000 in
set_option maxHeartbeats 2000000 in
theorem bounds_true (v : Value) (xss : List (List Int)) (w : World) (h : RdBs w v xss) (hib : ∀ xs ∈ xss, IsB xs) :
    Calls Try.prog 4 #[v] w fun e w' => e = .returned (.bool true) ∧ Below w.heap.size w w' := by
  obtain ⟨A, c, rfl, hc⟩ := h.form
  have Hr := Lib.hid h
  have Hi := Lib.hid hib
  clear h hib
  go_enter Try.func4, Try.ntmps4
  go_wp2_with fail
  refine (first_true _).mono ?_
  rintro e w1 ⟨rfl, hb1⟩
  have Hb1 := Lib.hid hb1
  clear hb1
  go_wp2_with fail
  refine (transNew _).mono ?_
  rintro e w2 ⟨rfl, hj2, hb2⟩
  have Hb2 := Lib.hid (below_next Hb1.out hb2)
  have Hj2 := Lib.hid hj2
  have hgj := Hb1.out.size
  clear hj2 hb2
  generalize w1.heap.size = gj at *
  go_wp2_with fail
  refine (few_any _ xss _ (Hr.out.below Hb2.out)).mono ?_
  rintro e w3 ⟨⟨b, rfl, hbn⟩, rfl⟩
  cases b with
  | false =>
    go_wp2_with (go_at_call 9; refine (first_true _).mono ?_; rintro e w9 ⟨rfl, hb9⟩)
    go_wp2_with fail
    go_ret
    exact ⟨rfl, below_next Hb2.out hb9⟩
  | true =>
    have hx300 := hbn rfl
    clear hbn
    go_wp2_with fail
    go_loopw [4] (fun vi wr => ∃ (i : Nat) (s : JSt), i ≤ xss.length ∧ vi = .int .i64 i ∧ JAt wr gj s ∧ Below w.heap.size w wr) (fun vi _ => xss.length - (intOf vi).toNat)
    case atStart => exact ⟨0, _, by omega, rfl, Hj2.out, Hb2.out⟩
    case round =>
      obtain ⟨i, s, hi, rfl, hj, hb⟩ := hrel
      have Hj := Lib.hid hj
      have Hb := Lib.hid hb
      clear hj hb
      by_cases hlt : i < xss.length
      · obtain ⟨g, o, rfl⟩ := Hr.out.at0 (by omega)
        obtain ⟨Ay, cy, ca, hseg⟩ := Hr.out.at i hlt
        have ca := below_cell Hb.out ca
        have Hseg := Lib.hid (hseg.below Hb.out)
        have hib : IsB (xss.getD i []) := Hi.out _ (by rw [List.getD_eq_getElem?_getD, List.getElem?_eq_getElem hlt]; exact List.getElem_mem _)
        have Hib := Lib.hid hib
        clear hseg hib
        generalize xss.getD i [] = seg at *
        go_wp2_with fail
        refine (feed_any _ _ s _ seg Hj.out Hseg.out Hib.out).mono ?_
        rintro e w4 ⟨r, rfl, hown4, hj4, hf4⟩
        obtain ⟨Ar, cr, rfl, _⟩ := orow_form hown4
        have Hb4 := Lib.hid (Hb.out.trans (hf4.belowB Hb.out.size (fun k hk => by omega)))
        have Hj4 := Lib.hid hj4
        clear hown4 hj4 hf4
        cases ht : (feedF s seg).2.2 with
        | true =>
          obtain ⟨q1, q2, q3⟩ := feedF_told Hj.out.ok ht
          have hne : (((feedF s seg).2.1.length : Int) == 0) = false := beq_eq_false_iff_ne.2 (by omega)
          generalize (feedF s seg).2.1.length = lr at *
          have Hq := Lib.hid q1
          clear ht q1
          go_wp2_with fail
          refine (jOpen _ _ _ Hj4.out).mono ?_
          rintro e w5 ⟨rfl, rfl⟩
          rw [Hq.out]
          go_wp2_with fail
          go_roundw
          case rel => exact ⟨i + 1, _, by omega, by go_num, Hj4.out, Hb4.out⟩
          case measure => simp [intOf]; omega
        | false =>
          have q := feedF_untold ht
          rw [q, List.length_nil]
          clear ht q
          go_wp2_with fail
          go_roundw
          case rel => exact ⟨i + 1, _, by omega, by go_num, Hj4.out, Hb4.out⟩
          case measure => simp [intOf]; omega
      · go_wp2_with (go_at_call 9; refine (first_true _).mono ?_; rintro e w9 ⟨rfl, hb9⟩)
        go_wp2_with fail
        go_ret
        exact ⟨rfl, below_next Hb.out hb9⟩
end Go.Proofs.Ytaahigdkbmifbaa

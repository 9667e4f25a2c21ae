/-
  TransBack: the walk.
-/
import Derived.Test.YtaahigdkbmifbaaTransMath
import Derived.Deep.Cut
import Derived.Deep.CutRange
import Derived.Deep.LoopGhost
namespace Go.Proofs.Ytaahigdkbmifbaa
open Go.RowKit

theorem JAt.blk {w : World} {g : Nat} {s : JSt} (h : JAt w g s) : ∃ cs, w.heap[g]? = some (.cells cs TJ (0, 0)) := by
  obtain ⟨_, vb, vl, h1, _⟩ := h
  exact ⟨_, h1⟩
theorem JAt.lt {w : World} {g : Nat} {s : JSt} (h : JAt w g s) : g < w.heap.size := by
  obtain ⟨cs, hc⟩ := h.blk
  exact blt hc
/-- Another joiner is fed. -/
theorem JAt.other {w w' : World} {g g' : Nat} {s s' : JSt} (h : JAt w g s) (h2 : JAt w g' s') (hf : Fr (fun k => k = g') w w') (hne : g ≠ g') : JAt w' g s := by
  obtain ⟨cs, hc⟩ := h2.blk
  exact h.fr hf hne (fun k cs' hk e => by rw [hk, hc] at e; simp only [Option.some.injEq, Obj.cells.injEq] at e; exact absurd e.2.1 (by decide))
theorem OwnBs.frJ {B : Nat} {w w' : World} {v : Value} {xss : List (List Int)} {g : Nat} {s : JSt} (h : OwnBs B w v xss) (h2 : JAt w g s) (hf : Fr (fun k => k = g) w w') : OwnBs B w' v xss := by
  obtain ⟨cs, hc⟩ := h2.blk
  obtain ⟨ys, q1, q2, q3⟩ := h
  exact ⟨ys, orow_fr q1 hf (fun k hk e => orow_ne q1 hc (by decide) (e ▸ hk)), q2, fun i y xs hy hx => orow_fr (q3 i y xs hy hx) hf (fun k hk e => orow_ne (q3 i y xs hy hx) hc (by decide) (e ▸ hk))⟩

/-- Two joiners and the segments. -/
structure BackSt (w W : World) (B gj gk : Nat) (v2 : Value) (frag : List Int) (seq : Int) (sj sk : JSt) : Prop where
  j : JAt W gj sj
  k : JAt W gk sk
  l : OwnBs B W v2 (splitF frag seq)
  b : Below w.heap.size w W
theorem BackSt.feedJ {w W W' : World} {B gj gk : Nat} {v2 : Value} {frag : List Int} {seq : Int} {sj sk s' : JSt} (h : BackSt w W B gj gk v2 frag seq sj sk) (hf : Fr (fun k => k = gj) W W') (hj : JAt W' gj s') (hne : gj ≠ gk) (hlt : w.heap.size ≤ gj) : BackSt w W' B gj gk v2 frag seq s' sk :=
  ⟨hj, h.k.other h.j hf hne.symm, h.l.frJ h.j hf, h.b.trans (hf.belowB h.b.size (fun k hk => by omega))⟩
theorem BackSt.feedK {w W W' : World} {B gj gk : Nat} {v2 : Value} {frag : List Int} {seq : Int} {sj sk s' : JSt} (h : BackSt w W B gj gk v2 frag seq sj sk) (hf : Fr (fun k => k = gk) W W') (hk : JAt W' gk s') (hne : gj ≠ gk) (hlt : w.heap.size ≤ gk) : BackSt w W' B gj gk v2 frag seq sj s' :=
  ⟨h.j.other h.k hf hne, hk, h.l.frJ h.k hf, h.b.trans (hf.belowB h.b.size (fun k hk => by omega))⟩
abbrev RdI (w : World) (v : Value) (xs : List Int) : Prop := Rd1 (Value.int .i64) 0 w v xs

set_option maxRecDepth 20000 in
set_option maxHeartbeats 4000000 in
theorem back_true (vf : Value) (frag : List Int) (seq : Int) (vt : Value) (ts : List Int) (lacks : Int) (vb : Value) (bef : List Int) (w : World) (hf : RdB w vf frag) (hfi : IsB frag) (ht : RdI w vt ts) (hb : RdB w vb bef) (hbi : IsB bef) :
    Calls Try.prog 3 #[vf, .int .i64 seq, vt, .int .i64 lacks, vb] w fun e w' => e = .returned (.bool true) ∧ Below w.heap.size w w' := by
  obtain ⟨Af, cf, rfl, hcf⟩ := hf.form
  obtain ⟨At, ct, rfl, hct⟩ := ht.form
  obtain ⟨Ab, cb, rfl, hcb⟩ := hb.form
  have Hrf := Lib.hid hf
  have Hif := Lib.hid hfi
  have Hrt := Lib.hid ht
  have Hrb := Lib.hid hb
  have Hib := Lib.hid hbi
  clear hf hfi ht hb hbi
  go_enter Try.func3, Try.ntmps3
  go_wp2_with fail
  refine (first_true _).mono ?_
  rintro e w1 ⟨rfl, hb1⟩
  have Hb1 := Lib.hid hb1
  clear hb1
  go_wp2_with fail
  refine (transNew _).mono ?_
  rintro e w2 ⟨rfl, hj2, hb2⟩
  have Hb2 := Lib.hid (below_next Hb1.out hb2)
  have Hj2 := Lib.hid hj2
  have hgj := Hb1.out.size
  have hjk := hj2.lt
  clear hj2 hb2
  generalize w1.heap.size = gj at *
  go_wp2_with fail
  refine (transNew _).mono ?_
  rintro e w3 ⟨rfl, hk3, hb3⟩
  have Hb3 := Lib.hid (below_next Hb2.out hb3)
  have Hj3 := Lib.hid (Hj2.out.below hb3)
  have Hk3 := Lib.hid hk3
  clear hk3 hb3
  generalize w2.heap.size = gq at *
  have hne : gj ≠ gq := by omega
  by_cases h9000 : 9000 < frag.length
  · go_wp2_with (go_at_call 9; refine (first_true _).mono ?_; rintro e w9 ⟨rfl, hb9⟩)
    go_wp2_with fail
    go_ret
    exact ⟨rfl, below_next Hb3.out hb9⟩
  by_cases h9000b : 9000 < bef.length
  · go_wp2_with (go_at_call 9; refine (first_true _).mono ?_; rintro e w9 ⟨rfl, hb9⟩)
    go_wp2_with fail
    go_ret
    exact ⟨rfl, below_next Hb3.out hb9⟩
  by_cases hbad : ¬ (1 ≤ frag.length ∧ frag.length ≤ 2048)
  · have Hbad := Lib.hid hbad
    by_cases h0 : frag.length = 0
    · have hz : ((frag.length : Int) == 0) = true := beq_iff_eq.2 (by omega)
      clear hbad h0
      go_wp2_with fail
      refine (split_bad _ frag seq _ (Hrf.out.below Hb3.out) Hbad.out).mono ?_
      rintro e w4 ⟨er, rfl, her, hb4⟩
      obtain ⟨te, ge, rfl⟩ := her.form
      have Hb4 := Lib.hid (below_next Hb3.out hb4)
      clear her hb4
      go_wp2_with (go_at_call 9; refine (first_true _).mono ?_; rintro e w9 ⟨rfl, hb9⟩)
      go_wp2_with fail
      go_ret
      exact ⟨rfl, below_next Hb4.out hb9⟩
    · have hz : ((frag.length : Int) == 0) = false := beq_eq_false_iff_ne.2 (by omega)
      have h2 : 2048 < frag.length := by omega
      clear hbad h0
      go_wp2_with fail
      refine (split_bad _ frag seq _ (Hrf.out.below Hb3.out) Hbad.out).mono ?_
      rintro e w4 ⟨er, rfl, her, hb4⟩
      obtain ⟨te, ge, rfl⟩ := her.form
      have Hb4 := Lib.hid (below_next Hb3.out hb4)
      clear her hb4
      go_wp2_with (go_at_call 9; refine (first_true _).mono ?_; rintro e w9 ⟨rfl, hb9⟩)
      go_wp2_with fail
      go_ret
      exact ⟨rfl, below_next Hb4.out hb9⟩
  have h1 : 1 ≤ frag.length := by omega
  have h2 : frag.length ≤ 2048 := by omega
  clear hbad
  go_wp2_with fail
  refine (split_ok _ frag seq _ (Hrf.out.below Hb3.out) Hif.out h1 h2).mono ?_
  rintro e w4 ⟨v4, rfl, hown4, hb4⟩
  obtain ⟨A4, c4, rfl, _⟩ := hown4.form
  obtain ⟨g4, rfl⟩ := hown4.at0 h1
  have Hst4 := Lib.hid (show BackSt w w4 w3.heap.size gj gq (.slice (some ⟨g4, 0, none⟩) (splitF frag seq).length c4) frag seq JSt.empty JSt.empty from ⟨Hj3.out.below hb4, Hk3.out.below hb4, hown4, below_next Hb3.out hb4⟩)
  clear hown4 hb4
  have hgq : w.heap.size ≤ gq := by omega
  go_wp2_with fail
  refine (feed_any _ _ _ _ bef Hst4.out.j (Hrb.out.below Hst4.out.b) Hib.out).mono ?_
  rintro e w5 ⟨r5, rfl, hown5, hj5, hf5⟩
  obtain ⟨A5, c5, rfl, _⟩ := orow_form hown5
  have Hst5 := Lib.hid (Hst4.out.feedJ hf5 hj5 hne hgj)
  clear hown5 hj5 hf5
  generalize w3.heap.size = B at *
  generalize (feedF JSt.empty bef).1 = s0 at *
  have hL1 := segN_pos h1
  have hL9 := segN_le h2
  rw [splitF_len]
  generalize hL : segN frag.length = L at *
  have HL := Lib.hid hL
  clear hL
  go_wp2_with fail
  go_loopg [16, 17] L (fun g told vi wr => ∃ (i tn : Nat) (sj sk : JSt), i ≤ L ∧ g = L - i ∧ vi = .int .i64 i ∧ told = .int .i64 tn ∧ BackSt w wr B gj gq (.slice (some ⟨g4, 0, none⟩) (splitF frag seq).length c4) frag seq sj sk ∧ (i < L → sj = jst frag seq s0 i ∧ tn = 0) ∧ (i = L → sj = JSt.empty ∧ tn = 1) ∧ (∀ q : Nat, lacks = (q : Int) → q < L → sk = kst frag seq q i))
  case atStart => exact ⟨0, 0, s0, JSt.empty, by omega, by omega, rfl, rfl, Hst5.out, fun _ => ⟨rfl, rfl⟩, fun h => absurd h (by omega), fun q _ _ => by unfold kst; rw [if_pos (Nat.zero_le _)]; rfl⟩
  case round =>
    obtain ⟨i, tn, sj, sk, hi, hg, rfl, rfl, hst, hmid, hend, hkk⟩ := hrel
    have Hst := Lib.hid hst
    have Hkk := Lib.hid hkk
    by_cases hlt : i < L
    · obtain ⟨hsj, htn⟩ := hmid hlt
      have Hsj := Lib.hid hsj
      subst htn
      clear hst hmid hend hkk hsj
      go_upto_region 15 with fail
      go_cut [96] from 80 to 155 (fun n wx => ∃ c : Bool, n = .bool c ∧ (c = true → i < ts.length ∧ i + 1 < L) ∧ wx = wr)
      case first =>
        by_cases hc1 : i < ts.length
        · by_cases hc2 : i + 1 < L
          · have hc3 : (i : Int) < (L : Int) - 1 := by omega
            go_wp2_with fail
            go_meet
            exact ⟨true, rfl, fun _ => ⟨hc1, hc2⟩, rfl⟩
          · have hc3 : ¬ (i : Int) < (L : Int) - 1 := by omega
            go_wp2_with fail
            go_meet
            exact ⟨false, rfl, (fun h => by cases h), rfl⟩
        · go_wp2_with fail
          go_meet
          exact ⟨false, rfl, (fun h => by cases h), rfl⟩
      case rest =>
      obtain ⟨c, rfl, hcc, rfl⟩ := hcut
      go_upto_if 96 with fail
      go_cut [18] from 80 to 155 (fun n wx => ∃ m : Nat, 1 ≤ m ∧ m ≤ 3 ∧ (i + 1 = L → m = 1) ∧ n = .int .i64 m ∧ wx = wc)
      case first =>
        cases c with
        | true =>
          obtain ⟨hc1, hc2⟩ := hcc rfl
          clear hcc
          obtain ⟨gt, ot, rfl, ctm⟩ := (Hrt.out.below Hst.out.b).at i hc1
          generalize ts.getD i 0 = t at *
          go_wp2_with fail
          all_goals go_meet
          all_goals first
            | exact ⟨1, by omega, by omega, by omega, rfl, rfl⟩
            | exact ⟨3, by omega, by omega, by omega, rfl, rfl⟩
            | exact ⟨t.toNat, by omega, by omega, by omega, by rw [Int.toNat_of_nonneg (by omega)], rfl⟩
            | (exfalso; omega)
        | false =>
          go_wp2_with fail
          go_meet
          exact ⟨1, by omega, by omega, by omega, rfl, rfl⟩
      case rest =>
        obtain ⟨m, hm1, hm3, hmL, rfl, rfl⟩ := hcut
        have hlen := segF_sz (frag := frag) (seq := seq) (i := i) (by rw [HL.out]; exact hlt)
        have Hib2 := Lib.hid (segF_isB Hif.out seq i)
        go_wp2_with fail
        go_loopg [16, 18] m (fun g told n wx => ∃ (k tn : Nat) (sj' : JSt), g = k ∧ k ≤ 3 ∧ n = .int .i64 k ∧ told = .int .i64 tn ∧ BackSt w wx B gj gq (.slice (some ⟨g4, 0, none⟩) (splitF frag seq).length c4) frag seq sj' sk ∧
          (i + 1 < L → tn = 0 ∧ feedF sj' (segF frag seq i) = (jst frag seq s0 (i + 1), [], false) ∧ (k = 0 → sj' = jst frag seq s0 (i + 1))) ∧ (i + 1 = L → (k = 1 ∧ sj' = jst frag seq s0 i ∧ tn = 0) ∨ (k = 0 ∧ sj' = JSt.empty ∧ tn = 1)))
        case atStart => exact ⟨m, 0, sj, rfl, hm3, rfl, rfl, Hst.out, fun h => ⟨rfl, by rw [Hsj.out]; exact feed_mid h2 (by rw [HL.out]; exact h), fun h => absurd h (by omega)⟩, fun h => .inl ⟨hmL h, Hsj.out, rfl⟩⟩
        case round =>
          obtain ⟨k, tn, sj', hgk, hk3, rfl, rfl, hst, hmid, hlast⟩ := hrel
          have Hst2 := Lib.hid hst
          have Hmid := Lib.hid hmid
          have Hlast := Lib.hid hlast
          clear hst hmid hlast
          by_cases hk0 : k = 0
          · have hsk : (i + 1 < L → tn = 0 ∧ sj' = jst frag seq s0 (i + 1)) ∧ (i + 1 = L → sj' = JSt.empty ∧ tn = 1) := by
              refine ⟨fun h => ⟨(Hmid.out h).1, (Hmid.out h).2.2 hk0⟩, fun h => ?_⟩
              rcases Hlast.out h with ⟨h, _⟩ | ⟨_, h⟩
              · omega
              · exact h
            have Hsk := Lib.hid hsk
            subst hk0
            clear hsk Hmid Hlast hgk
            have hiL2 : i + 1 ≤ L := by omega
            by_cases hr : 0 ≤ lacks ∧ lacks < (L : Int)
            · obtain ⟨q, rfl⟩ := Int.eq_ofNat_of_zero_le hr.1
              have hqL : q < L := by omega
              have Hsk2 := Lib.hid (Hkk.out q rfl hqL)
              by_cases hiq : i = q
              · subst hiq
                have hbe : ((i : Int) != (i : Int)) = false := by simp
                have HK2 := Lib.hid (show ∀ q' : Nat, (i : Int) = (q' : Int) → q' < L → sk = kst frag seq q' (i + 1) from fun q' hq' _ => by
                  have e : q' = i := by omega
                  rw [e, kst_skip]; exact Hsk2.out)
                clear hr
                go_wp2_with fail
                go_roundg (L - (i + 1))
                case measure => omega
                case rel => exact ⟨i + 1, tn, sj', sk, hiL2, rfl, by go_num, rfl, Hst2.out, fun h => ⟨(Hsk.out.1 h).2, (Hsk.out.1 h).1⟩, Hsk.out.2, HK2.out⟩
              · obtain ⟨gy, oy, cy, ca, _, hseg⟩ := seg_at Hst2.out.l i (by rw [HL.out]; exact hlt)
                have Hseg := Lib.hid hseg
                clear hseg
                have hfl := feed_lack (frag := frag) (seq := seq) (q := q) (i := i) h2 (by rw [HL.out]; exact hqL) (by rw [HL.out]; exact hlt) hiq
                rw [← Hsk2.out] at hfl
                have Hfl := Lib.hid hfl
                have HK2 := Lib.hid (show ∀ q' : Nat, (q : Int) = (q' : Int) → q' < L → (feedF sk (segF frag seq i)).1 = kst frag seq q' (i + 1) from fun q' hq' _ => by
                  have e : q' = q := by omega
                  rw [e]; exact Hfl.out.1)
                clear hr hfl
                have hiq2 : ¬ (i : Int) = (q : Int) := by omega
                have hbe : ((i : Int) != (q : Int)) = true := by simp; omega
                go_wp2_with fail
                refine (feed_any _ _ sk _ (segF frag seq i) Hst2.out.k Hseg.out Hib2.out).mono ?_
                rintro e w6 ⟨r6, rfl, hown6, hk6, hf6⟩
                rw [Hfl.out.2]
                obtain ⟨A6, c6, rfl, _⟩ := orow_form hown6
                have Hst6 := Lib.hid (Hst2.out.feedK hf6 hk6 hne hgq)
                clear hown6 hk6 hf6
                go_wp2_with fail
                go_roundg (L - (i + 1))
                case measure => omega
                case rel => exact ⟨i + 1, tn, sj', _, hiL2, rfl, by go_num, rfl, Hst6.out, fun h => ⟨(Hsk.out.1 h).2, (Hsk.out.1 h).1⟩, Hsk.out.2, HK2.out⟩
            · obtain ⟨gy, oy, cy, ca, _, hseg⟩ := seg_at Hst2.out.l i (by rw [HL.out]; exact hlt)
              have Hseg := Lib.hid hseg
              clear hseg
              have hiq2 : ¬ (i : Int) = lacks := by omega
              have hbe : ((i : Int) != lacks) = true := by rw [bne_iff_ne]; exact hiq2
              have Hr := Lib.hid hr
              clear hr
              go_wp2_with fail
              refine (feed_any _ _ sk _ (segF frag seq i) Hst2.out.k Hseg.out Hib2.out).mono ?_
              rintro e w6 ⟨r6, rfl, hown6, hk6, hf6⟩
              obtain ⟨A6, c6, rfl, _⟩ := orow_form hown6
              have Hst6 := Lib.hid (Hst2.out.feedK hf6 hk6 hne hgq)
              clear hown6 hk6 hf6
              cases (feedF sk (segF frag seq i)).2.2 with
              | false =>
                go_wp2_with fail
                go_roundg (L - (i + 1))
                case measure => omega
                case rel => exact ⟨i + 1, tn, sj', _, hiL2, rfl, by go_num, rfl, Hst6.out, fun h => ⟨(Hsk.out.1 h).2, (Hsk.out.1 h).1⟩, Hsk.out.2, fun q' hq' _ => absurd Hr.out (fun h => h ⟨by omega, by omega⟩)⟩
              | true =>
                by_cases hneg : 0 ≤ lacks
                · have hge : ¬ lacks < (L : Int) := fun h => Hr.out ⟨hneg, h⟩
                  go_wp2_with fail
                  go_roundg (L - (i + 1))
                  case measure => omega
                  case rel => exact ⟨i + 1, tn, sj', _, hiL2, rfl, by go_num, rfl, Hst6.out, fun h => ⟨(Hsk.out.1 h).2, (Hsk.out.1 h).1⟩, Hsk.out.2, fun q' hq' _ => absurd Hr.out (fun h => h ⟨by omega, by omega⟩)⟩
                · go_wp2_with fail
                  go_roundg (L - (i + 1))
                  case measure => omega
                  case rel => exact ⟨i + 1, tn, sj', _, hiL2, rfl, by go_num, rfl, Hst6.out, fun h => ⟨(Hsk.out.1 h).2, (Hsk.out.1 h).1⟩, Hsk.out.2, fun q' hq' _ => absurd Hr.out (fun h => h ⟨by omega, by omega⟩)⟩
          · obtain ⟨gy, oy, cy, ca, _, hseg⟩ := seg_at Hst2.out.l i (by rw [HL.out]; exact hlt)
            have Hseg := Lib.hid hseg
            clear hseg
            have hk1 : (0 : Int) < (k : Int) := by omega
            by_cases hq : i + 1 < L
            · obtain ⟨rfl, hfd, _⟩ := Hmid.out hq
              have Hfd := Lib.hid hfd
              clear hfd
              go_wp2_with fail
              refine (feed_any _ _ sj' _ (segF frag seq i) Hst2.out.j Hseg.out Hib2.out).mono ?_
              rintro e w6 ⟨r6, rfl, hown6, hj6, hf6⟩
              rw [Hfd.out] at hown6 hj6 ⊢
              obtain ⟨A6, c6, rfl, _⟩ := orow_form hown6
              have Hst6 := Lib.hid (Hst2.out.feedJ hf6 hj6 hne hgj)
              clear hown6 hj6 hf6
              go_wp2_with fail
              go_roundg (k - 1)
              case measure => omega
              case rel => exact ⟨k - 1, 0, _, rfl, by omega, by go_num, rfl, Hst6.out, fun h => ⟨rfl, feed_again h2 (by rw [HL.out]; exact h), fun _ => rfl⟩, fun h => by omega⟩
            · have hqL : i + 1 = L := by omega
              obtain ⟨hk, hsj', htn⟩ : k = 1 ∧ sj' = jst frag seq s0 i ∧ tn = 0 := by
                rcases Hlast.out hqL with h | ⟨h, _⟩
                · exact h
                · omega
              have Hfd := Lib.hid (show feedF sj' (segF frag seq i) = (JSt.empty, frag, true) by rw [hsj']; exact feed_end h1 h2 (by rw [HL.out]; exact hqL))
              have hie : ((i : Int) == (L : Int) - 1) = true := beq_iff_eq.2 (by omega)
              have hie2 : ((i : Int) != (L : Int) - 1) = false := by rw [bne_eq_false_iff_eq]; omega
              subst htn
              subst hk
              clear hsj'
              go_wp2_with fail
              refine (feed_any _ _ sj' _ (segF frag seq i) Hst2.out.j Hseg.out Hib2.out).mono ?_
              rintro e w6 ⟨r6, rfl, hown6, hj6, hf6⟩
              rw [Hfd.out] at hown6 hj6 ⊢
              obtain ⟨A6, c6, rfl, _⟩ := orow_form hown6
              have Hst6 := Lib.hid (Hst2.out.feedJ hf6 hj6 hne hgj)
              have Hr6 := Lib.hid (show RdB w6 _ frag from Rd1.of_own hown6)
              clear hown6 hj6 hf6
              go_wp2_with fail
              refine (bytesEq _ _ frag frag _ Hr6.out (Hrf.out.below Hst6.out.b) Hif.out Hif.out).mono ?_
              rintro e w7 ⟨rfl, rfl⟩
              rw [show decide (frag = frag) = true from decide_eq_true rfl]
              go_wp2_with fail
              go_roundg 0
              case measure => omega
              case rel => exact ⟨0, 1, _, rfl, by omega, by go_num, by go_num, Hst6.out, fun h => by omega, fun _ => .inr ⟨rfl, rfl, rfl⟩⟩
    · have hiL : i = L := by omega
      obtain ⟨hsj, htn⟩ := hend hiL
      subst htn
      have Hop := Lib.hid (show sj.op = false by rw [hsj]; rfl)
      clear hst hmid hend hkk hsj
      go_wp2_with fail
      refine (first_true _).mono ?_
      rintro e w9 ⟨rfl, hb9⟩
      have Hj9 := Lib.hid (Hst.out.j.below hb9)
      have Hb9 := Lib.hid (below_next Hst.out.b hb9)
      clear hb9
      go_wp2_with fail
      refine (jOpen _ _ _ Hj9.out).mono ?_
      rintro e w8 ⟨rfl, rfl⟩
      rw [Hop.out]
      go_wp2_with fail
      go_ret
      exact ⟨rfl, Hb9.out⟩
end Go.Proofs.Ytaahigdkbmifbaa

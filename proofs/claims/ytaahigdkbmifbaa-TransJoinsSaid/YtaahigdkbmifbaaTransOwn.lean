/-
  The package trans: Copy. TransOwn: the walk.
-/
import Derived.Test.YtaahigdkbmifbaaTransTrains
import Derived.Deep.RegionHeld3
namespace Go.Proofs.Ytaahigdkbmifbaa
open Go.RowKit

set_option maxHeartbeats 1000000 in
theorem jCopy (w : World) (g : Nat) (s : JSt) (h : JAt w g s) : Calls Try.prog 16 #[.pointer (some ⟨g, 0, none⟩)] w fun e w' => ∃ b, e = .returned (.pointer (some ⟨b, 0, none⟩)) ∧ JAt w' b s ∧ w.heap.size ≤ b ∧ Below w.heap.size w w' := by
  obtain ⟨ok, vb, vl, h1, h2, h3⟩ := h
  obtain ⟨A1, c1, rfl, _⟩ := orow_form h2
  obtain ⟨A2, c2, rfl, _⟩ := orow_form h3
  have k0 := bcell h1 0
  have k1 := bcell h1 1
  have k2 := bcell h1 2
  simp only [List.getElem?_toArray, List.getElem?_cons_zero, List.getElem?_cons_succ] at k0 k1 k2
  have hr1 := Lib.hid (show RdB w (.slice A1 s.b.length c1) s.b from Rd1.of_own h2)
  have hr2 := Lib.hid (show RdB w (.slice A2 s.last.length c2) s.last from Rd1.of_own h3)
  have hl1 := ok.lb
  have hl2 := ok.ll
  have Hok := Lib.hid ok
  have hb := blt h1
  clear h1 h2 h3 ok
  go_enter Try.func16, Try.ntmps16
  go_wp2_with fail
  go_region_held3 (fun w' => Below w.heap.size w w' ∧ w'.cell? ⟨g, 0, none⟩ = some (.bool s.op) ∧ w'.cell? ⟨g, 1, none⟩ = some (.slice A1 s.b.length c1) ∧ w'.cell? ⟨g, 2, none⟩ = some (.slice A2 s.last.length c2)) ((go_split_ands; refine keep3 ?_ k0 k1 k2; (repeat' (first | (with_reducible exact Below.refl _ _) | (with_reducible assumption) | (with_reducible refine below_alloc ?_ _) | (with_reducible refine Below.drew ?_) | (with_reducible refine below_drewN ?_ _) | (exact below_next (by with_reducible assumption) (by first | with_reducible assumption | assumption)) | (refine below_next ?_ (by with_reducible assumption)) | fail))))
    (first | (go_at_call_of 21 A1; refine (cloneB _ s.b _ ((hr1).out.fr (Fr.of_below ?_) (fun _ _ => id)) (by omega)).mono ?_; (go_split_ands; (repeat' (first | (with_reducible exact Below.refl _ _) | (with_reducible assumption) | (with_reducible refine below_alloc ?_ _) | (with_reducible refine Below.drew ?_) | (with_reducible refine below_drewN ?_ _) | (exact below_next (by with_reducible assumption) (by first | with_reducible assumption | assumption)) | (refine below_next ?_ (by with_reducible assumption)) | fail))); rintro e x1 ⟨v', rfl, hown1, hb1⟩; obtain ⟨A', c', rfl, _⟩ := orow_form hown1) | (go_at_call_of 21 A2; refine (cloneB _ s.last _ ((hr2).out.fr (Fr.of_below ?_) (fun _ _ => id)) (by omega)).mono ?_; (go_split_ands; (repeat' (first | (with_reducible exact Below.refl _ _) | (with_reducible assumption) | (with_reducible refine below_alloc ?_ _) | (with_reducible refine Below.drew ?_) | (with_reducible refine below_drewN ?_ _) | (exact below_next (by with_reducible assumption) (by first | with_reducible assumption | assumption)) | (refine below_next ?_ (by with_reducible assumption)) | fail))); rintro e x2 ⟨v', rfl, hown2, hb2⟩; obtain ⟨A', c', rfl, _⟩ := orow_form hown2))
  go_wp2_with fail
  go_ret
  have hz1 : w.heap.size ≤ x1.heap.size := hb1.size
  have hz2 := hb2.size
  exact ⟨x2.heap.size, rfl, ⟨Hok.out, _, _, bnew _ _, orow_alloc (orow_weaken (orow_below hown1 hb2) (Nat.zero_le _)) _, orow_alloc (orow_weaken hown2 (Nat.zero_le _)) _⟩, by omega, by go_split_ands; assumption⟩

/-- Three joiners and the segments. -/
structure OwnSt (w W : World) (B gj gc gd : Nat) (v2 : Value) (frag : List Int) (seq : Int) (sj sc sd : JSt) : Prop where
  j : JAt W gj sj
  c : JAt W gc sc
  d : JAt W gd sd
  l : OwnBs B W v2 (splitF frag seq)
  b : Below w.heap.size w W
section
variable {w W W' : World} {B gj gc gd : Nat} {v2 : Value} {frag : List Int} {seq : Int} {sj sc sd s' : JSt}
theorem OwnSt.feedJ (h : OwnSt w W B gj gc gd v2 frag seq sj sc sd) (hf : Fr (fun k => k = gj) W W') (hj : JAt W' gj s') (h1 : gj ≠ gc) (h2 : gj ≠ gd) (hlt : w.heap.size ≤ gj) : OwnSt w W' B gj gc gd v2 frag seq s' sc sd :=
  ⟨hj, h.c.other h.j hf h1.symm, h.d.other h.j hf h2.symm, h.l.frJ h.j hf, h.b.trans (hf.belowB h.b.size (fun k hk => by omega))⟩
theorem OwnSt.feedC (h : OwnSt w W B gj gc gd v2 frag seq sj sc sd) (hf : Fr (fun k => k = gc) W W') (hj : JAt W' gc s') (h1 : gj ≠ gc) (h2 : gc ≠ gd) (hlt : w.heap.size ≤ gc) : OwnSt w W' B gj gc gd v2 frag seq sj s' sd :=
  ⟨h.j.other h.c hf h1, hj, h.d.other h.c hf h2.symm, h.l.frJ h.c hf, h.b.trans (hf.belowB h.b.size (fun k hk => by omega))⟩
theorem OwnSt.feedD (h : OwnSt w W B gj gc gd v2 frag seq sj sc sd) (hf : Fr (fun k => k = gd) W W') (hj : JAt W' gd s') (h1 : gj ≠ gd) (h2 : gc ≠ gd) (hlt : w.heap.size ≤ gd) : OwnSt w W' B gj gc gd v2 frag seq sj sc s' :=
  ⟨h.j.other h.d hf h1, h.c.other h.d hf h2, hj, h.l.frJ h.d hf, h.b.trans (hf.belowB h.b.size (fun k hk => by omega))⟩
end
theorem jst_op (frag : List Int) (seq : Int) (i : Nat) : (jst frag seq JSt.empty i).op = decide (0 < i) := by
  unfold jst
  by_cases h : i = 0
  · rw [if_pos h, h]; rfl
  · rw [if_neg h, decide_eq_true (by omega)]
theorem feed_nothing {s : JSt} {seg : List Int} (h : ¬ (2 ≤ seg.length ∧ seg.length ≤ 250)) : feedF s seg = (s, [], false) := by
  unfold feedF; rw [if_pos h]
theorem feed_skips {frag : List Int} {seq : Int} {s : JSt} {i : Nat} (hi : i < segN frag.length) (h0 : 0 < i) (hs : s.op = false) : feedF s (segF frag seq i) = (s, [], false) := by
  have hsz := segF_sz (frag := frag) (seq := seq) hi
  unfold feedF
  rw [if_neg (fun h => h hsz), firB_seg, decide_eq_false (show ¬ i = 0 by omega), if_neg (by simp), if_pos (.inl hs)]

theorem feed_step {frag : List Int} {seq : Int} {n L : Nat} (h1 : 1 ≤ frag.length) (h2 : frag.length ≤ 2048) (hL : segN frag.length = L) (hn : n < L) (hi : IsB frag) :
    ∃ sn o, feedF (jst frag seq JSt.empty n) (segF frag seq n) = (sn, o, ((n : Int) == (L : Int) - 1)) ∧ IsB o ∧ (n + 1 < L → sn = jst frag seq JSt.empty (n + 1)) := by
  by_cases hq : n + 1 < L
  · refine ⟨jst frag seq JSt.empty (n + 1), [], ?_, (fun x hx => by cases hx), fun _ => rfl⟩
    rw [feed_mid h2 (by rw [hL]; exact hq), show ((n : Int) == (L : Int) - 1) = false from beq_eq_false_iff_ne.2 (by omega)]
  · refine ⟨JSt.empty, frag, ?_, hi, fun h => absurd h hq⟩
    rw [feed_end h1 h2 (by rw [hL]; omega), show ((n : Int) == (L : Int) - 1) = true from beq_iff_eq.2 (by omega)]
theorem JAt.blk3 {w : World} {g : Nat} {s : JSt} (h : JAt w g s) : ∃ vb vl, w.heap[g]? = some (.cells #[.bool s.op, vb, vl] TJ (0, 0)) := by
  obtain ⟨_, vb, vl, h1, _⟩ := h
  exact ⟨_, _, h1⟩
theorem row_frJ {w w' : World} {g B n : Nat} {s : JSt} {v : Value} {xs : List Value} (h : w.ownsRow B TB 1 v n xs) (h2 : JAt w g s) (hf : Fr (fun k => k = g) w w') : w'.ownsRow B TB 1 v n xs := by
  obtain ⟨cs, hc⟩ := h2.blk
  exact orow_fr h hf (fun k hk e => orow_ne h hc (by decide) (e ▸ hk))

set_option maxRecDepth 40000 in
set_option maxHeartbeats 4000000 in
theorem own_true (vf : Value) (frag : List Int) (seq aat : Int) (vn : Value) (non : List Int) (w : World) (hf : RdB w vf frag) (hfi : IsB frag) (hn : RdB w vn non) (hni : IsB non) (hat : aat ≤ 9223372036854775807) :
    Calls Try.prog 8 #[vf, .int .i64 seq, .int .i64 aat, vn] w fun e w' => e = .returned (.bool true) ∧ Below w.heap.size w w' := by
  obtain ⟨Af, cf, rfl, hcf⟩ := hf.form
  obtain ⟨An, cn, rfl, hcn⟩ := hn.form
  have Hrf := Lib.hid hf
  have Hif := Lib.hid hfi
  have Hrn := Lib.hid hn
  have Hin := Lib.hid hni
  clear hf hfi hn hni
  go_enter Try.func8, Try.ntmps8
  go_wp2_with fail
  refine (first_true _).mono ?_
  rintro e w1 ⟨rfl, hb1⟩
  have Hb1 := Lib.hid hb1
  clear hb1
  go_wp2_with fail
  refine (transNew _).mono ?_
  rintro e w2 ⟨rfl, hj2, hb2⟩
  have Hb2 := Lib.hid (below_next Hb1.out hb2)
  have Hj2 := Lib.hid hj2
  have hgj := Hb1.out.size
  have hjl := hj2.lt
  clear hj2 hb2
  generalize w1.heap.size = gj at *
  by_cases h9000 : 9000 < frag.length
  · go_wp2_with (go_at_call 9; refine (first_true _).mono ?_; rintro e w9 ⟨rfl, hb9⟩)
    go_wp2_with fail
    go_ret
    exact ⟨rfl, below_next Hb2.out hb9⟩
  by_cases hn300 : 300 < non.length
  · go_wp2_with (go_at_call 9; refine (first_true _).mono ?_; rintro e w9 ⟨rfl, hb9⟩)
    go_wp2_with fail
    go_ret
    exact ⟨rfl, below_next Hb2.out hb9⟩
  by_cases hnn : 2 ≤ non.length ∧ non.length ≤ 250
  · obtain ⟨hn2, hn250⟩ := hnn
    have hn1 : 1 < non.length := by omega
    clear hn2
    go_wp2_with (go_at_call 9; refine (first_true _).mono ?_; rintro e w9 ⟨rfl, hb9⟩)
    go_wp2_with fail
    go_ret
    exact ⟨rfl, below_next Hb2.out hb9⟩
  have Hnn := Lib.hid hnn
  clear hnn
  go_upto_region 4 with fail
  go_cut [49] from 28 (fun n wx => n = .bool false ∧ wx = w2)
  case first =>
    by_cases hn1 : non.length ≤ 1
    · go_wp2_with fail
      all_goals go_meet
      all_goals exact ⟨congrArg Value.bool (by simp; omega), rfl⟩
    · have hn2 : 250 < non.length := by have := Hnn.out; omega
      have hn3 : 1 < non.length := by omega
      clear hn1
      go_wp2_with fail
      all_goals go_meet
      all_goals exact ⟨congrArg Value.bool (by simp; omega), rfl⟩
  case rest =>
  obtain ⟨rfl, rfl⟩ := hcut
  by_cases hbad : ¬ (1 ≤ frag.length ∧ frag.length ≤ 2048)
  · have Hbad := Lib.hid hbad
    clear hbad
    go_wp2_with fail
    refine (split_bad _ frag seq _ (Hrf.out.below Hb2.out) Hbad.out).mono ?_
    rintro e w4 ⟨er, rfl, her, hb4⟩
    obtain ⟨te, ge, rfl⟩ := her.form
    have Hb4 := Lib.hid (below_next Hb2.out hb4)
    clear her hb4
    go_wp2_with (go_at_call 9; refine (first_true _).mono ?_; rintro e w9 ⟨rfl, hb9⟩)
    go_wp2_with fail
    go_ret
    exact ⟨rfl, below_next Hb4.out hb9⟩
  have h1 : 1 ≤ frag.length := by omega
  have h2 : frag.length ≤ 2048 := by omega
  clear hbad
  go_wp2_with fail
  refine (split_ok _ frag seq _ (Hrf.out.below Hb2.out) Hif.out h1 h2).mono ?_
  rintro e w4 ⟨v4, rfl, hown4, hb4⟩
  obtain ⟨A4, c4, rfl, _⟩ := hown4.form
  obtain ⟨g4, rfl⟩ := hown4.at0 h1
  have Hst4 := Lib.hid (show TrSt w w4 wc.heap.size gj (.slice (some ⟨g4, 0, none⟩) (splitF frag seq).length c4) frag seq (jst frag seq JSt.empty 0) from ⟨Hj2.out.below hb4, hown4, below_next Hb2.out hb4⟩)
  clear hown4 hb4
  generalize wc.heap.size = B at *
  have hL1 := segN_pos h1
  have hL9 := segN_le h2
  rw [splitF_len]
  generalize hL : segN frag.length = L at *
  have HL := Lib.hid hL
  clear hL
  generalize (seq + (L : Int)) % 64 = nx at *
  by_cases ha0 : aat < 0
  · go_wp2_with (go_at_call 9; refine (first_true _).mono ?_; rintro e w9 ⟨rfl, hb9⟩)
    go_wp2_with fail
    go_ret
    exact ⟨rfl, below_next Hst4.out.b hb9⟩
  by_cases haL : (L : Int) ≤ aat
  · go_wp2_with (go_at_call 9; refine (first_true _).mono ?_; rintro e w9 ⟨rfl, hb9⟩)
    go_wp2_with fail
    go_ret
    exact ⟨rfl, below_next Hst4.out.b hb9⟩
  obtain ⟨a, rfl⟩ := Int.eq_ofNat_of_zero_le (show 0 ≤ aat by omega)
  have haL2 : a < L := by omega
  have hz0 : ¬ (a : Int) < 0 := by omega
  have hz1 : ¬ (L : Int) ≤ (a : Int) := by omega
  clear ha0 haL
  go_upto_region 9 with fail
  go_cut [13] from 28 (fun n wx => n = .int .i64 0 ∧ wx = w4)
  case first =>
    go_wp2_with fail
    go_meet
    exact ⟨rfl, rfl⟩
  case rest =>
  obtain ⟨rfl, rfl⟩ := hcut
  go_wp2_with fail
  go_loopg [13] a (fun g vi wr => ∃ i : Nat, i ≤ a ∧ g = a - i ∧ vi = .int .i64 i ∧ TrSt w wr B gj (.slice (some ⟨g4, 0, none⟩) (splitF frag seq).length c4) frag seq (jst frag seq JSt.empty i))
  case atStart => exact ⟨0, by omega, by omega, rfl, Hst4.out⟩
  case round =>
    obtain ⟨i, hi, hg, rfl, hst⟩ := hrel
    have Hst := Lib.hid hst
    clear hst
    by_cases hlt : i < a
    · obtain ⟨gy, oy, cy, ca, _, hseg⟩ := seg_at Hst.out.l i (by rw [HL.out]; omega)
      have Hseg := Lib.hid hseg
      have Hib2 := Lib.hid (segF_isB Hif.out seq i)
      have Hfd := Lib.hid (feed_mid (frag := frag) (seq := seq) (s0 := JSt.empty) (i := i) h2 (by rw [HL.out]; omega))
      clear hseg
      go_wp2_with fail
      refine (feed_any _ _ _ _ (segF frag seq i) Hst.out.j Hseg.out Hib2.out).mono ?_
      rintro e w6 ⟨r6, rfl, hown6, hj6, hf6⟩
      rw [Hfd.out] at hown6 hj6 ⊢
      obtain ⟨A6, c6, rfl, _⟩ := orow_form hown6
      have Hst6 := Lib.hid (Hst.out.feed hf6 hj6 hgj)
      clear hown6 hj6 hf6
      go_wp2_with fail
      go_roundg (a - (i + 1))
      case measure => omega
      case rel => exact ⟨i + 1, by omega, rfl, by go_num, Hst6.out⟩
    · obtain rfl : i = a := by omega
      have hjW := Hst.out.j.lt
      clear hg
      go_wp2_with fail
      refine (jCopy _ _ _ Hst.out.j).mono ?_
      rintro e w6 ⟨gc, rfl, hc6, hgc, hb6⟩
      have hcW := hc6.lt
      have Hst6 := Lib.hid (And.intro (And.intro (Hst.out.j.below hb6) hc6) (And.intro (show OwnBs B w6 _ (splitF frag seq) from let ⟨ys, q⟩ := Hst.out.l; OwnBs.below ⟨ys, q⟩ hb6) (below_next Hst.out.b hb6)))
      have hws := Hst.out.b.size
      clear hc6 hb6
      go_wp2_with fail
      refine (jCopy _ _ _ Hst6.out.1.1).mono ?_
      rintro e w7 ⟨gd, rfl, hd7, hgd, hb7⟩
      have Hst7 := Lib.hid (show OwnSt w w7 B gj gc gd (.slice (some ⟨g4, 0, none⟩) (splitF frag seq).length c4) frag seq (jst frag seq JSt.empty i) (jst frag seq JSt.empty i) (jst frag seq JSt.empty i) from
        ⟨Hst6.out.1.1.below hb7, Hst6.out.1.2.below hb7, hd7, Hst6.out.2.1.below hb7, below_next Hst6.out.2.2 hb7⟩)
      have n1 : gj ≠ gc := by omega
      have n2 : gj ≠ gd := by omega
      have n3 : gc ≠ gd := by omega
      have z1 : w.heap.size ≤ gc := by omega
      have z2 : w.heap.size ≤ gd := by omega
      clear hd7 hb7 Hst6 hgd hgc hcW hjW hws
      go_wp2_with fail
      refine (jOpen _ _ _ Hst7.out.j).mono ?_
      rintro e w8 ⟨rfl, rfl⟩
      rw [show (jst frag seq JSt.empty i).op = decide ((0 : Int) < (i : Int)) from (jst_op frag seq i).trans (decide_eq_decide.2 (by omega))]
      go_wp2_with fail
      refine (feed_any _ _ _ _ non Hst7.out.c (Hrn.out.below Hst7.out.b) Hin.out).mono ?_
      rintro e w9 ⟨r9, rfl, hown9, hj9, hf9⟩
      rw [feed_nothing Hnn.out] at hown9 hj9 ⊢
      obtain ⟨A9, c9, rfl, _⟩ := orow_form hown9
      have Hst9 := Lib.hid (Hst7.out.feedC hf9 hj9 n1 n3 z1)
      clear hown9 hj9 hf9
      go_wp2_with fail
      obtain ⟨vbd, vld, hbd⟩ := Hst9.out.d.blk3
      refine (jReset _ _ _ _ _ hbd).mono ?_
      rintro e wd ⟨rfl, hjd, hfd⟩
      have Hstd := Lib.hid (Hst9.out.feedD hfd hjd n2 n3 z2)
      clear hbd hjd hfd
      go_upto_region 18 with fail
      go_cut [18] from 28 (fun n wx => n = .int .i64 i ∧ wx = wd)
      case first =>
        go_wp2_with fail
        go_meet
        exact ⟨rfl, rfl⟩
      case rest =>
      obtain ⟨rfl, rfl⟩ := hcut
      go_wp2_with fail
      go_loopg [18] (L - i) (fun g vi wr => ∃ (n : Nat) (sj sc sd : JSt), i ≤ n ∧ n ≤ L ∧ g = L - n ∧ vi = .int .i64 n ∧ OwnSt w wr B gj gc gd (.slice (some ⟨g4, 0, none⟩) (splitF frag seq).length c4) frag seq sj sc sd ∧ (n < L → sj = jst frag seq JSt.empty n ∧ sc = jst frag seq JSt.empty n) ∧ (0 < i → sd = JSt.empty))
      case atStart => exact ⟨i, _, _, _, by omega, by omega, by omega, rfl, Hstd.out, fun _ => ⟨rfl, rfl⟩, fun _ => rfl⟩
      case round =>
        obtain ⟨n, sj, sc, sd, hn1, hn2, hg, rfl, hst, hjc, hde⟩ := hrel
        have Hs := Lib.hid hst
        have Hjc := Lib.hid hjc
        have Hde := Lib.hid hde
        clear hst hjc hde
        by_cases hnL : n < L
        · obtain ⟨gy, oy, cy, ca, _, hseg⟩ := seg_at Hs.out.l n (by rw [HL.out]; omega)
          have Hseg := Lib.hid hseg
          have Hib2 := Lib.hid (segF_isB Hif.out seq n)
          have Hca := Lib.hid ca
          clear hseg
          obtain ⟨sn, o, hfd, hoi, hnx⟩ := feed_step (seq := seq) h1 h2 HL.out hnL Hif.out
          have Hfd := Lib.hid hfd
          have Hoi := Lib.hid hoi
          have Hnx := Lib.hid hnx
          clear hfd hoi hnx
          go_wp2_with fail
          refine (feed_any _ _ sj _ (segF frag seq n) Hs.out.j Hseg.out Hib2.out).mono ?_
          rintro e w10 ⟨r10, rfl, hown10, hj10, hf10⟩
          rw [(Hjc.out hnL).1, Hfd.out] at hown10 hj10 ⊢
          obtain ⟨A10, c10, rfl, _⟩ := orow_form hown10
          have Hs10 := Lib.hid (Hs.out.feedJ hf10 hj10 n1 n2 hgj)
          have Hown10 := Lib.hid hown10
          obtain ⟨gy', oy', cy', ca', _, hseg'⟩ := seg_at Hs10.out.l n (by rw [HL.out]; omega)
          have Hseg' := Lib.hid hseg'
          clear hown10 hj10 hf10 hseg'
          go_wp2_with fail
          refine (feed_any _ _ sc _ (segF frag seq n) Hs10.out.c Hseg'.out Hib2.out).mono ?_
          rintro e w11 ⟨r11, rfl, hown11, hj11, hf11⟩
          rw [(Hjc.out hnL).2, Hfd.out] at hown11 hj11 ⊢
          obtain ⟨A11, c11, rfl, _⟩ := orow_form hown11
          have Hs11 := Lib.hid (Hs10.out.feedC hf11 hj11 n1 n3 z1)
          have Hown10' := Lib.hid (row_frJ Hown10.out Hs10.out.c hf11)
          have Hown11 := Lib.hid hown11
          obtain ⟨gy'', oy'', cy'', ca'', _, hseg''⟩ := seg_at Hs11.out.l n (by rw [HL.out]; omega)
          have Hseg'' := Lib.hid hseg''
          clear hown11 hj11 hf11 hseg''
          go_wp2_with fail
          refine (feed_any _ _ sd _ (segF frag seq n) Hs11.out.d Hseg''.out Hib2.out).mono ?_
          rintro e w12 ⟨r12, rfl, hown12, hj12, hf12⟩
          obtain ⟨A12, c12, rfl, _⟩ := orow_form hown12
          have Hs12 := Lib.hid (Hs11.out.feedD hf12 hj12 n2 n3 z2)
          have Hp := Lib.hid (show RdB w12 _ o from Rd1.of_own (row_frJ Hown10'.out Hs11.out.d hf12))
          have Hq := Lib.hid (show RdB w12 _ o from Rd1.of_own (row_frJ Hown11.out Hs11.out.d hf12))
          clear hown12 hj12 hf12 ca ca' ca'' Hca
          by_cases hi0 : 0 < i
          · have hsk : feedF sd (segF frag seq n) = (JSt.empty, [], false) := by rw [Hde.out hi0]; exact feed_skips (by rw [HL.out]; exact hnL) (by omega) rfl
            rw [hsk] at Hs12 ⊢
            clear hsk
            go_wp2_with fail
            refine (bytesEq _ _ o o _ Hp.out Hq.out Hoi.out Hoi.out).mono ?_
            rintro e w13 ⟨rfl, rfl⟩
            rw [show decide (o = o) = true from decide_eq_true rfl]
            go_wp2_with fail
            go_roundg (L - (n + 1))
            case measure => omega
            case rel => exact ⟨n + 1, _, _, _, by omega, by omega, rfl, by go_num, Hs12.out, fun h => ⟨Hnx.out h, Hnx.out h⟩, fun _ => rfl⟩
          · have hi00 : i = 0 := by omega
            have Hi00 := Lib.hid hi0
            have hi01 : ¬ (0 : Int) < (i : Int) := by omega
            generalize (feedF sd (segF frag seq n)).2.2 = bb at *
            clear hi00 hi0
            go_wp2_with fail
            refine (bytesEq _ _ o o _ Hp.out Hq.out Hoi.out Hoi.out).mono ?_
            rintro e w13 ⟨rfl, rfl⟩
            rw [show decide (o = o) = true from decide_eq_true rfl]
            cases bb with
            | false =>
              go_wp2_with fail
              go_roundg (L - (n + 1))
              case measure => omega
              case rel => exact ⟨n + 1, _, _, _, by omega, by omega, rfl, by go_num, Hs12.out, fun h => ⟨Hnx.out h, Hnx.out h⟩, fun h => absurd h Hi00.out⟩
            | true =>
              go_wp2_with fail
              go_roundg (L - (n + 1))
              case measure => omega
              case rel => exact ⟨n + 1, _, _, _, by omega, by omega, rfl, by go_num, Hs12.out, fun h => ⟨Hnx.out h, Hnx.out h⟩, fun h => absurd h Hi00.out⟩
        · go_wp2_with (go_at_call 9; refine (first_true _).mono ?_; rintro e w9 ⟨rfl, hb9⟩)
          go_wp2_with fail
          go_ret
          exact ⟨rfl, below_next Hs.out.b hb9⟩
end Go.Proofs.Ytaahigdkbmifbaa

/-
  TransJoins: the walk.
-/
import Derived.Test.YtaahigdkbmifbaaRefJoin3
import Derived.Test.YtaahigdkbmifbaaLawBB
namespace Go.Proofs.Ytaahigdkbmifbaa
open Go.RowKit

theorem RJAt.lt {w : World} {g : Nat} {s : JSt} (h : RJAt w g s) : g < w.heap.size := by
  obtain ⟨_, _, vb, vl, h1, _⟩ := h
  exact blt h1
theorem RJAt.blk2 {w : World} {g : Nat} {s : JSt} (h : RJAt w g s) : ∃ vb A c, w.heap[g]? = some (.cells #[vb, .slice A s.last.length c] TRJ (0, 0)) := by
  obtain ⟨_, _, vb, vl, h1, _, h3⟩ := h
  obtain ⟨A, c, rfl, _⟩ := orow_form h3
  exact ⟨vb, A, c, h1⟩
theorem RJAt.frJ {w w' : World} {g g' : Nat} {s s' : JSt} (h : RJAt w g s) (h2 : JAt w g' s') (hf : Fr (fun k => k = g') w w') : RJAt w' g s := by
  obtain ⟨vb, vl, hb⟩ := h2.blk3
  obtain ⟨_, _, _, _, h1, _⟩ := id h
  refine h.fr hf (fun e => ?_) (fun k cs hk e => ?_)
  · exact bne h1 hb (by decide) e
  · subst hk; rw [hb] at e; simp at e; exact absurd e.2 (by decide)
theorem JAt.frR {w w' : World} {g g' : Nat} {s s' : JSt} (h : JAt w g s) (h2 : RJAt w g' s') (hf : Fr (fun k => k = g') w w') : JAt w' g s := by
  obtain ⟨vb, A, c, hb⟩ := h2.blk2
  obtain ⟨_, _, h1⟩ := h.blk3
  refine h.fr hf (fun e => ?_) (fun k cs hk e => ?_)
  · exact bne h1 hb (by decide) e
  · subst hk; rw [hb] at e; simp at e; exact absurd e.2 (by decide)
theorem row_frR {w w' : World} {g B n : Nat} {s : JSt} {v : Value} {xs : List Value} (h : w.ownsRow B TB 1 v n xs) (h2 : RJAt w g s) (hf : Fr (fun k => k = g) w w') : w'.ownsRow B TB 1 v n xs := by
  obtain ⟨vb, A, c, hb⟩ := h2.blk2
  exact orow_fr h hf (fun k hk e => orow_ne h hb (by decide) (e ▸ hk))
theorem RJAt.last {w : World} {g : Nat} {s : JSt} (h : RJAt w g s) : (s.op = true ∧ 0 < s.last.length) ∨ (s.op = false ∧ s.last.length = 0) := by
  rcases h.inv with h1 | h1
  · exact .inl ⟨h1, h.ok.pos h1⟩
  · exact .inr (by rw [h1]; exact ⟨rfl, rfl⟩)
theorem bytesEq_same (v u : Value) (xs : List Int) (w : World) (h : RdB w v xs) (h2 : RdB w u xs) (hx : IsB xs) :
    Calls Try.prog 13 #[v, u] w fun e w' => e = .returned (.bool true) ∧ w = w' := by
  have := bytesEq v u xs xs w h h2 hx hx
  rwa [decide_eq_true rfl] at this
theorem feedF_isB {s : JSt} {seg : List Int} (h : JOk s) (hi : IsB seg) : IsB (feedF s seg).2.1 := by
  have hd : IsB (seg.drop 1) := fun x hx => hi x (List.mem_of_mem_drop hx)
  have ha : IsB (s.b ++ seg.drop 1) := fun x hx => by
    rcases List.mem_append.1 hx with h1 | h1
    · exact h.ib x h1
    · exact hd x h1
  have hn : IsB [] := fun x hx => by cases hx
  unfold feedF
  split
  · exact hn
  · split
    · split
      · exact hd
      · exact hn
    · split
      · exact hn
      · split
        · exact hn
        · split
          · exact ha
          · exact hn

theorem jOpenB (w : World) (g : Nat) (s : JSt) (b : Bool) (h : JAt w g s) (hb : s.op = b) : Calls Try.prog 14 #[.pointer (some ⟨g, 0, none⟩)] w fun e w' => e = .returned (.bool b) ∧ w = w' := by
  subst hb; exact jOpen w g s h
theorem refMade (w : World) : RJAt (w.alloc (.cells #[.slice none 0 0, .slice none 0 0] TRJ)) w.heap.size JSt.empty := ⟨JOk.empty, .inr rfl, _, _, bnew _ _, orow_nil _ _ _ _, orow_nil _ _ _ _⟩

set_option maxRecDepth 100000 in
set_option maxHeartbeats 4000000 in
theorem joins_true (v : Value) (xss : List (List Int)) (w : World) (h : RdBs w v xss) (hib : ∀ xs ∈ xss, IsB xs) :
    Calls Try.prog 7 #[v] w fun e w' => e = .returned (.bool true) ∧ Below w.heap.size w w' := by
  obtain ⟨A, c, rfl, hc⟩ := h.form
  have Hr := Lib.hid h
  have Hi := Lib.hid hib
  clear h hib
  go_enter Try.func7, Try.ntmps7
  go_wp2_with fail
  refine (first_true _).mono ?_
  rintro e w1 ⟨rfl, hb1⟩
  have Hb1 := Lib.hid hb1
  clear hb1
  go_wp2_with fail
  refine (transNew _).mono ?_
  rintro e w2 ⟨rfl, hj2, hb2⟩
  have Hb2 := Lib.hid (below_next Hb1.out hb2)
  have Hj2 := Lib.hid hj2
  have hgj := Hb1.out.size
  clear hj2 hb2
  generalize w1.heap.size = gj at *
  go_wp2_with fail
  refine (few_any _ xss _ (Hr.out.below Hb2.out)).mono ?_
  rintro e w3 ⟨⟨b, rfl, hbn⟩, rfl⟩
  cases b with
  | false =>
    go_wp2_with (go_at_call 9; refine (first_true _).mono ?_; rintro e w9 ⟨rfl, hb9⟩)
    go_wp2_with fail
    go_ret
    exact ⟨rfl, below_next Hb2.out hb9⟩
  | true =>
    have hx300 := hbn rfl
    clear hbn
    have Hx := Lib.hid (refMade w2)
    have Hj3 := Lib.hid (Hj2.out.below (below_alloc (Below.refl _ _) (.cells #[.slice none 0 0, .slice none 0 0] TRJ)))
    have Hb3 := Lib.hid (below_alloc Hb2.out (.cells #[.slice none 0 0, .slice none 0 0] TRJ))
    have hgx := Hb2.out.size
    go_wp2_with fail
    generalize w2.alloc (.cells #[.slice none 0 0, .slice none 0 0] TRJ) = w3 at *
    generalize w2.heap.size = gx at *
    go_loopw [3, 5] (fun vj vi wr => ∃ (i gj : Nat) (s : JSt), i ≤ xss.length ∧ vi = .int .i64 i ∧ vj = .pointer (some ⟨gj, 0, none⟩) ∧ w.heap.size ≤ gj ∧ JAt wr gj s ∧ RJAt wr gx s ∧ Below w.heap.size w wr) (fun _ vi _ => xss.length - (intOf vi).toNat)
    case atStart => exact ⟨0, _, _, by omega, rfl, rfl, hgj, Hj3.out, Hx.out, Hb3.out⟩
    case round =>
      clear hgj Hj2 Hb2 Hx Hj3 Hb3 Hb1
      obtain ⟨i, gj, s, hi, rfl, rfl, hgj, hj, hx, hb⟩ := hrel
      have Hj := Lib.hid hj
      have Hx := Lib.hid hx
      have Hb := Lib.hid hb
      clear hj hx hb
      by_cases hlt : i < xss.length
      · obtain ⟨g, o, rfl⟩ := Hr.out.at0 (by omega)
        obtain ⟨Ay, cy, ca, hseg⟩ := Hr.out.at i hlt
        have hib : IsB (xss.getD i []) := Hi.out _ (by rw [List.getD_eq_getElem?_getD, List.getElem?_eq_getElem hlt]; exact List.getElem_mem _)
        have Hib := Lib.hid hib
        have Hca := Lib.hid ca
        have Hseg := Lib.hid hseg
        clear hseg hib ca
        generalize xss.getD i [] = seg at *
        have ca := below_cell Hb.out Hca.out
        by_cases hl0 : seg.length = 0
        · obtain rfl : seg = [] := List.eq_nil_of_length_eq_zero hl0
          simp only [List.length_nil] at ca
          clear hl0
          go_wp2_with fail
          refine (jCopy _ _ _ Hj.out).mono ?_
          rintro e w7 ⟨gc, rfl, hc7, hgc, hb7⟩
          have hjW := Hj.out.lt
          have hgcw : w.heap.size ≤ gc := Nat.le_trans Hb.out.size hgc
          have Hne := Lib.hid (show gc ≠ gj by omega)
          have Hl7 := Lib.hid (lit_rd (w := w7) (g := w7.heap.size) (n := 2) (xs := [64, 1]) (t := TB) rfl rfl)
          have Hc7 := Lib.hid (hc7.below (below_alloc (Below.refl _ w7) (.cells (u8s [64, 1]).toArray TB)))
          have Hj7 := Lib.hid ((Hj.out.below hb7).below (below_alloc (Below.refl _ w7) (.cells (u8s [64, 1]).toArray TB)))
          have Hx7 := Lib.hid ((Hx.out.below hb7).below (below_alloc (Below.refl _ w7) (.cells (u8s [64, 1]).toArray TB)))
          have Hb7 := Lib.hid (below_alloc (below_next Hb.out hb7) (.cells (u8s [64, 1]).toArray TB))
          clear hc7 hgc hb7 hjW
          go_wp2_with fail
          refine (feed_any _ _ s _ [64, 1] Hj7.out Hl7.out (by unfold IsB; decide)).mono ?_
          rintro e w8 ⟨r8, rfl, hown8, hj8, hf8⟩
          obtain ⟨A8, c8, rfl, _⟩ := orow_form hown8
          have Hj8 := Lib.hid hj8
          have Hc8 := Lib.hid (Hc7.out.other Hj7.out hf8 Hne.out)
          have Hx8 := Lib.hid (Hx7.out.frJ Hj7.out hf8)
          have Hb8 := Lib.hid (Hb7.out.trans (hf8.belowB Hb7.out.size (fun k hk => by omega)))
          clear hown8 hj8 hf8
          go_wp2_with fail
          obtain ⟨vb8, vl8, hbd8⟩ := Hj8.out.blk3
          refine (jReset _ _ _ _ _ hbd8).mono ?_
          rintro e w9 ⟨rfl, hj9, hf9⟩
          have Hj := Lib.hid (Hc8.out.other Hj8.out hf9 Hne.out)
          have Hx := Lib.hid (Hx8.out.frJ Hj8.out hf9)
          have Hb := Lib.hid (Hb8.out.trans (hf9.belowB Hb8.out.size (fun k hk => by omega)))
          have Hsegw := Lib.hid (Hseg.out.below Hb.out)
          have ca9 := below_cell Hb.out Hca.out
          simp only [List.length_nil] at ca9 Hsegw
          clear hj9 hf9 hbd8 Hj8 Hc8 Hx8 Hb8 Hj7 Hc7 Hx7 Hb7 Hl7 Hne ca hgj
          obtain ⟨hgj, gj, rfl⟩ : w.heap.size ≤ gc ∧ ∃ gj, gj = gc := ⟨hgcw, _, rfl⟩
          clear hgcw
          go_wp2_with fail
          refine (feed_any _ _ s _ [] Hj.out Hsegw.out Hib.out).mono ?_
          rintro e w4 ⟨r4, rfl, hown4, hj4, hf4⟩
          obtain ⟨A4, c4, rfl, _⟩ := orow_form hown4
          have Hb4 := Lib.hid (Hb.out.trans (hf4.belowB Hb.out.size (fun k hk => by omega)))
          have Hj4 := Lib.hid hj4
          have Hown4 := Lib.hid hown4
          have Hx4 := Lib.hid (Hx.out.frJ Hj.out hf4)
          have ca4 := below_cell Hb4.out Hca.out
          simp only [List.length_nil] at ca4
          have Hseg4 := Lib.hid (Hseg.out.below Hb4.out)
          simp only [List.length_nil] at Hseg4
          clear hown4 hj4 hf4
          go_wp2_with fail
          refine (ref_any _ _ s _ [] Hx4.out Hseg4.out Hib.out).mono ?_
          rintro e w5 ⟨r5, rfl, hown5, hx5, hf5⟩
          obtain ⟨A5, c5, rfl, _⟩ := orow_form hown5
          have Hb5 := Lib.hid (Hb4.out.trans (hf5.belowB Hb4.out.size (fun k hk => by omega)))
          have Hj5 := Lib.hid (Hj4.out.frR Hx4.out hf5)
          have Hx5 := Lib.hid hx5
          have Hp := Lib.hid (show RdB w5 _ (feedF s []).2.1 from Rd1.of_own (row_frR Hown4.out Hx4.out hf5))
          have Hq := Lib.hid (show RdB w5 _ (feedF s []).2.1 from Rd1.of_own hown5)
          have Hio := Lib.hid (feedF_isB Hj.out.ok Hib.out)
          clear hown5 hx5 hf5 Hown4
          obtain ⟨vbx, Ax, cx, hbx⟩ := Hx5.out.blk2
          have kx := bcell hbx 1
          simp only [List.getElem?_toArray, List.getElem?_cons_zero, List.getElem?_cons_succ] at kx
          have hlast := Hx5.out.last
          clear hbx
          generalize hsn : (feedF s []).1 = sn at *
          generalize (feedF s []).2.1 = o at *
          generalize (feedF s []).2.2 = bb at *
          clear hsn
          have hz : o.length = o.length := rfl
          clear hz
          rcases hlast with ⟨hop, hll⟩ | ⟨hop, hll⟩
          · have Hop := Lib.hid hop
            have hll2 : (0 : Int) < (sn.last.length : Int) := by omega
            clear hop
            cases bb with
            | true =>
              go_wp2_with fail
              go_quiet ((first | (go_at_call 13; exact quiet_left (bytesEq_same _ _ o _ (Hp.out.below (below_drewN (Below.refl _ _) _)) (Hq.out.below (below_drewN (Below.refl _ _) _)) Hio.out)) | (go_at_call 14; exact quiet_left (jOpenB _ _ _ _ (Hj5.out.below (below_drewN (Below.refl _ _) _)) Hop.out))))
              go_wp2_with fail
              go_roundw
              case rel => exact ⟨i + 1, _, _, by omega, by go_num, rfl, hgj, Hj5.out.below (below_drewN (Below.refl _ _) _), Hx5.out.below (below_drewN (Below.refl _ _) _), below_drewN Hb5.out _⟩
              case measure => simp [intOf]; omega
            | false =>
              go_wp2_with fail
              go_quiet ((first | (go_at_call 13; exact quiet_left (bytesEq_same _ _ o _ (Hp.out.below (below_drewN (Below.refl _ _) _)) (Hq.out.below (below_drewN (Below.refl _ _) _)) Hio.out)) | (go_at_call 14; exact quiet_left (jOpenB _ _ _ _ (Hj5.out.below (below_drewN (Below.refl _ _) _)) Hop.out))))
              go_wp2_with fail
              go_roundw
              case rel => exact ⟨i + 1, _, _, by omega, by go_num, rfl, hgj, Hj5.out.below (below_drewN (Below.refl _ _) _), Hx5.out.below (below_drewN (Below.refl _ _) _), below_drewN Hb5.out _⟩
              case measure => simp [intOf]; omega
          · have Hop := Lib.hid hop
            clear hop
            rw [hll] at kx
            clear hll
            cases bb with
            | true =>
              go_wp2_with fail
              go_quiet ((first | (go_at_call 13; exact quiet_left (bytesEq_same _ _ o _ (Hp.out.below (below_drewN (Below.refl _ _) _)) (Hq.out.below (below_drewN (Below.refl _ _) _)) Hio.out)) | (go_at_call 14; exact quiet_left (jOpenB _ _ _ _ (Hj5.out.below (below_drewN (Below.refl _ _) _)) Hop.out))))
              go_wp2_with fail
              go_roundw
              case rel => exact ⟨i + 1, _, _, by omega, by go_num, rfl, hgj, Hj5.out.below (below_drewN (Below.refl _ _) _), Hx5.out.below (below_drewN (Below.refl _ _) _), below_drewN Hb5.out _⟩
              case measure => simp [intOf]; omega
            | false =>
              go_wp2_with fail
              go_quiet ((first | (go_at_call 13; exact quiet_left (bytesEq_same _ _ o _ (Hp.out.below (below_drewN (Below.refl _ _) _)) (Hq.out.below (below_drewN (Below.refl _ _) _)) Hio.out)) | (go_at_call 14; exact quiet_left (jOpenB _ _ _ _ (Hj5.out.below (below_drewN (Below.refl _ _) _)) Hop.out))))
              go_wp2_with fail
              go_roundw
              case rel => exact ⟨i + 1, _, _, by omega, by go_num, rfl, hgj, Hj5.out.below (below_drewN (Below.refl _ _) _), Hx5.out.below (below_drewN (Below.refl _ _) _), below_drewN Hb5.out _⟩
              case measure => simp [intOf]; omega
        · have hne : ((seg.length : Int) == 0) = false := beq_eq_false_iff_ne.2 (by omega)
          have Hsegw := Lib.hid (Hseg.out.below Hb.out)
          go_wp2_with fail
          refine (feed_any _ _ s _ seg Hj.out Hsegw.out Hib.out).mono ?_
          rintro e w4 ⟨r4, rfl, hown4, hj4, hf4⟩
          obtain ⟨A4, c4, rfl, _⟩ := orow_form hown4
          have Hb4 := Lib.hid (Hb.out.trans (hf4.belowB Hb.out.size (fun k hk => by omega)))
          have Hj4 := Lib.hid hj4
          have Hown4 := Lib.hid hown4
          have Hx4 := Lib.hid (Hx.out.frJ Hj.out hf4)
          have ca4 := below_cell Hb4.out Hca.out
          have Hseg4 := Lib.hid (Hseg.out.below Hb4.out)
          clear hown4 hj4 hf4
          go_wp2_with fail
          refine (ref_any _ _ s _ seg Hx4.out Hseg4.out Hib.out).mono ?_
          rintro e w5 ⟨r5, rfl, hown5, hx5, hf5⟩
          obtain ⟨A5, c5, rfl, _⟩ := orow_form hown5
          have Hb5 := Lib.hid (Hb4.out.trans (hf5.belowB Hb4.out.size (fun k hk => by omega)))
          have Hj5 := Lib.hid (Hj4.out.frR Hx4.out hf5)
          have Hx5 := Lib.hid hx5
          have Hp := Lib.hid (show RdB w5 _ (feedF s seg).2.1 from Rd1.of_own (row_frR Hown4.out Hx4.out hf5))
          have Hq := Lib.hid (show RdB w5 _ (feedF s seg).2.1 from Rd1.of_own hown5)
          have Hio := Lib.hid (feedF_isB Hj.out.ok Hib.out)
          clear hown5 hx5 hf5 Hown4
          obtain ⟨vbx, Ax, cx, hbx⟩ := Hx5.out.blk2
          have kx := bcell hbx 1
          simp only [List.getElem?_toArray, List.getElem?_cons_zero, List.getElem?_cons_succ] at kx
          have hlast := Hx5.out.last
          clear hbx
          generalize hsn : (feedF s seg).1 = sn at *
          generalize (feedF s seg).2.1 = o at *
          generalize (feedF s seg).2.2 = bb at *
          clear hsn
          have hz : o.length = o.length := rfl
          clear hz
          rcases hlast with ⟨hop, hll⟩ | ⟨hop, hll⟩
          · have Hop := Lib.hid hop
            have hll2 : (0 : Int) < (sn.last.length : Int) := by omega
            clear hop
            cases bb with
            | true =>
              go_wp2_with fail
              go_quiet ((first | (go_at_call 13; exact quiet_left (bytesEq_same _ _ o _ (Hp.out.below (below_drewN (Below.refl _ _) _)) (Hq.out.below (below_drewN (Below.refl _ _) _)) Hio.out)) | (go_at_call 14; exact quiet_left (jOpenB _ _ _ _ (Hj5.out.below (below_drewN (Below.refl _ _) _)) Hop.out))))
              go_wp2_with fail
              go_roundw
              case rel => exact ⟨i + 1, _, _, by omega, by go_num, rfl, hgj, Hj5.out.below (below_drewN (Below.refl _ _) _), Hx5.out.below (below_drewN (Below.refl _ _) _), below_drewN Hb5.out _⟩
              case measure => simp [intOf]; omega
            | false =>
              go_wp2_with fail
              go_quiet ((first | (go_at_call 13; exact quiet_left (bytesEq_same _ _ o _ (Hp.out.below (below_drewN (Below.refl _ _) _)) (Hq.out.below (below_drewN (Below.refl _ _) _)) Hio.out)) | (go_at_call 14; exact quiet_left (jOpenB _ _ _ _ (Hj5.out.below (below_drewN (Below.refl _ _) _)) Hop.out))))
              go_wp2_with fail
              go_roundw
              case rel => exact ⟨i + 1, _, _, by omega, by go_num, rfl, hgj, Hj5.out.below (below_drewN (Below.refl _ _) _), Hx5.out.below (below_drewN (Below.refl _ _) _), below_drewN Hb5.out _⟩
              case measure => simp [intOf]; omega
          · have Hop := Lib.hid hop
            clear hop
            rw [hll] at kx
            clear hll
            cases bb with
            | true =>
              go_wp2_with fail
              go_quiet ((first | (go_at_call 13; exact quiet_left (bytesEq_same _ _ o _ (Hp.out.below (below_drewN (Below.refl _ _) _)) (Hq.out.below (below_drewN (Below.refl _ _) _)) Hio.out)) | (go_at_call 14; exact quiet_left (jOpenB _ _ _ _ (Hj5.out.below (below_drewN (Below.refl _ _) _)) Hop.out))))
              go_wp2_with fail
              go_roundw
              case rel => exact ⟨i + 1, _, _, by omega, by go_num, rfl, hgj, Hj5.out.below (below_drewN (Below.refl _ _) _), Hx5.out.below (below_drewN (Below.refl _ _) _), below_drewN Hb5.out _⟩
              case measure => simp [intOf]; omega
            | false =>
              go_wp2_with fail
              go_quiet ((first | (go_at_call 13; exact quiet_left (bytesEq_same _ _ o _ (Hp.out.below (below_drewN (Below.refl _ _) _)) (Hq.out.below (below_drewN (Below.refl _ _) _)) Hio.out)) | (go_at_call 14; exact quiet_left (jOpenB _ _ _ _ (Hj5.out.below (below_drewN (Below.refl _ _) _)) Hop.out))))
              go_wp2_with fail
              go_roundw
              case rel => exact ⟨i + 1, _, _, by omega, by go_num, rfl, hgj, Hj5.out.below (below_drewN (Below.refl _ _) _), Hx5.out.below (below_drewN (Below.refl _ _) _), below_drewN Hb5.out _⟩
              case measure => simp [intOf]; omega
      · go_wp2_with fail
        obtain ⟨vbd, vld, hbd⟩ := Hj.out.blk3
        refine (jReset _ _ _ _ _ hbd).mono ?_
        rintro e w4 ⟨rfl, hj4, hf4⟩
        have Hj4 := Lib.hid hj4
        have Hb4 := Lib.hid (Hb.out.trans (hf4.belowB Hb.out.size (fun k hk => by omega)))
        clear hj4 hf4 hbd
        go_wp2_with fail
        refine (first_true _).mono ?_
        rintro e w5 ⟨rfl, hb5⟩
        have Hj5 := Lib.hid (Hj4.out.below hb5)
        have Hb5 := Lib.hid (below_next Hb4.out hb5)
        clear hb5
        go_wp2_with fail
        refine (jOpen _ _ _ Hj5.out).mono ?_
        rintro e w6 ⟨rfl, rfl⟩
        rw [show JSt.empty.op = false from rfl]
        go_wp2_with fail
        go_ret
        exact ⟨rfl, Hb5.out⟩
end Go.Proofs.Ytaahigdkbmifbaa

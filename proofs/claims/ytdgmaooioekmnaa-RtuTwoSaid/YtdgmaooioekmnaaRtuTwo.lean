/-
  RtuTwo: the walk.
-/
import Derived.Test.YtdgmaooioekmnaaRtuSizes
namespace Go.Proofs.Ytdgmaooioekmnaa
open Go.RowKit

theorem infoBs : (Try.prog.info? TBs).map (fun i => (i.zero, i.size, i.bytes)) = some (some (.slice none 0 0), 1, 24) := by kernel_rfl

/-- A framer and the frames that ended: rows of their own. -/
structure TwoSt (w W : World) (b : Nat) (sil q : Int) (bs : List Int) (vo : Value) (ys : List Value) (xss : List (List Int)) : Prop where
  below : Below w.heap.size w W
  orow : W.ownsRow w.heap.size TBs 1 vo ys.length ys
  num : ys.length = xss.length
  len : ys.length ≤ 3
  fr : ∃ vb, FrAt W b sil q vb bs ∧ w.heap.size ≤ b ∧ (∀ k, vb.ownBlock = some k → w.heap.size ≤ k) ∧
    ∀ (i : Nat) (y : Value) (xs : List Int), ys[i]? = some y → xss[i]? = some xs → W.ownsRow w.heap.size TB 1 y xs.length (u8s xs) ∧ ∀ k, y.ownBlock = some k → vb.ownBlock ≠ some k
theorem TwoSt.size {w W : World} {b : Nat} {sil q : Int} {bs : List Int} {vo : Value} {ys : List Value} {xss : List (List Int)} (h : TwoSt w W b sil q bs vo ys xss) : w.heap.size ≤ W.heap.size := h.below.size

theorem two_byte (w W : World) (b : Nat) (sil q x : Int) (bs : List Int) (vo : Value) (ys : List Value) (xss : List (List Int)) (h : TwoSt w W b sil q bs vo ys xss) :
    Calls Try.prog 9 #[.pointer (some ⟨b, 0, none⟩), .int .u8 x] W fun e W' => e = .returned (.tuple #[]) ∧ TwoSt w W' b sil 0 (byteF bs x) vo ys xss := by
  obtain ⟨h1, h2, h3, h4, vb, f, f1, f2, f3⟩ := h
  refine (frByte b sil q x vb bs W f).mono ?_
  rintro e W' ⟨rfl, vb', hf, hfr, hat⟩
  refine ⟨rfl, h1.trans (hfr.belowB h1.size (fun k hk => by rcases hk with rfl | hk; exact f1; exact f2 k hk)), ?_, h3, h4, vb', hf, f1, ?_, ?_⟩
  · refine orow_fr h2 hfr (fun k hk e => ?_)
    obtain ⟨_, _, cs, hc⟩ := orow_blk h2 k hk
    rcases e with rfl | e
    · exact bne hc f.str (by decide) rfl
    · obtain ⟨_, _, cs', hc'⟩ := orow_blk f.own k e
      exact bne hc hc' (by decide) rfl
  · intro k hk
    rcases hat k hk with h | h
    · exact f2 k h
    · exact Nat.le_trans h1.size h
  · intro i y xs hy hx
    obtain ⟨g1, g2⟩ := f3 i y xs hy hx
    refine ⟨orow_fr g1 hfr (fun k hk e => ?_), fun k hk e => ?_⟩
    · rcases e with rfl | e
      · exact orow_ne g1 f.str (by decide) hk
      · exact g2 k hk e
    · rcases hat k e with h | h
      · exact g2 k hk h
      · have := (orow_blk g1 k hk).2.1; omega

theorem two_tick (w W : World) (b : Nat) (sil q : Int) (bs : List Int) (vo : Value) (ys : List Value) (xss : List (List Int)) (h : TwoSt w W b sil q bs vo ys xss) (hq : q + 1 < sil) (hb : 0 < bs.length) :
    Calls Try.prog 10 #[.pointer (some ⟨b, 0, none⟩)] W fun e W' => e = .returned (.tuple #[.slice none 0 0, .bool false]) ∧ TwoSt w W' b sil (q + 1) bs vo ys xss := by
  obtain ⟨h1, h2, h3, h4, vb, f, f1, f2, f3⟩ := h
  refine (frTick_waits b sil q vb bs W f hb hq).mono ?_
  rintro e W' ⟨rfl, hf, hfr⟩
  refine ⟨rfl, h1.trans (hfr.belowB h1.size (fun k hk => by rw [hk]; exact f1)), orow_fr h2 hfr (fun k hk e => orow_ne h2 f.str (by decide) (e ▸ hk)), h3, h4, vb, hf, f1, f2, ?_⟩
  intro i y xs hy hx
  obtain ⟨g1, g2⟩ := f3 i y xs hy hx
  exact ⟨orow_fr g1 hfr (fun k hk e => orow_ne g1 f.str (by decide) (e ▸ hk)), g2⟩

/-- The state, and one frame more that has no place in the list yet. -/
structure TwoEnd (w W : World) (b : Nat) (sil : Int) (bs : List Int) (y vo : Value) (ys : List Value) (xss : List (List Int)) : Prop where
  below : Below w.heap.size w W
  orow : W.ownsRow w.heap.size TBs 1 vo ys.length ys
  num : ys.length = xss.length
  len : ys.length ≤ 2
  new : W.ownsRow w.heap.size TB 1 y bs.length (u8s bs)
  fr : ∃ vb, FrAt W b sil 0 vb [] ∧ w.heap.size ≤ b ∧ vb.ownBlock = none ∧
    ∀ (i : Nat) (y : Value) (xs : List Int), ys[i]? = some y → xss[i]? = some xs → W.ownsRow w.heap.size TB 1 y xs.length (u8s xs)
theorem TwoEnd.size {w W : World} {b : Nat} {sil : Int} {bs : List Int} {y vo : Value} {ys : List Value} {xss : List (List Int)} (h : TwoEnd w W b sil bs y vo ys xss) : w.heap.size ≤ W.heap.size := h.below.size
theorem TwoEnd.yform {w W : World} {b : Nat} {sil : Int} {bs : List Int} {y vo : Value} {ys : List Value} {xss : List (List Int)} (h : TwoEnd w W b sil bs y vo ys xss) : ∃ A c, y = .slice A bs.length c ∧ bs.length ≤ c := orow_form h.new

theorem two_end (w W : World) (b : Nat) (sil q : Int) (bs : List Int) (vo : Value) (ys : List Value) (xss : List (List Int)) (h : TwoSt w W b sil q bs vo ys xss) (hq : sil ≤ q + 1) (hb : 0 < bs.length) (hl : ys.length ≤ 2) :
    Calls Try.prog 10 #[.pointer (some ⟨b, 0, none⟩)] W fun e W' => ∃ y, e = .returned (.tuple #[y, .bool true]) ∧ TwoEnd w W' b sil bs y vo ys xss := by
  obtain ⟨h1, h2, h3, h4, vb, f, f1, f2, f3⟩ := h
  refine (frTick_ends b sil q vb bs W f hb hq).mono ?_
  rintro e W' ⟨rfl, hf, hr, hfr⟩
  refine ⟨vb, rfl, h1.trans (hfr.belowB h1.size (fun k hk => by rw [hk]; exact f1)), orow_fr h2 hfr (fun k hk e => orow_ne h2 f.str (by decide) (e ▸ hk)), h3, hl, ?_, _, hf, f1, rfl, ?_⟩
  · refine ⟨hr.1, ?_⟩
    rcases hr.2 with h | ⟨g, cap, cur, rfl, _, r⟩
    · exact .inl h
    · exact .inr ⟨g, cap, cur, rfl, f2 g rfl, r⟩
  · intro i y xs hy hx
    obtain ⟨g1, g2⟩ := f3 i y xs hy hx
    exact orow_fr g1 hfr (fun k hk e => orow_ne g1 f.str (by decide) (e ▸ hk))

theorem TwoEnd.append {w W w6 : World} {b : Nat} {sil : Int} {bs : List Int} {y vo v6 : Value} {ys : List Value} {xss : List (List Int)} {o : Obj} (h : TwoEnd w W b sil bs y vo ys xss)
    (hown : w6.ownsRow w.heap.size TBs 1 v6 (ys.length + 1) (ys ++ [y])) (hg : (W.alloc o).grownBy w6 vo.ownBlock) : TwoSt w w6 b sil 0 [] v6 (ys ++ [y]) (xss ++ [bs]) := by
  obtain ⟨h1, h2, h3, h4, h5, vb, f, f1, f2, f3⟩ := h
  have hfr : Fr (fun k => vo.ownBlock = some k) W w6 := ((Fr.refl _ W).alloc o).grown hg (fun k hk => .inl hk)
  have keep : ∀ (z : Value) (xs : List Int), W.ownsRow w.heap.size TB 1 z xs.length (u8s xs) → w6.ownsRow w.heap.size TB 1 z xs.length (u8s xs) := by
    intro z xs hz
    refine orow_fr hz hfr (fun k hk e => ?_)
    obtain ⟨_, _, cs, hc⟩ := orow_blk h2 k e
    exact orow_ne hz hc (by decide) hk
  refine ⟨(h1.alloc h1.size o).grown hg (by simp; exact Nat.le_succ_of_le h1.size) (fun k hk => (orow_blk h2 k hk).1), by simpa using hown, by simp [h3], by simp; omega, vb, ?_, f1, (fun k hk => by rw [f2] at hk; cases hk), ?_⟩
  · refine f.fr hfr (fun e => ?_) (fun k hk => by rw [f2] at hk; cases hk)
    exact orow_ne h2 f.str (by decide) e
  · intro i z xs hz hx
    refine ⟨?_, fun k hk e => by rw [f2] at e; cases e⟩
    by_cases hi : i < ys.length
    · rw [List.getElem?_append_left hi] at hz
      rw [List.getElem?_append_left (by omega)] at hx
      exact keep _ _ (f3 i z xs hz hx)
    · have hi2 : i = ys.length := by
        have := (List.getElem?_eq_some_iff.1 hz).1
        simp at this; omega
      subst hi2
      simp at hz
      rw [h3] at hx
      simp at hx
      subst hz; subst hx
      exact keep _ _ h5

set_option maxRecDepth 20000 in
set_option maxHeartbeats 4000000 in
theorem two_true (sil : Int) (v u : Value) (aa bs : List Int) (w : World) (h : RdB w v aa) (h2 : RdB w u bs) (has : IsB aa) (hbs : IsB bs) :
    Calls Try.prog 3 #[.int .i64 sil, v, u] w fun e w' => e = .returned (.bool true) ∧ Below w.heap.size w w' := by
  obtain ⟨A1, c1, rfl, hc1⟩ := h.form
  obtain ⟨A2, c2, rfl, hc2⟩ := h2.form
  have Hra := Lib.hid h
  have Hrb := Lib.hid h2
  have Hia := Lib.hid has
  have Hib := Lib.hid hbs
  clear h h2 has hbs
  by_cases hs : ¬ (1 ≤ sil ∧ sil ≤ 100)
  · have Hs := Lib.hid hs
    clear hs
    go_enter Try.func3, Try.ntmps3
    go_wp2_with fail
    refine (first_true _).mono ?_
    rintro e w1 ⟨rfl, hb1⟩
    have Hb1 := Lib.hid hb1
    clear hb1
    go_wp2_with fail
    refine (rtuNew_bad sil _ Hs.out).mono ?_
    rintro e w2 ⟨rfl, rfl⟩
    go_wp2_with (go_at_call 7; refine (first_true _).mono ?_; rintro e w9 ⟨rfl, hb9⟩)
    go_ret
    exact ⟨rfl, below_next (below_alloc Hb1.out _) hb9⟩
  have hs1 : 1 ≤ sil := by omega
  have hs2 : sil ≤ 100 := by omega
  clear hs
  go_enter Try.func3, Try.ntmps3
  go_wp2_with fail
  refine (first_true _).mono ?_
  rintro e w1 ⟨rfl, hb1⟩
  have Hb1 := Lib.hid hb1
  clear hb1
  go_wp2_with fail
  refine (rtuNew_ok sil _ ⟨hs1, hs2⟩).mono ?_
  rintro e w2 ⟨rfl, hf2, rfl⟩
  have Hb2 := Lib.hid (below_alloc Hb1.out (.cells #[.int .i64 sil, .int .i64 0, .slice none 0 0] TFr))
  have Hst := Lib.hid (show TwoSt w _ w1.heap.size sil 0 [] (.slice none 0 0) [] [] from
    ⟨Hb2.out, orow_nil _ _ _ _, rfl, by simp, _, hf2, Hb1.out.size, fun k hk => by simp [Value.ownBlock] at hk, fun i y xs hy => by simp at hy⟩)
  clear hf2
  generalize w1.heap.size = b at *
  generalize w1.alloc (.cells #[.int .i64 sil, .int .i64 0, .slice none 0 0] TFr) = W2 at *
  by_cases h0 : aa.length = 0
  · have hz : ((aa.length : Int) == 0) = true := beq_iff_eq.2 (by omega)
    clear h0
    go_wp2_with (go_at_call 7; refine (first_true _).mono ?_; rintro e w9 ⟨rfl, hb9⟩)
    go_ret
    exact ⟨rfl, below_next Hb2.out hb9⟩
  have hz : ((aa.length : Int) == 0) = false := beq_eq_false_iff_ne.2 (by omega)
  have hposa : 0 < aa.length := by omega
  clear h0
  by_cases h0 : bs.length = 0
  · have hz2 : ((bs.length : Int) == 0) = true := beq_iff_eq.2 (by omega)
    clear h0
    go_wp2_with (go_at_call 7; refine (first_true _).mono ?_; rintro e w9 ⟨rfl, hb9⟩)
    go_ret
    exact ⟨rfl, below_next Hb2.out hb9⟩
  have hz2 : ((bs.length : Int) == 0) = false := beq_eq_false_iff_ne.2 (by omega)
  have hposb : 0 < bs.length := by omega
  clear h0
  by_cases ha100 : 100 < aa.length
  · go_wp2_with (go_at_call 7; refine (first_true _).mono ?_; rintro e w9 ⟨rfl, hb9⟩)
    go_ret
    exact ⟨rfl, below_next Hb2.out hb9⟩
  by_cases hb100 : 100 < bs.length
  · go_wp2_with (go_at_call 7; refine (first_true _).mono ?_; rintro e w9 ⟨rfl, hb9⟩)
    go_ret
    exact ⟨rfl, below_next Hb2.out hb9⟩
  go_wp2_with fail
  go_loopw [9, 10] (fun vo t wr => ∃ k : Nat, k ≤ 2 ∧ t = .int .i64 k ∧ ∃ ys xss, xss = [aa, bs].take k ∧ TwoSt w wr b sil 0 [] vo ys xss) (fun _ t _ => 2 - (intOf t).toNat)
  case atStart => exact ⟨0, by omega, rfl, [], [], rfl, Hst.out⟩
  case round =>
    obtain ⟨k, hk, rfl, ys, xss, hxss, hst⟩ := hrel
    clear Hst
    have Hst := Lib.hid hst
    have Hxss := Lib.hid hxss
    have hys : ys.length = k := by rw [hst.num, hxss, List.length_take]; simp; omega
    have Hys := Lib.hid hys
    clear hst hxss hys
    obtain ⟨vo, hvo⟩ : ∃ vo, vo = u9 := ⟨_, rfl⟩
    subst hvo
    match k, hk with
    | 0, hk =>
      have hxss : xss = [] := Hxss.out
      simp only [Int.natCast_zero]
      have Hx := Lib.hid (show RdB w (.slice A1 aa.length c1) aa from Hra.out)
      have Hxi := Lib.hid Hia.out
      have hxpos : 0 < aa.length := by omega
      have hx100 : aa.length ≤ 100 := by omega
      go_wp2_with fail
      go_loopw [12] (fun t wr => ∃ i : Nat, i ≤ aa.length ∧ t = .int .i64 i ∧ TwoSt w wr b sil 0 (aa.take i) vo ys xss) (fun t _ => aa.length - (intOf t).toNat)
      case atStart => exact ⟨0, by omega, rfl, Hst.out⟩
      case round =>
        obtain ⟨i, hi, rfl, hst⟩ := hrel
        have Hst2 := Lib.hid hst
        clear hst Hst
        by_cases hlt : i < aa.length
        · obtain ⟨g, o, rfl, ck⟩ := (Hx.out.below Hst2.out.below).at i hlt
          have hbyte := byteF_take aa i hlt (by omega)
          have Hbyte := Lib.hid hbyte
          clear hbyte
          generalize aa.getD i 0 = x at *
          have hz1 : (0 : Int) ≤ (i : Int) := by omega
          go_wp2_with fail
          refine (two_byte _ _ _ _ _ _ _ _ _ _ Hst2.out).mono ?_
          rintro e w4 ⟨rfl, hst3⟩
          rw [Hbyte.out] at hst3
          have Hst3 := Lib.hid hst3
          clear hst3
          go_wp2_with fail
          go_roundw
          case rel => exact ⟨i + 1, by omega, by go_num, Hst3.out⟩
          case measure => simp [intOf]; omega
        · have hst2 : TwoSt w wr b sil 0 aa vo ys xss := by have := Hst2.out; rwa [List.take_of_length_le (by omega)] at this
          have Hst' := Lib.hid hst2
          clear hst2 Hst2
          go_wp2_with fail
          go_loopw [9, 13] (fun vo' t wr => ∃ m : Nat, (m : Int) ≤ sil ∧ t = .int .i64 m ∧ ((m < sil ∧ vo' = vo ∧ TwoSt w wr b sil m aa vo ys xss) ∨ ((m : Int) = sil ∧ ∃ y, TwoSt w wr b sil 0 [] vo' (ys ++ [y]) (xss ++ [aa])))) (fun _ t _ => sil.toNat - (intOf t).toNat)
          case atStart => exact ⟨0, by omega, rfl, .inl ⟨by omega, rfl, Hst'.out⟩⟩
          case round =>
            obtain ⟨m, hm, rfl, hor⟩ := hrel
            have Hor := Lib.hid hor
            clear hor
            by_cases hlt2 : (m : Int) < sil
            · obtain ⟨rfl, hst4⟩ : u9 = vo ∧ TwoSt w wr b sil m aa vo ys xss := by
                rcases Hor.out with ⟨_, h1, h2⟩ | ⟨h1, _⟩
                · exact ⟨h1, h2⟩
                · omega
              have Hst4 := Lib.hid hst4
              clear hst4 Hor
              by_cases hq : (m : Int) + 1 < sil
              · go_wp2_with fail
                refine (two_tick _ _ _ _ _ _ _ _ _ Hst4.out hq hxpos).mono ?_
                rintro e w5 ⟨rfl, hst5⟩
                have Hst5 := Lib.hid hst5
                clear hst5
                go_wp2_with fail
                go_roundw
                case rel => exact ⟨m + 1, by omega, by go_num, .inl ⟨by omega, rfl, Hst5.out⟩⟩
                case measure => simp [intOf]; omega
              · go_wp2_with fail
                refine (two_end _ _ _ _ _ _ _ _ _ Hst4.out (by omega) hxpos (by have := Hys.out; omega)).mono ?_
                rintro e w5 ⟨y, rfl, hst5⟩
                obtain ⟨Ay, cy, rfl, hcy⟩ := hst5.yform
                have Hst5 := Lib.hid hst5
                obtain ⟨i, hi, hz0, hz1, hz2⟩ := info_parts infoBs
                have hys := Hst5.out.len
                clear hst5
                go_wp2_with (at_builtin; refine wpList_append_own _ rfl _ _ 29 rfl w.heap.size TBs i (.slice none 0 0) 1 24 Try.underlying29 hi hz0 hz1 hz2 rfl (by decide) _ ys.length ys rfl (orow_alloc Hst5.out.orow _) ⟨w5.heap.size, 0, none⟩ 1 1 [.slice Ay aa.length cy] rfl rfl (newsLit rfl _ _) (by simp [Value.oneCell']) (by unfold maxLen; omega) (by omega) (by simp; exact Nat.le_succ_of_le Hst5.out.size) ?_)
                intro v6 w6 hown6 hg6 hne6
                have Hst6 := Lib.hid (Hst5.out.append (by simpa using hown6) hg6)
                clear hown6 hg6 hne6 hi hz0 hz1 hz2 hys
                go_wp2_with fail
                go_roundw
                case rel => exact ⟨m + 1, by omega, by go_num, .inr ⟨by omega, _, Hst6.out⟩⟩
                case measure => simp [intOf]; omega
            · obtain ⟨y, hst4⟩ : ∃ y, TwoSt w wr b sil 0 [] u9 (ys ++ [y]) (xss ++ [aa]) := by
                rcases Hor.out with ⟨h1, _⟩ | ⟨_, h1⟩
                · omega
                · exact h1
              have Hst4 := Lib.hid hst4
              clear hst4 Hor
              go_wp2_with fail
              go_roundw
              case rel => exact ⟨1, by omega, by go_num, _, _, by subst hxss; rfl, Hst4.out⟩
              case measure => simp [intOf]
    | 1, hk =>
      have hxss : xss = [aa] := Hxss.out
      simp only [show (((1 : Nat)) : Int) = 1 from rfl]
      have Hx := Lib.hid (show RdB w (.slice A2 bs.length c2) bs from Hrb.out)
      have Hxi := Lib.hid Hib.out
      have hxpos : 0 < bs.length := by omega
      have hx100 : bs.length ≤ 100 := by omega
      go_wp2_with fail
      go_loopw [12] (fun t wr => ∃ i : Nat, i ≤ bs.length ∧ t = .int .i64 i ∧ TwoSt w wr b sil 0 (bs.take i) vo ys xss) (fun t _ => bs.length - (intOf t).toNat)
      case atStart => exact ⟨0, by omega, rfl, Hst.out⟩
      case round =>
        obtain ⟨i, hi, rfl, hst⟩ := hrel
        have Hst2 := Lib.hid hst
        clear hst Hst
        by_cases hlt : i < bs.length
        · obtain ⟨g, o, rfl, ck⟩ := (Hx.out.below Hst2.out.below).at i hlt
          have hbyte := byteF_take bs i hlt (by omega)
          have Hbyte := Lib.hid hbyte
          clear hbyte
          generalize bs.getD i 0 = x at *
          have hz1 : (0 : Int) ≤ (i : Int) := by omega
          go_wp2_with fail
          refine (two_byte _ _ _ _ _ _ _ _ _ _ Hst2.out).mono ?_
          rintro e w4 ⟨rfl, hst3⟩
          rw [Hbyte.out] at hst3
          have Hst3 := Lib.hid hst3
          clear hst3
          go_wp2_with fail
          go_roundw
          case rel => exact ⟨i + 1, by omega, by go_num, Hst3.out⟩
          case measure => simp [intOf]; omega
        · have hst2 : TwoSt w wr b sil 0 bs vo ys xss := by have := Hst2.out; rwa [List.take_of_length_le (by omega)] at this
          have Hst' := Lib.hid hst2
          clear hst2 Hst2
          go_wp2_with fail
          go_loopw [9, 13] (fun vo' t wr => ∃ m : Nat, (m : Int) ≤ sil ∧ t = .int .i64 m ∧ ((m < sil ∧ vo' = vo ∧ TwoSt w wr b sil m bs vo ys xss) ∨ ((m : Int) = sil ∧ ∃ y, TwoSt w wr b sil 0 [] vo' (ys ++ [y]) (xss ++ [bs])))) (fun _ t _ => sil.toNat - (intOf t).toNat)
          case atStart => exact ⟨0, by omega, rfl, .inl ⟨by omega, rfl, Hst'.out⟩⟩
          case round =>
            obtain ⟨m, hm, rfl, hor⟩ := hrel
            have Hor := Lib.hid hor
            clear hor
            by_cases hlt2 : (m : Int) < sil
            · obtain ⟨rfl, hst4⟩ : u9 = vo ∧ TwoSt w wr b sil m bs vo ys xss := by
                rcases Hor.out with ⟨_, h1, h2⟩ | ⟨h1, _⟩
                · exact ⟨h1, h2⟩
                · omega
              have Hst4 := Lib.hid hst4
              clear hst4 Hor
              by_cases hq : (m : Int) + 1 < sil
              · go_wp2_with fail
                refine (two_tick _ _ _ _ _ _ _ _ _ Hst4.out hq hxpos).mono ?_
                rintro e w5 ⟨rfl, hst5⟩
                have Hst5 := Lib.hid hst5
                clear hst5
                go_wp2_with fail
                go_roundw
                case rel => exact ⟨m + 1, by omega, by go_num, .inl ⟨by omega, rfl, Hst5.out⟩⟩
                case measure => simp [intOf]; omega
              · go_wp2_with fail
                refine (two_end _ _ _ _ _ _ _ _ _ Hst4.out (by omega) hxpos (by have := Hys.out; omega)).mono ?_
                rintro e w5 ⟨y, rfl, hst5⟩
                obtain ⟨Ay, cy, rfl, hcy⟩ := hst5.yform
                have Hst5 := Lib.hid hst5
                obtain ⟨i, hi, hz0, hz1, hz2⟩ := info_parts infoBs
                have hys := Hst5.out.len
                clear hst5
                go_wp2_with (at_builtin; refine wpList_append_own _ rfl _ _ 29 rfl w.heap.size TBs i (.slice none 0 0) 1 24 Try.underlying29 hi hz0 hz1 hz2 rfl (by decide) _ ys.length ys rfl (orow_alloc Hst5.out.orow _) ⟨w5.heap.size, 0, none⟩ 1 1 [.slice Ay bs.length cy] rfl rfl (newsLit rfl _ _) (by simp [Value.oneCell']) (by unfold maxLen; omega) (by omega) (by simp; exact Nat.le_succ_of_le Hst5.out.size) ?_)
                intro v6 w6 hown6 hg6 hne6
                have Hst6 := Lib.hid (Hst5.out.append (by simpa using hown6) hg6)
                clear hown6 hg6 hne6 hi hz0 hz1 hz2 hys
                go_wp2_with fail
                go_roundw
                case rel => exact ⟨m + 1, by omega, by go_num, .inr ⟨by omega, _, Hst6.out⟩⟩
                case measure => simp [intOf]; omega
            · obtain ⟨y, hst4⟩ : ∃ y, TwoSt w wr b sil 0 [] u9 (ys ++ [y]) (xss ++ [bs]) := by
                rcases Hor.out with ⟨h1, _⟩ | ⟨_, h1⟩
                · omega
                · exact h1
              have Hst4 := Lib.hid hst4
              clear hst4 Hor
              go_wp2_with fail
              go_roundw
              case rel => exact ⟨2, by omega, by go_num, _, _, by subst hxss; rfl, Hst4.out⟩
              case measure => simp [intOf]
    | 2, hk =>
      have hxss : xss = [aa, bs] := Hxss.out
      have hst := Hst.out
      rw [hxss] at hst
      have hn := hst.num
      match ys, hn with
      | [y0, y1], _ =>
        have Hst3 := Lib.hid hst
        clear hst hn Hst hxss Hxss Hys
        simp only [show (((2 : Nat)) : Int) = 2 from rfl]
        obtain ⟨vb, _, _, _, hys⟩ := Hst3.out.fr
        have Hy0 := Lib.hid (show RdB wr y0 aa from Rd1.of_own (hys 0 y0 aa rfl rfl).1)
        have Hy1 := Lib.hid (show RdB wr y1 bs from Rd1.of_own (hys 1 y1 bs rfl rfl).1)
        obtain ⟨Y0, cy0, rfl, _⟩ := orow_form (hys 0 y0 aa rfl rfl).1
        obtain ⟨Y1, cy1, rfl, _⟩ := orow_form (hys 1 y1 bs rfl rfl).1
        obtain ⟨go, co, cur, rfl, _, hgo, hco, _, _, htk⟩ := orow_pos Hst3.out.orow (by simp)
        have Hb3 := Lib.hid Hst3.out.below
        have e0 : wr.cell? ⟨go, 0, none⟩ = some (.slice Y0 aa.length cy0) := by
          have := Hst3.out.orow.cellAt 0 (by simp); simpa using this
        have e1 : wr.cell? ⟨go, 1, none⟩ = some (.slice Y1 bs.length cy1) := by
          have := Hst3.out.orow.cellAt 1 (by simp); simpa using this
        have He := Lib.hid (And.intro e0 e1)
        clear hys Hst3 e0 e1 htk hgo
        simp only [List.length_cons, List.length_nil]
        go_wp2_with fail
        refine (first_true _).mono ?_
        rintro e w5 ⟨rfl, hb5⟩
        have e0 := below_cell hb5 He.out.1
        have e1 := below_cell hb5 He.out.2
        have Hb5 := Lib.hid hb5
        clear hb5
        go_wp2_with fail
        refine (bytesEq _ _ aa aa _ (Hy0.out.below Hb5.out) (Hra.out.below (below_next Hb3.out Hb5.out)) Hia.out Hia.out).mono ?_
        rintro e w6 ⟨rfl, rfl⟩
        rw [decide_eq_true rfl]
        go_wp2_with fail
        refine (bytesEq _ _ bs bs _ (Hy1.out.below Hb5.out) (Hrb.out.below (below_next Hb3.out Hb5.out)) Hib.out Hib.out).mono ?_
        rintro e w6 ⟨rfl, rfl⟩
        rw [decide_eq_true rfl]
        go_wp2_with fail
        go_ret
        exact ⟨rfl, below_next Hb3.out Hb5.out⟩
end Go.Proofs.Ytdgmaooioekmnaa

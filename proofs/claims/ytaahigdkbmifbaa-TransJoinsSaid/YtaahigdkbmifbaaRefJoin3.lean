/-
  The document's joiner: Feed, the ways that take a segment.
-/
import Derived.Test.YtaahigdkbmifbaaRefJoin2
import Derived.Deep.RegionLaw
namespace Go.Proofs.Ytaahigdkbmifbaa
open Go.RowKit

theorem RJAt.ne_cell {w : World} {g gs os : Nat} {s : JSt} {n : Int} (h : RJAt w g s) (hc : w.cell? ⟨gs, os, none⟩ = some (.int .u8 n)) : gs ≠ g := by
  rintro rfl
  obtain ⟨_, _, vb, vl, h1, h2, h3⟩ := h
  obtain ⟨A1, c1, rfl, _⟩ := orow_form h2
  obtain ⟨A2, c2, rfl, _⟩ := orow_form h3
  rw [bcell h1 os] at hc
  match os, hc with
  | 0, hc => simp at hc
  | 1, hc => simp at hc
  | n + 2, hc => simp at hc

/-- What stands behind a segment that was taken: over the state t, the segment seg. -/
def RefPost (w : World) (g : Nat) (t : JSt) (seg : List Int) (fin : Bool) (e : Ending) (w' : World) : Prop :=
  ∃ r, e = .returned (.tuple #[r, .bool fin]) ∧ w'.ownsRow w.heap.size TB 1 r (if fin then (t.took seg).b else []).length (u8s (if fin then (t.took seg).b else [])) ∧ RJAt w' g (if fin then JSt.empty else t.took seg) ∧ Fr (fun k => k = g) w w'

theorem RefPost.mk0 {w w' : World} {g : Nat} {t : JSt} {seg : List Int} (h : RJAt w' g (t.took seg)) (hf : Fr (fun k => k = g) w w') : RefPost w g t seg false (.returned (.tuple #[.slice none 0 0, .bool false])) w' :=
  ⟨_, rfl, orow_nil _ _ _ _, h, hf⟩
theorem RefPost.mk1 {w w' : World} {g : Nat} {t : JSt} {seg : List Int} {r : Value} {n : Nat} (ho : w'.ownsRow w.heap.size TB 1 r n (u8s (t.took seg).b)) (h : RJAt w' g JSt.empty) (hf : Fr (fun k => k = g) w w') : RefPost w g t seg true (.returned (.tuple #[r, .bool true])) w' :=
  ⟨_, rfl, by have : n = (t.took seg).b.length := by have := ho.1; simpa using this.symm
              subst this; exact ho, h, hf⟩

theorem own_took' {w : World} {base n : Nat} {v : Value} {xs : List Int} {t : JSt} {seg : List Int} (h : w.ownsRow base TB 1 v n (u8s xs)) (e : (JSt.took t seg).b = xs) : w.ownsRow base TB 1 v (t.took seg).b.length (u8s (t.took seg).b) := by
  subst e
  have : n = (t.took seg).b.length := by have := h.1; simpa using this.symm
  subst this; exact h
theorem own_took {w : World} {base n : Nat} {v : Value} {xs : List Int} {t : JSt} {seg : List Int} (h : w.ownsRow base TB 1 v n (u8s xs)) (e : (JSt.took t seg).b = xs) : w.ownsRow 0 TB 1 v (t.took seg).b.length (u8s (t.took seg).b) :=
  orow_weaken (own_took' h e) (Nat.zero_le _)

set_option maxRecDepth 20000 in
set_option maxHeartbeats 2000000 in
theorem ref_first (w : World) (g : Nat) (s : JSt) (v : Value) (seg : List Int) (fin : Bool) (h : RJAt w g s) (hr : RdB w v seg) (hib : IsB seg) (h2 : 2 ≤ seg.length) (h3 : seg.length ≤ 250) (hf : firB (seg.getD 0 0).toNat = true) (hn : finB (seg.getD 0 0).toNat = fin) :
    Calls Try.prog 18 #[.pointer (some ⟨g, 0, none⟩), v] w (RefPost w g JSt.empty seg fin) := by
  obtain ⟨A, c, rfl, hc⟩ := hr.form
  obtain ⟨gs, os, rfl, ck⟩ := hr.at 0 (by omega)
  rw [Nat.add_zero] at ck
  obtain ⟨x0, x1⟩ := hib.at 0 (by omega)
  have Hgs := Lib.hid (RJAt.ne_cell h ck)
  generalize hx7 : seg.getD 0 0 = x at *
  obtain ⟨y, rfl⟩ := Int.eq_ofNat_of_zero_le x0
  replace hx7 := Lib.hid hx7
  rw [Int.toNat_natCast] at hf hn
  have e1 := u8_and_nat y 64 (by omega) (by omega)
  have e2 := u8_and_nat y 128 (by omega) (by omega)
  have b1 : (((y &&& 64 : Nat) : Int) != 0) = true := by rw [bne_iff_ne]; have := of_decide_eq_true hf; omega
  have b2 : (((y &&& 128 : Nat) : Int) == 0) = !fin := by
    cases fin with
    | true => have := of_decide_eq_true hn; simp; omega
    | false => have := of_decide_eq_false hn; simp; omega
  have Hr := Lib.hid hr
  have Hib := Lib.hid hib
  have Hok2 := Lib.hid (JAt.took_ok JOk.empty hib h2 h3 (by simp [JSt.empty]; omega))
  obtain ⟨ok, inv, vb, vl, hst, hvb, hvl⟩ := h
  have Hst := Lib.hid hst
  have z1 : (1 : Int) ≤ (seg.length : Int) := by omega
  have hz0 : (0 : Int) < (seg.length : Int) := by omega
  simp only [show ((64 : Nat) : Int) = 64 from rfl, show ((128 : Nat) : Int) = 128 from rfl] at e1 e2
  have hcut := hr.cut 1 seg.length (by omega) (by omega)
  rw [List.take_length] at hcut
  have Hcut := Lib.hid hcut
  have t0 := bcell hst 0
  have f0 := bfroz hst 0
  simp only [List.getElem?_toArray, List.getElem?_cons_zero, List.getElem?_cons_succ] at t0
  have hc1 : ¬ c = 1 := by omega
  have htk : (JSt.empty.took seg).b = seg.drop 1 := rfl
  have Htk := Lib.hid htk
  clear hr hib ok inv hst hvb hvl hf hn x0 hcut htk
  go_enter Try.func18, Try.ntmps18
  go_wp2_with fail
  refine (copyB _ (seg.drop 1) _ Hcut.out (by simp; omega)).mono ?_
  rintro e w3 ⟨v3, rfl, hown3, hb3⟩
  obtain ⟨A3, c3, rfl, _⟩ := orow_form hown3
  simp only [List.length_drop] at hown3 ⊢
  have hst3 := ((hb3).block g (blt Hst.out)).trans Hst.out
  have q0 := bcell hst3 0
  have fz0 := bfroz hst3 0
  simp only [List.getElem?_toArray, List.getElem?_cons_zero, List.getElem?_cons_succ] at q0
  have Hst3 := Lib.hid hst3
  have Hown3 := Lib.hid hown3
  have Hf3 := Lib.hid (show Fr (fun k => k = g) w w3 from Fr.of_below hb3)
  have Hrd3 := Lib.hid (Hr.out.fr Hf3.out (fun k hk e => by simp [Value.ownBlock] at hk; exact Hgs.out (hk.trans e)))
  clear hst3 hown3
  go_wp2_with fail
  generalize hbv : Value.slice A3 (seg.length - 1) c3 = vb3 at *
  clear hbv
  have hst4 : (w3.setCell ⟨g, 0, none⟩ vb3).heap[g]? = some (.cells #[vb3, vl] TRJ (0, 0)) := bset Hst3.out 0 vb3
  have Hf4 := Lib.hid (Hf3.out.setCell (p := ⟨g, 0, none⟩) (.inl rfl) vb3)
  have Hf34 := Lib.hid (Fr.setCell (S := fun k => k = g) (Fr.refl (fun k => k = g) w3) (p := ⟨g, 0, none⟩) (.inl rfl) vb3)
  have Hrd4 := Lib.hid (Hrd3.out.fr Hf34.out (fun k hk e => by simp [Value.ownBlock] at hk; exact Hgs.out (hk.trans e)))
  have Hown4 := Lib.hid (orow_fr Hown3.out Hf34.out (fun k hk e => orow_ne Hown3.out Hst3.out (by decide) (e ▸ hk)))
  have Hst4 := Lib.hid hst4
  clear hst4 q0 fz0
  generalize w3.setCell ⟨g, 0, none⟩ vb3 = w4 at *
  refine (copyB _ seg _ Hrd4.out (by omega)).mono ?_
  rintro e w6 ⟨v6, rfl, hown6, hb6⟩
  obtain ⟨A6, c6, rfl, _⟩ := orow_form hown6
  have hst6 := (hb6.block g (blt Hst4.out)).trans Hst4.out
  have q1 := bcell hst6 1
  have fz1 := bfroz hst6 1
  have fz60 := bfroz hst6 0
  simp only [List.getElem?_toArray, List.getElem?_cons_zero, List.getElem?_cons_succ] at q1
  have Hst6 := Lib.hid hst6
  have Hf6 := Lib.hid (Hf4.out.then_below hb6)
  have Hrd6 := Lib.hid (Hrd4.out.below hb6)
  have Hown6 := Lib.hid (orow_below Hown4.out hb6)
  have Hlast6 := Lib.hid (orow_weaken hown6 (Nat.zero_le _))
  have Hfl := Lib.hid (show Fr (fun k => k = g) w6 (w6.setCell ⟨g, 1, none⟩ (.slice A6 seg.length c6)) from Fr.setCell (S := fun k => k = g) (Fr.refl _ _) (p := ⟨g, 1, none⟩) (.inl rfl) _)
  clear hst6 hown6 hb6
  have hrd7 := Hrd6.out.fr Hfl.out (fun k hk e => by simp [Value.ownBlock] at hk; exact Hgs.out (hk.trans e))
  have hst7 : (w6.setCell ⟨g, 1, none⟩ (.slice A6 seg.length c6)).heap[g]? = some (.cells #[vb3, .slice A6 seg.length c6] TRJ (0, 0)) := bset Hst6.out 1 _
  have Hlast7 := Lib.hid (orow_fr Hlast6.out Hfl.out (fun k hk e => orow_ne Hlast6.out Hst6.out (by decide) (e ▸ hk)))
  have Hown7 := Lib.hid (orow_fr Hown6.out Hfl.out (fun k hk e => orow_ne Hown6.out Hst6.out (by decide) (e ▸ hk)))
  have Hf7 := Lib.hid (Hf6.out.setCell (p := ⟨g, 1, none⟩) (.inl rfl) (.slice A6 seg.length c6))
  obtain ⟨gs', os', hgs', ck7⟩ := hrd7.at 0 (by omega)
  simp only [Option.some.injEq, Addr.mk.injEq, and_true] at hgs'
  obtain ⟨rfl, rfl⟩ := hgs'
  rw [Nat.add_zero, hx7.out] at ck7
  have r0 := bcell hst7 0
  simp only [List.getElem?_toArray, List.getElem?_cons_zero, List.getElem?_cons_succ] at r0
  have Hst7 := Lib.hid hst7
  have Hdr := Lib.hid (RJAt.dropped hst7)
  clear hrd7 hst7
  cases fin with
  | false =>
    go_wp2_with fail
    go_ret2
    exact RefPost.mk0 ⟨Hok2.out, .inl rfl, _, _, Hst7.out, own_took Hown7.out Htk.out, Hlast7.out⟩ Hf7.out
  | true =>
    go_wp2_with fail
    go_ret2
    exact RefPost.mk1 (t := JSt.empty) (own_took' (orow_fr Hown7.out Hdr.out.2 (fun k hk e => orow_ne Hown7.out Hst7.out (by decide) (e ▸ hk))) Htk.out) Hdr.out.1 (Hf7.out.trans_same Hdr.out.2)

set_option maxRecDepth 20000 in
set_option maxHeartbeats 2000000 in
theorem ref_next (w : World) (g : Nat) (s : JSt) (v : Value) (seg : List Int) (fin : Bool) (h : RJAt w g s) (hr : RdB w v seg) (hib : IsB seg) (h2 : 2 ≤ seg.length) (h3 : seg.length ≤ 250) (hf : firB (seg.getD 0 0).toNat = false) (hn : finB (seg.getD 0 0).toNat = fin) (hop : s.op = true) (hne : seg ≠ s.last)
    (hnum : (seg.getD 0 0).toNat % 64 = ((s.last.getD 0 0).toNat + 1) % 64) (hlen : s.b.length + seg.length ≤ 2049) :
    Calls Try.prog 18 #[.pointer (some ⟨g, 0, none⟩), v] w (RefPost w g s seg fin) := by
  obtain ⟨A, c, rfl, hc⟩ := hr.form
  obtain ⟨gs, os, rfl, ck⟩ := hr.at 0 (by omega)
  rw [Nat.add_zero] at ck
  obtain ⟨x0, x1⟩ := hib.at 0 (by omega)
  have Hgs := Lib.hid (RJAt.ne_cell h ck)
  generalize hx7 : seg.getD 0 0 = x at *
  obtain ⟨y, rfl⟩ := Int.eq_ofNat_of_zero_le x0
  replace hx7 := Lib.hid hx7
  rw [Int.toNat_natCast] at hf hn hnum
  have e1 := u8_and_nat y 64 (by omega) (by omega)
  have b1 : (((y &&& 64 : Nat) : Int) != 0) = false := by rw [bne_eq_false_iff_eq]; have := of_decide_eq_false hf; omega
  have e2 := u8_and_nat y 128 (by omega) (by omega)
  have b2 : (((y &&& 128 : Nat) : Int) == 0) = !fin := by
    cases fin with
    | true => have := of_decide_eq_true hn; simp; omega
    | false => have := of_decide_eq_false hn; simp; omega
  have Hok2 := Lib.hid (JAt.took_ok h.ok hib h2 h3 hlen)
  have Htk := Lib.hid (show (s.took seg).b = s.b ++ seg.drop 1 from rfl)
  have Hr := Lib.hid hr
  have Hib := Lib.hid hib
  obtain ⟨ok, inv, vb, vl, hst, hvb, hvl⟩ := h
  have Hst := Lib.hid hst
  have z1 : (1 : Int) ≤ (seg.length : Int) := by omega
  have hz0 : (0 : Int) < (seg.length : Int) := by omega
  simp only [show ((64 : Nat) : Int) = 64 from rfl, show ((128 : Nat) : Int) = 128 from rfl] at e1 e2
  obtain ⟨Al, cl, rfl, hcl⟩ := orow_form hvl
  have hlpos := ok.pos hop
  obtain ⟨gl, ol, hle, cl0⟩ := (show RdB w _ s.last from Rd1.of_own hvl).at 0 hlpos
  subst hle
  rw [Nat.add_zero] at cl0
  obtain ⟨l0, l1⟩ := ok.il.at 0 hlpos
  generalize s.last.getD 0 0 = xl at *
  obtain ⟨yl, rfl⟩ := Int.eq_ofNat_of_zero_le l0
  rw [Int.toNat_natCast] at hnum
  obtain ⟨Ab, cb, rfl, hcb⟩ := orow_form hvb
  have t0 := bcell hst 0
  have t1 := bcell hst 1
  have f00 := bfroz hst 0
  have f01 := bfroz hst 1
  simp only [List.getElem?_toArray, List.getElem?_cons_zero, List.getElem?_cons_succ] at t0 t1
  have n1 : bits .and .u8 (y : Int) 63 = ((y % 64 : Nat) : Int) := by
    have := u8_and_nat y 63 (by omega) (by omega)
    rwa [show (63 : Nat) = 2 ^ 6 - 1 from rfl, Nat.and_two_pow_sub_one_eq_mod] at this
  have n3 : IntKind.u8.wrap ((yl : Int) + 1) = (((yl + 1) % 256 : Nat) : Int) := by rw [IntKind.wrap_u8]; omega
  have n2 : bits .and .u8 (IntKind.u8.wrap ((yl : Int) + 1)) 63 = (((yl + 1) % 64 : Nat) : Int) := by
    have := u8_and_nat ((yl + 1) % 256) 63 (by omega) (by omega)
    rw [show (63 : Nat) = 2 ^ 6 - 1 from rfl, Nat.and_two_pow_sub_one_eq_mod] at this
    rw [n3, show (yl + 1) % 64 = (yl + 1) % 256 % 2 ^ 6 by omega]; exact this
  have n4 : ((yl : Int) + 1) % 64 = (((yl + 1) % 64 : Nat) : Int) := by omega
  clear n3
  generalize y % 64 = m at *
  generalize (yl + 1) % 64 = n at *
  have hlz : (0 : Int) < (s.last.length : Int) := by omega
  have Hl := Lib.hid (show RdB w _ s.last from Rd1.of_own hvl)
  have Hil := Lib.hid ok.il
  have Hne := Lib.hid (decide_eq_false (show ¬ s.last = seg from fun h => hne h.symm))
  have hzl : ((s.last.length : Int) == 0) = false := beq_eq_false_iff_ne.2 (by omega)
  have hlb1 := ok.lb
  have hlb2 := ok.ll
  subst hnum
  have hl1 : (s.b.length : Int) + (seg.length : Int) - 1 ≤ 2048 := by omega
  have hcut := hr.cut 1 seg.length (by omega) (by omega)
  rw [List.take_length] at hcut
  have Hcut := Lib.hid hcut
  have hc1 : ¬ c = 1 := by omega
  have Hvb := Lib.hid (show RdB w (.slice Ab s.b.length cb) s.b from Rd1.of_own hvb)
  have Hgt := Lib.hid (blt hst)
  clear hr hib ok hst hvb hvl hf hn x0 l0 hne hop inv hcut
  go_enter Try.func18, Try.ntmps18
  go_wp2_with fail
  refine (bytesEq _ _ s.last seg _ Hl.out Hr.out Hil.out Hib.out).mono ?_
  rintro e w1 ⟨rfl, rfl⟩
  rw [Hne.out]
  go_wp2_with fail
  go_quiet (fail)
  go_wp2_with fail
  obtain ⟨w2, hw2⟩ : ∃ w2, w2 = w.drewN nq := ⟨_, rfl⟩
  have Hst2 := Lib.hid (show w2.heap[g]? = some (.cells #[.slice Ab s.b.length cb, .slice (some ⟨gl, ol, none⟩) s.last.length cl] TRJ (0, 0)) from hw2 ▸ Hst.out)
  have hgt2 := Lib.hid (show g < w2.heap.size from hw2 ▸ Hgt.out)
  have Hvb2 := Lib.hid (show RdB w2 (.slice Ab s.b.length cb) s.b from hw2 ▸ Hvb.out)
  have Hrd2 := Lib.hid (show RdB w2 (.slice (some ⟨gs, os, none⟩) seg.length c) seg from hw2 ▸ Hr.out)
  have Hcut2 := Lib.hid (show RdB w2 (.slice (some ⟨gs, os + 1, none⟩) (seg.length - 1) (c - 1)) (seg.drop 1) from hw2 ▸ Hcut.out)
  have Hf2 := Lib.hid (show Fr (fun k => k = g) w w2 from hw2 ▸ (Fr.refl _ w).drewN nq)
  have Hs2 := Lib.hid (show w2.heap.size = w.heap.size from hw2 ▸ rfl)
  have u0 := bcell Hst2.out 0
  have g00 := bfroz Hst2.out 0
  simp only [List.getElem?_toArray, List.getElem?_cons_zero, List.getElem?_cons_succ] at u0
  obtain ⟨ii, hi, hz0, hz1, hz2⟩ := info_parts infoB
  rw [← hw2]
  clear hw2
  go_region_law ((first
    | (refine step_append_lies _ (by rfl) _ _ _ (by rfl) w2.heap.size TB ii (.int .u8 0) 1 1 Try.underlying22 hi hz0 hz1 hz2 rfl (by omega) _ _ (u8s s.b) (by rfl) hown3 ⟨gs, os + 1, none⟩ (seg.length - 1) (c - 1) (u8s (seg.drop 1)) (by rfl) (by simp) (by intro j u hu; exact below_cell hb3 (Hcut2.out.news j u hu)) (ints_oneCell .u8 _) (by omega) (by unfold maxLen; omega) (by omega) hb3.size _ rfl ?_; intro g4 cap4 w4 hown4 hgrow4 hat4 hlt4; have hst4 := keepBlk Hst2.out hgt2.out hb3 hgrow4 hown3; have m1 := bcell hst4 0; have mf := bfroz hst4 0; simp only [List.getElem?_toArray, List.getElem?_cons_zero, List.getElem?_cons_succ] at m1)
    | (go_wp2_with (go_at_call 22; refine (copyB _ s.b _ (Hvb2.out.below (Below.refl _ _).drew) (by omega)).mono ?_; rintro e w3 ⟨v3, rfl, hown3, hb3⟩; obtain ⟨A3, c3, rfl, _⟩ := orow_form hown3))))
  have Hf4 := Lib.hid (((Fr.refl NoB w2).drew.then_below hb3).grown hgrow4 (fun k hk => .inr (orow_blk hown3 k hk).1))
  have Hown4 := Lib.hid (show w4.ownsRow w.heap.size TB 1 (.slice (some ⟨g4, 0, none⟩) (s.b.length + (seg.length - 1)) cap4) (s.b.length + (seg.length - 1)) (u8s (s.b ++ seg.drop 1)) by
    rw [← Hs2.out]; simpa [u8s] using hown4)
  have Hf34 := Lib.hid (Hf2.out.trans Hf4.out (fun _ h => h.elim))
  have Hrd4 := Lib.hid (Hrd2.out.fr Hf4.out (fun _ _ h => h.elim))
  have hsx : Fr (fun k => k = g) w4 (w4.setCell ⟨g, 0, none⟩ (.slice (some ⟨g4, 0, none⟩) (s.b.length + (seg.length - 1)) cap4)) := Fr.setCell (S := fun k => k = g) (Fr.refl _ _) (p := ⟨g, 0, none⟩) (.inl rfl) _
  have Hsx := Lib.hid hsx
  have hst5 : (w4.setCell ⟨g, 0, none⟩ (.slice (some ⟨g4, 0, none⟩) (s.b.length + (seg.length - 1)) cap4)).heap[g]? = some (.cells #[.slice (some ⟨g4, 0, none⟩) (s.b.length + (seg.length - 1)) cap4, .slice (some ⟨gl, ol, none⟩) s.last.length cl] TRJ (0, 0)) := bset hst4 0 _
  have Hst5 := Lib.hid hst5
  have Hown5 := Lib.hid (orow_fr Hown4.out Hsx.out (fun k hk e => orow_ne Hown4.out hst4 (by decide) (e ▸ hk)))
  have Hf5 := Lib.hid (Hf34.out.trans_same Hsx.out)
  have Hrd5 := Lib.hid (Hrd4.out.fr Hsx.out (fun k hk e => by simp [Value.ownBlock] at hk; exact Hgs.out (hk.trans e)))
  clear hb3 hown4 hgrow4 hat4 hlt4 hown3 m1 mf hst4 hst5 hsx Hf4 Hown4 Hf34 Hrd4 Hsx hi hz0 hz1 hz2 u0 g00
  have hz0 : (0 : Int) < (seg.length : Int) := by omega
  go_wp2_with fail
  generalize hbv : Value.slice (some ⟨g4, 0, none⟩) (s.b.length + (seg.length - 1)) cap4 = vb3 at *
  clear hbv
  generalize w4.setCell ⟨g, 0, none⟩ vb3 = w5 at *
  obtain ⟨vl, Hvl⟩ : ∃ vl, Hid (Value.slice (some ⟨gl, ol, none⟩) s.last.length cl = vl) := ⟨_, Lib.hid rfl⟩
  have Hst4 := Lib.hid (show w5.heap[g]? = some (.cells #[vb3, vl] TRJ (0, 0)) by rw [← Hvl.out]; exact Hst5.out)
  have Hf4 := Hf5
  have Hrd4 := Hrd5
  have Hown4 := Hown5
  clear Hst5 Hf5 Hrd5 Hown5
  refine (copyB _ seg _ Hrd4.out (by omega)).mono ?_
  rintro e w6 ⟨v6, rfl, hown6, hb6⟩
  obtain ⟨A6, c6, rfl, _⟩ := orow_form hown6
  have hst6 := (hb6.block g (blt Hst4.out)).trans Hst4.out
  have q1 := bcell hst6 1
  have fz1 := bfroz hst6 1
  have fz60 := bfroz hst6 0
  simp only [List.getElem?_toArray, List.getElem?_cons_zero, List.getElem?_cons_succ] at q1
  have Hst6 := Lib.hid hst6
  have Hf6 := Lib.hid (Hf4.out.then_below hb6)
  have Hrd6 := Lib.hid (Hrd4.out.below hb6)
  have Hown6 := Lib.hid (orow_below Hown4.out hb6)
  have Hlast6 := Lib.hid (orow_weaken hown6 (Nat.zero_le _))
  have Hfl := Lib.hid (show Fr (fun k => k = g) w6 (w6.setCell ⟨g, 1, none⟩ (.slice A6 seg.length c6)) from Fr.setCell (S := fun k => k = g) (Fr.refl _ _) (p := ⟨g, 1, none⟩) (.inl rfl) _)
  clear hst6 hown6 hb6
  have hrd7 := Hrd6.out.fr Hfl.out (fun k hk e => by simp [Value.ownBlock] at hk; exact Hgs.out (hk.trans e))
  have hst7 : (w6.setCell ⟨g, 1, none⟩ (.slice A6 seg.length c6)).heap[g]? = some (.cells #[vb3, .slice A6 seg.length c6] TRJ (0, 0)) := bset Hst6.out 1 _
  have Hlast7 := Lib.hid (orow_fr Hlast6.out Hfl.out (fun k hk e => orow_ne Hlast6.out Hst6.out (by decide) (e ▸ hk)))
  have Hown7 := Lib.hid (orow_fr Hown6.out Hfl.out (fun k hk e => orow_ne Hown6.out Hst6.out (by decide) (e ▸ hk)))
  have Hf7 := Lib.hid (Hf6.out.setCell (p := ⟨g, 1, none⟩) (.inl rfl) (.slice A6 seg.length c6))
  obtain ⟨gs', os', hgs', ck7⟩ := hrd7.at 0 (by omega)
  simp only [Option.some.injEq, Addr.mk.injEq, and_true] at hgs'
  obtain ⟨rfl, rfl⟩ := hgs'
  rw [Nat.add_zero, hx7.out] at ck7
  have r0 := bcell hst7 0
  simp only [List.getElem?_toArray, List.getElem?_cons_zero, List.getElem?_cons_succ] at r0
  have Hst7 := Lib.hid hst7
  have Hdr := Lib.hid (RJAt.dropped hst7)
  clear hrd7 hst7
  cases fin with
  | false =>
    go_wp2_with fail
    go_ret2
    exact RefPost.mk0 ⟨Hok2.out, .inl rfl, _, _, Hst7.out, own_took Hown7.out Htk.out, Hlast7.out⟩ Hf7.out
  | true =>
    go_wp2_with fail
    go_ret2
    exact RefPost.mk1 (t := s) (own_took' (orow_fr Hown7.out Hdr.out.2 (fun k hk e => orow_ne Hown7.out Hst7.out (by decide) (e ▸ hk))) Htk.out) Hdr.out.1 (Hf7.out.trans_same Hdr.out.2)

/-- Feed of the document's joiner, whatever comes: as the program's. -/
theorem ref_any (w : World) (g : Nat) (s : JSt) (v : Value) (seg : List Int) (h : RJAt w g s) (hr : RdB w v seg) (hib : IsB seg) :
    Calls Try.prog 18 #[.pointer (some ⟨g, 0, none⟩), v] w fun e w' => ∃ r, e = .returned (.tuple #[r, .bool (feedF s seg).2.2]) ∧
      w'.ownsRow w.heap.size TB 1 r (feedF s seg).2.1.length (u8s (feedF s seg).2.1) ∧ RJAt w' g (feedF s seg).1 ∧ Fr (fun k => k = g) w w' := by
  unfold feedF
  by_cases c1 : 2 ≤ seg.length ∧ seg.length ≤ 250
  · rw [if_neg (fun h => h c1)]
    obtain ⟨h2, h3⟩ := c1
    by_cases c2 : firB (seg.getD 0 0).toNat = true
    · rw [if_pos c2]
      by_cases c3 : finB (seg.getD 0 0).toNat = true
      · rw [if_pos c3]
        exact ref_first w g s v seg true h hr hib h2 h3 c2 c3
      · rw [if_neg c3]
        exact ref_first w g s v seg false h hr hib h2 h3 c2 (by simpa using c3)
    · rw [if_neg c2]
      have c2' : firB (seg.getD 0 0).toNat = false := by simpa using c2
      by_cases c4 : s.op = false ∨ seg = s.last
      · rw [if_pos c4]
        refine (ref_skip w g s v seg h hr hib h2 h3 c2' c4).mono ?_
        rintro e w' ⟨rfl, rfl⟩
        exact ⟨_, rfl, orow_nil _ _ _ _, h, Fr.refl _ _⟩
      · rw [if_neg c4]
        have hop : s.op = true := by
          cases ho : s.op with
          | true => rfl
          | false => exact absurd (.inl ho) c4
        have hne : seg ≠ s.last := fun e => c4 (.inr e)
        by_cases c5 : (seg.getD 0 0).toNat % 64 ≠ ((s.last.getD 0 0).toNat + 1) % 64 ∨ 2049 < s.b.length + seg.length
        · rw [if_pos c5]
          refine (ref_broken w g s v seg h hr hib h2 h3 c2' hop hne c5).mono ?_
          rintro e w' ⟨rfl, h6, h7⟩
          exact ⟨_, rfl, orow_nil _ _ _ _, h6, h7⟩
        · rw [if_neg c5]
          have c6 : (seg.getD 0 0).toNat % 64 = ((s.last.getD 0 0).toNat + 1) % 64 := by
            by_cases e : (seg.getD 0 0).toNat % 64 = ((s.last.getD 0 0).toNat + 1) % 64
            · exact e
            · exact absurd (.inl e) c5
          have c7 : s.b.length + seg.length ≤ 2049 := by
            by_cases e : 2049 < s.b.length + seg.length
            · exact absurd (.inr e) c5
            · omega
          by_cases c3 : finB (seg.getD 0 0).toNat = true
          · rw [if_pos c3]
            exact ref_next w g s v seg true h hr hib h2 h3 c2' c3 hop hne c6 c7
          · rw [if_neg c3]
            exact ref_next w g s v seg false h hr hib h2 h3 c2' (by simpa using c3) hop hne c6 c7
  · rw [if_pos c1]
    refine (ref_none w g v seg hr c1).mono ?_
    rintro e w' ⟨rfl, rfl⟩
    exact ⟨_, rfl, orow_nil _ _ _ _, h, Fr.refl _ _⟩
end Go.Proofs.Ytaahigdkbmifbaa

/-
  The package trans: Feed.
-/
import Derived.Test.YtaahigdkbmifbaaTrans
import Derived.Deep.RegionLaw
namespace Go.Proofs.Ytaahigdkbmifbaa
open Go.RowKit

theorem u8_and_nat (a b : Nat) (ha : a < 256) (hb : b < 256) : bits .and .u8 (a : Int) (b : Int) = ((a &&& b : Nat) : Int) := by
  have hx : a &&& b < 2 ^ 8 := Nat.and_lt_two_pow _ hb
  have e : ∀ n : Nat, n < 256 → (BitVec.ofInt 8 (n : Int)).toNat = n := fun n hn => by
    rw [BitVec.ofInt_natCast, BitVec.toNat_ofNat]; exact Nat.mod_eq_of_lt (by omega)
  show IntKind.u8.wrap ((BitVec.ofInt 8 (a : Int) &&& BitVec.ofInt 8 (b : Int)).toNat : Int) = _
  rw [BitVec.toNat_and, e a ha, e b hb, IntKind.wrap_u8]
  omega
def firB (h : Nat) : Bool := decide (h &&& 64 ≠ 0)
def finB (h : Nat) : Bool := decide (h &&& 128 ≠ 0)

/-- The state behind a segment that is taken. -/
def JSt.took (s : JSt) (seg : List Int) : JSt := ⟨true, s.b ++ seg.drop 1, seg⟩

/-- The tail of Feed: from the taking on. One lemma for both roads: over the state at the head of the taking. -/
theorem JAt.took_ok {s : JSt} {seg : List Int} (h : JOk s) (hi : IsB seg) (h2 : 2 ≤ seg.length) (h3 : seg.length ≤ 250) (hl : s.b.length + seg.length ≤ 2049) : JOk (s.took seg) :=
  ⟨by simp [JSt.took]; omega, by simpa [JSt.took] using h3, by simp [JSt.took]; omega, by
    intro x hx
    rcases List.mem_append.1 hx with hx | hx
    · exact h.ib x hx
    · exact hi x (List.mem_of_mem_drop hx), hi⟩

/-- A block from before stays behind a fresh row's append. -/
theorem keepBlk {w2 w3 w4 : World} {g : Nat} {ob : Obj} {v : Value} {n : Nat} {xs : List Value} (h : w2.heap[g]? = some ob) (hg : g < w2.heap.size) (hb : Below w2.drew.heap.size w2.drew w3) (hgr : w3.grownBy w4 v.ownBlock)
    (hown : w3.ownsRow w2.drew.heap.size TB 1 v n xs) : w4.heap[g]? = some ob := by
  have h3 : w3.heap[g]? = some ob := (hb.block g hg).trans h
  refine (hgr.block g (blt h3) (fun e => ?_)).trans h3
  have := (orow_blk hown g e.symm).1
  have : w2.drew.heap.size = w2.heap.size := rfl
  omega

theorem JAt.ne_cell {w : World} {g gs os : Nat} {s : JSt} {n : Int} (h : JAt w g s) (hc : w.cell? ⟨gs, os, none⟩ = some (.int .u8 n)) : gs ≠ g := by
  rintro rfl
  obtain ⟨_, vb, vl, h1, h2, h3⟩ := h
  obtain ⟨A1, c1, rfl, _⟩ := orow_form h2
  obtain ⟨A2, c2, rfl, _⟩ := orow_form h3
  rw [bcell h1 os] at hc
  match os, hc with
  | 0, hc => simp at hc
  | 1, hc => simp at hc
  | 2, hc => simp at hc
  | n + 3, hc => simp at hc
set_option maxRecDepth 20000 in
set_option maxHeartbeats 2000000 in
/-- Feed: a first segment that is not the last. -/
theorem feed_first (w : World) (g : Nat) (s : JSt) (v : Value) (seg : List Int) (h : JAt w g s) (hr : RdB w v seg) (hib : IsB seg) (h2 : 2 ≤ seg.length) (h3 : seg.length ≤ 250) (hf : firB (seg.getD 0 0).toNat = true) (hn : finB (seg.getD 0 0).toNat = false) :
    Calls Try.prog 12 #[.pointer (some ⟨g, 0, none⟩), v] w fun e w' => e = .returned (.tuple #[.slice none 0 0, .bool false]) ∧ JAt w' g (JSt.empty.took seg) ∧ Fr (fun k => k = g) w w' := by
  have hokJ := h.ok
  obtain ⟨A, c, rfl, hc⟩ := hr.form
  obtain ⟨gs, os, rfl, ck⟩ := hr.at 0 (by omega)
  rw [Nat.add_zero] at ck
  obtain ⟨x0, x1⟩ := hib.at 0 (by omega)
  have hgs := JAt.ne_cell h ck
  generalize seg.getD 0 0 = x at *
  obtain ⟨y, rfl⟩ := Int.eq_ofNat_of_zero_le x0
  rw [Int.toNat_natCast] at hf hn
  have e1 := u8_and_nat y 64 (by omega) (by omega)
  have e2 := u8_and_nat y 128 (by omega) (by omega)
  have b1 : (((y &&& 64 : Nat) : Int) != 0) = true := by rw [bne_iff_ne]; have := of_decide_eq_true hf; omega
  have b2 : (((y &&& 128 : Nat) : Int) == 0) = true := by rw [beq_iff_eq]; have := of_decide_eq_false hn; omega
  have Hr := Lib.hid hr
  have Hib := Lib.hid hib
  have Hgs := Lib.hid hgs
  have Hok2 := Lib.hid (JAt.took_ok JOk.empty hib h2 h3 (by simp [JSt.empty]; omega))
  obtain ⟨ok, vb, vl, hst, hvb, hvl⟩ := h
  have Hst := Lib.hid hst
  have z1 : (1 : Int) ≤ (seg.length : Int) := by omega
  have hz0 : (0 : Int) < (seg.length : Int) := by omega
  simp only [show ((64 : Nat) : Int) = 64 from rfl, show ((128 : Nat) : Int) = 128 from rfl] at e1 e2
  clear hr hib ok hst hvb hvl hf hn x0 hgs hokJ
  go_enter Try.func12, Try.ntmps12
  go_wp2_with fail
  refine (jReset _ _ _ _ _ Hst.out).mono ?_
  rintro e w1 ⟨rfl, hj1, hf1⟩
  have Hf1 := Lib.hid hf1
  obtain ⟨_, vb1, vl1, hst1, hvb1, hvl1⟩ := hj1
  have Hrd1 := Lib.hid (Hr.out.fr hf1 (fun k hk e => by simp [Value.ownBlock] at hk; exact Hgs.out (hk.trans e)))
  have hlb1 : JSt.empty.b.length ≤ 2048 := by simp [JSt.empty]
  have hsum : JSt.empty.b.length + seg.length ≤ 2049 := by simp [JSt.empty]; omega
  obtain ⟨Ab, cb, rfl, hcb⟩ := orow_form hvb1
  have k0 := bcell hst1 0
  have k1 := bcell hst1 1
  have f0 := bfroz hst1 0
  simp only [List.getElem?_toArray, List.getElem?_cons_zero, List.getElem?_cons_succ] at k0 k1
  clear hvl1 hf1
  go_wp2_with fail
  have hst2 : (w1.setCell ⟨g, 0, none⟩ (.bool true)).heap[g]? = some (.cells #[.bool true, .slice Ab JSt.empty.b.length cb, vl1] TJ (0, 0)) := bset hst1 0 _
  have q1 := bcell hst2 1
  have f1 := bfroz hst2 1
  simp only [List.getElem?_toArray, List.getElem?_cons_zero, List.getElem?_cons_succ] at q1
  have Hst2 := Lib.hid hst2
  have hgt2 := Lib.hid (blt hst2)
  have Hvb2 := Lib.hid (show RdB (w1.setCell ⟨g, 0, none⟩ (.bool true)) (.slice Ab JSt.empty.b.length cb) JSt.empty.b from (Rd1.of_own hvb1).fr (S := fun k => k = g) (Fr.setCell (S := fun k => k = g) (Fr.refl _ _) (p := ⟨g, 0, none⟩) (.inl rfl) _) (fun k hk e => orow_ne hvb1 hst1 (by decide) (e ▸ hk)))
  have Hrd2 := Lib.hid (show RdB (w1.setCell ⟨g, 0, none⟩ (.bool true)) (.slice (some ⟨gs, os, none⟩) seg.length c) seg from Rd1.fr Hrd1.out (S := fun k => k = g) (Fr.setCell (S := fun k => k = g) (Fr.refl _ _) (p := ⟨g, 0, none⟩) (.inl rfl) _) (fun k hk e => by simp [Value.ownBlock] at hk; exact Hgs.out (hk.trans e)))
  have Hf2 := Lib.hid (Fr.setCell (S := fun k => k = g) Hf1.out (p := ⟨g, 0, none⟩) (.inl rfl) (.bool true))
  obtain ⟨ii, hi, hz0, hz1, hz2⟩ := info_parts infoB
  clear hst1 hst2 hvb1
  generalize w1.setCell ⟨g, 0, none⟩ (.bool true) = w2 at *
  have hcut := Hrd2.out.cut 1 seg.length (by omega) (by omega)
  rw [List.take_length] at hcut
  have Hcut := Lib.hid hcut
  have hc1 : ¬ c = 1 := by omega
  clear hcut
  go_region_law ((first
    | (refine step_append_lies _ (by rfl) _ _ _ (by rfl) w2.heap.size TB ii (.int .u8 0) 1 1 Try.underlying22 hi hz0 hz1 hz2 rfl (by omega) _ _ (u8s JSt.empty.b) (by rfl) hown3 ⟨gs, os + 1, none⟩ (seg.length - 1) (c - 1) (u8s (seg.drop 1)) (by rfl) (by simp) (by intro j u hu; exact below_cell hb3 (Hcut.out.news j u hu)) (ints_oneCell .u8 _) (by omega) (by unfold maxLen; omega) (by omega) hb3.size _ rfl ?_; intro g4 cap4 w4 hown4 hgrow4 hat4 hlt4; have hst4 := keepBlk Hst2.out hgt2.out hb3 hgrow4 hown3; have m1 := bcell hst4 1; have mf := bfroz hst4 1; simp only [List.getElem?_toArray, List.getElem?_cons_zero, List.getElem?_cons_succ] at m1)
    | (go_wp2_with (go_at_call 21; refine (cloneB _ JSt.empty.b _ (Hvb2.out.below (Below.refl _ _).drew) (by omega)).mono ?_; rintro e w3 ⟨v3, rfl, hown3, hb3⟩; obtain ⟨A3, c3, rfl, _⟩ := orow_form hown3))))
  have Hf4 := Lib.hid (((Fr.refl NoB w2).drew.then_below hb3).grown hgrow4 (fun k hk => .inr (orow_blk hown3 k hk).1))
  have Hst4 := Lib.hid hst4
  have hlen4 : (JSt.empty.took seg).b.length = JSt.empty.b.length + (seg.length - 1) := by simp [JSt.took]
  have Hown4 := Lib.hid (show w4.ownsRow w2.heap.size TB 1 (.slice (some ⟨g4, 0, none⟩) (JSt.empty.b.length + (seg.length - 1)) cap4) (JSt.empty.took seg).b.length (u8s (JSt.empty.took seg).b) by rw [hlen4]; simpa [JSt.took, u8s] using hown4)
  have Hlen4 := Lib.hid hlen4
  clear hb3 hown4 hgrow4 hat4 hlt4 hown3 m1 mf hlen4
  have hst5 : (w4.setCell ⟨g, 1, none⟩ (.slice (some ⟨g4, 0, none⟩) (JSt.empty.b.length + (seg.length - 1)) cap4)).heap[g]? = some (.cells #[.bool true, .slice (some ⟨g4, 0, none⟩) (JSt.empty.b.length + (seg.length - 1)) cap4, vl1] TJ (0, 0)) := bset hst4 1 _
  have Hst5 := Lib.hid hst5
  have hg4 : g4 ≠ g := by
    intro e
    exact orow_ne Hown4.out hst4 (by decide) (by rw [← e]; rfl)
  have Hown5 := Lib.hid (orow_fr (S := fun k => k = g) Hown4.out (Fr.setCell (S := fun k => k = g) (Fr.refl _ _) (p := ⟨g, 1, none⟩) (.inl rfl) (.slice (some ⟨g4, 0, none⟩) (JSt.empty.b.length + (seg.length - 1)) cap4)) (fun k hk e => by simp [Value.ownBlock] at hk; exact hg4 (hk.trans e)))
  have Hf5 := Lib.hid ((Hf2.out.trans Hf4.out (fun _ h => h.elim)).setCell (p := ⟨g, 1, none⟩) (.inl rfl) (.slice (some ⟨g4, 0, none⟩) (JSt.empty.b.length + (seg.length - 1)) cap4))
  have Hrd5 := Lib.hid (show RdB (w4.setCell ⟨g, 1, none⟩ (.slice (some ⟨g4, 0, none⟩) (JSt.empty.b.length + (seg.length - 1)) cap4)) (.slice (some ⟨gs, os, none⟩) seg.length c) seg from
    (Hrd2.out.fr Hf4.out (fun _ _ h => h.elim)).fr (S := fun k => k = g) (Fr.setCell (S := fun k => k = g) (Fr.refl _ _) (p := ⟨g, 1, none⟩) (.inl rfl) _) (fun k hk e => by simp [Value.ownBlock] at hk; exact Hgs.out (hk.trans e)))
  have Hsz5 := Lib.hid (show w.heap.size ≤ w2.heap.size from Hf2.out.size)
  clear hst4 hst5 hg4 Hst4 hi hz0 hz1 hz2
  go_wp2_with fail
  generalize w4.setCell ⟨g, 1, none⟩ (.slice (some ⟨g4, 0, none⟩) (JSt.empty.b.length + (seg.length - 1)) cap4) = w5 at *
  refine (cloneB _ seg _ Hrd5.out (by omega)).mono ?_
  rintro e w6 ⟨v6, rfl, hown6, hb6⟩
  obtain ⟨A6, c6, rfl, _⟩ := orow_form hown6
  have hst6 := (hb6.block g (blt Hst5.out)).trans Hst5.out
  have p2 := bcell hst6 2
  have pf := bfroz hst6 2
  simp only [List.getElem?_toArray, List.getElem?_cons_zero, List.getElem?_cons_succ] at p2
  have hst7 : (w6.setCell ⟨g, 2, none⟩ (.slice A6 seg.length c6)).heap[g]? = some (.cells #[.bool true, .slice (some ⟨g4, 0, none⟩) (JSt.empty.b.length + (seg.length - 1)) cap4, .slice A6 seg.length c6] TJ (0, 0)) := bset hst6 2 _
  have Hfc := Lib.hid (Fr.setCell (S := fun k => k = g) (Fr.refl (fun k => k = g) w6) (p := ⟨g, 2, none⟩) (.inl rfl) (.slice A6 seg.length c6))
  have Hown7 := Lib.hid (orow_fr (orow_below Hown5.out hb6) Hfc.out (fun k hk e => orow_ne (orow_below Hown5.out hb6) hst6 (by decide) (e ▸ hk)))
  have Hseg7 := Lib.hid (orow_fr hown6 Hfc.out (fun k hk e => orow_ne hown6 hst6 (by decide) (e ▸ hk)))
  have Hf7 := Lib.hid ((Hf5.out.then_below hb6).setCell (p := ⟨g, 2, none⟩) (.inl rfl) (.slice A6 seg.length c6))
  have hj7 : JAt (w6.setCell ⟨g, 2, none⟩ (.slice A6 seg.length c6)) g (JSt.empty.took seg) := ⟨Hok2.out, _, _, hst7, orow_weaken Hown7.out (Nat.zero_le _), orow_weaken Hseg7.out (Nat.zero_le _)⟩
  have Hj7 := Lib.hid hj7
  have r1 := bcell hst7 1
  simp only [List.getElem?_toArray, List.getElem?_cons_zero, List.getElem?_cons_succ] at r1
  have Hst7 := Lib.hid hst7
  clear hown6 hb6 hst6 hst7 hj7
  go_wp2_with fail
  go_ret2
  exact ⟨rfl, Hj7.out, Hf7.out⟩

set_option maxRecDepth 20000 in
set_option maxHeartbeats 2000000 in
/-- Feed: a first segment that is the last. -/
theorem feed_only (w : World) (g : Nat) (s : JSt) (v : Value) (seg : List Int) (h : JAt w g s) (hr : RdB w v seg) (hib : IsB seg) (h2 : 2 ≤ seg.length) (h3 : seg.length ≤ 250) (hf : firB (seg.getD 0 0).toNat = true) (hn : finB (seg.getD 0 0).toNat = true) :
    Calls Try.prog 12 #[.pointer (some ⟨g, 0, none⟩), v] w fun e w' => ∃ r, e = .returned (.tuple #[r, .bool true]) ∧ w'.ownsRow 0 TB 1 r (JSt.empty.took seg).b.length (u8s (JSt.empty.took seg).b) ∧ (∀ k, r.ownBlock = some k → w.heap.size ≤ k) ∧ JAt w' g JSt.empty ∧ Fr (fun k => k = g) w w' := by
  have hokJ := h.ok
  obtain ⟨A, c, rfl, hc⟩ := hr.form
  obtain ⟨gs, os, rfl, ck⟩ := hr.at 0 (by omega)
  rw [Nat.add_zero] at ck
  obtain ⟨x0, x1⟩ := hib.at 0 (by omega)
  have hgs := JAt.ne_cell h ck
  generalize seg.getD 0 0 = x at *
  obtain ⟨y, rfl⟩ := Int.eq_ofNat_of_zero_le x0
  rw [Int.toNat_natCast] at hf hn
  have e1 := u8_and_nat y 64 (by omega) (by omega)
  have e2 := u8_and_nat y 128 (by omega) (by omega)
  have b1 : (((y &&& 64 : Nat) : Int) != 0) = true := by rw [bne_iff_ne]; have := of_decide_eq_true hf; omega
  have b2 : (((y &&& 128 : Nat) : Int) == 0) = false := by rw [beq_eq_false_iff_ne]; have := of_decide_eq_true hn; omega
  have Hr := Lib.hid hr
  have Hib := Lib.hid hib
  have Hgs := Lib.hid hgs
  have Hok2 := Lib.hid (JAt.took_ok JOk.empty hib h2 h3 (by simp [JSt.empty]; omega))
  obtain ⟨ok, vb, vl, hst, hvb, hvl⟩ := h
  have Hst := Lib.hid hst
  have z1 : (1 : Int) ≤ (seg.length : Int) := by omega
  have hz0 : (0 : Int) < (seg.length : Int) := by omega
  simp only [show ((64 : Nat) : Int) = 64 from rfl, show ((128 : Nat) : Int) = 128 from rfl] at e1 e2
  clear hr hib ok hst hvb hvl hf hn x0 hgs hokJ
  go_enter Try.func12, Try.ntmps12
  go_wp2_with fail
  refine (jReset _ _ _ _ _ Hst.out).mono ?_
  rintro e w1 ⟨rfl, hj1, hf1⟩
  have Hf1 := Lib.hid hf1
  obtain ⟨_, vb1, vl1, hst1, hvb1, hvl1⟩ := hj1
  have Hrd1 := Lib.hid (Hr.out.fr hf1 (fun k hk e => by simp [Value.ownBlock] at hk; exact Hgs.out (hk.trans e)))
  have hlb1 : JSt.empty.b.length ≤ 2048 := by simp [JSt.empty]
  have hsum : JSt.empty.b.length + seg.length ≤ 2049 := by simp [JSt.empty]; omega
  obtain ⟨Ab, cb, rfl, hcb⟩ := orow_form hvb1
  have k0 := bcell hst1 0
  have k1 := bcell hst1 1
  have f0 := bfroz hst1 0
  simp only [List.getElem?_toArray, List.getElem?_cons_zero, List.getElem?_cons_succ] at k0 k1
  clear hvl1 hf1
  go_wp2_with fail
  have hst2 : (w1.setCell ⟨g, 0, none⟩ (.bool true)).heap[g]? = some (.cells #[.bool true, .slice Ab JSt.empty.b.length cb, vl1] TJ (0, 0)) := bset hst1 0 _
  have q1 := bcell hst2 1
  have f1 := bfroz hst2 1
  simp only [List.getElem?_toArray, List.getElem?_cons_zero, List.getElem?_cons_succ] at q1
  have Hst2 := Lib.hid hst2
  have hgt2 := Lib.hid (blt hst2)
  have Hvb2 := Lib.hid (show RdB (w1.setCell ⟨g, 0, none⟩ (.bool true)) (.slice Ab JSt.empty.b.length cb) JSt.empty.b from (Rd1.of_own hvb1).fr (S := fun k => k = g) (Fr.setCell (S := fun k => k = g) (Fr.refl _ _) (p := ⟨g, 0, none⟩) (.inl rfl) _) (fun k hk e => orow_ne hvb1 hst1 (by decide) (e ▸ hk)))
  have Hrd2 := Lib.hid (show RdB (w1.setCell ⟨g, 0, none⟩ (.bool true)) (.slice (some ⟨gs, os, none⟩) seg.length c) seg from Rd1.fr Hrd1.out (S := fun k => k = g) (Fr.setCell (S := fun k => k = g) (Fr.refl _ _) (p := ⟨g, 0, none⟩) (.inl rfl) _) (fun k hk e => by simp [Value.ownBlock] at hk; exact Hgs.out (hk.trans e)))
  have Hf2 := Lib.hid (Fr.setCell (S := fun k => k = g) Hf1.out (p := ⟨g, 0, none⟩) (.inl rfl) (.bool true))
  obtain ⟨ii, hi, hz0, hz1, hz2⟩ := info_parts infoB
  clear hst1 hst2 hvb1
  generalize w1.setCell ⟨g, 0, none⟩ (.bool true) = w2 at *
  have hcut := Hrd2.out.cut 1 seg.length (by omega) (by omega)
  rw [List.take_length] at hcut
  have Hcut := Lib.hid hcut
  have hc1 : ¬ c = 1 := by omega
  clear hcut
  go_region_law ((first
    | (refine step_append_lies _ (by rfl) _ _ _ (by rfl) w2.heap.size TB ii (.int .u8 0) 1 1 Try.underlying22 hi hz0 hz1 hz2 rfl (by omega) _ _ (u8s JSt.empty.b) (by rfl) hown3 ⟨gs, os + 1, none⟩ (seg.length - 1) (c - 1) (u8s (seg.drop 1)) (by rfl) (by simp) (by intro j u hu; exact below_cell hb3 (Hcut.out.news j u hu)) (ints_oneCell .u8 _) (by omega) (by unfold maxLen; omega) (by omega) hb3.size _ rfl ?_; intro g4 cap4 w4 hown4 hgrow4 hat4 hlt4; have hst4 := keepBlk Hst2.out hgt2.out hb3 hgrow4 hown3; have m1 := bcell hst4 1; have mf := bfroz hst4 1; simp only [List.getElem?_toArray, List.getElem?_cons_zero, List.getElem?_cons_succ] at m1)
    | (go_wp2_with (go_at_call 21; refine (cloneB _ JSt.empty.b _ (Hvb2.out.below (Below.refl _ _).drew) (by omega)).mono ?_; rintro e w3 ⟨v3, rfl, hown3, hb3⟩; obtain ⟨A3, c3, rfl, _⟩ := orow_form hown3))))
  have Hf4 := Lib.hid (((Fr.refl NoB w2).drew.then_below hb3).grown hgrow4 (fun k hk => .inr (orow_blk hown3 k hk).1))
  have Hst4 := Lib.hid hst4
  have hlen4 : (JSt.empty.took seg).b.length = JSt.empty.b.length + (seg.length - 1) := by simp [JSt.took]
  have Hown4 := Lib.hid (show w4.ownsRow w2.heap.size TB 1 (.slice (some ⟨g4, 0, none⟩) (JSt.empty.b.length + (seg.length - 1)) cap4) (JSt.empty.took seg).b.length (u8s (JSt.empty.took seg).b) by rw [hlen4]; simpa [JSt.took, u8s] using hown4)
  have Hlen4 := Lib.hid hlen4
  clear hb3 hown4 hgrow4 hat4 hlt4 hown3 m1 mf hlen4
  have hst5 : (w4.setCell ⟨g, 1, none⟩ (.slice (some ⟨g4, 0, none⟩) (JSt.empty.b.length + (seg.length - 1)) cap4)).heap[g]? = some (.cells #[.bool true, .slice (some ⟨g4, 0, none⟩) (JSt.empty.b.length + (seg.length - 1)) cap4, vl1] TJ (0, 0)) := bset hst4 1 _
  have Hst5 := Lib.hid hst5
  have hg4 : g4 ≠ g := by
    intro e
    exact orow_ne Hown4.out hst4 (by decide) (by rw [← e]; rfl)
  have Hown5 := Lib.hid (orow_fr (S := fun k => k = g) Hown4.out (Fr.setCell (S := fun k => k = g) (Fr.refl _ _) (p := ⟨g, 1, none⟩) (.inl rfl) (.slice (some ⟨g4, 0, none⟩) (JSt.empty.b.length + (seg.length - 1)) cap4)) (fun k hk e => by simp [Value.ownBlock] at hk; exact hg4 (hk.trans e)))
  have Hf5 := Lib.hid ((Hf2.out.trans Hf4.out (fun _ h => h.elim)).setCell (p := ⟨g, 1, none⟩) (.inl rfl) (.slice (some ⟨g4, 0, none⟩) (JSt.empty.b.length + (seg.length - 1)) cap4))
  have Hrd5 := Lib.hid (show RdB (w4.setCell ⟨g, 1, none⟩ (.slice (some ⟨g4, 0, none⟩) (JSt.empty.b.length + (seg.length - 1)) cap4)) (.slice (some ⟨gs, os, none⟩) seg.length c) seg from
    (Hrd2.out.fr Hf4.out (fun _ _ h => h.elim)).fr (S := fun k => k = g) (Fr.setCell (S := fun k => k = g) (Fr.refl _ _) (p := ⟨g, 1, none⟩) (.inl rfl) _) (fun k hk e => by simp [Value.ownBlock] at hk; exact Hgs.out (hk.trans e)))
  have Hsz5 := Lib.hid (show w.heap.size ≤ w2.heap.size from Hf2.out.size)
  clear hst4 hst5 hg4 Hst4 hi hz0 hz1 hz2
  go_wp2_with fail
  generalize w4.setCell ⟨g, 1, none⟩ (.slice (some ⟨g4, 0, none⟩) (JSt.empty.b.length + (seg.length - 1)) cap4) = w5 at *
  refine (cloneB _ seg _ Hrd5.out (by omega)).mono ?_
  rintro e w6 ⟨v6, rfl, hown6, hb6⟩
  obtain ⟨A6, c6, rfl, _⟩ := orow_form hown6
  have hst6 := (hb6.block g (blt Hst5.out)).trans Hst5.out
  have p2 := bcell hst6 2
  have pf := bfroz hst6 2
  simp only [List.getElem?_toArray, List.getElem?_cons_zero, List.getElem?_cons_succ] at p2
  have hst7 : (w6.setCell ⟨g, 2, none⟩ (.slice A6 seg.length c6)).heap[g]? = some (.cells #[.bool true, .slice (some ⟨g4, 0, none⟩) (JSt.empty.b.length + (seg.length - 1)) cap4, .slice A6 seg.length c6] TJ (0, 0)) := bset hst6 2 _
  have Hfc := Lib.hid (Fr.setCell (S := fun k => k = g) (Fr.refl (fun k => k = g) w6) (p := ⟨g, 2, none⟩) (.inl rfl) (.slice A6 seg.length c6))
  have Hown7 := Lib.hid (orow_fr (orow_below Hown5.out hb6) Hfc.out (fun k hk e => orow_ne (orow_below Hown5.out hb6) hst6 (by decide) (e ▸ hk)))
  have Hseg7 := Lib.hid (orow_fr hown6 Hfc.out (fun k hk e => orow_ne hown6 hst6 (by decide) (e ▸ hk)))
  have Hf7 := Lib.hid ((Hf5.out.then_below hb6).setCell (p := ⟨g, 2, none⟩) (.inl rfl) (.slice A6 seg.length c6))
  have hj7 : JAt (w6.setCell ⟨g, 2, none⟩ (.slice A6 seg.length c6)) g (JSt.empty.took seg) := ⟨Hok2.out, _, _, hst7, orow_weaken Hown7.out (Nat.zero_le _), orow_weaken Hseg7.out (Nat.zero_le _)⟩
  have Hj7 := Lib.hid hj7
  have r1 := bcell hst7 1
  simp only [List.getElem?_toArray, List.getElem?_cons_zero, List.getElem?_cons_succ] at r1
  have Hst7 := Lib.hid hst7
  clear hown6 hb6 hst6 hst7 hj7
  go_wp2_with fail
  refine (jReset _ _ _ _ _ Hst7.out).mono ?_
  rintro e w8 ⟨rfl, hj8, hf8⟩
  have Hj8 := Lib.hid hj8
  have Hown8 := Lib.hid (orow_fr Hown7.out hf8 (fun k hk e => orow_ne Hown7.out Hst7.out (by decide) (e ▸ hk)))
  have Hf8 := Lib.hid (Hf7.out.trans_same hf8)
  clear hj8 hf8
  go_wp2_with fail
  go_ret2
  exact ⟨_, rfl, orow_weaken Hown8.out (Nat.zero_le _), fun k hk => Nat.le_trans Hsz5.out (orow_blk Hown8.out k hk).1, Hj8.out, Hf8.out⟩
end Go.Proofs.Ytaahigdkbmifbaa

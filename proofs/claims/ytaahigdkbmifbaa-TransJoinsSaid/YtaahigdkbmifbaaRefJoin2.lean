/-
  The document's joiner: Feed, the way that drops what is there.
-/
import Derived.Test.YtaahigdkbmifbaaRefJoin
namespace Go.Proofs.Ytaahigdkbmifbaa
open Go.RowKit

set_option maxRecDepth 20000 in
set_option maxHeartbeats 1000000 in
theorem ref_broken (w : World) (g : Nat) (s : JSt) (v : Value) (seg : List Int) (h : RJAt w g s) (hr : RdB w v seg) (hib : IsB seg) (h2 : 2 ≤ seg.length) (h3 : seg.length ≤ 250) (hf : firB (seg.getD 0 0).toNat = false) (hop : s.op = true) (hne : seg ≠ s.last)
    (hbr : (seg.getD 0 0).toNat % 64 ≠ ((s.last.getD 0 0).toNat + 1) % 64 ∨ 2049 < s.b.length + seg.length) :
    Calls Try.prog 18 #[.pointer (some ⟨g, 0, none⟩), v] w fun e w' => e = .returned (.tuple #[.slice none 0 0, .bool false]) ∧ RJAt w' g JSt.empty ∧ Fr (fun k => k = g) w w' := by
  obtain ⟨A, c, rfl, hc⟩ := hr.form
  obtain ⟨gs, os, rfl, ck⟩ := hr.at 0 (by omega)
  rw [Nat.add_zero] at ck
  obtain ⟨x0, x1⟩ := hib.at 0 (by omega)
  generalize seg.getD 0 0 = x at *
  obtain ⟨y, rfl⟩ := Int.eq_ofNat_of_zero_le x0
  rw [Int.toNat_natCast] at hf hbr
  have e1 := u8_and_nat y 64 (by omega) (by omega)
  have b1 : (((y &&& 64 : Nat) : Int) != 0) = false := by rw [bne_eq_false_iff_eq]; have := of_decide_eq_false hf; omega
  have Hr := Lib.hid hr
  have Hib := Lib.hid hib
  obtain ⟨ok, inv, vb, vl, hst, hvb, hvl⟩ := h
  have Hst := Lib.hid hst
  have z1 : (1 : Int) ≤ (seg.length : Int) := by omega
  have hz0 : (0 : Int) < (seg.length : Int) := by omega
  simp only [show ((64 : Nat) : Int) = 64 from rfl] at e1
  obtain ⟨Al, cl, rfl, hcl⟩ := orow_form hvl
  have hlpos := ok.pos hop
  obtain ⟨gl, ol, hle, cl0⟩ := (show RdB w _ s.last from Rd1.of_own hvl).at 0 hlpos
  subst hle
  rw [Nat.add_zero] at cl0
  obtain ⟨l0, l1⟩ := ok.il.at 0 hlpos
  generalize s.last.getD 0 0 = xl at *
  obtain ⟨yl, rfl⟩ := Int.eq_ofNat_of_zero_le l0
  rw [Int.toNat_natCast] at hbr
  obtain ⟨Ab, cb, rfl, hcb⟩ := orow_form hvb
  have t0 := bcell hst 0
  have t1 := bcell hst 1
  have f00 := bfroz hst 0
  have f01 := bfroz hst 1
  simp only [List.getElem?_toArray, List.getElem?_cons_zero, List.getElem?_cons_succ] at t0 t1
  have n1 : bits .and .u8 (y : Int) 63 = ((y % 64 : Nat) : Int) := by
    have := u8_and_nat y 63 (by omega) (by omega)
    rwa [show (63 : Nat) = 2 ^ 6 - 1 from rfl, Nat.and_two_pow_sub_one_eq_mod] at this
  have n3 : IntKind.u8.wrap ((yl : Int) + 1) = (((yl + 1) % 256 : Nat) : Int) := by rw [IntKind.wrap_u8]; omega
  have n2 : bits .and .u8 (IntKind.u8.wrap ((yl : Int) + 1)) 63 = (((yl + 1) % 64 : Nat) : Int) := by
    have := u8_and_nat ((yl + 1) % 256) 63 (by omega) (by omega)
    rw [show (63 : Nat) = 2 ^ 6 - 1 from rfl, Nat.and_two_pow_sub_one_eq_mod] at this
    rw [n3, show (yl + 1) % 64 = (yl + 1) % 256 % 2 ^ 6 by omega]; exact this
  have n4 : ((yl : Int) + 1) % 64 = (((yl + 1) % 64 : Nat) : Int) := by omega
  clear n3
  generalize y % 64 = m at *
  generalize (yl + 1) % 64 = n at *
  have hlz : (0 : Int) < (s.last.length : Int) := by omega
  have Hl := Lib.hid (show RdB w _ s.last from Rd1.of_own hvl)
  have Hil := Lib.hid ok.il
  have Hne := Lib.hid (decide_eq_false (show ¬ s.last = seg from fun h => hne h.symm))
  have hzl : ((s.last.length : Int) == 0) = false := beq_eq_false_iff_ne.2 (by omega)
  have Hdr := Lib.hid (RJAt.dropped hst)
  have hlb1 := ok.lb
  have hlb2 := ok.ll
  by_cases hmn : m = n
  · subst hmn
    have hl1 : (2048 : Int) < (s.b.length : Int) + (seg.length : Int) - 1 := by
      rcases hbr with h | h
      · exact absurd rfl h
      · omega
    clear hr hib ok hst hvb hvl hf x0 l0 hne hop hbr inv
    go_enter Try.func18, Try.ntmps18
    go_wp2_with fail
    refine (bytesEq _ _ s.last seg _ Hl.out Hr.out Hil.out Hib.out).mono ?_
    rintro e w1 ⟨rfl, rfl⟩
    rw [Hne.out]
    go_wp2_with fail
    go_quiet (fail)
    go_wp2_with fail
    go_ret2
    exact ⟨rfl, (RJAt.dropped (w := w.drewN nq) Hst.out).1, Fr.trans_same ((Fr.refl _ w).drewN nq) (RJAt.dropped (w := w.drewN nq) Hst.out).2⟩
  · have hmn2 : ((m : Int) != (n : Int)) = true := by rw [bne_iff_ne]; omega
    clear hr hib ok hst hvb hvl hf x0 l0 hne hop hbr inv
    go_enter Try.func18, Try.ntmps18
    go_wp2_with fail
    refine (bytesEq _ _ s.last seg _ Hl.out Hr.out Hil.out Hib.out).mono ?_
    rintro e w1 ⟨rfl, rfl⟩
    rw [Hne.out]
    go_wp2_with fail
    go_quiet (fail)
    go_wp2_with fail
    go_ret2
    exact ⟨rfl, (RJAt.dropped (w := w.drewN nq) Hst.out).1, Fr.trans_same ((Fr.refl _ w).drewN nq) (RJAt.dropped (w := w.drewN nq) Hst.out).2⟩

end Go.Proofs.Ytaahigdkbmifbaa

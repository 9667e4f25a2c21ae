/-
  The document's joiner: Feed.
-/
import Derived.Test.YtaahigdkbmifbaaTransOwn
import Derived.Test.YtaahigdkbmifbaaRefBytes
namespace Go.Proofs.Ytaahigdkbmifbaa
open Go.RowKit

abbrev TRJ : Nat := 41
/-- The document's joiner at block g: no flag; the last segment is empty where nothing is there. -/
structure RJAt (w : World) (g : Nat) (s : JSt) : Prop where
  ok : JOk s
  inv : s.op = true ∨ s = JSt.empty
  str : ∃ vb vl, w.heap[g]? = some (.cells #[vb, vl] TRJ (0, 0)) ∧ w.ownsRow 0 TB 1 vb s.b.length (u8s s.b) ∧ w.ownsRow 0 TB 1 vl s.last.length (u8s s.last)
theorem RJAt.fr {S : Nat → Prop} {w w' : World} {g : Nat} {s : JSt} (h : RJAt w g s) (hf : Fr S w w') (hg : ¬ S g) (hs : ∀ k cs, S k → w.heap[k]? ≠ some (.cells cs TB (0, 0))) : RJAt w' g s := by
  obtain ⟨ok, inv, vb, vl, h1, h2, h3⟩ := h
  refine ⟨ok, inv, vb, vl, hf.blk h1 hg, orow_fr h2 hf (fun k hk e => ?_), orow_fr h3 hf (fun k hk e => ?_)⟩
  · obtain ⟨_, _, cs, hc⟩ := orow_blk h2 k hk; exact hs k cs e hc
  · obtain ⟨_, _, cs, hc⟩ := orow_blk h3 k hk; exact hs k cs e hc
theorem RJAt.below {w w' : World} {g : Nat} {s : JSt} (h : RJAt w g s) (hb : Below w.heap.size w w') : RJAt w' g s := h.fr (Fr.of_below (S := NoB) hb) id (fun _ _ h => h.elim)

set_option maxRecDepth 20000 in
set_option maxHeartbeats 1000000 in
theorem ref_none (w : World) (g : Nat) (v : Value) (seg : List Int) (hr : RdB w v seg) (hb : ¬ (2 ≤ seg.length ∧ seg.length ≤ 250)) :
    Calls Try.prog 18 #[.pointer (some ⟨g, 0, none⟩), v] w fun e w' => e = .returned (.tuple #[.slice none 0 0, .bool false]) ∧ w = w' := by
  obtain ⟨A, c, rfl, hc⟩ := hr.form
  clear hr
  by_cases h : seg.length < 2
  · clear hb
    go_enter Try.func18, Try.ntmps18
    go_wp2_with fail
    go_ret2
    exact ⟨rfl, rfl⟩
  · have h2 : 250 < seg.length := by omega
    clear hb
    go_enter Try.func18, Try.ntmps18
    go_wp2_with fail
    go_ret2
    exact ⟨rfl, rfl⟩

set_option maxRecDepth 20000 in
set_option maxHeartbeats 1000000 in
theorem ref_skip (w : World) (g : Nat) (s : JSt) (v : Value) (seg : List Int) (h : RJAt w g s) (hr : RdB w v seg) (hib : IsB seg) (h2 : 2 ≤ seg.length) (h3 : seg.length ≤ 250) (hf : firB (seg.getD 0 0).toNat = false) (hsk : s.op = false ∨ seg = s.last) :
    Calls Try.prog 18 #[.pointer (some ⟨g, 0, none⟩), v] w fun e w' => e = .returned (.tuple #[.slice none 0 0, .bool false]) ∧ w = w' := by
  obtain ⟨A, c, rfl, hc⟩ := hr.form
  obtain ⟨gs, os, rfl, ck⟩ := hr.at 0 (by omega)
  rw [Nat.add_zero] at ck
  obtain ⟨x0, x1⟩ := hib.at 0 (by omega)
  generalize seg.getD 0 0 = x at *
  obtain ⟨y, rfl⟩ := Int.eq_ofNat_of_zero_le x0
  rw [Int.toNat_natCast] at hf
  have e1 := u8_and_nat y 64 (by omega) (by omega)
  have b1 : (((y &&& 64 : Nat) : Int) != 0) = false := by rw [bne_eq_false_iff_eq]; have := of_decide_eq_false hf; omega
  have Hr := Lib.hid hr
  have Hib := Lib.hid hib
  obtain ⟨ok, inv, vb, vl, hst, hvb, hvl⟩ := h
  have z1 : (1 : Int) ≤ (seg.length : Int) := by omega
  have hz0 : (0 : Int) < (seg.length : Int) := by omega
  simp only [show ((64 : Nat) : Int) = 64 from rfl] at e1
  have t1 := bcell hst 1
  simp only [List.getElem?_toArray, List.getElem?_cons_zero, List.getElem?_cons_succ] at t1
  have Hl := Lib.hid (show RdB w vl s.last from Rd1.of_own hvl)
  have Hil := Lib.hid ok.il
  obtain ⟨Al, cl, rfl, hcl⟩ := orow_form hvl
  by_cases hop : s.op = false
  · have hz : ((s.last.length : Int) == 0) = true := by
      rcases inv with h | h
      · rw [hop] at h; cases h
      · rw [h]; rfl
    clear hr hib ok hst hvb hvl hf x0 hsk hop inv
    go_enter Try.func18, Try.ntmps18
    go_wp2_with fail
    go_ret2
    exact ⟨rfl, rfl⟩
  · have hop2 : s.op = true := by simpa using hop
    have hse : s.last = seg := by
      rcases hsk with h | h
      · exact absurd h hop
      · exact h.symm
    have hlp := ok.pos hop2
    have hz : ((s.last.length : Int) == 0) = false := beq_eq_false_iff_ne.2 (by omega)
    have Hse := Lib.hid (decide_eq_true hse)
    clear hr hib ok hst hvb hvl hf x0 hsk hop hop2 hse inv
    go_enter Try.func18, Try.ntmps18
    go_wp2_with fail
    refine (bytesEq _ _ s.last seg _ Hl.out Hr.out Hil.out Hib.out).mono ?_
    rintro e w1 ⟨rfl, rfl⟩
    rw [Hse.out]
    go_wp2_with fail
    go_ret2
    exact ⟨rfl, rfl⟩

set_option maxRecDepth 20000 in
set_option maxHeartbeats 1000000 in
/-- The last code of both ways that drop what is there: two stores. -/
theorem RJAt.dropped {w : World} {g : Nat} {vb vl : Value} (h : w.heap[g]? = some (.cells #[vb, vl] TRJ (0, 0))) :
    RJAt ((w.setCell ⟨g, 0, none⟩ (.slice none 0 0)).setCell ⟨g, 1, none⟩ (.slice none 0 0)) g JSt.empty ∧ Fr (fun k => k = g) w ((w.setCell ⟨g, 0, none⟩ (.slice none 0 0)).setCell ⟨g, 1, none⟩ (.slice none 0 0)) := by
  have h1 := bset h 0 (.slice none 0 0)
  have h2 := bset h1 1 (.slice none 0 0)
  refine ⟨⟨JOk.empty, .inr rfl, .slice none 0 0, .slice none 0 0, h2, orow_nil _ _ _ _, orow_nil _ _ _ _⟩, ?_⟩
  exact Fr.setCell (S := fun k => k = g) (Fr.setCell (S := fun k => k = g) (Fr.refl _ _) (p := ⟨g, 0, none⟩) (.inl rfl) _) (p := ⟨g, 1, none⟩) (.inl rfl) _
end Go.Proofs.Ytaahigdkbmifbaa

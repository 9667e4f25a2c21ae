/-
  The package pdu: pack.
-/
import Derived.Test.YthfcppflhkhpnaaPdu
import Derived.Test.YthfcppflhkhpnaaPduBits
namespace Go.Proofs.Ythfcppflhkhpnaa
open Go.RowKit
set_option linter.unusedSimpArgs false

set_option maxRecDepth 20000 in
set_option maxHeartbeats 1000000 in
theorem pack_bits (fn : Int) (v : Value) (l : List Int) (w : World) (h : RdI w v l) (hx : l.length ≤ 100000) (hb : bitsB fn = true) (hl : IsBit l) :
    Calls Try.prog 26 #[.int .i64 fn, v] w fun e w' => ∃ v', e = .returned v' ∧ w'.ownsRow w.heap.size TB 1 v' (packBits l).length (u8s (packBits l)) ∧ Below w.heap.size w w' := by
  obtain ⟨A, c, rfl, hc⟩ := h.form
  have Hr := Lib.hid h
  have Hb := Lib.hid hb
  have Hl := Lib.hid hl
  clear h hb hl
  obtain ⟨nb, hnb⟩ : ∃ nb, nb = (l.length + 7) / 8 := ⟨_, rfl⟩
  have Hnb := Lib.hid hnb
  have hq : ((l.length : Int) + 7) / 8 = (nb : Int) := by omega
  obtain ⟨i, hi, hz0, hz1, hz2⟩ := info_parts infoB
  have hmk : ∀ W : World, (Instr.makeSlice 27 (.int .i64 (nb : Int)) (.int .i64 (nb : Int))).run Try.prog W = .ok (.slice (some ⟨W.heap.size, 0, none⟩) nb nb) (W.alloc (.cells (madeCells #[.int .u8 0] nb) TB)) := fun W => by
    have := run_make_rowN (P := Try.prog) 27 TB i (.int .u8 0) Try.underlying27 hi hz0 .i64 .i64 nb nb (Nat.le_refl _) (by rw [hz2]; omega) (by omega) W
    rw [hz1, Nat.mul_one] at this
    exact this
  clear hi hz0 hz1 hz2 hnb
  go_enter Try.func26, Try.ntmps26
  go_wp2_with (go_at_call 40; refine (bits_any _ _).mono ?_; rintro e w' ⟨rfl, rfl⟩; rw [Hb.out])
  have Hown0 := Lib.hid (show (w.alloc (.cells (madeCells #[.int .u8 0] nb) TB)).ownsRow w.heap.size TB 1 (.slice (some ⟨w.heap.size, 0, none⟩) nb nb) nb (u8s ((List.range nb).map (byteAt (l.take 0)))) by
    have := orow_made w w.heap.size TB (.int .u8 0) nb (Nat.le_refl _) (by have := Hnb.out; unfold maxLen; omega)
    rw [List.take_zero, ← packBits_start]; simpa [u8s] using this)
  have Hbel0 := Lib.hid (below_alloc (Below.refl _ w) (.cells (madeCells #[.int .u8 0] nb) TB))
  generalize w.alloc (.cells (madeCells #[.int .u8 0] nb) TB) = w1 at *
  have hg1 : w.heap.size = w.heap.size := rfl
  clear hg1
  generalize hgB : w.heap.size = gB at *
  have HgB := Lib.hid hgB
  clear hgB hmk
  go_loopw [37] (fun vi wr => ∃ k : Nat, k ≤ l.length ∧ vi = .int .i64 k ∧ wr.ownsRow gB TB 1 (.slice (some ⟨gB, 0, none⟩) nb nb) nb (u8s ((List.range nb).map (byteAt (l.take k)))) ∧ Below gB w wr) (fun vi _ => l.length - (intOf vi).toNat)
  case atStart => exact ⟨0, by omega, rfl, Hown0.out, Hbel0.out⟩
  case round =>
    obtain ⟨k, hk, rfl, hown, hbel⟩ := hrel
    have Hbel := Lib.hid hbel
    have hbelw : Below w.heap.size w wr := by rw [HgB.out]; exact hbel
    have hrk := Hr.out.below hbelw
    clear hbel hbelw Hown0 Hbel0
    by_cases hlt : k < l.length
    · obtain ⟨g, o, rfl, ck⟩ := hrk.at k hlt
      have hj : k / 8 < nb := by have := Hnb.out; omega
      have cj := orow_cell (Value.int .u8) hown 0 (k / 8) hj
      have fj := orow_froz hown (k / 8)
      obtain ⟨a0, a1⟩ := byteAt_head Hl.out hlt
      have hx1 := Hl.out (l.getD k 0) (by rw [List.getD_eq_getElem?_getD, List.getElem?_eq_getElem hlt]; exact List.getElem_mem _)
      have Hstep := Lib.hid (packBits_step (l := l) hlt Hnb.out)
      have hst := orow_store (Value.int .u8) hown (k / 8) (byteAt (l.take k) (k / 8) + l.getD k 0 * 2 ^ (k % 8))
      rw [Hstep.out] at hst
      have Hown := Lib.hid hown
      have Hst := Lib.hid hst
      have e : ((List.range nb).map (byteAt (l.take k))).getD (k / 8) 0 = byteAt (l.take k) (k / 8) := by
        simp [List.getD_eq_getElem?_getD, List.getElem?_eq_getElem, hj]
      rw [e] at cj
      have hnbx : nb ≤ 100000 := by have := Hnb.out; omega
      clear hst hown e hrk Hstep
      generalize byteAt (l.take k) (k / 8) = a at *
      generalize l.getD k 0 = x at *
      have Hval := Lib.hid (packBits_val a0 a1 hx1.1 hx1.2 (show k % 8 < 8 by omega))
      go_wp2_with fail
      go_region
      rw [Hval.out]
      go_wp2_with fail
      go_roundw
      case rel => exact ⟨k + 1, by omega, by go_num, Hst.out, Below.drew (Hbel.out.setCell (p := ⟨gB, k / 8, none⟩) (Nat.le_refl _) _)⟩
      case measure => simp [intOf]; omega
    · obtain rfl : k = l.length := by omega
      rw [List.take_length] at hown
      have Hown := Lib.hid hown
      clear hown hrk
      go_wp2_with fail
      go_ret
      refine ⟨_, rfl, ?_, by rw [HgB.out]; exact Hbel.out⟩
      have := Hown.out
      unfold packBits
      rw [← Hnb.out, HgB.out]
      simpa [u8s] using this

theorem packRegs_snoc {l : List Int} {k : Nat} (hk : k < l.length) : packRegs (l.take (k + 1)) = packRegs (l.take k) ++ be2 (l.getD k 0) := by
  have e : l.take (k + 1) = l.take k ++ [l.getD k 0] := by
    rw [List.take_succ_eq_append_getElem hk, List.getD_eq_getElem?_getD, List.getElem?_eq_getElem hk]; rfl
  rw [e, packRegs, List.flatMap_append]; simp [packRegs]

set_option maxRecDepth 20000 in
set_option maxHeartbeats 1000000 in
theorem pack_regs (fn : Int) (v : Value) (l : List Int) (w : World) (h : RdI w v l) (hx : l.length ≤ 100000) (hb : bitsB fn = false) (hl : IsReg l) :
    Calls Try.prog 26 #[.int .i64 fn, v] w fun e w' => ∃ v', e = .returned v' ∧ w'.ownsRow w.heap.size TB 1 v' (packRegs l).length (u8s (packRegs l)) ∧ Below w.heap.size w w' := by
  obtain ⟨A, c, rfl, hc⟩ := h.form
  have Hr := Lib.hid h
  have Hb := Lib.hid hb
  have Hl := Lib.hid hl
  clear h hb hl
  obtain ⟨ib, hi, hz0, hz1, hz2⟩ := info_parts infoB
  go_enter Try.func26, Try.ntmps26
  go_wp2_with (go_at_call 40; refine (bits_any _ _).mono ?_; rintro e w' ⟨rfl, rfl⟩; rw [Hb.out])
  go_loopw [5, 16] (fun vb vi wr => ∃ (k n : Nat), k ≤ l.length ∧ n = 2 * k ∧ vi = .int .i64 k ∧ wr.ownsRow w.heap.size TB 1 vb n (u8s (packRegs (l.take k))) ∧ Below w.heap.size w wr) (fun _ vi _ => l.length - (intOf vi).toNat)
  case atStart => exact ⟨0, 0, by omega, rfl, rfl, orow_nil _ _ _ _, Below.refl _ _⟩
  case round =>
    obtain ⟨k, n, hk, hn, rfl, hown, hbel⟩ := hrel
    have Hbel := Lib.hid hbel
    have Hown := Lib.hid hown
    have hrk := Hr.out.below hbel
    obtain ⟨Ab, cb, rfl, _⟩ := orow_form hown
    have Hn := Lib.hid hn
    have hn2 : n ≤ 200000 := by omega
    clear hbel hown hn
    by_cases hlt : k < l.length
    · obtain ⟨g, o, rfl, ck⟩ := hrk.at k hlt
      have Hsn := Lib.hid (packRegs_snoc hlt)
      have hx1 := Hl.out (l.getD k 0) (by rw [List.getD_eq_getElem?_getD, List.getElem?_eq_getElem hlt]; exact List.getElem_mem _)
      obtain ⟨x0, x1⟩ := hx1
      clear hrk
      generalize l.getD k 0 = x at *
      have hw1 : IntKind.u8.wrap (x / 256) = x / 256 := by rw [IntKind.wrap_u8]; omega
      have hw2 : IntKind.u8.wrap x = x % 256 := by rw [IntKind.wrap_u8]
      have hw3 : x / 256 % 256 = x / 256 := by omega
      go_wp2_with (at_builtin; refine wpList_append_own _ rfl _ _ TBs rfl w.heap.size TB ib (.int .u8 0) 1 1 Try.underlying27 hi hz0 hz1 hz2 rfl (by decide) _ n (u8s (packRegs (l.take k))) rfl (orow_alloc Hown.out _) ⟨wr.heap.size, 0, none⟩ 2 2 [.int .u8 (x / 256), .int .u8 (x % 256)] rfl rfl (newsLit rfl _ _) (by simp [Value.oneCell']) (by unfold maxLen; omega) (by omega) (by simp; exact Nat.le_succ_of_le Hbel.out.size) ?_)
      intro v2 w2 hown2 hg2 hne2
      have Hown2 := Lib.hid (show w2.ownsRow w.heap.size TB 1 v2 (n + 2) (u8s (packRegs (l.take (k + 1)))) by rw [Hsn.out]; simpa [u8s, be2] using hown2)
      have Hbel2 := Lib.hid (show Below w.heap.size w w2 from (below_alloc Hbel.out _).grown hg2 (by simp; exact Nat.le_succ_of_le Hbel.out.size) (fun k hk => (orow_blk Hown.out k hk).1))
      clear hown2 hg2 hne2
      go_wp2_with fail
      go_roundw
      case rel => exact ⟨k + 1, n + 2, by omega, by have := Hn.out; omega, by go_num, Hown2.out, Hbel2.out⟩
      case measure => simp [intOf]; omega
    · obtain rfl : k = l.length := by omega
      have Hown2 := Lib.hid (show wr.ownsRow w.heap.size TB 1 (.slice Ab n cb) (packRegs l).length (u8s (packRegs l)) by rw [packRegs_len, ← Hn.out]; have := Hown.out; rwa [List.take_length] at this)
      clear hrk Hown
      go_wp2_with fail
      go_ret
      exact ⟨_, rfl, Hown2.out, Hbel.out⟩

/-- Numbers that may be packed for a function. -/
def OkVals (fn : Int) (l : List Int) : Prop := ∀ v ∈ l, 0 ≤ v ∧ v ≤ highN fn
theorem OkVals.bit {fn : Int} {l : List Int} (h : OkVals fn l) (hb : bitsB fn = true) : IsBit l := by
  intro v hv; have := h v hv; unfold highN at this; rwa [if_pos hb] at this
theorem OkVals.reg {fn : Int} {l : List Int} (h : OkVals fn l) : IsReg l := by
  intro v hv; have := h v hv; have := highN_le fn; omega
theorem packL_isB {fn : Int} {l : List Int} (h : OkVals fn l) : IsB (packL fn l) := by
  unfold packL; split
  · exact packBits_isB (h.bit (by assumption))
  · exact packRegs_isB h.reg
theorem packL_len_le (fn : Int) (l : List Int) : (packL fn l).length ≤ 2 * l.length := by
  unfold packL; split
  · rw [packBits_len]; omega
  · rw [packRegs_len]; omega
theorem pack_any (fn : Int) (v : Value) (l : List Int) (w : World) (h : RdI w v l) (hx : l.length ≤ 100000) (hl : OkVals fn l) :
    Calls Try.prog 26 #[.int .i64 fn, v] w fun e w' => ∃ v', e = .returned v' ∧ w'.ownsRow w.heap.size TB 1 v' (packL fn l).length (u8s (packL fn l)) ∧ Below w.heap.size w w' := by
  unfold packL
  cases hb : bitsB fn with
  | true => rw [if_pos rfl]; exact pack_bits fn v l w h hx hb (hl.bit hb)
  | false => rw [if_neg (by decide)]; exact pack_regs fn v l w h hx hb hl.reg

set_option maxHeartbeats 1000000 in
theorem counted_any (v : Value) (b : List Int) (w : World) (h : RdB w v b) (hx : b.length ≤ 255) :
    Calls Try.prog 25 #[v] w fun e w' => ∃ v', e = .returned v' ∧ w'.ownsRow w.heap.size TB 1 v' (b.length + 1) (u8s ((b.length : Int) :: b)) ∧ Below w.heap.size w w' := by
  obtain ⟨A, c, rfl, hc⟩ := h.form
  have hw : IntKind.u8.wrap (b.length : Int) = (b.length : Int) := by rw [IntKind.wrap_u8]; omega
  have hw2 : (b.length : Int) % 256 = (b.length : Int) := by omega
  have Hown0 := Lib.hid (World.ownsRow_lit (base := w.heap.size) (e := TB) (size := 1) w #[.int .u8 (b.length : Int)] 1 (Nat.le_refl _) (by simp [maxLen]) rfl)
  cases A with
  | none =>
    obtain ⟨rfl, rfl⟩ := h.none
    clear h hw hw2
    simp only [List.length_nil] at *
    go_enter Try.func25, Try.ntmps25
    go_wp2_with fail
    go_ret
    exact ⟨_, rfl, Hown0.out, below_alloc (Below.refl _ _) _⟩
  | some a =>
    obtain ⟨i, hi, hz0, hz1, hz2⟩ := info_parts infoB
    have Hnews := Lib.hid h.news
    have Hone := Lib.hid (ints_oneCell .u8 b)
    have hlx := u8s_len b
    clear h
    go_enter Try.func25, Try.ntmps25
    go_wp2_with (at_builtin; refine wpList_append_own _ rfl _ _ TBs rfl w.heap.size TB i (.int .u8 0) 1 1 Try.underlying27 hi hz0 hz1 hz2 rfl (by decide) _ 1 [.int .u8 (b.length : Int)] rfl Hown0.out a b.length c (u8s b) rfl hlx (fun j u hu => balloc_cell (Hnews.out j u hu) _) Hone.out (by unfold maxLen; omega) (by omega) (by simp) ?_)
    intro v' w1 hown hg hnil
    have Hown := Lib.hid (show w1.ownsRow w.heap.size TB 1 v' (b.length + 1) (u8s ((b.length : Int) :: b)) by simpa [u8s, Nat.add_comm] using hown)
    have Hb := Lib.hid (show Below w.heap.size w w1 from ((Below.refl _ _).alloc (Nat.le_refl _) _).grown hg (by simp) (by simp [Value.ownBlock]))
    clear hown hg hnil
    go_wp2_with fail
    go_ret
    exact ⟨_, rfl, Hown.out, Hb.out⟩
end Go.Proofs.Ythfcppflhkhpnaa

/-
  yardref.CopyInts.
-/
import Derived.Test.YthfcppflhkhpnaaPduUn
import Derived.Laws.AppendOwnNone
namespace Go.Proofs.Ythfcppflhkhpnaa
open Go.RowKit

set_option maxHeartbeats 400000 in
theorem copyI (v : Value) (xs : List Int) (w : World) (h : RdI w v xs) (hx : xs.length ≤ 1000000) :
    Calls Try.prog 18 #[v] w fun e w' => ∃ v', e = .returned v' ∧ w'.ownsRow w.heap.size TI 1 v' xs.length (ints xs) ∧ Below w.heap.size w w' := by
  obtain ⟨A, c, rfl, hc⟩ := h.form
  have hown0 := Lib.hid (World.ownsRow_lit (base := w.heap.size) (e := TI) (size := 1) w #[] 0 (Nat.le_refl _) (by simp) rfl)
  cases A with
  | none =>
    obtain ⟨rfl, rfl⟩ := h.none
    clear h
    simp only [List.length_nil]
    go_enter Try.func18, Try.ntmps18
    go_wp2_with fail
    go_ret
    exact ⟨_, rfl, hown0.out, below_alloc (Below.refl _ _) _⟩
  | some a =>
    obtain ⟨i, hi, hz0, hz1, hz2⟩ := info_parts infoI
    have hlx : (ints xs).length = xs.length * 1 := by simp
    have Hnews := Lib.hid h.news
    have Hone := Lib.hid (ints_oneCell .i64 xs)
    clear h
    go_enter Try.func18, Try.ntmps18
    go_wp2_with (at_builtin; refine wpList_append_own _ rfl _ _ 22 rfl w.heap.size TI i (.int .i64 0) 1 8 Try.underlying22 hi hz0 hz1 hz2 rfl (by decide) _ 0 [] rfl hown0.out a xs.length c (ints xs) rfl hlx (fun j u hu => balloc_cell (Hnews.out j u hu) _) Hone.out (by unfold maxLen; omega) (by omega) (by simp) ?_)
    intro v' w1 hown hg hnil
    clear hnil
    go_wp2_with fail
    go_ret
    refine ⟨_, rfl, by simpa using hown, ?_⟩
    exact ((Below.refl _ _).alloc (Nat.le_refl _) _).grown hg (by simp) (by simp [Value.ownBlock])
end Go.Proofs.Ythfcppflhkhpnaa

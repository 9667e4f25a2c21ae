/-
  yardref.CopyBytes.
-/
import Derived.Test.YtaahigdkbmifbaaBytesB
import Derived.Laws.AppendOwnNone
namespace Go.Proofs.Ytaahigdkbmifbaa
open Go.RowKit

set_option maxHeartbeats 400000 in
theorem copyB (v : Value) (xs : List Int) (w : World) (h : RdB w v xs) (hx : xs.length ≤ 140737488351232) :
    Calls Try.prog 22 #[v] w fun e w' => ∃ v', e = .returned v' ∧ w'.ownsRow w.heap.size TB 1 v' xs.length (u8s xs) ∧ Below w.heap.size w w' := by
  obtain ⟨A, c, rfl, hc⟩ := h.form
  have hown0 := Lib.hid (World.ownsRow_lit (base := w.heap.size) (e := TB) (size := 1) w #[] 0 (Nat.le_refl _) (by simp) rfl)
  cases A with
  | none =>
    obtain ⟨rfl, rfl⟩ := h.none
    clear h
    simp only [List.length_nil]
    go_enter Try.func22, Try.ntmps22
    go_wp2_with fail
    go_ret
    exact ⟨_, rfl, hown0.out, below_alloc (Below.refl _ _) _⟩
  | some a =>
    obtain ⟨i, hi, hz0, hz1, hz2⟩ := info_parts infoB
    have hlx := u8s_len xs
    have Hnews := Lib.hid h.news
    have Hone := Lib.hid (ints_oneCell .u8 xs)
    clear h
    go_enter Try.func22, Try.ntmps22
    go_wp2_with (at_builtin; refine wpList_append_own _ rfl _ _ TBs rfl w.heap.size TB i (.int .u8 0) 1 1 Try.underlying22 hi hz0 hz1 hz2 rfl (by decide) _ 0 [] rfl hown0.out a xs.length c (u8s xs) rfl hlx (fun j u hu => balloc_cell (Hnews.out j u hu) _) Hone.out (by unfold maxLen; omega) (by omega) (by simp) ?_)
    intro v' w1 hown hg hnil
    clear hnil
    go_wp2_with fail
    go_ret
    refine ⟨_, rfl, by simpa using hown, ?_⟩
    exact ((Below.refl _ _).alloc (Nat.le_refl _) _).grown hg (by simp) (by simp [Value.ownBlock])
end Go.Proofs.Ytaahigdkbmifbaa

/-
  The package trans, the joiner: contracts.
-/
import Derived.Test.YtaahigdkbmifbaaFail
import Derived.Test.YtaahigdkbmifbaaBytesB
namespace Go.Proofs.Ytaahigdkbmifbaa
open Go.RowKit

abbrev TJ : Nat := 44
abbrev transStr : ByteArray := { data := #[116, 114, 97, 110, 115] }

set_option maxHeartbeats 400000 in
theorem bytesEq2 (v u : Value) (xs ys : List Int) (w : World) (h : RdB w v xs) (h2 : RdB w u ys) (hx : IsB xs) (hy : IsB ys) :
    Calls Try.prog 20 #[v, u] w fun e w' => e = .returned (.bool (decide (xs = ys))) ∧ w = w' := by
  have c1 := conv_bytes h
  have c2 := conv_bytes h2
  have e := Lib.hid (bytes_eq hx hy)
  clear h h2
  go_enter Try.func20, Try.ntmps20
  go_wp2_with fail
  go_ret
  exact ⟨by rw [← e.out]; rfl, rfl⟩

/-- A joiner's state: is something there, the bytes, the last segment. -/
structure JSt where
  op : Bool
  b : List Int
  last : List Int
def JSt.empty : JSt := ⟨false, [], []⟩
structure JOk (s : JSt) : Prop where
  lb : s.b.length ≤ 2048
  ll : s.last.length ≤ 250
  pos : s.op = true → 0 < s.last.length
  ib : IsB s.b
  il : IsB s.last
theorem JOk.empty : JOk JSt.empty := ⟨by simp [JSt.empty], by simp [JSt.empty], by simp [JSt.empty], by simp [JSt.empty, IsB], by simp [JSt.empty, IsB]⟩
/-- A joiner at block g. -/
structure JAt (w : World) (g : Nat) (s : JSt) : Prop where
  ok : JOk s
  str : ∃ vb vl, w.heap[g]? = some (.cells #[.bool s.op, vb, vl] TJ (0, 0)) ∧ w.ownsRow 0 TB 1 vb s.b.length (u8s s.b) ∧ w.ownsRow 0 TB 1 vl s.last.length (u8s s.last)
theorem JAt.fr {S : Nat → Prop} {w w' : World} {g : Nat} {s : JSt} (h : JAt w g s) (hf : Fr S w w') (hg : ¬ S g) (hs : ∀ k cs, S k → w.heap[k]? ≠ some (.cells cs TB (0, 0))) : JAt w' g s := by
  obtain ⟨ok, vb, vl, h1, h2, h3⟩ := h
  refine ⟨ok, vb, vl, hf.blk h1 hg, orow_fr h2 hf (fun k hk e => ?_), orow_fr h3 hf (fun k hk e => ?_)⟩
  · obtain ⟨_, _, cs, hc⟩ := orow_blk h2 k hk; exact hs k cs e hc
  · obtain ⟨_, _, cs, hc⟩ := orow_blk h3 k hk; exact hs k cs e hc
theorem JAt.below {w w' : World} {g : Nat} {s : JSt} (h : JAt w g s) (hb : Below w.heap.size w w') : JAt w' g s := h.fr (Fr.of_below (S := NoB) hb) id (fun _ _ h => h.elim)

set_option maxHeartbeats 400000 in
theorem transNew (w : World) : Calls Try.prog 10 #[] w fun e w' => e = .returned (.pointer (some ⟨w.heap.size, 0, none⟩)) ∧ JAt w' w.heap.size JSt.empty ∧ Below w.heap.size w w' := by
  have hf : JAt (w.alloc (.cells #[.bool false, .slice none 0 0, .slice none 0 0] TJ)) w.heap.size JSt.empty := ⟨JOk.empty, _, _, bnew _ _, orow_nil _ _ _ _, orow_nil _ _ _ _⟩
  have Hf := Lib.hid hf
  clear hf
  go_enter Try.func10, Try.ntmps10
  go_wp2_with fail
  go_ret
  exact ⟨rfl, Hf.out, below_alloc (Below.refl _ _) _⟩

set_option maxHeartbeats 400000 in
theorem jOpen (w : World) (g : Nat) (s : JSt) (h : JAt w g s) : Calls Try.prog 14 #[.pointer (some ⟨g, 0, none⟩)] w fun e w' => e = .returned (.bool s.op) ∧ w = w' := by
  obtain ⟨ok, vb, vl, h1, h2, h3⟩ := h
  have k0 := bcell h1 0
  simp only [List.getElem?_toArray, List.getElem?_cons_zero] at k0
  clear h1 h2 h3 ok
  go_enter Try.func14, Try.ntmps14
  go_wp2_with fail
  go_ret
  exact ⟨rfl, rfl⟩

set_option maxHeartbeats 400000 in
theorem jReset (w : World) (g : Nat) (x : Value) (vb vl : Value) (h1 : w.heap[g]? = some (.cells #[x, vb, vl] TJ (0, 0))) : Calls Try.prog 17 #[.pointer (some ⟨g, 0, none⟩)] w fun e w' => e = .returned (.tuple #[]) ∧ JAt w' g JSt.empty ∧ Fr (fun k => k = g) w w' := by
  have k0 := bcell h1 0
  have k1 := bcell h1 1
  have k2 := bcell h1 2
  have f0 := bfroz h1 0
  have f1 := bfroz h1 1
  have f2 := bfroz h1 2
  simp only [List.getElem?_toArray, List.getElem?_cons_zero, List.getElem?_cons_succ] at k0 k1 k2
  have hfr : Fr (fun k => k = g) w (((w.setCell ⟨g, 0, none⟩ (.bool false)).setCell ⟨g, 1, none⟩ (.slice none 0 0)).setCell ⟨g, 2, none⟩ (.slice none 0 0)) :=
    Fr.setCell (S := fun k => k = g) (Fr.setCell (S := fun k => k = g) (Fr.setCell (S := fun k => k = g) (Fr.refl _ _) (p := ⟨g, 0, none⟩) (.inl rfl) _) (p := ⟨g, 1, none⟩) (.inl rfl) _) (p := ⟨g, 2, none⟩) (.inl rfl) _
  have hj : JAt (((w.setCell ⟨g, 0, none⟩ (.bool false)).setCell ⟨g, 1, none⟩ (.slice none 0 0)).setCell ⟨g, 2, none⟩ (.slice none 0 0)) g JSt.empty :=
    ⟨JOk.empty, _, _, bset (bset (bset h1 0 _) 1 _) 2 _, orow_nil _ _ _ _, orow_nil _ _ _ _⟩
  have Hfr := Lib.hid hfr
  have Hj := Lib.hid hj
  clear h1 hfr hj
  go_enter Try.func17, Try.ntmps17
  go_wp2_with fail
  go_returns
  exact ⟨rfl, Hj.out, Hfr.out⟩
end Go.Proofs.Ytaahigdkbmifbaa

/-
  The package rtu, the framer: contracts.
-/
import Derived.Test.YtdgmaooioekmnaaFail
import Derived.Test.YtdgmaooioekmnaaBytes
namespace Go.Proofs.Ytdgmaooioekmnaa
open Go.RowKit

abbrev rtuStr : ByteArray := { data := #[114, 116, 117] }
abbrev TFr : Nat := 46

set_option maxHeartbeats 400000 in
theorem rtuIn (i c : Int) (w : World) :
    Calls Try.prog 15 #[.int .i64 i, .int .i64 c] w fun e w' => e = .returned (failed w) ∧ w.alloc (failCells rtuStr i (.iface 44 (.int .i64 c))) = w' := by
  go_enter Try.func15, Try.ntmps15
  go_wp2_with (go_at_call 19; refine (In_err _ _ _ _ _).mono ?_; rintro e w' ⟨rfl, rfl⟩)
  go_ret
  exact ⟨rfl, rfl⟩

/-- A framer at block b: its silence, how long it is quiet, its bytes. -/
structure FrAt (w : World) (b : Nat) (sil q : Int) (vb : Value) (bs : List Int) : Prop where
  str : w.heap[b]? = some (.cells #[.int .i64 sil, .int .i64 q, vb] TFr (0, 0))
  own : w.ownsRow 0 TB 1 vb bs.length (u8s bs)
  hs : 1 ≤ sil ∧ sil ≤ 100
  hq : 0 ≤ q ∧ q ≤ 100
  hl : bs.length ≤ 257
theorem FrAt.fr {S : Nat → Prop} {w w' : World} {b : Nat} {sil q : Int} {vb : Value} {bs : List Int} (h : FrAt w b sil q vb bs) (hf : Fr S w w')
    (h1 : ¬ S b) (h2 : ∀ k, vb.ownBlock = some k → ¬ S k) : FrAt w' b sil q vb bs := ⟨hf.blk h.str h1, orow_fr h.own hf h2, h.hs, h.hq, h.hl⟩
theorem FrAt.cells {w : World} {b : Nat} {sil q : Int} {vb : Value} {bs : List Int} (h : FrAt w b sil q vb bs) :
    w.cell? ⟨b, 0, none⟩ = some (.int .i64 sil) ∧ w.cell? ⟨b, 1, none⟩ = some (.int .i64 q) ∧ w.cell? ⟨b, 2, none⟩ = some vb ∧ w.frozen? ⟨b, 1, none⟩ = false ∧ w.frozen? ⟨b, 2, none⟩ = false :=
  ⟨bcell h.str 0, bcell h.str 1, bcell h.str 2, bfroz h.str 1, bfroz h.str 2⟩
theorem FrAt.quiet {w : World} {b : Nat} {sil q : Int} {vb : Value} {bs : List Int} (h : FrAt w b sil q vb bs) (q' : Int) (hq : 0 ≤ q' ∧ q' ≤ 100) : FrAt (w.setCell ⟨b, 1, none⟩ (.int .i64 q')) b sil q' vb bs :=
  ⟨bset h.str 1 _, orow_fr (S := fun k => k = b) h.own (Fr.setCell (S := fun k => k = b) (Fr.refl _ _) (p := ⟨b, 1, none⟩) (.inl rfl) _) (fun k hk e => orow_ne h.own h.str (by decide) (e ▸ hk)), h.hs, hq, h.hl⟩

set_option maxHeartbeats 400000 in
theorem rtuNew_bad (sil : Int) (w : World) (h : ¬ (1 ≤ sil ∧ sil ≤ 100)) :
    Calls Try.prog 8 #[.int .i64 sil] w fun e w' => e = .returned (.tuple #[.pointer none, failed w]) ∧ w.alloc (failCells rtuStr sil (.iface 44 (.int .i64 1))) = w' := by
  by_cases h1 : sil < 1
  · clear h
    go_enter Try.func8, Try.ntmps8
    go_wp2_with (go_at_call 15; refine (rtuIn _ _ _).mono ?_; rintro e w' ⟨rfl, rfl⟩)
    go_ret2
    exact ⟨rfl, rfl⟩
  · have h2 : 100 < sil := by omega
    clear h
    go_enter Try.func8, Try.ntmps8
    go_wp2_with (go_at_call 15; refine (rtuIn _ _ _).mono ?_; rintro e w' ⟨rfl, rfl⟩)
    go_ret2
    exact ⟨rfl, rfl⟩

set_option maxHeartbeats 400000 in
theorem rtuNew_ok (sil : Int) (w : World) (h : 1 ≤ sil ∧ sil ≤ 100) :
    Calls Try.prog 8 #[.int .i64 sil] w fun e w' => e = .returned (.tuple #[.pointer (some ⟨w.heap.size, 0, none⟩), .nilIface]) ∧ FrAt w' w.heap.size sil 0 (.slice none 0 0) [] ∧ w.alloc (.cells #[.int .i64 sil, .int .i64 0, .slice none 0 0] TFr) = w' := by
  have hf : FrAt (w.alloc (.cells #[.int .i64 sil, .int .i64 0, .slice none 0 0] TFr)) w.heap.size sil 0 (.slice none 0 0) [] := ⟨bnew _ _, orow_nil _ _ _ _, h, by omega, by simp⟩
  have Hf := Lib.hid hf
  obtain ⟨h1, h2⟩ := h
  clear hf
  go_enter Try.func8, Try.ntmps8
  go_wp2_with fail
  go_ret2
  exact ⟨rfl, Hf.out, rfl⟩

/-- What a framer holds behind a byte. -/
def byteF (bs : List Int) (x : Int) : List Int := if bs.length ≤ 256 then bs ++ [x] else bs

set_option maxHeartbeats 800000 in
theorem frByte (b : Nat) (sil q x : Int) (vb : Value) (bs : List Int) (w : World) (h : FrAt w b sil q vb bs) :
    Calls Try.prog 9 #[.pointer (some ⟨b, 0, none⟩), .int .u8 x] w fun e w' => e = .returned (.tuple #[]) ∧ ∃ vb', FrAt w' b sil 0 vb' (byteF bs x) ∧
      Fr (fun k => k = b ∨ vb.ownBlock = some k) w w' ∧ (∀ k, vb'.ownBlock = some k → vb.ownBlock = some k ∨ w.heap.size ≤ k) := by
  obtain ⟨c0, c1, c2, f1, f2⟩ := h.cells
  have hH := Lib.hid h
  have hl := h.hl
  have hfin : FrAt (w.setCell ⟨b, 1, none⟩ (.int .i64 0)) b sil 0 vb bs := h.quiet 0 (by omega)
  have hfr : Fr (fun k => k = b ∨ vb.ownBlock = some k) w (w.setCell ⟨b, 1, none⟩ (.int .i64 0)) := Fr.setCell (S := fun k => k = b ∨ vb.ownBlock = some k) (Fr.refl _ _) (p := ⟨b, 1, none⟩) (.inl (.inl rfl)) _
  have Hfr := Lib.hid hfr
  obtain ⟨A, c, rfl, hc⟩ := orow_form h.own
  by_cases h256 : bs.length ≤ 256
  · have Hfin := Lib.hid hfin
    obtain ⟨i, hi, hz0, hz1, hz2⟩ := info_parts infoB
    clear h hfin hfr
    go_enter Try.func9, Try.ntmps9
    go_wp2_with (at_builtin; refine wpList_append_own_at _ rfl _ _ TBs rfl 0 TB i (.int .u8 0) 1 1 Try.underlying22 hi hz0 hz1 hz2 rfl (by decide) _ bs.length (u8s bs) rfl (orow_alloc Hfin.out.own _) ⟨_, 0, none⟩ 1 1 [.int .u8 x] rfl rfl (newsLit (by simp) [_] _) (by simp [Value.oneCell']) (by unfold maxLen; omega) (by omega) (by simp) ?_)
    intro v' w' hown hg hne hat
    obtain ⟨A', c', rfl, _⟩ := orow_form hown
    have hnb : (Value.slice A bs.length c).ownBlock ≠ some b := orow_ne Hfin.out.own Hfin.out.str (by decide)
    have hb1 : w'.heap[b]? = some (.cells #[.int .i64 sil, .int .i64 0, .slice A bs.length c] TFr (0, 0)) := by
      have h1 := balloc Hfin.out.str (.cells #[.int .u8 x] TB)
      exact (hg.block b (blt h1) (fun e => hnb e.symm)).trans h1
    have k0 := bcell hb1 0
    have k1 := bcell hb1 1
    have k2 := bcell hb1 2
    have kf := bfroz hb1 2
    simp only [List.getElem?_toArray, List.getElem?_cons_zero, List.getElem?_cons_succ] at k0 k1 k2
    have hown' : w'.ownsRow 0 TB 1 (.slice A' (bs.length + 1) c') (bs ++ [x]).length (u8s (bs ++ [x])) := by simpa [u8s] using hown
    have hnb2 : (Value.slice A' (bs.length + 1) c').ownBlock ≠ some b := orow_ne hown' hb1 (by decide)
    have Hb1 := Lib.hid hb1
    have Hown := Lib.hid hown'
    have Hnb2 := Lib.hid hnb2
    have Hat := Lib.hid hat
    have Hf2 := Lib.hid (Hfr.out.alloc (.cells #[.int .u8 x] TB) |>.grown hg (fun k hk => .inl (.inr hk)))
    clear hb1 hown hown' hnb hnb2 hat hg hne
    go_wp2_with fail
    go_returns
    refine ⟨rfl, .slice A' (bs.length + 1) c', ?_, ?_, ?_⟩
    · have hbf : byteF bs x = bs ++ [x] := if_pos h256
      rw [hbf]
      refine ⟨bset Hb1.out 2 _, orow_fr (S := fun k => k = b) Hown.out (Fr.setCell (S := fun k => k = b) (Fr.refl _ _) (p := ⟨b, 2, none⟩) (.inl rfl) _) (fun k hk e => Hnb2.out (e ▸ hk)), Hfin.out.hs, Hfin.out.hq, by simp; omega⟩
    · exact Hf2.out.setCell (p := ⟨b, 2, none⟩) (.inl (.inl rfl)) _
    · intro k hk
      rcases Hat.out with h | h
      · exact .inl (h ▸ hk)
      · rw [h] at hk
        simp at hk
        exact .inr (by omega)
  · have hfin2 : FrAt (w.setCell ⟨b, 1, none⟩ (.int .i64 0)) b sil 0 (.slice A bs.length c) (byteF bs x) := by
      rw [show byteF bs x = bs from if_neg h256]; exact hfin
    have Hfin := Lib.hid hfin2
    clear h hfin hfin2 hfr
    go_enter Try.func9, Try.ntmps9
    go_wp2_with fail
    go_returns
    exact ⟨rfl, _, Hfin.out, Hfr.out, fun k hk => .inl hk⟩

theorem FrAt.len {w : World} {b : Nat} {sil q : Int} {vb : Value} {bs : List Int} (h : FrAt w b sil q vb bs) : ∃ A c, vb = .slice A bs.length c ∧ bs.length ≤ c := orow_form h.own

set_option maxHeartbeats 400000 in
theorem frPending (b : Nat) (sil q : Int) (vb : Value) (bs : List Int) (w : World) (h : FrAt w b sil q vb bs) :
    Calls Try.prog 12 #[.pointer (some ⟨b, 0, none⟩)] w fun e w' => e = .returned (.int .i64 bs.length) ∧ w = w' := by
  obtain ⟨c0, c1, c2, f1, f2⟩ := h.cells
  obtain ⟨A, c, rfl, hc⟩ := h.len
  clear h
  go_enter Try.func12, Try.ntmps12
  go_wp2_with fail
  go_ret
  exact ⟨rfl, rfl⟩

set_option maxHeartbeats 400000 in
theorem frDrop0 (b : Nat) (sil q : Int) (vb : Value) (w : World) (hst : w.heap[b]? = some (.cells #[.int .i64 sil, .int .i64 q, vb] TFr (0, 0))) (hs : 1 ≤ sil ∧ sil ≤ 100) :
    Calls Try.prog 16 #[.pointer (some ⟨b, 0, none⟩)] w fun e w' => e = .returned (.tuple #[]) ∧ FrAt w' b sil 0 (.slice none 0 0) [] ∧ Fr (fun k => k = b) w w' := by
  have c1 := bcell hst 1
  have c2 := bcell hst 2
  have f1 := bfroz hst 1
  have f2 := bfroz hst 2
  simp only [List.getElem?_toArray, List.getElem?_cons_zero, List.getElem?_cons_succ] at c1 c2
  have hfr : Fr (fun k => k = b) w ((w.setCell ⟨b, 2, none⟩ (.slice none 0 0)).setCell ⟨b, 1, none⟩ (.int .i64 0)) :=
    Fr.setCell (S := fun k => k = b) (Fr.setCell (S := fun k => k = b) (Fr.refl _ _) (p := ⟨b, 2, none⟩) (.inl rfl) _) (p := ⟨b, 1, none⟩) (.inl rfl) _
  have hfin : FrAt ((w.setCell ⟨b, 2, none⟩ (.slice none 0 0)).setCell ⟨b, 1, none⟩ (.int .i64 0)) b sil 0 (.slice none 0 0) [] :=
    ⟨bset (bset hst 2 _) 1 _, orow_nil _ _ _ _, hs, by omega, by simp⟩
  have Hfr := Lib.hid hfr
  have Hfin := Lib.hid hfin
  clear hst hfr hfin
  go_enter Try.func16, Try.ntmps16
  go_wp2_with fail
  go_returns
  exact ⟨rfl, Hfin.out, Hfr.out⟩
theorem frDrop (b : Nat) (sil q : Int) (vb : Value) (bs : List Int) (w : World) (h : FrAt w b sil q vb bs) :
    Calls Try.prog 16 #[.pointer (some ⟨b, 0, none⟩)] w fun e w' => e = .returned (.tuple #[]) ∧ FrAt w' b sil 0 (.slice none 0 0) [] ∧ Fr (fun k => k = b) w w' :=
  frDrop0 b sil q vb w h.str h.hs
end Go.Proofs.Ytdgmaooioekmnaa

/-
  The package wire, the writer: contracts.
-/
import Derived.Test.YthfcppflhkhpnaaFail
import Derived.Test.YthfcppflhkhpnaaBytesB
import Derived.Deep.RegionLaw
namespace Go.Proofs.Ythfcppflhkhpnaa
open Go.RowKit
set_option linter.unusedSimpArgs false

/-- The cells of an owned row, for an append. -/
theorem orow_news {w : World} {base n : Nat} {a : Addr} {c : Nat} {xs : List Int} (h : w.ownsRow base TB 1 (.slice (some a) n c) n (u8s xs)) : ∀ j u, (u8s xs)[j]? = some u → w.cell? (a.add j) = some u := by
  have hn : n = xs.length := by have := h.1; simpa using this.symm
  subst hn
  exact (show RdB w _ xs from Rd1.of_own h).news
abbrev TW : Nat := 72
/-- A writer at block g, all of it from B on. -/
def WrAt (B : Nat) (w : World) (g : Nat) (bs : List Int) : Prop :=
  B ≤ g ∧ ∃ vb, w.heap[g]? = some (.cells #[vb] TW (0, 0)) ∧ w.ownsRow B TB 1 vb bs.length (u8s bs)
theorem WrAt.below {B : Nat} {w w' : World} {g : Nat} {bs : List Int} (h : WrAt B w g bs) (hb : Below w.heap.size w w') : WrAt B w' g bs := by
  obtain ⟨h0, vb, h1, h2⟩ := h
  exact ⟨h0, vb, (hb.block g (blt h1)).trans h1, orow_below h2 hb⟩
theorem WrAt.lt {B : Nat} {w : World} {g : Nat} {bs : List Int} (h : WrAt B w g bs) : g < w.heap.size := by
  obtain ⟨_, _, h1, _⟩ := h; exact blt h1

set_option maxHeartbeats 400000 in
theorem wrNew (B : Nat) (w : World) (hB : B ≤ w.heap.size) : Calls Try.prog 35 #[] w fun e w' => e = .returned (.pointer (some ⟨w.heap.size, 0, none⟩)) ∧ WrAt B w' w.heap.size [] ∧ Below w.heap.size w w' := by
  have Hf := Lib.hid (show WrAt B (w.alloc (.cells #[.slice none 0 0] TW)) w.heap.size [] from ⟨hB, _, bnew _ _, orow_nil _ _ _ _⟩)
  go_enter Try.func35, Try.ntmps35
  go_wp2_with fail
  go_ret
  exact ⟨rfl, Hf.out, below_alloc (Below.refl _ _) _⟩

/-- The greatest number of n bytes. -/
theorem wmost (n : Nat) (h1 : 1 ≤ n) (h6 : n ≤ 6) (w : World) : Calls Try.prog 42 #[.int .i64 (n : Int), .int .i64 0] w fun e w' => e = .returned (.int .i64 (2 ^ (8 * n) - 1)) ∧ w = w' := by
  obtain rfl | rfl | rfl | rfl | rfl | rfl : n = 1 ∨ n = 2 ∨ n = 3 ∨ n = 4 ∨ n = 5 ∨ n = 6 := by omega
  all_goals
    clear h1 h6
    go_enter Try.func42, Try.ntmps42
    go_wp2_with fail
    go_ret
    exact ⟨rfl, rfl⟩

set_option maxHeartbeats 400000 in
theorem wcheck_ok (p : Value) (n : Nat) (v lo hi : Int) (w : World) (h1 : 1 ≤ n) (h6 : n ≤ 6) (hl : lo ≤ v) (hh : v ≤ hi) :
    Calls Try.prog 41 #[p, .int .i64 (n : Int), .int .i64 v, .int .i64 lo, .int .i64 hi] w fun e w' => e = .returned .nilIface ∧ w = w' := by
  have d1 : ¬ (n : Int) < 1 := by omega
  have d2 : ¬ (6 : Int) < (n : Int) := by omega
  have d3 : ¬ v < lo := by omega
  have d4 : ¬ hi < v := by omega
  go_enter Try.func41, Try.ntmps41
  go_wp2_with fail
  go_ret
  exact ⟨rfl, rfl⟩

/-- The bytes of a number, the least first. -/
def splitL (n : Nat) (v : Int) : List Int := (List.range n).map fun i => v / 2 ^ (8 * i) % 256
def splitK (n k : Nat) (v : Int) : List Int := (List.range n).map fun i => if i < k then v / 2 ^ (8 * i) % 256 else 0
theorem splitK_start (n : Nat) (v : Int) : List.replicate n 0 = splitK n 0 v := by
  apply List.ext_getElem
  · simp [splitK]
  · intro j h1 h2; simp [splitK]
theorem splitK_end (n : Nat) (v : Int) : splitK n n v = splitL n v := by
  apply List.ext_getElem
  · simp [splitK, splitL]
  · intro j h1 h2
    have : j < n := by simpa [splitK] using h1
    simp [splitK, splitL, this]
theorem splitK_step {n k : Nat} {v : Int} : (splitK n k v).set k (v / 2 ^ (8 * k) % 256) = splitK n (k + 1) v := by
  apply List.ext_getElem
  · simp [splitK]
  · intro j h1 h2
    simp only [splitK, List.getElem_set, List.getElem_map, List.getElem_range]
    by_cases hj : k = j
    · subst hj; simp
    · rw [if_neg hj]
      by_cases h : j < k
      · rw [if_pos h, if_pos (by omega)]
      · rw [if_neg h, if_neg (by omega)]
theorem splitK_len (n k : Nat) (v : Int) : (splitK n k v).length = n := by simp [splitK]
theorem splitL_len (n : Nat) (v : Int) : (splitL n v).length = n := by simp [splitL]
theorem splitL_isB (n : Nat) (v : Int) : IsB (splitL n v) := by
  intro x hx
  obtain ⟨i, _, rfl⟩ := List.mem_map.1 hx
  generalize v / 2 ^ (8 * i) = y
  show 0 ≤ y % 256 ∧ y % 256 ≤ 255
  omega

set_option maxRecDepth 20000 in
set_option maxHeartbeats 1000000 in
theorem wsplit (n : Nat) (v : Int) (w : World) (h6 : n ≤ 8) :
    Calls Try.prog 43 #[.int .i64 (n : Int), .int .i64 v] w fun e w' => ∃ v', e = .returned v' ∧ w'.ownsRow w.heap.size TB 1 v' n (u8s (splitL n v)) ∧ Below w.heap.size w w' := by
  obtain ⟨i, hi, hz0, hz1, hz2⟩ := info_parts infoB
  have hmk : ∀ W : World, (Instr.makeSlice 27 (.int .i64 (n : Int)) (.int .i64 (n : Int))).run Try.prog W = .ok (.slice (some ⟨W.heap.size, 0, none⟩) n n) (W.alloc (.cells (madeCells #[.int .u8 0] n) TB)) := fun W => by
    have := run_make_rowN (P := Try.prog) 27 TB i (.int .u8 0) Try.underlying27 hi hz0 .i64 .i64 n n (Nat.le_refl _) (by rw [hz2]; omega) (by omega) W
    rw [hz1, Nat.mul_one] at this
    exact this
  clear hi hz0 hz1 hz2
  go_enter Try.func43, Try.ntmps43
  go_wp2_with fail
  have Hown0 := Lib.hid (show (w.alloc (.cells (madeCells #[.int .u8 0] n) TB)).ownsRow w.heap.size TB 1 (.slice (some ⟨w.heap.size, 0, none⟩) n n) n (u8s (splitK n 0 v)) by
    have := orow_made w w.heap.size TB (.int .u8 0) n (Nat.le_refl _) (by unfold maxLen; omega)
    rw [← splitK_start]; simpa [u8s] using this)
  have Hbel0 := Lib.hid (below_alloc (Below.refl _ w) (.cells (madeCells #[.int .u8 0] n) TB))
  generalize w.alloc (.cells (madeCells #[.int .u8 0] n) TB) = w1 at *
  generalize hgB : w.heap.size = gB at *
  have HgB := Lib.hid hgB
  clear hgB hmk
  go_loopw [11] (fun vi wr => ∃ k : Nat, k ≤ n ∧ vi = .int .i64 k ∧ wr.ownsRow gB TB 1 (.slice (some ⟨gB, 0, none⟩) n n) n (u8s (splitK n k v)) ∧ Below gB w wr) (fun vi _ => n - (intOf vi).toNat)
  case atStart => exact ⟨0, by omega, rfl, Hown0.out, Hbel0.out⟩
  case round =>
    obtain ⟨k, hk, rfl, hown, hbel⟩ := hrel
    have Hbel := Lib.hid hbel
    clear hbel Hown0 Hbel0
    by_cases hlt : k < n
    · have cj := orow_cell (Value.int .u8) hown 0 k hlt
      have fj := orow_froz hown k
      have hst := orow_store (Value.int .u8) hown k (v / 2 ^ (8 * k) % 256)
      rw [splitK_step] at hst
      have Hst := Lib.hid hst
      clear hst hown
      generalize (splitK n k v).getD k 0 = a at *
      go_wp2_with fail
      go_roundw
      case rel => exact ⟨k + 1, by omega, by go_num, Hst.out, Hbel.out.setCell (p := ⟨gB, k, none⟩) (Nat.le_refl _) _⟩
      case measure => simp [intOf]; omega
    · obtain rfl : k = n := by omega
      rw [splitK_end] at hown
      have Hown := Lib.hid hown
      clear hown
      go_wp2_with fail
      go_ret
      exact ⟨_, rfl, by rw [HgB.out]; exact Hown.out, by rw [HgB.out]; exact Hbel.out⟩
/-- What an append leaves of the writer's block: no block of bytes. -/
theorem WrAt.cell0 {B : Nat} {w : World} {g : Nat} {bs : List Int} (h : WrAt B w g bs) : ∃ A c, w.heap[g]? = some (.cells #[.slice A bs.length c] TW (0, 0)) ∧ w.ownsRow B TB 1 (.slice A bs.length c) bs.length (u8s bs) ∧ w.cell? ⟨g, 0, none⟩ = some (.slice A bs.length c) ∧ w.frozen? ⟨g, 0, none⟩ = false := by
  obtain ⟨_, vb, h1, h2⟩ := h
  obtain ⟨A, c, rfl, _⟩ := orow_form h2
  exact ⟨A, c, h1, h2, (bcell h1 0).trans rfl, bfroz h1 0⟩
/-- The writer behind the store. -/
theorem WrAt.put {B n : Nat} {w w4 : World} {g : Nat} {vb v4 : Value} {bs : List Int} (hB : B ≤ g) (h : w4.heap[g]? = some (.cells #[vb] TW (0, 0))) (hown : w4.ownsRow B TB 1 v4 n (u8s bs)) (hb : Below B w w4) :
    WrAt B (w4.setCell ⟨g, 0, none⟩ v4) g bs ∧ Below B w (w4.setCell ⟨g, 0, none⟩ v4) := by
  have hn : n = bs.length := by have := hown.1; simpa using this.symm
  subst hn
  refine ⟨⟨hB, v4, bset h 0 v4, orow_fr (S := fun k => k = g) hown (Fr.setCell (S := fun k => k = g) (Fr.refl _ _) (p := ⟨g, 0, none⟩) (.inl rfl) _) (fun k hk e => orow_ne hown h (by decide) (e ▸ hk))⟩, hb.setCell (p := ⟨g, 0, none⟩) hB _⟩
/-- An append to the writer's row leaves the writer's block. -/
theorem WrAt.keep {B n : Nat} {w w' : World} {g : Nat} {vb v : Value} {xs : List Value} (h : w.heap[g]? = some (.cells #[v] TW (0, 0))) (hown : w.ownsRow B TB 1 vb n xs) (hg : w.grownBy w' vb.ownBlock) : w'.heap[g]? = some (.cells #[v] TW (0, 0)) :=
  (hg.block g (blt h) (fun e => orow_ne hown h (by decide) e.symm)).trans h

set_option maxRecDepth 20000 in
set_option maxHeartbeats 1000000 in
theorem wrBytes (B : Nat) (g : Nat) (bs : List Int) (v : Value) (xs : List Int) (w : World) (h : WrAt B w g bs) (hr : RdB w v xs) (hx : bs.length + xs.length ≤ 1000000) (hpos : 0 < xs.length) :
    Calls Try.prog 38 #[.pointer (some ⟨g, 0, none⟩), v] w fun e w' => e = .returned (.tuple #[]) ∧ WrAt B w' g (bs ++ xs) ∧ Below B w w' := by
  obtain ⟨Ab, cb, hst, hown, k0, f0⟩ := h.cell0
  have hBg := h.1
  have hgW := h.lt
  obtain ⟨A, c, rfl, hc⟩ := hr.form
  cases A with
  | none => obtain ⟨_, rfl⟩ := hr.none; simp at hpos
  | some a =>
    obtain ⟨i, hi, hz0, hz1, hz2⟩ := info_parts infoB
    have Hnews := Lib.hid hr.news
    have Hone := Lib.hid (ints_oneCell .u8 xs)
    have hlx := u8s_len xs
    have Hst := Lib.hid hst
    have Hown := Lib.hid hown
    clear h hr hst hown
    go_enter Try.func38, Try.ntmps38
    go_wp2_with (at_builtin; refine wpList_append_own _ rfl _ _ TBs rfl B TB i (.int .u8 0) 1 1 Try.underlying27 hi hz0 hz1 hz2 rfl (by decide) _ bs.length (u8s bs) rfl Hown.out a xs.length c (u8s xs) rfl hlx Hnews.out Hone.out (by unfold maxLen; omega) (by omega) (by omega) ?_)
    intro v4 w4 hown4 hg4 hnil
    have hst4 := WrAt.keep Hst.out Hown.out hg4
    have m1 := bcell hst4 0
    have mf := bfroz hst4 0
    simp only [List.getElem?_toArray, List.getElem?_cons_zero, List.getElem?_cons_succ] at m1
    have Hput := Lib.hid (WrAt.put (bs := bs ++ xs) hBg hst4 (by simpa [u8s] using hown4) ((Below.refl B w).grown hg4 (by omega) (fun k hk => (orow_blk Hown.out k hk).1)))
    obtain ⟨A4, c4, rfl, _⟩ := orow_form hown4
    clear hown4 hg4 hnil hst4
    go_wp2_with fail
    go_returns
    exact ⟨rfl, Hput.out.1, Hput.out.2⟩

set_option maxRecDepth 20000 in
set_option maxHeartbeats 1000000 in
theorem wrOut (B : Nat) (g : Nat) (bs : List Int) (w : World) (h : WrAt B w g bs) (hx : bs.length ≤ 1000000) :
    Calls Try.prog 39 #[.pointer (some ⟨g, 0, none⟩)] w fun e w' => ∃ v', e = .returned v' ∧ w'.ownsRow w.heap.size TB 1 v' bs.length (u8s bs) ∧ Below w.heap.size w w' := by
  obtain ⟨Ab, cb, hst, hown, k0, f0⟩ := h.cell0
  have Hrd := Lib.hid (show RdB w _ bs from Rd1.of_own hown)
  clear h hst hown
  go_enter Try.func39, Try.ntmps39
  go_wp2_with fail
  refine (cloneB _ bs _ Hrd.out (by omega)).mono ?_
  rintro e w1 ⟨v1, rfl, hown1, hb1⟩
  have Hown1 := Lib.hid hown1
  have Hb1 := Lib.hid hb1
  clear hown1 hb1
  go_wp2_with fail
  go_ret
  exact ⟨_, rfl, Hown1.out, Hb1.out⟩

set_option maxRecDepth 20000 in
set_option maxHeartbeats 2000000 in
theorem wrU (B : Nat) (g : Nat) (bs : List Int) (n : Nat) (v : Int) (w : World) (h : WrAt B w g bs) (hx : bs.length ≤ 1000000) (h1 : 1 ≤ n) (h6 : n ≤ 6) (v0 : 0 ≤ v) (v1 : v ≤ 2 ^ (8 * n) - 1) :
    Calls Try.prog 36 #[.pointer (some ⟨g, 0, none⟩), .int .i64 (n : Int), .int .i64 v] w fun e w' => e = .returned .nilIface ∧ WrAt B w' g (bs ++ splitL n v) ∧ Below B w w' := by
  obtain ⟨Ab, cb, hst, hown, k0, f0⟩ := h.cell0
  have hBg := h.1
  have hgW := h.lt
  obtain ⟨ii, hi, hz0, hz1, hz2⟩ := info_parts infoB
  have Hst := Lib.hid hst
  have Hown := Lib.hid hown
  have Hownd := Lib.hid (show w.drew.ownsRow B TB 1 (.slice Ab bs.length cb) bs.length (u8s bs) from hown)
  have Hstd := Lib.hid (show w.drew.heap[g]? = some (.cells #[.slice Ab bs.length cb] TW (0, 0)) from hst)
  have Hszd := Lib.hid (show B ≤ w.drew.heap.size from Nat.le_trans hBg (Nat.le_of_lt hgW))
  have Hv1 := Lib.hid v1
  clear h hst hown v1
  go_enter Try.func36, Try.ntmps36
  go_wp2_with fail
  refine (wmost n h1 h6 _).mono ?_
  rintro e w1 ⟨rfl, rfl⟩
  go_wp2_with fail
  refine (wcheck_ok _ n v 0 _ _ h1 h6 v0 Hv1.out).mono ?_
  rintro e w1 ⟨rfl, rfl⟩
  go_wp2_with fail
  go_region_law ((first
    | (refine step_append_lies _ (by rfl) _ _ _ (by rfl) B TB ii (.int .u8 0) 1 1 Try.underlying27 hi hz0 hz1 hz2 rfl (by omega) _ _ (u8s bs) (by rfl) (orow_below Hownd.out hb3) ⟨g3, 0, none⟩ n c3 (u8s (splitL n v)) (by rfl) (by simp [splitL_len]) hnews3 (ints_oneCell .u8 _) (by omega) (by unfold maxLen; omega) (by omega) (Nat.le_trans Hszd.out hb3.size) _ rfl ?_; intro g4 cap4 w4 hown4 hgrow4 hat4 hlt4; have hst4 := WrAt.keep ((hb3.block g (blt Hstd.out)).trans Hstd.out) (orow_below Hownd.out hb3) hgrow4; have m1 := bcell hst4 0; have mf := bfroz hst4 0; simp only [List.getElem?_toArray, List.getElem?_cons_zero, List.getElem?_cons_succ] at m1)
    | (go_wp2_with (go_at_call 43; (refine (wsplit n v _ (by omega)).mono ?_; rintro e w3 ⟨v3, rfl, hown3, hb3⟩; have hk3 := below_cell hb3 k0; obtain ⟨g3, c3, cur3, rfl, _, _, _, _, _⟩ := orow_pos hown3 h1; have hnews3 := orow_news hown3)))))
  all_goals
    have Hput := Lib.hid (WrAt.put (bs := bs ++ splitL n v) (w := w) hBg hst4 (by simpa [u8s] using hown4) (((Below.refl B w).drew.trans (hb3.mono Hszd.out)).grown hgrow4 (Nat.le_trans Hszd.out hb3.size) (fun k hk => (orow_blk (orow_below Hownd.out hb3) k hk).1)))
    clear hown4 hgrow4 hat4 hlt4 hst4 hnews3 hb3 hown3 hk3
    go_wp2_with fail
    go_ret
    exact ⟨rfl, Hput.out.1, Hput.out.2⟩

def Rev2Rel (base g c : Nat) (x y : Int) (w : World) (vi vj : Value) (wr : World) : Prop :=
  (vi = .int .i64 0 ∧ vj = .int .i64 1 ∧ wr = w) ∨ (vi = .int .i64 1 ∧ vj = .int .i64 0 ∧ wr.ownsRow base TB 1 (.slice (some ⟨g, 0, none⟩) 2 c) 2 (u8s [y, x]) ∧ Fr (fun k => k = g) w wr)
/-- slices.Reverse of two bytes that the call owns. -/
theorem rev2 (base g c : Nat) (x y : Int) (w : World) (h : w.ownsRow base TB 1 (.slice (some ⟨g, 0, none⟩) 2 c) 2 (u8s [x, y])) :
    Calls Try.prog 44 #[.slice (some ⟨g, 0, none⟩) 2 c] w fun e w' => e = .returned (.tuple #[]) ∧ w'.ownsRow base TB 1 (.slice (some ⟨g, 0, none⟩) 2 c) 2 (u8s [y, x]) ∧ Fr (fun k => k = g) w w' := by
  have c0 : w.cell? ⟨g, 0, none⟩ = some (.int .u8 x) := orow_cell (Value.int .u8) (xs := [x, y]) h 0 0 (by omega)
  have c1 : w.cell? ⟨g, 1, none⟩ = some (.int .u8 y) := orow_cell (Value.int .u8) (xs := [x, y]) h 0 1 (by omega)
  have f0 := orow_froz h 0
  have f1 := orow_froz h 1
  obtain ⟨_, _, cs, hb⟩ := orow_blk h g rfl
  have Hfin := Lib.hid (show ((w.setCell ⟨g, 0, none⟩ (.int .u8 y)).setCell ⟨g, 1, none⟩ (.int .u8 x)).ownsRow base TB 1 (.slice (some ⟨g, 0, none⟩) 2 c) 2 (u8s [y, x]) from
    orow_store (Value.int .u8) (xs := [y, y]) (orow_store (Value.int .u8) (xs := [x, y]) h 0 y) 1 x)
  have Hfr := Lib.hid (show Fr (fun k => k = g) w ((w.setCell ⟨g, 0, none⟩ (.int .u8 y)).setCell ⟨g, 1, none⟩ (.int .u8 x)) from
    Fr.setCell (S := fun k => k = g) (Fr.setCell (S := fun k => k = g) (Fr.refl _ _) (p := ⟨g, 0, none⟩) (.inl rfl) _) (p := ⟨g, 1, none⟩) (.inl rfl) _)
  clear h hb
  go_enter Try.func44, Try.ntmps44
  go_wp2_with fail
  go_loopw [2, 3] (fun vi vj wr => Rev2Rel base g c x y w vi vj wr) (fun vi _ _ => 2 - (intOf vi).toNat)
  case atStart => exact .inl ⟨rfl, rfl, rfl⟩
  case round =>
    rcases hrel with ⟨rfl, rfl, rfl⟩ | ⟨rfl, rfl, ho, hf⟩
    · go_wp2_with fail
      go_region
      go_wp2_with fail
      go_roundw
      case rel => exact .inr ⟨rfl, rfl, Hfin.out, ⟨Hfr.out.os, Hfr.out.tape, Hfr.out.output, Hfr.out.size, Hfr.out.block⟩⟩
      case measure => simp [intOf]
    · have Ho := Lib.hid ho
      have Hf := Lib.hid hf
      clear ho hf
      go_wp2_with fail
      go_returns
      exact ⟨rfl, Ho.out, Hf.out⟩

theorem splitL2 {v : Int} (v0 : 0 ≤ v) (v1 : v ≤ 65535) : splitL 2 v = [v % 256, v / 256] := by
  simp only [splitL, List.range_succ, List.range_zero, List.nil_append, List.map_append, List.map_cons, List.map_nil, List.cons_append]
  simp; omega
theorem splitL1 {v : Int} (v0 : 0 ≤ v) (v1 : v ≤ 255) : splitL 1 v = [v] := by
  simp [splitL]; omega

set_option maxRecDepth 20000 in
set_option maxHeartbeats 2000000 in
theorem wrB2 (B : Nat) (g : Nat) (bs : List Int) (v : Int) (w : World) (h : WrAt B w g bs) (hx : bs.length ≤ 1000000) (v0 : 0 ≤ v) (v1 : v ≤ 65535) :
    Calls Try.prog 37 #[.pointer (some ⟨g, 0, none⟩), .int .i64 2, .int .i64 v] w fun e w' => e = .returned .nilIface ∧ WrAt B w' g (bs ++ [v / 256, v % 256]) ∧ Below B w w' := by
  obtain ⟨Ab, cb, hst, hown, k0, f0⟩ := h.cell0
  have hBg := h.1
  have hgW := h.lt
  obtain ⟨ii, hi, hz0, hz1, hz2⟩ := info_parts infoB
  have Hst := Lib.hid hst
  have Hown := Lib.hid hown
  have Hv1 := Lib.hid v1
  have Hsp := Lib.hid (splitL2 v0 v1)
  clear h hst hown v1
  go_enter Try.func37, Try.ntmps37
  go_wp2_with fail
  refine (wmost 2 (by omega) (by omega) _).mono ?_
  rintro e w1 ⟨rfl, rfl⟩
  rw [show (2 : Int) ^ (8 * 2) - 1 = 65535 by decide]
  go_wp2_with fail
  refine (wcheck_ok _ 2 v 0 _ _ (by omega) (by omega) v0 Hv1.out).mono ?_
  rintro e w1 ⟨rfl, rfl⟩
  go_wp2_with fail
  refine (wsplit 2 v _ (by omega)).mono ?_
  rintro e w3 ⟨v3, rfl, hown3, hb3⟩
  rw [Hsp.out] at hown3
  obtain ⟨g3, c3, cur3, rfl, _, _, _, _, _⟩ := orow_pos hown3 (by omega)
  have hg3 : w.heap.size ≤ g3 := (orow_blk hown3 g3 rfl).1
  have Hown3 := Lib.hid hown3
  have Hb3 := Lib.hid hb3
  clear hown3 hb3
  go_wp2_with fail
  refine (rev2 _ g3 c3 _ _ _ Hown3.out).mono ?_
  rintro e w5 ⟨rfl, hown5, hf5⟩
  have hb5 : Below w.heap.size w w5 := Hb3.out.trans (hf5.belowB Hb3.out.size (fun k hk => by omega))
  have Hst5 := Lib.hid ((hb5.block g hgW).trans Hst.out)
  have Hownb := Lib.hid (orow_below Hown.out hb5)
  have Hb5 := Lib.hid hb5
  have k5 := below_cell hb5 k0
  have Hnews5 := Lib.hid (orow_news hown5)
  clear hown5 hf5 hb5 k0 f0
  have Hone := Lib.hid (ints_oneCell .u8 [v / 256, v % 256])
  go_wp2_with (at_builtin; go_loud (refine wpList_append_own _ rfl _ _ TBs rfl B TB ii (.int .u8 0) 1 1 Try.underlying27 hi hz0 hz1 hz2 rfl (by decide) _ bs.length (u8s bs) rfl Hownb.out ⟨g3, 0, none⟩ 2 c3 (u8s [v / 256, v % 256]) rfl rfl Hnews5.out Hone.out (by unfold maxLen; omega) (by omega) (Nat.le_trans (by omega) Hb5.out.size) ?_))
  intro v4 w4 hown4 hg4 hnil
  have hst4 := WrAt.keep Hst5.out Hownb.out hg4
  have m1 := bcell hst4 0
  have mf := bfroz hst4 0
  simp only [List.getElem?_toArray, List.getElem?_cons_zero, List.getElem?_cons_succ] at m1
  have Hput := Lib.hid (WrAt.put (bs := bs ++ [v / 256, v % 256]) (w := w) hBg hst4 (by simpa [u8s] using hown4) ((Hb5.out.mono (by omega)).grown hg4 (Nat.le_trans (by omega) Hb5.out.size) (fun k hk => (orow_blk Hownb.out k hk).1)))
  obtain ⟨A4, c4, rfl, _⟩ := orow_form hown4
  clear hown4 hg4 hnil hst4 k5
  go_wp2_with fail
  go_ret
  exact ⟨rfl, Hput.out.1, Hput.out.2⟩
end Go.Proofs.Ythfcppflhkhpnaa

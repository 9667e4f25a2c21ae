/-
  The package trans: Split.
-/
import Derived.Test.YtaahigdkbmifbaaTrans4
namespace Go.Proofs.Ytaahigdkbmifbaa
open Go.RowKit

abbrev TBss : Nat := 27
theorem infoBs : (Try.prog.info? TBs).map (fun i => (i.zero, i.size, i.bytes)) = some (some (.slice none 0 0), 1, 24) := by kernel_rfl

/-- Lists of bytes that the call made: a row of rows, all from B on. -/
def OwnBy (B : Nat) (w : World) (v : Value) (ys : List Value) (xss : List (List Int)) : Prop :=
  w.ownsRow B TBs 1 v ys.length ys ∧ ys.length = xss.length ∧ ∀ (i : Nat) (y : Value) (xs : List Int), ys[i]? = some y → xss[i]? = some xs → w.ownsRow B TB 1 y xs.length (u8s xs)
def OwnBs (B : Nat) (w : World) (v : Value) (xss : List (List Int)) : Prop := ∃ ys : List Value, OwnBy B w v ys xss
theorem orow_u8 {B n : Nat} {w : World} {v : Value} {ys : List Value} {xs : List Int} (h : w.ownsRow B TB 1 v n ys) (hy : ys = u8s xs) : w.ownsRow B TB 1 v xs.length (u8s xs) := by
  subst hy
  have h1 : n = xs.length := by have := h.1; simp at this; omega
  rw [← h1]; exact h
theorem OwnBs.nil (B : Nat) (w : World) : OwnBs B w (.slice none 0 0) [] := ⟨[], orow_nil _ _ _ _, rfl, fun i y xs h => by simp at h⟩
theorem OwnBs.below {B : Nat} {w w' : World} {v : Value} {xss : List (List Int)} (h : OwnBs B w v xss) (hb : Below w.heap.size w w') : OwnBs B w' v xss := by
  obtain ⟨ys, h1, h2, h3⟩ := h
  exact ⟨ys, orow_below h1 hb, h2, fun i y xs hy hx => orow_below (h3 i y xs hy hx) hb⟩
theorem OwnBs.form {B : Nat} {w : World} {v : Value} {xss : List (List Int)} (h : OwnBs B w v xss) : ∃ A c, v = .slice A xss.length c ∧ xss.length ≤ c := by
  obtain ⟨ys, h1, h2, _⟩ := h
  rw [← h2]
  exact orow_form h1
/-- One element. -/
theorem OwnBs.at {B : Nat} {w : World} {A : Option Addr} {n c : Nat} {xss : List (List Int)} (h : OwnBs B w (.slice A n c) xss) (i : Nat) (hi : i < xss.length) :
    ∃ g Ay cy, A = some ⟨g, 0, none⟩ ∧ w.cell? ⟨g, i, none⟩ = some (.slice Ay (xss.getD i []).length cy) ∧ w.ownsRow B TB 1 (.slice Ay (xss.getD i []).length cy) (xss.getD i []).length (u8s (xss.getD i [])) := by
  obtain ⟨ys, h1, h2, h3⟩ := h
  obtain ⟨g, cap, cur, hv, _, _, _⟩ := orow_pos h1 (by omega)
  rw [hv] at h1
  have hy : ys[i]? = some ys[i] := List.getElem?_eq_getElem (by omega)
  have hx : xss[i]? = some xss[i] := List.getElem?_eq_getElem hi
  have h4 := h3 i _ _ hy hx
  have hg : xss.getD i [] = xss[i] := by rw [List.getD_eq_getElem?_getD, hx]; rfl
  rw [hg]
  obtain ⟨Ay, cy, hye, _⟩ := orow_form h4
  rw [hye] at h4
  refine ⟨g, Ay, cy, ?_, ?_, h4⟩
  · simp only [Value.slice.injEq] at hv; exact hv.1
  · rw [h1.cellAt i (by omega), hy, hye]
theorem OwnBy.snoc {B : Nat} {w w1 w2 : World} {vo v2 y : Value} {ys : List Value} {xss : List (List Int)} {xs : List Int} (h : OwnBy B w vo ys xss) (hb : Below w.heap.size w w1) (hy : w1.ownsRow B TB 1 y xs.length (u8s xs))
    (o : Obj) (hown : w2.ownsRow B TBs 1 v2 (ys.length + 1) (ys ++ [y])) (hg : (w1.alloc o).grownBy w2 vo.ownBlock) : OwnBs B w2 v2 (xss ++ [xs]) := by
  obtain ⟨h1, h2, h3⟩ := h
  have h1' := orow_below h1 hb
  have hfr : Fr (fun k => vo.ownBlock = some k) w1 w2 := ((Fr.refl _ w1).alloc o).grown hg (fun k hk => .inl hk)
  have keep : ∀ (z : Value) (zs : List Int), w1.ownsRow B TB 1 z zs.length (u8s zs) → w2.ownsRow B TB 1 z zs.length (u8s zs) := by
    intro z zs hz
    refine orow_fr hz hfr (fun k hk e => ?_)
    obtain ⟨_, _, cs, hc⟩ := orow_blk h1' k e
    exact orow_ne hz hc (by decide) hk
  refine ⟨ys ++ [y], by simpa using hown, by simp [h2], fun i z zs hz hx => ?_⟩
  by_cases hi : i < ys.length
  · rw [List.getElem?_append_left hi] at hz
    rw [List.getElem?_append_left (by omega)] at hx
    exact keep _ _ (orow_below (h3 i z zs hz hx) hb)
  · have hi2 : i = ys.length := by
      have := (List.getElem?_eq_some_iff.1 hz).1
      simp at this; omega
    subst hi2
    simp at hz
    rw [h2] at hx
    simp at hx
    subst hz; subst hx
    exact keep _ _ hy

/-- The header and the bytes of segment i. -/
def segH (n : Nat) (seq : Int) (i : Nat) : Nat := ((seq + i) % 64).toNat + (if i = 0 then 64 else 0) + (if 249 * i + 249 < n then 0 else 128)
def segF (frag : List Int) (seq : Int) (i : Nat) : List Int := (segH frag.length seq i : Int) :: (frag.take (min (249 * i + 249) frag.length)).drop (249 * i)
def segN (n : Nat) : Nat := (n + 248) / 249
def splitF (frag : List Int) (seq : Int) : List (List Int) := (List.range (segN frag.length)).map (segF frag seq)
theorem segH_lt (n : Nat) (seq : Int) (i : Nat) : segH n seq i < 256 := by
  unfold segH
  split <;> split <;> omega

theorem and_63 (n : Int) : bits .and .i64 n 63 = n % 64 := by
  show IntKind.i64.wrap ((BitVec.ofInt 64 n &&& BitVec.ofInt 64 63).toNat : Int) = _
  rw [BitVec.toNat_and, BitVec.toNat_ofInt, show (BitVec.ofInt 64 63).toNat = 2 ^ 6 - 1 by decide, Nat.and_two_pow_sub_one_eq_mod, IntKind.wrap_i64]
  omega
theorem or_64 {m : Nat} (h : m < 64) : bits .or .i64 (m : Int) 64 = ((m + 64 : Nat) : Int) := by
  have := i64_or_nat m 64 (by omega) (by omega)
  have h2 := Nat.shiftLeft_add_eq_or_of_lt (i := 6) (b := m) (by omega) 1
  rw [Nat.shiftLeft_eq, show 1 * 2 ^ 6 = 64 by decide, Nat.or_comm] at h2
  rw [← h2] at this
  rw [Nat.add_comm]
  exact this
theorem or_128 {m : Nat} (h : m < 128) : bits .or .i64 (m : Int) 128 = ((m + 128 : Nat) : Int) := by
  have := i64_or_nat m 128 (by omega) (by omega)
  have h2 := Nat.shiftLeft_add_eq_or_of_lt (i := 7) (b := m) (by omega) 1
  rw [Nat.shiftLeft_eq, show 1 * 2 ^ 7 = 128 by decide, Nat.or_comm] at h2
  rw [← h2] at this
  rw [Nat.add_comm]
  exact this

set_option maxRecDepth 20000 in
set_option maxHeartbeats 2000000 in
theorem split_bad (v : Value) (frag : List Int) (seq : Int) (w : World) (h : RdB w v frag) (hb : ¬ (1 ≤ frag.length ∧ frag.length ≤ 2048)) :
    Calls Try.prog 11 #[v, .int .i64 seq] w fun e w' => ∃ er, e = .returned (.tuple #[.slice none 0 0, .int .i64 0, er]) ∧ ErrIs w' er transStr frag.length (if frag.length = 0 then 2 else 3) ∧ Below w.heap.size w w' := by
  obtain ⟨A, c, rfl, hc⟩ := h.form
  clear h
  by_cases h0 : frag.length = 0
  · have hz : ((frag.length : Int) == 0) = true := beq_iff_eq.2 (by omega)
    have Hif := Lib.hid (show (if frag.length = 0 then (2 : Int) else 3) = 2 from if_pos h0)
    rw [Hif.out]
    clear hb h0
    go_enter Try.func11, Try.ntmps11
    go_wp2_with (go_at_call 19; refine (In_err _ _ _ _ _).mono ?_; rintro e w' ⟨rfl, rfl⟩)
    go_ret3
    exact ⟨_, rfl, ErrIs.mk, below_alloc (Below.refl _ _) _⟩
  · have hz : ((frag.length : Int) == 0) = false := beq_eq_false_iff_ne.2 (by omega)
    have Hif := Lib.hid (show (if frag.length = 0 then (2 : Int) else 3) = 3 from if_neg h0)
    have h2 : 2048 < frag.length := by omega
    rw [Hif.out]
    clear hb h0
    go_enter Try.func11, Try.ntmps11
    go_wp2_with (go_at_call 19; refine (In_err _ _ _ _ _).mono ?_; rintro e w' ⟨rfl, rfl⟩)
    go_ret3
    exact ⟨_, rfl, ErrIs.mk, below_alloc (Below.refl _ _) _⟩

set_option maxRecDepth 20000 in
set_option maxHeartbeats 4000000 in
theorem split_ok (v : Value) (frag : List Int) (seq : Int) (w : World) (h : RdB w v frag) (hib : IsB frag) (h1 : 1 ≤ frag.length) (h2 : frag.length ≤ 2048) :
    Calls Try.prog 11 #[v, .int .i64 seq] w fun e w' => ∃ v', e = .returned (.tuple #[v', .int .i64 ((seq + segN frag.length) % 64), .nilIface]) ∧ OwnBs w.heap.size w' v' (splitF frag seq) ∧ Below w.heap.size w w' := by
  obtain ⟨A, c, rfl, hc⟩ := h.form
  obtain ⟨g, o, rfl, _⟩ := h.at 0 (by omega)
  have Hr := Lib.hid h
  have Hi := Lib.hid hib
  have hz : ((frag.length : Int) == 0) = false := beq_eq_false_iff_ne.2 (by omega)
  clear h hib
  obtain ⟨ib, hib0, zb0, zb1, zb2⟩ := info_parts infoB
  obtain ⟨is, his0, zs0, zs1, zs2⟩ := info_parts infoBs
  go_enter Try.func11, Try.ntmps11
  go_wp2_with fail
  go_loopw [1, 8, 9] (fun vs vo va wr => ∃ (i a : Nat) (σ : Int), a = 249 * i ∧ i ≤ segN frag.length ∧ va = .int .i64 a ∧ vs = .int .i64 σ ∧ σ % 64 = (seq + i) % 64 ∧ OwnBs w.heap.size wr vo ((List.range i).map (segF frag seq)) ∧ Below w.heap.size w wr) (fun _ _ t _ => frag.length - (intOf t).toNat)
  case atStart => exact ⟨0, 0, seq, by omega, by omega, rfl, rfl, by simp, OwnBs.nil _ _, Below.refl _ _⟩
  case round =>
    obtain ⟨i, a, σ, ha, hik, rfl, rfl, hσ, hown, hb⟩ := hrel
    have Ha := Lib.hid ha
    have Hσ := Lib.hid hσ
    have Hown := Lib.hid hown
    have Hb := Lib.hid hb
    have hik8 : i ≤ 9 := by unfold segN at hik; omega
    clear ha hσ hown hb
    by_cases hlt : a < frag.length
    · obtain ⟨m, hm⟩ : ∃ m : Nat, (m : Int) = (seq + i) % 64 := ⟨((seq + i) % 64).toNat, by omega⟩
      have fand : bits .and .i64 σ 63 = (m : Int) := by rw [and_63, Hσ.out, hm]
      have hm64 : m < 64 := by omega
      have Hm := Lib.hid hm
      have Hnx := Lib.hid (show ((m : Int) + 1) % 64 = (seq + (i + 1 : Nat)) % 64 by omega)
      have hin : i + 1 ≤ segN frag.length := by have := Ha.out; unfold segN; omega
      clear hm
      by_cases hi0 : i = 0
      · have hz2 : ((a : Int) == 0) = true := beq_iff_eq.2 (by have := Ha.out; omega)
        obtain ⟨x, hx⟩ : ∃ x : Nat, x = m + 64 := ⟨_, rfl⟩
        have f64 : bits .or .i64 (m : Int) 64 = (x : Int) := by rw [or_64 hm64, hx]
        have hx128 : x < 128 := by omega
        have Hx := Lib.hid hx
        clear hx
        by_cases hl : a + 249 < frag.length
        · have hz3 : ((a : Int) + 249 == (frag.length : Int)) = false := beq_eq_false_iff_ne.2 (by omega)
          have Hseg := Lib.hid (show segF frag seq i = (x : Int) :: (frag.take (a + 249)).drop a by have := Ha.out; have := Hm.out; have := Hx.out; unfold segF segH; rw [if_pos hi0, if_pos (by omega), show min (249 * i + 249) frag.length = a + 249 by omega, show 249 * i = a by omega, Nat.add_zero, show ((seq + (i : Int)) % 64).toNat + 64 = x by omega])
          clear hi0; have Hnews := Lib.hid (Rd1.cut Hr.out a (a + 249) (by omega) (by omega)).news; have hwrap : ((x : Nat) : Int) % 256 = ((x : Nat) : Int) := (by omega); have hown0 := Lib.hid (World.ownsRow_lit (base := w.heap.size) (e := TB) (size := 1) wr #[.int .u8 ((x : Nat) : Int)] 1 Hb.out.size (by simp [maxLen]) rfl); obtain ⟨ys, hoy⟩ := Hown.out; obtain ⟨Ao, co, rfl, hco⟩ := orow_form hoy.1; have hyl : ys.length ≤ 9 := (by have := hoy.2.1; simp at this; omega); have Hoy := Lib.hid hoy; clear hoy Hown; (go_wp2_with (at_builtin; go_loud (refine wpList_append_own _ rfl _ _ TBs rfl w.heap.size TB ib (.int .u8 0) 1 1 Try.underlying22 hib0 zb0 zb1 zb2 rfl (by decide) _ 1 [.int .u8 ((x : Nat) : Int)] rfl hown0.out ⟨g, o + a, none⟩ _ _ (u8s ((frag.take (a + 249)).drop a)) rfl (by simp <;> omega) (fun j u hu => balloc_cell (below_cell Hb.out (Hnews.out j u hu)) _) (ints_oneCell .u8 _) (by unfold maxLen; omega) (by omega) (by simp; exact Nat.le_succ_of_le Hb.out.size) ?_))); intro v1 w1 hown1 hg1 hnil1; have hown2 := orow_u8 hown1 (show _ = u8s (segF frag seq i) by rw [Hseg.out]; simp [u8s]); have hb1 : Below wr.heap.size wr w1 := ((Below.refl _ _).alloc (Nat.le_refl _) _).grown hg1 (by simp) (by simp [Value.ownBlock]); have Hb1 := Lib.hid hb1; have Hown2 := Lib.hid hown2; obtain ⟨A1, c1, rfl, _⟩ := orow_form hown2; clear hown1 hg1 hnil1 hb1 hown2; have Hbs := Lib.hid (Nat.le_succ_of_le (Nat.le_trans Hb.out.size Hb1.out.size)); (go_wp2_with (at_builtin; go_loud (refine wpList_append_own _ rfl _ _ TBss rfl w.heap.size TBs is (.slice none 0 0) 1 24 Try.underlying27 his0 zs0 zs1 zs2 rfl (by decide) _ ys.length ys rfl (orow_alloc (orow_below Hoy.out.1 Hb1.out) _) ⟨w1.heap.size, 0, none⟩ 1 1 [.slice A1 (segF frag seq i).length c1] rfl rfl (newsLit rfl _ _) (by simp [Value.oneCell']) (by unfold maxLen; omega) (by omega) (by simp; exact Hbs.out) ?_))); intro v3 w3 hown3 hg3 hnil3; have Hst := Lib.hid (show OwnBs w.heap.size w3 v3 ((List.range (i + 1)).map (segF frag seq)) by rw [List.range_succ, List.map_append]; exact OwnBy.snoc Hoy.out Hb1.out Hown2.out _ hown3 hg3); have Hb3 := Lib.hid (show Below w.heap.size w w3 from (below_alloc (below_next Hb.out Hb1.out) _).grown hg3 (by simp; exact Hbs.out) (fun k hk => (orow_blk Hoy.out.1 k hk).1)); clear hown3 hg3 hnil3; (go_wp2_with fail); go_roundw; (case rel => exact ⟨i + 1, a + 249, m + 1, by have := Ha.out; omega, hin, by go_num, by go_num, Hnx.out, Hst.out, Hb3.out⟩); (case measure => simp [intOf]; omega)
        · have hx3 := or_128 hx128
          obtain ⟨y, hy⟩ : ∃ y : Nat, y = x + 128 := ⟨_, rfl⟩
          rw [← hy] at hx3
          have hy256 : y < 256 := by omega
          have Hseg := Lib.hid (show segF frag seq i = (y : Int) :: (frag.take frag.length).drop a by have := Ha.out; have := Hm.out; have := Hx.out; unfold segF segH; rw [if_pos hi0, if_neg (by omega), show min (249 * i + 249) frag.length = frag.length by omega, show 249 * i = a by omega, show ((seq + (i : Int)) % 64).toNat + 64 + 128 = y by omega])
          clear hy
          by_cases hl2 : a + 249 = frag.length
          · have hz3 : ((a : Int) + 249 == (frag.length : Int)) = true := beq_iff_eq.2 (by omega)
            clear hi0; have Hnews := Lib.hid (Rd1.cut Hr.out a (frag.length) (by omega) (by omega)).news; have hwrap : ((y : Nat) : Int) % 256 = ((y : Nat) : Int) := (by omega); have hown0 := Lib.hid (World.ownsRow_lit (base := w.heap.size) (e := TB) (size := 1) wr #[.int .u8 ((y : Nat) : Int)] 1 Hb.out.size (by simp [maxLen]) rfl); obtain ⟨ys, hoy⟩ := Hown.out; obtain ⟨Ao, co, rfl, hco⟩ := orow_form hoy.1; have hyl : ys.length ≤ 9 := (by have := hoy.2.1; simp at this; omega); have Hoy := Lib.hid hoy; clear hoy Hown; (go_wp2_with (at_builtin; go_loud (refine wpList_append_own _ rfl _ _ TBs rfl w.heap.size TB ib (.int .u8 0) 1 1 Try.underlying22 hib0 zb0 zb1 zb2 rfl (by decide) _ 1 [.int .u8 ((y : Nat) : Int)] rfl hown0.out ⟨g, o + a, none⟩ _ _ (u8s ((frag.take (frag.length)).drop a)) rfl (by simp <;> omega) (fun j u hu => balloc_cell (below_cell Hb.out (Hnews.out j u hu)) _) (ints_oneCell .u8 _) (by unfold maxLen; omega) (by omega) (by simp; exact Nat.le_succ_of_le Hb.out.size) ?_))); intro v1 w1 hown1 hg1 hnil1; have hown2 := orow_u8 hown1 (show _ = u8s (segF frag seq i) by rw [Hseg.out]; simp [u8s]); have hb1 : Below wr.heap.size wr w1 := ((Below.refl _ _).alloc (Nat.le_refl _) _).grown hg1 (by simp) (by simp [Value.ownBlock]); have Hb1 := Lib.hid hb1; have Hown2 := Lib.hid hown2; obtain ⟨A1, c1, rfl, _⟩ := orow_form hown2; clear hown1 hg1 hnil1 hb1 hown2; have Hbs := Lib.hid (Nat.le_succ_of_le (Nat.le_trans Hb.out.size Hb1.out.size)); (go_wp2_with (at_builtin; go_loud (refine wpList_append_own _ rfl _ _ TBss rfl w.heap.size TBs is (.slice none 0 0) 1 24 Try.underlying27 his0 zs0 zs1 zs2 rfl (by decide) _ ys.length ys rfl (orow_alloc (orow_below Hoy.out.1 Hb1.out) _) ⟨w1.heap.size, 0, none⟩ 1 1 [.slice A1 (segF frag seq i).length c1] rfl rfl (newsLit rfl _ _) (by simp [Value.oneCell']) (by unfold maxLen; omega) (by omega) (by simp; exact Hbs.out) ?_))); intro v3 w3 hown3 hg3 hnil3; have Hst := Lib.hid (show OwnBs w.heap.size w3 v3 ((List.range (i + 1)).map (segF frag seq)) by rw [List.range_succ, List.map_append]; exact OwnBy.snoc Hoy.out Hb1.out Hown2.out _ hown3 hg3); have Hb3 := Lib.hid (show Below w.heap.size w w3 from (below_alloc (below_next Hb.out Hb1.out) _).grown hg3 (by simp; exact Hbs.out) (fun k hk => (orow_blk Hoy.out.1 k hk).1)); clear hown3 hg3 hnil3; (go_wp2_with fail); go_roundw; (case rel => exact ⟨i + 1, a + 249, m + 1, by have := Ha.out; omega, hin, by go_num, by go_num, Hnx.out, Hst.out, Hb3.out⟩); (case measure => simp [intOf]; omega)
          · have hl3 : frag.length < a + 249 := by omega
            have hmin : (if (frag.length : Int) < (a : Int) + 249 then (frag.length : Int) else (a : Int) + 249) = (frag.length : Int) := if_pos (by omega)
            clear hi0; have Hnews := Lib.hid (Rd1.cut Hr.out a (frag.length) (by omega) (by omega)).news; have hwrap : ((y : Nat) : Int) % 256 = ((y : Nat) : Int) := (by omega); have hown0 := Lib.hid (World.ownsRow_lit (base := w.heap.size) (e := TB) (size := 1) wr #[.int .u8 ((y : Nat) : Int)] 1 Hb.out.size (by simp [maxLen]) rfl); obtain ⟨ys, hoy⟩ := Hown.out; obtain ⟨Ao, co, rfl, hco⟩ := orow_form hoy.1; have hyl : ys.length ≤ 9 := (by have := hoy.2.1; simp at this; omega); have Hoy := Lib.hid hoy; clear hoy Hown; (go_wp2_with (at_builtin; go_loud (refine wpList_append_own _ rfl _ _ TBs rfl w.heap.size TB ib (.int .u8 0) 1 1 Try.underlying22 hib0 zb0 zb1 zb2 rfl (by decide) _ 1 [.int .u8 ((y : Nat) : Int)] rfl hown0.out ⟨g, o + a, none⟩ _ _ (u8s ((frag.take (frag.length)).drop a)) rfl (by simp <;> omega) (fun j u hu => balloc_cell (below_cell Hb.out (Hnews.out j u hu)) _) (ints_oneCell .u8 _) (by unfold maxLen; omega) (by omega) (by simp; exact Nat.le_succ_of_le Hb.out.size) ?_))); intro v1 w1 hown1 hg1 hnil1; have hown2 := orow_u8 hown1 (show _ = u8s (segF frag seq i) by rw [Hseg.out]; simp [u8s]); have hb1 : Below wr.heap.size wr w1 := ((Below.refl _ _).alloc (Nat.le_refl _) _).grown hg1 (by simp) (by simp [Value.ownBlock]); have Hb1 := Lib.hid hb1; have Hown2 := Lib.hid hown2; obtain ⟨A1, c1, rfl, _⟩ := orow_form hown2; clear hown1 hg1 hnil1 hb1 hown2; have Hbs := Lib.hid (Nat.le_succ_of_le (Nat.le_trans Hb.out.size Hb1.out.size)); (go_wp2_with (at_builtin; go_loud (refine wpList_append_own _ rfl _ _ TBss rfl w.heap.size TBs is (.slice none 0 0) 1 24 Try.underlying27 his0 zs0 zs1 zs2 rfl (by decide) _ ys.length ys rfl (orow_alloc (orow_below Hoy.out.1 Hb1.out) _) ⟨w1.heap.size, 0, none⟩ 1 1 [.slice A1 (segF frag seq i).length c1] rfl rfl (newsLit rfl _ _) (by simp [Value.oneCell']) (by unfold maxLen; omega) (by omega) (by simp; exact Hbs.out) ?_))); intro v3 w3 hown3 hg3 hnil3; have Hst := Lib.hid (show OwnBs w.heap.size w3 v3 ((List.range (i + 1)).map (segF frag seq)) by rw [List.range_succ, List.map_append]; exact OwnBy.snoc Hoy.out Hb1.out Hown2.out _ hown3 hg3); have Hb3 := Lib.hid (show Below w.heap.size w w3 from (below_alloc (below_next Hb.out Hb1.out) _).grown hg3 (by simp; exact Hbs.out) (fun k hk => (orow_blk Hoy.out.1 k hk).1)); clear hown3 hg3 hnil3; (go_wp2_with fail); go_roundw; (case rel => exact ⟨i + 1, a + 249, m + 1, by have := Ha.out; omega, hin, by go_num, by go_num, Hnx.out, Hst.out, Hb3.out⟩); (case measure => simp [intOf]; omega)
      · have hz2 : ((a : Int) == 0) = false := beq_eq_false_iff_ne.2 (by have := Ha.out; omega)
        by_cases hl : a + 249 < frag.length
        · have hz3 : ((a : Int) + 249 == (frag.length : Int)) = false := beq_eq_false_iff_ne.2 (by omega)
          have Hseg := Lib.hid (show segF frag seq i = (m : Int) :: (frag.take (a + 249)).drop a by have := Ha.out; have := Hm.out; unfold segF segH; rw [if_neg hi0, if_pos (by omega), show min (249 * i + 249) frag.length = a + 249 by omega, show 249 * i = a by omega, Nat.add_zero, Nat.add_zero, show ((seq + (i : Int)) % 64).toNat = m by omega])
          clear hi0; have Hnews := Lib.hid (Rd1.cut Hr.out a (a + 249) (by omega) (by omega)).news; have hwrap : ((m : Nat) : Int) % 256 = ((m : Nat) : Int) := (by omega); have hown0 := Lib.hid (World.ownsRow_lit (base := w.heap.size) (e := TB) (size := 1) wr #[.int .u8 ((m : Nat) : Int)] 1 Hb.out.size (by simp [maxLen]) rfl); obtain ⟨ys, hoy⟩ := Hown.out; obtain ⟨Ao, co, rfl, hco⟩ := orow_form hoy.1; have hyl : ys.length ≤ 9 := (by have := hoy.2.1; simp at this; omega); have Hoy := Lib.hid hoy; clear hoy Hown; (go_wp2_with (at_builtin; go_loud (refine wpList_append_own _ rfl _ _ TBs rfl w.heap.size TB ib (.int .u8 0) 1 1 Try.underlying22 hib0 zb0 zb1 zb2 rfl (by decide) _ 1 [.int .u8 ((m : Nat) : Int)] rfl hown0.out ⟨g, o + a, none⟩ _ _ (u8s ((frag.take (a + 249)).drop a)) rfl (by simp <;> omega) (fun j u hu => balloc_cell (below_cell Hb.out (Hnews.out j u hu)) _) (ints_oneCell .u8 _) (by unfold maxLen; omega) (by omega) (by simp; exact Nat.le_succ_of_le Hb.out.size) ?_))); intro v1 w1 hown1 hg1 hnil1; have hown2 := orow_u8 hown1 (show _ = u8s (segF frag seq i) by rw [Hseg.out]; simp [u8s]); have hb1 : Below wr.heap.size wr w1 := ((Below.refl _ _).alloc (Nat.le_refl _) _).grown hg1 (by simp) (by simp [Value.ownBlock]); have Hb1 := Lib.hid hb1; have Hown2 := Lib.hid hown2; obtain ⟨A1, c1, rfl, _⟩ := orow_form hown2; clear hown1 hg1 hnil1 hb1 hown2; have Hbs := Lib.hid (Nat.le_succ_of_le (Nat.le_trans Hb.out.size Hb1.out.size)); (go_wp2_with (at_builtin; go_loud (refine wpList_append_own _ rfl _ _ TBss rfl w.heap.size TBs is (.slice none 0 0) 1 24 Try.underlying27 his0 zs0 zs1 zs2 rfl (by decide) _ ys.length ys rfl (orow_alloc (orow_below Hoy.out.1 Hb1.out) _) ⟨w1.heap.size, 0, none⟩ 1 1 [.slice A1 (segF frag seq i).length c1] rfl rfl (newsLit rfl _ _) (by simp [Value.oneCell']) (by unfold maxLen; omega) (by omega) (by simp; exact Hbs.out) ?_))); intro v3 w3 hown3 hg3 hnil3; have Hst := Lib.hid (show OwnBs w.heap.size w3 v3 ((List.range (i + 1)).map (segF frag seq)) by rw [List.range_succ, List.map_append]; exact OwnBy.snoc Hoy.out Hb1.out Hown2.out _ hown3 hg3); have Hb3 := Lib.hid (show Below w.heap.size w w3 from (below_alloc (below_next Hb.out Hb1.out) _).grown hg3 (by simp; exact Hbs.out) (fun k hk => (orow_blk Hoy.out.1 k hk).1)); clear hown3 hg3 hnil3; (go_wp2_with fail); go_roundw; (case rel => exact ⟨i + 1, a + 249, m + 1, by have := Ha.out; omega, hin, by go_num, by go_num, Hnx.out, Hst.out, Hb3.out⟩); (case measure => simp [intOf]; omega)
        · have hx3 := or_128 (m := m) (by omega)
          obtain ⟨y, hy⟩ : ∃ y : Nat, y = m + 128 := ⟨_, rfl⟩
          rw [← hy] at hx3
          have hy256 : y < 256 := by omega
          have Hseg := Lib.hid (show segF frag seq i = (y : Int) :: (frag.take frag.length).drop a by have := Ha.out; have := Hm.out; unfold segF segH; rw [if_neg hi0, if_neg (by omega), show min (249 * i + 249) frag.length = frag.length by omega, show 249 * i = a by omega, Nat.add_zero, show ((seq + (i : Int)) % 64).toNat + 128 = y by omega])
          clear hy
          by_cases hl2 : a + 249 = frag.length
          · have hz3 : ((a : Int) + 249 == (frag.length : Int)) = true := beq_iff_eq.2 (by omega)
            clear hi0; have Hnews := Lib.hid (Rd1.cut Hr.out a (frag.length) (by omega) (by omega)).news; have hwrap : ((y : Nat) : Int) % 256 = ((y : Nat) : Int) := (by omega); have hown0 := Lib.hid (World.ownsRow_lit (base := w.heap.size) (e := TB) (size := 1) wr #[.int .u8 ((y : Nat) : Int)] 1 Hb.out.size (by simp [maxLen]) rfl); obtain ⟨ys, hoy⟩ := Hown.out; obtain ⟨Ao, co, rfl, hco⟩ := orow_form hoy.1; have hyl : ys.length ≤ 9 := (by have := hoy.2.1; simp at this; omega); have Hoy := Lib.hid hoy; clear hoy Hown; (go_wp2_with (at_builtin; go_loud (refine wpList_append_own _ rfl _ _ TBs rfl w.heap.size TB ib (.int .u8 0) 1 1 Try.underlying22 hib0 zb0 zb1 zb2 rfl (by decide) _ 1 [.int .u8 ((y : Nat) : Int)] rfl hown0.out ⟨g, o + a, none⟩ _ _ (u8s ((frag.take (frag.length)).drop a)) rfl (by simp <;> omega) (fun j u hu => balloc_cell (below_cell Hb.out (Hnews.out j u hu)) _) (ints_oneCell .u8 _) (by unfold maxLen; omega) (by omega) (by simp; exact Nat.le_succ_of_le Hb.out.size) ?_))); intro v1 w1 hown1 hg1 hnil1; have hown2 := orow_u8 hown1 (show _ = u8s (segF frag seq i) by rw [Hseg.out]; simp [u8s]); have hb1 : Below wr.heap.size wr w1 := ((Below.refl _ _).alloc (Nat.le_refl _) _).grown hg1 (by simp) (by simp [Value.ownBlock]); have Hb1 := Lib.hid hb1; have Hown2 := Lib.hid hown2; obtain ⟨A1, c1, rfl, _⟩ := orow_form hown2; clear hown1 hg1 hnil1 hb1 hown2; have Hbs := Lib.hid (Nat.le_succ_of_le (Nat.le_trans Hb.out.size Hb1.out.size)); (go_wp2_with (at_builtin; go_loud (refine wpList_append_own _ rfl _ _ TBss rfl w.heap.size TBs is (.slice none 0 0) 1 24 Try.underlying27 his0 zs0 zs1 zs2 rfl (by decide) _ ys.length ys rfl (orow_alloc (orow_below Hoy.out.1 Hb1.out) _) ⟨w1.heap.size, 0, none⟩ 1 1 [.slice A1 (segF frag seq i).length c1] rfl rfl (newsLit rfl _ _) (by simp [Value.oneCell']) (by unfold maxLen; omega) (by omega) (by simp; exact Hbs.out) ?_))); intro v3 w3 hown3 hg3 hnil3; have Hst := Lib.hid (show OwnBs w.heap.size w3 v3 ((List.range (i + 1)).map (segF frag seq)) by rw [List.range_succ, List.map_append]; exact OwnBy.snoc Hoy.out Hb1.out Hown2.out _ hown3 hg3); have Hb3 := Lib.hid (show Below w.heap.size w w3 from (below_alloc (below_next Hb.out Hb1.out) _).grown hg3 (by simp; exact Hbs.out) (fun k hk => (orow_blk Hoy.out.1 k hk).1)); clear hown3 hg3 hnil3; (go_wp2_with fail); go_roundw; (case rel => exact ⟨i + 1, a + 249, m + 1, by have := Ha.out; omega, hin, by go_num, by go_num, Hnx.out, Hst.out, Hb3.out⟩); (case measure => simp [intOf]; omega)
          · have hl3 : frag.length < a + 249 := by omega
            have hmin : (if (frag.length : Int) < (a : Int) + 249 then (frag.length : Int) else (a : Int) + 249) = (frag.length : Int) := if_pos (by omega)
            clear hi0; have Hnews := Lib.hid (Rd1.cut Hr.out a (frag.length) (by omega) (by omega)).news; have hwrap : ((y : Nat) : Int) % 256 = ((y : Nat) : Int) := (by omega); have hown0 := Lib.hid (World.ownsRow_lit (base := w.heap.size) (e := TB) (size := 1) wr #[.int .u8 ((y : Nat) : Int)] 1 Hb.out.size (by simp [maxLen]) rfl); obtain ⟨ys, hoy⟩ := Hown.out; obtain ⟨Ao, co, rfl, hco⟩ := orow_form hoy.1; have hyl : ys.length ≤ 9 := (by have := hoy.2.1; simp at this; omega); have Hoy := Lib.hid hoy; clear hoy Hown; (go_wp2_with (at_builtin; go_loud (refine wpList_append_own _ rfl _ _ TBs rfl w.heap.size TB ib (.int .u8 0) 1 1 Try.underlying22 hib0 zb0 zb1 zb2 rfl (by decide) _ 1 [.int .u8 ((y : Nat) : Int)] rfl hown0.out ⟨g, o + a, none⟩ _ _ (u8s ((frag.take (frag.length)).drop a)) rfl (by simp <;> omega) (fun j u hu => balloc_cell (below_cell Hb.out (Hnews.out j u hu)) _) (ints_oneCell .u8 _) (by unfold maxLen; omega) (by omega) (by simp; exact Nat.le_succ_of_le Hb.out.size) ?_))); intro v1 w1 hown1 hg1 hnil1; have hown2 := orow_u8 hown1 (show _ = u8s (segF frag seq i) by rw [Hseg.out]; simp [u8s]); have hb1 : Below wr.heap.size wr w1 := ((Below.refl _ _).alloc (Nat.le_refl _) _).grown hg1 (by simp) (by simp [Value.ownBlock]); have Hb1 := Lib.hid hb1; have Hown2 := Lib.hid hown2; obtain ⟨A1, c1, rfl, _⟩ := orow_form hown2; clear hown1 hg1 hnil1 hb1 hown2; have Hbs := Lib.hid (Nat.le_succ_of_le (Nat.le_trans Hb.out.size Hb1.out.size)); (go_wp2_with (at_builtin; go_loud (refine wpList_append_own _ rfl _ _ TBss rfl w.heap.size TBs is (.slice none 0 0) 1 24 Try.underlying27 his0 zs0 zs1 zs2 rfl (by decide) _ ys.length ys rfl (orow_alloc (orow_below Hoy.out.1 Hb1.out) _) ⟨w1.heap.size, 0, none⟩ 1 1 [.slice A1 (segF frag seq i).length c1] rfl rfl (newsLit rfl _ _) (by simp [Value.oneCell']) (by unfold maxLen; omega) (by omega) (by simp; exact Hbs.out) ?_))); intro v3 w3 hown3 hg3 hnil3; have Hst := Lib.hid (show OwnBs w.heap.size w3 v3 ((List.range (i + 1)).map (segF frag seq)) by rw [List.range_succ, List.map_append]; exact OwnBy.snoc Hoy.out Hb1.out Hown2.out _ hown3 hg3); have Hb3 := Lib.hid (show Below w.heap.size w w3 from (below_alloc (below_next Hb.out Hb1.out) _).grown hg3 (by simp; exact Hbs.out) (fun k hk => (orow_blk Hoy.out.1 k hk).1)); clear hown3 hg3 hnil3; (go_wp2_with fail); go_roundw; (case rel => exact ⟨i + 1, a + 249, m + 1, by have := Ha.out; omega, hin, by go_num, by go_num, Hnx.out, Hst.out, Hb3.out⟩); (case measure => simp [intOf]; omega)
    · have hin : i = segN frag.length := by have := Ha.out; unfold segN at hik ⊢; omega
      subst hin
      have fand : bits .and .i64 σ 63 = (seq + segN frag.length) % 64 := by rw [and_63, Hσ.out]
      obtain ⟨A, cc, rfl, _⟩ := Hown.out.form
      go_wp2_with fail
      go_ret3
      exact ⟨_, rfl, Hown.out, Hb.out⟩
end Go.Proofs.Ytaahigdkbmifbaa

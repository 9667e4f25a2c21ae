/-
  The package rtu: Tick, Frame, Open.
-/
import Derived.Test.YtdgmaooioekmnaaRtu
namespace Go.Proofs.Ytdgmaooioekmnaa
open Go.RowKit

set_option maxHeartbeats 400000 in
theorem frTick_empty (b : Nat) (sil q : Int) (vb : Value) (w : World) (h : FrAt w b sil q vb []) :
    Calls Try.prog 10 #[.pointer (some ⟨b, 0, none⟩)] w fun e w' => e = .returned (.tuple #[.slice none 0 0, .bool false]) ∧ w = w' := by
  obtain ⟨c0, c1, c2, f1, f2⟩ := h.cells
  obtain ⟨A, c, rfl, hc⟩ := h.len
  clear h
  simp only [List.length_nil] at *
  go_enter Try.func10, Try.ntmps10
  go_wp2_with fail
  go_ret2
  exact ⟨rfl, rfl⟩

set_option maxHeartbeats 400000 in
theorem frTick_waits (b : Nat) (sil q : Int) (vb : Value) (bs : List Int) (w : World) (h : FrAt w b sil q vb bs) (hne : 0 < bs.length) (hq : q + 1 < sil) :
    Calls Try.prog 10 #[.pointer (some ⟨b, 0, none⟩)] w fun e w' => e = .returned (.tuple #[.slice none 0 0, .bool false]) ∧ FrAt w' b sil (q + 1) vb bs ∧ Fr (fun k => k = b) w w' := by
  obtain ⟨c0, c1, c2, f1, f2⟩ := h.cells
  obtain ⟨s1, s2⟩ := h.hs
  obtain ⟨q1, q2⟩ := h.hq
  have Hfin := Lib.hid (h.quiet (q + 1) (by omega))
  have Hfr := Lib.hid (Fr.setCell (S := fun k => k = b) (Fr.refl _ w) (p := ⟨b, 1, none⟩) (.inl rfl) (.int .i64 (q + 1)))
  have hz : ((bs.length : Int) == 0) = false := beq_eq_false_iff_ne.2 (by omega)
  obtain ⟨A, c, rfl, hc⟩ := h.len
  have d0 := bcell Hfin.out.str 0
  have d1 := bcell Hfin.out.str 1
  simp only [List.getElem?_toArray, List.getElem?_cons_zero, List.getElem?_cons_succ] at d0 d1
  clear h
  go_enter Try.func10, Try.ntmps10
  go_wp2_with fail
  go_quiet (fail)
  go_wp2_with fail
  go_ret2
  exact ⟨rfl, ⟨Hfin.out.str, Hfin.out.own, Hfin.out.hs, Hfin.out.hq, Hfin.out.hl⟩, Hfr.out.drewN _⟩

set_option maxHeartbeats 400000 in
theorem frTick_ends (b : Nat) (sil q : Int) (vb : Value) (bs : List Int) (w : World) (h : FrAt w b sil q vb bs) (hne : 0 < bs.length) (hq : sil ≤ q + 1) :
    Calls Try.prog 10 #[.pointer (some ⟨b, 0, none⟩)] w fun e w' => e = .returned (.tuple #[vb, .bool true]) ∧ FrAt w' b sil 0 (.slice none 0 0) [] ∧
      w'.ownsRow 0 TB 1 vb bs.length (u8s bs) ∧ Fr (fun k => k = b) w w' := by
  obtain ⟨c0, c1, c2, f1, f2⟩ := h.cells
  obtain ⟨s1, s2⟩ := h.hs
  obtain ⟨q1, q2⟩ := h.hq
  have hst : (w.setCell ⟨b, 1, none⟩ (.int .i64 (q + 1))).heap[b]? = some (.cells #[.int .i64 sil, .int .i64 (q + 1), vb] TFr (0, 0)) := bset h.str 1 _
  have Hst := Lib.hid hst
  have hz : ((bs.length : Int) == 0) = false := beq_eq_false_iff_ne.2 (by omega)
  have Hown := Lib.hid (orow_fr (S := fun k => k = b) h.own (Fr.setCell (S := fun k => k = b) (Fr.refl _ w) (p := ⟨b, 1, none⟩) (.inl rfl) (.int .i64 (q + 1))) (fun k hk e => orow_ne h.own h.str (by decide) (e ▸ hk)))
  have Hfr := Lib.hid (Fr.setCell (S := fun k => k = b) (Fr.refl _ w) (p := ⟨b, 1, none⟩) (.inl rfl) (.int .i64 (q + 1)))
  have hq1 := h.hl
  have Hne := Lib.hid (fun k (hk : vb.ownBlock = some k) (e : k = b) => orow_ne h.own h.str (by decide) (e ▸ hk))
  obtain ⟨A, c, rfl, hc⟩ := h.len
  have d0 := bcell hst 0
  have d1 := bcell hst 1
  have d2 := bcell hst 2
  simp only [List.getElem?_toArray, List.getElem?_cons_zero, List.getElem?_cons_succ] at d0 d1 d2
  have hs := Lib.hid h.hs
  clear h hst
  go_enter Try.func10, Try.ntmps10
  go_wp2_with fail
  go_quiet (fail)
  go_wp2_with fail
  refine (frDrop0 b sil (q + 1) (.slice A bs.length c) _ ?_ hs.out).mono ?_
  · exact Hst.out
  rintro e w' ⟨rfl, hf, hfr⟩
  have Hf := Lib.hid hf
  have Hfr2 := Lib.hid hfr
  clear hf hfr
  go_wp2_with fail
  go_ret2
  exact ⟨rfl, Hf.out, orow_fr (w := (w.setCell ⟨b, 1, none⟩ (.int .i64 (q + 1))).drewN _) Hown.out Hfr2.out (fun k hk e => Hne.out k hk e), (Hfr.out.drewN _).trans_same Hfr2.out⟩

/-- The bytes of a frame. -/
def rtuSum (l : List Int) : Nat := crcModbus 65535 (nats l)
def rtuFrame (addr : Int) (p : List Int) : List Int := (addr :: p) ++ [((rtuSum (addr :: p) % 256 : Nat) : Int), ((rtuSum (addr :: p) / 256 : Nat) : Int)]

def frameCode (addr : Int) (p : List Int) : Int := if 0 ≤ addr ∧ addr ≤ 255 then (if p.length = 0 then 2 else 3) else 1

set_option maxHeartbeats 400000 in
theorem rtuFrame_bad (addr : Int) (v : Value) (p : List Int) (w : World) (h : RdB w v p) (hbad : ¬ (0 ≤ addr ∧ addr ≤ 255 ∧ 0 < p.length ∧ p.length ≤ 253)) :
    Calls Try.prog 13 #[.int .i64 addr, v] w fun e w' => e = .returned (.tuple #[.slice none 0 0, failed w]) ∧ w.alloc (failCells rtuStr p.length (.iface 44 (.int .i64 (frameCode addr p)))) = w' := by
  obtain ⟨A, c, rfl, hc⟩ := h.form
  clear h
  by_cases h0 : addr < 0
  · clear hbad
    go_enter Try.func13, Try.ntmps13
    go_wp2_with (go_at_call 15; refine (rtuIn _ _ _).mono ?_; rintro e w' ⟨rfl, rfl⟩)
    go_ret2
    exact ⟨rfl, by rw [show frameCode addr p = 1 by unfold frameCode; rw [if_neg (by omega)]]⟩
  by_cases h1 : 255 < addr
  · clear hbad
    go_enter Try.func13, Try.ntmps13
    go_wp2_with (go_at_call 15; refine (rtuIn _ _ _).mono ?_; rintro e w' ⟨rfl, rfl⟩)
    go_ret2
    exact ⟨rfl, by rw [show frameCode addr p = 1 by unfold frameCode; rw [if_neg (by omega)]]⟩
  by_cases h2 : p.length = 0
  · have hz : ((p.length : Int) == 0) = true := beq_iff_eq.2 (by omega)
    have H2 := Lib.hid h2
    clear hbad h2
    go_enter Try.func13, Try.ntmps13
    go_wp2_with (go_at_call 15; refine (rtuIn _ _ _).mono ?_; rintro e w' ⟨rfl, rfl⟩)
    go_ret2
    exact ⟨rfl, by rw [show frameCode addr p = 2 by unfold frameCode; rw [if_pos (by omega), if_pos H2.out]]⟩
  · have hz : ((p.length : Int) == 0) = false := beq_eq_false_iff_ne.2 (by omega)
    have h3 : 253 < p.length := by omega
    have H2 := Lib.hid h2
    clear hbad h2
    go_enter Try.func13, Try.ntmps13
    go_wp2_with (go_at_call 15; refine (rtuIn _ _ _).mono ?_; rintro e w' ⟨rfl, rfl⟩)
    go_ret2
    exact ⟨rfl, by rw [show frameCode addr p = 3 by unfold frameCode; rw [if_pos (by omega), if_neg H2.out]]⟩

set_option maxHeartbeats 800000 in
theorem rtuFrame_ok (addr : Int) (v : Value) (p : List Int) (w : World) (h : RdB w v p) (hb : IsB p) (h0 : 0 ≤ addr) (h1 : addr ≤ 255) (h2 : 0 < p.length) (h3 : p.length ≤ 253) :
    Calls Try.prog 13 #[.int .i64 addr, v] w fun e w' => ∃ v', e = .returned (.tuple #[v', .nilIface]) ∧ w'.ownsRow w.heap.size TB 1 v' (rtuFrame addr p).length (u8s (rtuFrame addr p)) ∧ Below w.heap.size w w' := by
  obtain ⟨A, c, rfl, hc⟩ := h.form
  cases A with
  | none => obtain ⟨_, rfl⟩ := h.none; simp at h2
  | some a =>
    obtain ⟨i, hi, hz0, hz1, hz2⟩ := info_parts infoB
    have hlx := u8s_len p
    have Hnews := Lib.hid h.news
    have Hone := Lib.hid (ints_oneCell .u8 p)
    have hown0 := Lib.hid (World.ownsRow_lit (base := w.heap.size) (e := TB) (size := 1) w #[.int .u8 addr] 1 (Nat.le_refl _) (by simp [maxLen]) rfl)
    have hz : ((p.length : Int) == 0) = false := beq_eq_false_iff_ne.2 (by omega)
    have hw : IntKind.u8.wrap addr = addr := IntWalk.u8_in _ (by omega)
    have hbc : IsB (addr :: p) := by
      intro x hx
      rcases List.mem_cons.1 hx with rfl | hx
      · exact ⟨h0, h1⟩
      · exact hb x hx
    have Hbc := Lib.hid hbc
    clear h hb hbc
    go_enter Try.func13, Try.ntmps13
    go_wp2_with (at_builtin; refine wpList_append_own _ rfl _ _ TBs rfl w.heap.size TB i (.int .u8 0) 1 1 Try.underlying22 hi hz0 hz1 hz2 rfl (by decide) _ 1 [.int .u8 addr] rfl hown0.out a p.length c (u8s p) rfl hlx (fun j u hu => balloc_cell (Hnews.out j u hu) _) Hone.out (by unfold maxLen; omega) (by omega) (by simp) ?_)
    intro v' w1 hown hg hnil
    have hown1 : w1.ownsRow w.heap.size TB 1 v' (addr :: p).length (u8s (addr :: p)) := by simpa [u8s, Nat.add_comm] using hown
    have hb1 : Below w.heap.size w w1 := ((Below.refl _ _).alloc (Nat.le_refl _) _).grown hg (by simp) (by simp [Value.ownBlock])
    have Hown1 := Lib.hid hown1
    have Hb1 := Lib.hid hb1
    obtain ⟨A', c', rfl, _⟩ := orow_form hown1
    clear hown hown1 hg hnil hb1
    have hsl := crcModbus_lt (nats (addr :: p)) (s := 65535) (by omega) Hbc.out.nats
    have hfr : rtuFrame addr p = (addr :: p) ++ [((crcModbus 65535 (nats (addr :: p)) % 256 : Nat) : Int), ((crcModbus 65535 (nats (addr :: p)) / 256 : Nat) : Int)] := rfl
    have Hfr := Lib.hid hfr
    clear hfr
    go_wp2_with fail
    refine (modbus_any _ (addr :: p) _ (Rd1.of_own Hown1.out) Hbc.out (by simp; omega)).mono ?_
    rintro e w' ⟨rfl, rfl⟩
    generalize crcModbus 65535 (nats (addr :: p)) = s at *
    have hw1 : IntKind.u8.wrap (s : Int) = ((s % 256 : Nat) : Int) := by
      rw [IntKind.wrap_u8]; omega
    have hw2 : IntKind.u8.wrap ((s : Int) / 256) = ((s / 256 : Nat) : Int) := by
      rw [IntKind.wrap_u8]; omega
    go_wp2_with (at_builtin; refine wpList_append_own _ rfl _ _ TBs rfl w.heap.size TB i (.int .u8 0) 1 1 Try.underlying22 hi hz0 hz1 hz2 rfl (by decide) _ (p.length + 1) (u8s (addr :: p)) rfl (orow_alloc Hown1.out _) ⟨w1.heap.size, 0, none⟩ 2 2 [.int .u8 ((s % 256 : Nat) : Int), .int .u8 ((s / 256 : Nat) : Int)] rfl rfl (newsLit rfl _ _) (by simp [Value.oneCell']) (by unfold maxLen; omega) (by omega) (by simp; exact Nat.le_succ_of_le Hb1.out.size) ?_)
    intro v2 w2 hown2 hg2 hne2
    have hown3 : w2.ownsRow w.heap.size TB 1 v2 (rtuFrame addr p).length (u8s (rtuFrame addr p)) := by
      rw [Hfr.out]; simpa [u8s] using hown2
    have hb2 : Below w.heap.size w w2 := (below_alloc Hb1.out _).grown hg2 (by simp; exact Nat.le_succ_of_le Hb1.out.size) (fun k hk => (orow_blk Hown1.out k hk).1)
    have Hown3 := Lib.hid hown3
    have Hb2 := Lib.hid hb2
    clear hown2 hown3 hg2 hne2 hb2
    go_wp2_with fail
    go_ret2
    exact ⟨v2, rfl, Hown3.out, Hb2.out⟩
end Go.Proofs.Ytdgmaooioekmnaa

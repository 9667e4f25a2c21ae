/-
  The package rtu: Open.
-/
import Derived.Test.YtdgmaooioekmnaaRtu2
namespace Go.Proofs.Ytdgmaooioekmnaa
open Go.RowKit

/-- The sum that stands behind. -/
def tailSum (bs : List Int) : Nat := (bs.getD (bs.length - 2) 0).toNat + 256 * (bs.getD (bs.length - 1) 0).toNat
theorem or_bytes (a b : Nat) (ha : a < 256) (hb : b < 256) : bits .or .i64 (a : Int) ((b : Int) * 256) = ((a + 256 * b : Nat) : Int) := by
  have h := i64_or_nat a (b * 256) (by omega) (by omega)
  rw [show ((b : Int) * 256) = ((b * 256 : Nat) : Int) by rw [Int.natCast_mul]; rfl, h]
  congr 1
  have := Nat.shiftLeft_add_eq_or_of_lt (i := 8) (b := a) (by omega) b
  rw [Nat.or_comm, show b * 256 = b <<< 8 by rw [Nat.shiftLeft_eq], ← this, Nat.shiftLeft_eq]
  omega

set_option maxRecDepth 20000 in
set_option maxHeartbeats 800000 in
theorem rtuOpen_sum (v : Value) (bs : List Int) (w : World) (h : RdB w v bs) (hb : IsB bs) (h4 : 4 ≤ bs.length) (h256 : bs.length ≤ 256) (hs : rtuSum (bs.take (bs.length - 2)) ≠ tailSum bs) :
    Calls Try.prog 14 #[v] w fun e w' => ∃ er, e = .returned (.tuple #[.int .i64 0, .slice none 0 0, er]) ∧ ErrIs w' er rtuStr bs.length 5 ∧ Below w.heap.size w w' := by
  obtain ⟨A, c, rfl, hc⟩ := h.form
  obtain ⟨g, o, rfl, k0⟩ := h.at 0 (by omega)
  have Hr := Lib.hid h
  have Hb := Lib.hid hb
  have Hs := Lib.hid hs
  obtain ⟨g1, o1, he1, k1⟩ := h.at (bs.length - 2) (by omega)
  obtain ⟨g2, o2, he2, k2⟩ := h.at (bs.length - 1) (by omega)
  simp only [Option.some.injEq, Addr.mk.injEq, and_true] at he1 he2
  obtain ⟨rfl, rfl⟩ := he1
  obtain ⟨rfl, rfl⟩ := he2
  obtain ⟨b1, b2⟩ := hb.at (bs.length - 2) (by omega)
  obtain ⟨b3, b4⟩ := hb.at (bs.length - 1) (by omega)
  obtain ⟨b5, b6⟩ := hb.at 0 (by omega)
  have hts : tailSum bs = (bs.getD (bs.length - 2) 0).toNat + 256 * (bs.getD (bs.length - 1) 0).toNat := rfl
  generalize bs.getD (bs.length - 2) 0 = x at *
  generalize bs.getD (bs.length - 1) 0 = y at *
  obtain ⟨lo, rfl⟩ := Int.eq_ofNat_of_zero_le b1
  obtain ⟨hi, rfl⟩ := Int.eq_ofNat_of_zero_le b3
  simp only [Int.toNat_natCast] at hts
  have hor := or_bytes lo hi (by omega) (by omega)
  have Htk := Lib.hid (h.take (bs.length - 2) (by omega))
  have Hcut := Lib.hid (h.cut 1 (bs.length - 2) (by omega) (by omega))
  have Hbt := Lib.hid (show IsB (bs.take (bs.length - 2)) from fun x hx => hb x (List.mem_of_mem_take hx))
  have hd : (((crcModbus 65535 (nats (bs.take (bs.length - 2))) : Nat) : Int) != ((lo + 256 * hi : Nat) : Int)) = true := by
    rw [bne_iff_ne]; intro e; exact hs (by unfold rtuSum; rw [hts]; exact Int.ofNat.inj e)
  generalize hL : bs.length = L at *
  obtain ⟨n, rfl⟩ : ∃ n, L = n + 2 := ⟨L - 2, by omega⟩
  have HL := Lib.hid hL
  simp only [show n + 2 - 2 = n by omega, show n + 2 - 1 = n + 1 by omega] at *
  clear h hb hs hts hL b1 b3
  go_enter Try.func14, Try.ntmps14
  go_wp2_with fail
  have z0 : (0 : Int) ≤ (n : Int) := by omega
  have z1 : (0 : Int) ≤ (n : Int) + 1 := by omega
  have z2 : (n : Int) ≤ (c : Int) := by omega
  have z3 : (n : Int) < (n : Int) + 2 := by omega
  have z4 : (n : Int) + 1 < (n : Int) + 2 := by omega
  have z5 : ((n : Int) + 1).toNat = n + 1 := by omega
  have z6 : IntKind.i64.wrap ((hi : Int) * 256) = (hi : Int) * 256 := IntWalk.i64_in _ (by omega)
  have z7 : (1 : Int) ≤ (n : Int) := by omega
  have w1 : IntKind.i64.wrap (n : Int) = (n : Int) := IntWalk.i64_in _ (by omega)
  have w2 : IntKind.i64.wrap ((n : Int) + 1) = (n : Int) + 1 := IntWalk.i64_in _ (by omega)
  go_quiet ((go_at_call 17; exact quiet_left (modbus_any _ _ _ (Htk.out.below (below_drewN (Below.refl _ _) _)) Hbt.out (by have := HL.out; simp; omega))))
  clear w1 w2 z1 z3 z4 z5 z6
  go_wp2_with (go_at_call 15; refine (rtuIn _ _ _).mono ?_; rintro e w' ⟨rfl, rfl⟩)
  go_ret3
  exact ⟨_, rfl, by rw [show ((n + 2 : Nat) : Int) = (n : Int) + 2 from rfl]; exact ErrIs.mk, below_alloc (below_drewN (Below.refl _ _) _) _⟩

set_option maxHeartbeats 800000 in
theorem rtuOpen_size (v : Value) (bs : List Int) (w : World) (h : RdB w v bs) (hbad : bs.length < 4 ∨ 256 < bs.length) :
    Calls Try.prog 14 #[v] w fun e w' => ∃ er, e = .returned (.tuple #[.int .i64 0, .slice none 0 0, er]) ∧ ErrIs w' er rtuStr bs.length (if bs.length < 4 then 2 else 3) ∧ Below w.heap.size w w' := by
  obtain ⟨A, c, rfl, hc⟩ := h.form
  clear h
  rcases hbad with h4 | h4
  · have Hif := Lib.hid (show (if bs.length < 4 then (2 : Int) else 3) = 2 from if_pos h4)
    rw [Hif.out]
    go_enter Try.func14, Try.ntmps14
    go_wp2_with (go_at_call 15; refine (rtuIn _ _ _).mono ?_; rintro e w' ⟨rfl, rfl⟩)
    go_ret3
    exact ⟨_, rfl, ErrIs.mk, below_alloc (Below.refl _ _) _⟩
  · have Hif := Lib.hid (show (if bs.length < 4 then (2 : Int) else 3) = 3 from if_neg (by omega))
    rw [Hif.out]
    go_enter Try.func14, Try.ntmps14
    go_wp2_with (go_at_call 15; refine (rtuIn _ _ _).mono ?_; rintro e w' ⟨rfl, rfl⟩)
    go_ret3
    exact ⟨_, rfl, ErrIs.mk, below_alloc (Below.refl _ _) _⟩

set_option maxRecDepth 20000 in
set_option maxHeartbeats 800000 in
theorem rtuOpen_ok (v : Value) (bs : List Int) (w : World) (h : RdB w v bs) (hb : IsB bs) (h4 : 4 ≤ bs.length) (h256 : bs.length ≤ 256) (hs : rtuSum (bs.take (bs.length - 2)) = tailSum bs) :
    Calls Try.prog 14 #[v] w fun e w' => ∃ v', e = .returned (.tuple #[.int .i64 (bs.getD 0 0), v', .nilIface]) ∧ w'.ownsRow w.heap.size TB 1 v' ((bs.take (bs.length - 2)).drop 1).length (u8s ((bs.take (bs.length - 2)).drop 1)) ∧ Below w.heap.size w w' := by
  obtain ⟨A, c, rfl, hc⟩ := h.form
  obtain ⟨g, o, rfl, k0⟩ := h.at 0 (by omega)
  have Hr := Lib.hid h
  have Hb := Lib.hid hb
  have Hs := Lib.hid hs
  obtain ⟨g1, o1, he1, k1⟩ := h.at (bs.length - 2) (by omega)
  obtain ⟨g2, o2, he2, k2⟩ := h.at (bs.length - 1) (by omega)
  simp only [Option.some.injEq, Addr.mk.injEq, and_true] at he1 he2
  obtain ⟨rfl, rfl⟩ := he1
  obtain ⟨rfl, rfl⟩ := he2
  obtain ⟨b1, b2⟩ := hb.at (bs.length - 2) (by omega)
  obtain ⟨b3, b4⟩ := hb.at (bs.length - 1) (by omega)
  obtain ⟨b5, b6⟩ := hb.at 0 (by omega)
  have hts : tailSum bs = (bs.getD (bs.length - 2) 0).toNat + 256 * (bs.getD (bs.length - 1) 0).toNat := rfl
  generalize bs.getD (bs.length - 2) 0 = x at *
  generalize bs.getD (bs.length - 1) 0 = y at *
  obtain ⟨lo, rfl⟩ := Int.eq_ofNat_of_zero_le b1
  obtain ⟨hi, rfl⟩ := Int.eq_ofNat_of_zero_le b3
  simp only [Int.toNat_natCast] at hts
  have hor := or_bytes lo hi (by omega) (by omega)
  have Htk := Lib.hid (h.take (bs.length - 2) (by omega))
  have Hcut := Lib.hid (h.cut 1 (bs.length - 2) (by omega) (by omega))
  have Hbt := Lib.hid (show IsB (bs.take (bs.length - 2)) from fun x hx => hb x (List.mem_of_mem_take hx))
  have hd : (((crcModbus 65535 (nats (bs.take (bs.length - 2))) : Nat) : Int) != ((lo + 256 * hi : Nat) : Int)) = false := by
    rw [bne_eq_false_iff_eq, ← hts, ← hs]; rfl
  generalize hL : bs.length = L at *
  obtain ⟨n, rfl⟩ : ∃ n, L = n + 2 := ⟨L - 2, by omega⟩
  have HL := Lib.hid hL
  simp only [show n + 2 - 2 = n by omega, show n + 2 - 1 = n + 1 by omega] at *
  clear h hb hs hts hL b1 b3
  go_enter Try.func14, Try.ntmps14
  go_wp2_with fail
  have z0 : (0 : Int) ≤ (n : Int) := by omega
  have z1 : (0 : Int) ≤ (n : Int) + 1 := by omega
  have z2 : (n : Int) ≤ (c : Int) := by omega
  have z3 : (n : Int) < (n : Int) + 2 := by omega
  have z4 : (n : Int) + 1 < (n : Int) + 2 := by omega
  have z5 : ((n : Int) + 1).toNat = n + 1 := by omega
  have z6 : IntKind.i64.wrap ((hi : Int) * 256) = (hi : Int) * 256 := IntWalk.i64_in _ (by omega)
  have z7 : (1 : Int) ≤ (n : Int) := by omega
  have w1 : IntKind.i64.wrap (n : Int) = (n : Int) := IntWalk.i64_in _ (by omega)
  have w2 : IntKind.i64.wrap ((n : Int) + 1) = (n : Int) + 1 := IntWalk.i64_in _ (by omega)
  go_quiet ((go_at_call 17; exact quiet_left (modbus_any _ _ _ (Htk.out.below (below_drewN (Below.refl _ _) _)) Hbt.out (by have := HL.out; simp; omega))))
  clear z1 z3 z4 z5 z6
  go_wp2_with fail
  have k0' : w.cell? ⟨g, o, none⟩ = some (.int .u8 (bs.getD 0 0)) := by have := k0; rwa [Nat.add_zero] at this
  have hc1 : ¬ c = 1 := by omega
  have hz8 : (0 : Int) < (n : Int) + 2 := by omega
  have hlb := Lib.hid (show ((bs.take n).drop 1).length = n - 1 by have := HL.out; simp; omega)
  generalize hbody : (bs.take n).drop 1 = body at *
  have Hbody := Lib.hid hbody
  generalize hx0 : bs.getD 0 0 = x0 at *
  have Hx0 := Lib.hid hx0
  have hw0 : IntKind.i64.wrap x0 = x0 := IntWalk.i64_in _ (by omega)
  clear k0 k1 k2 hx0 hbody
  go_region_held3 (fun w' => Below w.heap.size w w' ∧ w'.cell? ⟨g, o, none⟩ = some (.int .u8 x0)) ((go_split_ands; refine keep1 ?_ k0'; (repeat' (first | (with_reducible exact Below.refl _ _) | (with_reducible assumption) | (with_reducible refine below_alloc ?_ _) | (with_reducible refine Below.drew ?_) | (with_reducible refine below_drewN ?_ _) | (exact below_next (by with_reducible assumption) (by first | with_reducible assumption | assumption)) | fail))))
    ((go_at_call 18; refine (cloneB _ body _ (Hcut.out.below ?_) (by have := hlb.out; omega)).mono ?_; (go_split_ands; (repeat' (first | (with_reducible exact Below.refl _ _) | (with_reducible assumption) | (with_reducible refine below_alloc ?_ _) | (with_reducible refine Below.drew ?_) | (with_reducible refine below_drewN ?_ _) | (exact below_next (by with_reducible assumption) (by first | with_reducible assumption | assumption)) | fail))); rintro e w2 ⟨v2, rfl, hown2, hb2⟩; obtain ⟨A2, c2, rfl, _⟩ := orow_form hown2))
  go_split_ands
  have Hown2 := Lib.hid hown2
  have Hb2 := Lib.hid hb2
  clear hown2 hb2
  go_wp2_with fail
  go_ret3
  rw [Hx0.out, Hbody.out]
  refine ⟨_, rfl, Hown2.out, below_next (below_drewN (Below.refl _ _) _) Hb2.out⟩
end Go.Proofs.Ytdgmaooioekmnaa

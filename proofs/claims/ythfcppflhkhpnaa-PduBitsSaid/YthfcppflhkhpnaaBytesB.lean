/-
  Slices of bytes, without sums: words and contracts (bytes.Clone, yardref.Bytes).
-/
import Derived.Test.YthfcppflhkhpnaaProg
import Derived.Test.YthfcppflhkhpnaaBase
import Derived.Laws.BitsAllLaws
import Derived.Laws.BitsLemmas
import Derived.Laws.BytesArg
import Derived.Laws.BytesString
namespace Go.Proofs.Ythfcppflhkhpnaa
open Go.RowKit

theorem ofInt_i64 (a : Nat) (ha : a < 9223372036854775808) : (BitVec.ofInt 64 (a : Int)).toNat = a := by
  rw [BitVec.ofInt_natCast, BitVec.toNat_ofNat]; exact Nat.mod_eq_of_lt (by omega)
theorem i64_and_nat (a b : Nat) (ha : a < 9223372036854775808) (hb : b < 9223372036854775808) : bits .and .i64 (a : Int) (b : Int) = ((a &&& b : Nat) : Int) := by
  have hx : a &&& b < 2 ^ 63 := Nat.and_lt_two_pow _ (by omega)
  show IntKind.i64.wrap ((BitVec.ofInt 64 (a : Int) &&& BitVec.ofInt 64 (b : Int)).toNat : Int) = _
  rw [BitVec.toNat_and, ofInt_i64 a ha, ofInt_i64 b hb, IntKind.wrap_i64]
  omega
theorem i64_or_nat (a b : Nat) (ha : a < 9223372036854775808) (hb : b < 9223372036854775808) : bits .or .i64 (a : Int) (b : Int) = ((a ||| b : Nat) : Int) := by
  have hx : a ||| b < 2 ^ 63 := Nat.or_lt_two_pow (by omega) (by omega)
  show IntKind.i64.wrap ((BitVec.ofInt 64 (a : Int) ||| BitVec.ofInt 64 (b : Int)).toNat : Int) = _
  rw [BitVec.toNat_or, ofInt_i64 a ha, ofInt_i64 b hb, IntKind.wrap_i64]
  omega
theorem i64_xor_nat (a b : Nat) (ha : a < 9223372036854775808) (hb : b < 9223372036854775808) : bits .xor .i64 (a : Int) (b : Int) = ((a ^^^ b : Nat) : Int) := by
  have hx : a ^^^ b < 2 ^ 63 := Nat.xor_lt_two_pow (by omega) (by omega)
  show IntKind.i64.wrap ((BitVec.ofInt 64 (a : Int) ^^^ BitVec.ofInt 64 (b : Int)).toNat : Int) = _
  rw [BitVec.toNat_xor, ofInt_i64 a ha, ofInt_i64 b hb, IntKind.wrap_i64]
  omega

/-- The bytes as natural numbers. -/
def nats (xs : List Int) : List Nat := xs.map Int.toNat
def IsB (xs : List Int) : Prop := ∀ x ∈ xs, 0 ≤ x ∧ x ≤ 255
theorem IsB.at {xs : List Int} (h : IsB xs) (i : Nat) (hi : i < xs.length) : 0 ≤ xs.getD i 0 ∧ xs.getD i 0 ≤ 255 := by
  have hg : xs.getD i 0 = xs[i] := by rw [List.getD_eq_getElem?_getD, List.getElem?_eq_getElem hi]; rfl
  rw [hg]; exact h _ (List.getElem_mem hi)
theorem IsB.nats {xs : List Int} (h : IsB xs) : ∀ b ∈ nats xs, b < 256 := by
  intro b hb
  obtain ⟨x, hx, rfl⟩ := List.mem_map.1 hb
  have := h x hx
  omega
abbrev RdB (w : World) (v : Value) (xs : List Int) : Prop := Rd1 (Value.int .u8) 0 w v xs
abbrev TB : Nat := 5
abbrev TBs : Nat := 27
abbrev u8s (xs : List Int) : List Value := xs.map (Value.int .u8)
theorem infoB : (Try.prog.info? TB).map (fun i => (i.zero, i.size, i.bytes)) = some (some (.int .u8 0), 1, 1) := by kernel_rfl
theorem u8s_len (xs : List Int) : (u8s xs).length = xs.length * 1 := by simp
/-- The cells of a slice that is read, for an append. -/
theorem Rd1.news {w : World} {a : Addr} {n c : Nat} {xs : List Int} {k : IntKind} (h : Rd1 (Value.int k) 0 w (.slice (some a) n c) xs) : ∀ j u, (xs.map (Value.int k))[j]? = some u → w.cell? (a.add j) = some u := by
  intro j u hu
  have hj : j < xs.length := by have := (List.getElem?_eq_some_iff.1 hu).1; simpa using this
  obtain ⟨g, o, ha, hq⟩ := h.at j hj
  simp only [Option.some.injEq] at ha
  subst ha
  rw [Addr.add_lit, hq]
  simp [List.getD_eq_getElem?_getD, List.getElem?_eq_getElem hj] at hu ⊢
  exact hu
theorem Rd1.none {α : Type} {enc : α → Value} {d : α} {w : World} {n c : Nat} {xs : List α} (h : Rd1 enc d w (.slice Option.none n c) xs) : c = 0 ∧ xs = [] := by
  obtain ⟨A, c', hv, hc, hn, _⟩ := h
  simp only [Value.slice.injEq] at hv
  obtain ⟨rfl, rfl, rfl⟩ := hv
  have := hn rfl
  exact ⟨this, List.eq_nil_of_length_eq_zero (by omega)⟩

set_option maxHeartbeats 400000 in
theorem cloneB (v : Value) (xs : List Int) (w : World) (h : RdB w v xs) (hx : xs.length ≤ 140737488351232) :
    Calls Try.prog 45 #[v] w fun e w' => ∃ v', e = .returned v' ∧ w'.ownsRow w.heap.size TB 1 v' xs.length (u8s xs) ∧ Below w.heap.size w w' := by
  obtain ⟨A, c, rfl, hc⟩ := h.form
  cases A with
  | none =>
    obtain ⟨rfl, rfl⟩ := h.none
    clear h
    simp only [List.length_nil]
    go_enter Try.func45, Try.ntmps45
    go_wp2_with fail
    go_ret
    exact ⟨_, rfl, orow_nil _ _ _ _, Below.refl _ _⟩
  | some a =>
    obtain ⟨i, hi, hz0, hz1, hz2⟩ := info_parts infoB
    have hlx := u8s_len xs
    have Hnews := Lib.hid h.news
    have Hone := Lib.hid (ints_oneCell .u8 xs)
    have hown0 := Lib.hid (World.ownsRow_lit (base := w.heap.size) (e := TB) (size := 1) w #[] 0 (Nat.le_refl _) (by simp) rfl)
    clear h
    go_enter Try.func45, Try.ntmps45
    go_wp2_with (at_builtin; refine wpList_append_own _ rfl _ _ TBs rfl w.heap.size TB i (.int .u8 0) 1 1 Try.underlying27 hi hz0 hz1 hz2 rfl (by decide) _ 0 [] rfl hown0.out a xs.length c (u8s xs) rfl hlx (fun j u hu => balloc_cell (Hnews.out j u hu) _) Hone.out (by unfold maxLen; omega) (by omega) (by simp) ?_)
    intro v' w1 hown hg hnil
    clear hnil
    go_wp2_with fail
    go_ret
    refine ⟨_, rfl, hown, ?_⟩
    exact ((Below.refl _ _).alloc (Nat.le_refl _) _).grown hg (by simp) (by simp [Value.ownBlock])

/-! ### strings of bytes -/
theorem strOf_inj {xs ys : List Int} (hx : IsB xs) (hy : IsB ys) : strOfNums xs = strOfNums ys ↔ xs = ys := by
  constructor
  · intro h
    have h1 : (strOfNums xs).data.toList = (strOfNums ys).data.toList := by rw [h]
    rw [strOfNums_data, strOfNums_data] at h1
    have key : ∀ (xs ys : List Int), IsB xs → IsB ys → (xs.map fun n => UInt8.ofNat n.toNat) = (ys.map fun n => UInt8.ofNat n.toNat) → xs = ys := by
      intro xs
      induction xs with
      | nil => intro ys _ _ h; cases ys with
        | nil => rfl
        | cons y ys => simp at h
      | cons x xs ih => intro ys hx hy h; cases ys with
        | nil => simp at h
        | cons y ys =>
          simp only [List.map_cons, List.cons.injEq] at h
          have h0 := congrArg UInt8.toNat h.1
          have hx0 := hx x (List.mem_cons_self ..)
          have hy0 := hy y (List.mem_cons_self ..)
          simp at h0
          have e : x = y := by omega
          rw [e, ih ys (fun z hz => hx z (List.mem_cons_of_mem _ hz)) (fun z hz => hy z (List.mem_cons_of_mem _ hz)) h.2]
    exact key xs ys hx hy h1
  · rintro rfl; rfl
theorem conv_bytes {w : World} {v : Value} {xs : List Int} (h : RdB w v xs) : (convert TBs 9 v).run Try.prog w = .ok (.string (strOfNums xs)) w := by
  obtain ⟨A, c, rfl, hc⟩ := h.form
  cases A with
  | none =>
    obtain ⟨rfl, rfl⟩ := h.none
    exact run_convert_bytes_nil w TBs TB Try.underlying27 Try.underlying5 0 0 9 Try.underlying9
  | some a =>
    have hl : (loadCells a xs.length).run Try.prog w = .ok (xs.map (Value.int .u8)).toArray w := by
      have := run_loadCells_list (P := Try.prog) w a (xs.map (Value.int .u8)) h.news
      simpa using this
    rw [run_convert_bytes_string w TBs 9 TB _ xs.length c Try.underlying27 Try.underlying5 Try.underlying9, run_bytesToString w _ xs.length c xs hl, foldl_push_bytes]
    simp [strOfNums, ByteArray.empty, ByteArray.emptyWithCapacity]
    rfl
theorem bytes_eq {xs ys : List Int} (hx : IsB xs) (hy : IsB ys) : ((strOfNums xs).toList == (strOfNums ys).toList) = decide (xs = ys) := by
  rw [Bool.eq_iff_iff]
  simp only [beq_iff_eq, decide_eq_true_eq]
  rw [← strOf_inj hx hy, ByteArray.toList_eq, ByteArray.toList_eq]
  constructor
  · intro h
    have := Array.toList_inj.1 h
    generalize strOfNums xs = a at *
    generalize strOfNums ys = b at *
    cases a; cases b; simp_all
  · intro h; rw [h]

set_option maxHeartbeats 400000 in
theorem bytesEq (v u : Value) (xs ys : List Int) (w : World) (h : RdB w v xs) (h2 : RdB w u ys) (hx : IsB xs) (hy : IsB ys) :
    Calls Try.prog 15 #[v, u] w fun e w' => e = .returned (.bool (decide (xs = ys))) ∧ w = w' := by
  have c1 := conv_bytes h
  have c2 := conv_bytes h2
  have e := Lib.hid (bytes_eq hx hy)
  clear h h2
  go_enter Try.func15, Try.ntmps15
  go_wp2_with fail
  go_ret
  exact ⟨by rw [← e.out]; rfl, rfl⟩
end Go.Proofs.Ythfcppflhkhpnaa

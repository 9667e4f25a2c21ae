/-
  A slice of slices of bytes that came in.
-/
import Derived.Test.YtaahigdkbmifbaaLaw
import Derived.Test.YtaahigdkbmifbaaBytesB
import Derived.Deep.Matrix
namespace Go.Proofs.Ytaahigdkbmifbaa
open Go.RowKit Go.WideShapes Go.ChangeShapes Go.Deep

def RdBs (w : World) (v : Value) (xss : List (List Int)) : Prop :=
  ∃ A c, v = .slice A xss.length c ∧ xss.length ≤ c ∧ (0 < xss.length → ∃ g o, A = some ⟨g, o, none⟩ ∧ ∀ i, i < xss.length → ∃ y, w.cell? ⟨g, o + i, none⟩ = some y ∧ RdB w y (xss.getD i []))
theorem RdBs.below {w w' : World} {v : Value} {xss : List (List Int)} (h : RdBs w v xss) (hb : Below w.heap.size w w') : RdBs w' v xss := by
  obtain ⟨A, c, rfl, hc, hi⟩ := h
  refine ⟨A, c, rfl, hc, fun h0 => ?_⟩
  obtain ⟨g, o, rfl, hx⟩ := hi h0
  refine ⟨g, o, rfl, fun i hi => ?_⟩
  obtain ⟨y, h1, h2⟩ := hx i hi
  exact ⟨y, below_cell hb h1, h2.below hb⟩
theorem RdBs.form {w : World} {v : Value} {xss : List (List Int)} (h : RdBs w v xss) : ∃ A c, v = .slice A xss.length c ∧ xss.length ≤ c := by
  obtain ⟨A, c, h1, h2, _⟩ := h
  exact ⟨A, c, h1, h2⟩
theorem RdBs.at0 {w : World} {A : Option Addr} {n c : Nat} {xss : List (List Int)} (h : RdBs w (.slice A n c) xss) (h0 : 0 < xss.length) : ∃ g o, A = some ⟨g, o, none⟩ := by
  obtain ⟨A', c', e, _, hi⟩ := h
  simp only [Value.slice.injEq] at e
  obtain ⟨g, o, hA, _⟩ := hi h0
  exact ⟨g, o, e.1.trans hA⟩
theorem RdBs.at {w : World} {g o n c : Nat} {xss : List (List Int)} (h : RdBs w (.slice (some ⟨g, o, none⟩) n c) xss) (i : Nat) (hi : i < xss.length) : ∃ Ay cy, w.cell? ⟨g, o + i, none⟩ = some (.slice Ay (xss.getD i []).length cy) ∧ RdB w (.slice Ay (xss.getD i []).length cy) (xss.getD i []) := by
  obtain ⟨A', c', e, _, hx⟩ := h
  simp only [Value.slice.injEq] at e
  obtain ⟨g', o', hA, hy⟩ := hx (by omega)
  have hg := e.1.trans hA
  simp only [Option.some.injEq, Addr.mk.injEq, and_true] at hg
  obtain ⟨rfl, rfl⟩ := hg
  obtain ⟨y, h1, h2⟩ := hy i hi
  obtain ⟨Ay, cy, rfl, _⟩ := h2.form
  exact ⟨Ay, cy, h1, h2⟩

section
variable {H : Type} {enc : TypeId × Value → H} {P : Program}
/-- One row of numbers, by its cells. -/
theorem Rd1.of_cells {k : IntKind} {W : World} {a : Addr} {len cap : Nat} {zs : List Int} (hl : len ≤ cap) (hz : zs.length = cap) (hcell : ∀ c, c < cap → W.cell? (a.add c) = some (.int k (zs.getD c 0))) :
    Rd1 (Value.int k) 0 W (.slice (some a) len cap) (zs.take len) := by
  have hlen : (zs.take len).length = len := by rw [List.length_take]; omega
  refine ⟨some a, cap, by rw [hlen], by omega, fun e => (by cases e), fun h0 => ?_⟩
  obtain ⟨g, o, s⟩ := a
  have hs : s = Option.none := by
    have h1 := hcell 0 (by omega)
    rw [show (⟨g, o, s⟩ : Addr).add 0 = ⟨g, o, s⟩ from rfl] at h1
    cases s with
    | none => rfl
    | some x => simp [World.cell?] at h1; split at h1 <;> simp at h1
  subst hs
  refine ⟨g, o, rfl, fun i hi => ?_⟩
  have := hcell i (by omega)
  rw [Addr.add_lit] at this
  rw [this]
  simp [List.getD_eq_getElem?_getD, show i < len by omega]

theorem openBytess {t e q : TypeId} (ht : P.underlying t = some (.slice e)) (he : P.underlying e = some (.slice q)) (hq : P.underlying q = some (.int .u8)) (ce : P.cellsOf e = 1) (cq : P.cellsOf q = 1) {W : World} {base : Nat} {v : Value} {d : DataW H} {p : List MemPlace}
    (hv : Value.okWide P W .any base t v) (h : DataW.Trod enc P W 0 (fun _ => true) true t v d p) : ∃ xss, RdBs W v xss ∧ ∀ xs ∈ xss, IsB xs := by
  obtain ⟨fuel, hf⟩ := h
  obtain ⟨A0, len0, cap0, rfl⟩ := okWide_slice ht hv
  rcases open_int_rows ht he hq ce cq hf with ⟨hcs, _⟩ | ⟨a, len, cap, A, L, C, Z, hcs, _, hl, hm, _, hr⟩
  · simp [Value.cells] at hcs
    obtain ⟨rfl, rfl, rfl⟩ := hcs
    exact ⟨[], ⟨none, 0, rfl, Nat.le_refl _, fun h => absurd h (by simp)⟩, fun xs hx => by cases hx⟩
  · simp [Value.cells] at hcs
    obtain ⟨rfl, rfl, rfl⟩ := hcs
    refine ⟨(List.range len0).map fun r => (Z r).take (L r), ⟨some a, cap0, by simp, by simpa using hl, fun h0 => ?_⟩, fun xs hx => ?_⟩
    · simp only [List.length_map, List.length_range] at h0 ⊢
      obtain ⟨h1, _⟩ := hr 0 (by omega)
      have ha := spot_none (show W.cell? a = _ from h1)
      refine ⟨a.block, a.off, congrArg some ha, fun i hi => ?_⟩
      obtain ⟨c1, r1, r2, r3, r4, r5, r6⟩ := hr i (by omega)
      refine ⟨.slice (A i) (L i) (C i), ?_, ?_⟩
      · rw [ha, Addr.add_lit] at c1
        exact c1
      · have hg : (List.map (fun r => (Z r).take (L r)) (List.range len0)).getD i [] = (Z i).take (L i) := by
          rw [List.getD_eq_getElem?_getD]; simp [hi]
        rw [hg]
        cases hA : A i with
        | none =>
          have := r5 hA
          have hL : L i = 0 := by omega
          rw [hL, this]
          exact Rd1.nil
        | some a' =>
          exact Rd1.of_cells r1 r3 (fun c hc => (r6 a' hA).2 c hc)
    · obtain ⟨r, hrm, rfl⟩ := List.mem_map.1 hx
      obtain ⟨_, _, _, _, r4, _⟩ := hr r (by have := List.mem_range.1 hrm; omega)
      intro x hx2
      have := r4 x (List.mem_of_mem_take hx2)
      simp [Lit.wf, IntKind.min, IntKind.max, IntKind.signed, IntKind.bits] at this
      omega
end
end Go.Proofs.Ytaahigdkbmifbaa

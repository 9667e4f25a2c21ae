/-
  Rows: a struct of three ints and a slice of ints; a struct of an int and a slice of ints.
-/
import Derived.Test.YthfcppflhkhpnaaLaw
import Derived.Lib.SmallJoins
namespace Go.Proofs.Ythfcppflhkhpnaa
open Go.RowKit Go.WideShapes Go.ChangeShapes Go.Deep
section
variable {H : Type} {enc : TypeId × Value → H} {P : Program}
/-- A field that is a slice of numbers. -/
theorem openNumsF {k : IntKind} {t e : TypeId} (ht : P.underlying t = some (.slice e)) (he : P.underlying e = some (.int k)) (hc : P.cellsOf e = 1) {W : World} {v : Value} {n : Nat} {y : DataW H × List MemPlace}
    (hf : DataW.trod enc P W 0 (fun _ => true) true n t [v] = some y) : ∃ xs, Rd1 (Value.int k) 0 W v xs ∧ ∀ x ∈ xs, (Lit.int k x).wf = true := by
  rcases open_ints ht he hc hf with ⟨hcs, _⟩ | ⟨a, len, cap, zs, hcs, _, hl, hm, hz, _, hcell, hwz⟩
  · simp only [List.cons.injEq, and_true] at hcs
    subst hcs
    exact ⟨[], Rd1.nil, fun x hx => by cases hx⟩
  · simp only [List.cons.injEq, and_true] at hcs
    subst hcs
    simp only [if_true] at hz
    have hlen : (zs.take len).length = len := by rw [List.length_take]; omega
    refine ⟨zs.take len, ⟨some a, cap, by rw [hlen], by omega, fun e => (by cases e), fun h0 => ?_⟩, fun x hx => hwz x (List.mem_of_mem_take hx)⟩
    obtain ⟨g, o, s⟩ := a
    have hs : s = none := by
      have h1 := hcell 0 (by omega)
      rw [show (⟨g, o, s⟩ : Addr).add 0 = ⟨g, o, s⟩ from rfl] at h1
      cases s with
      | none => rfl
      | some x => simp [World.cell?] at h1; split at h1 <;> simp at h1
    subst hs
    refine ⟨g, o, rfl, fun i hi => ?_⟩
    have := hcell i (by omega)
    rw [Addr.add_lit] at this
    rw [this]
    simp [List.getD_eq_getElem?_getD, show i < len by omega]

/-- A request that came in. -/
theorem openReq {t ti ts : TypeId} {f0 f1 f2 f3 : Field} (ht : P.underlying t = some (.struct #[f0, f1, f2, f3])) (hone : oneCellFields P #[f0, f1, f2, f3] = true) (hC : P.cellsOf t = 4)
    (h0 : f0.type = ti) (h1 : f1.type = ti) (h2 : f2.type = ti) (h3 : f3.type = ts) (hti : P.underlying ti = some (.int .i64)) (hts : P.underlying ts = some (.slice ti)) (hc : P.cellsOf ti = 1) {W : World} {base : Nat} {v : Value} {d : DataW H} {p : List MemPlace}
    (hv : Value.okWide P W .any base t v) (h : DataW.Trod enc P W 0 (fun _ => true) true t v d p) : ∃ (a b c : Int) (u : Value) (xs : List Int), v = .agg #[.int .i64 a, .int .i64 b, .int .i64 c, u] ∧ Rd1 (Value.int .i64) 0 W u xs ∧
      (Lit.int .i64 a).wf = true ∧ (Lit.int .i64 b).wf = true ∧ (Lit.int .i64 c).wf = true ∧ ∀ x ∈ xs, (Lit.int .i64 x).wf = true := by
  obtain ⟨v0, v1, v2, v3, y0, y1, y2, y3, n, rfl, _, _, t0, t1, t2, t3⟩ := Joins.open_agg4 ht hone hC hv h
  rw [h0] at t0
  rw [h1] at t1
  rw [h2] at t2
  rw [h3] at t3
  obtain ⟨x0, e0, _, w0⟩ := DataW.trod_int hti t0
  obtain ⟨x1, e1, _, w1⟩ := DataW.trod_int hti t1
  obtain ⟨x2, e2, _, w2⟩ := DataW.trod_int hti t2
  obtain rfl : v0 = _ := by simpa using e0
  obtain rfl : v1 = _ := by simpa using e1
  obtain rfl : v2 = _ := by simpa using e2
  obtain ⟨xs, hr, hw⟩ := openNumsF hts hti hc t3
  exact ⟨x0, x1, x2, v3, xs, rfl, hr, w0, w1, w2, hw⟩

/-- A reply that came in. -/
theorem openRep {t ti ts : TypeId} {f0 f1 : Field} (ht : P.underlying t = some (.struct #[f0, f1])) (hone : oneCellFields P #[f0, f1] = true) (hC : P.cellsOf t = 2)
    (h0 : f0.type = ti) (h1 : f1.type = ts) (hti : P.underlying ti = some (.int .i64)) (hts : P.underlying ts = some (.slice ti)) (hc : P.cellsOf ti = 1) {W : World} {base : Nat} {v : Value} {d : DataW H} {p : List MemPlace}
    (hv : Value.okWide P W .any base t v) (h : DataW.Trod enc P W 0 (fun _ => true) true t v d p) : ∃ (a : Int) (u : Value) (xs : List Int), v = .agg #[.int .i64 a, u] ∧ Rd1 (Value.int .i64) 0 W u xs ∧
      (Lit.int .i64 a).wf = true ∧ ∀ x ∈ xs, (Lit.int .i64 x).wf = true := by
  obtain ⟨v0, v1, y0, y1, n, rfl, _, _, t0, t1⟩ := Joins.open_agg2 ht hone hC hv h
  rw [h0] at t0
  rw [h1] at t1
  obtain ⟨x0, e0, _, w0⟩ := DataW.trod_int hti t0
  obtain rfl : v0 = _ := by simpa using e0
  obtain ⟨xs, hr, hw⟩ := openNumsF hts hti hc t1
  exact ⟨x0, v1, xs, rfl, hr, w0, hw⟩
end
end Go.Proofs.Ythfcppflhkhpnaa

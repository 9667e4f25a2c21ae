/-
  fail.In and the errors' wraps: contracts.
-/
import Derived.Test.YthfcppflhkhpnaaProg
import Derived.Test.YthfcppflhkhpnaaBase
namespace Go.Proofs.Ythfcppflhkhpnaa
open Go.RowKit

set_option maxHeartbeats 400000 in
theorem In_nil (s : ByteArray) (n : Int) (w : World) :
    Calls Try.prog 34 #[.string s, .int .i64 n, .nilIface] w fun e w' => e = .returned .nilIface ∧ w = w' := by
  go_enter Try.func34, Try.ntmps34
  go_wp2_with fail
  go_ret
  exact ⟨rfl, rfl⟩

/-- The error that In makes. -/
abbrev failed (w : World) : Value := .iface 68 (.pointer (some ⟨w.heap.size, 0, none⟩))
abbrev failCells (s : ByteArray) (n : Int) (e : Value) : Obj := .cells #[.string s, .int .i64 n, e] 70

set_option maxHeartbeats 400000 in
theorem In_err (s : ByteArray) (n : Int) (t : TypeId) (v : Value) (w : World) :
    Calls Try.prog 34 #[.string s, .int .i64 n, .iface t v] w fun e w' => e = .returned (failed w) ∧ w.alloc (failCells s n (.iface t v)) = w' := by
  go_enter Try.func34, Try.ntmps34
  go_wp2_with fail
  go_ret
  exact ⟨rfl, rfl⟩
/-- v is the error of code c, come through place n of s. -/
def ErrIs (w : World) (v : Value) (s : ByteArray) (n c : Int) : Prop := ∃ b, v = .iface 68 (.pointer (some ⟨b, 0, none⟩)) ∧ w.heap[b]? = some (failCells s n (.iface 54 (.int .i64 c)))
theorem ErrIs.mk {w : World} {s : ByteArray} {n c : Int} : ErrIs (w.alloc (failCells s n (.iface 54 (.int .i64 c)))) (failed w) s n c := ⟨_, rfl, bnew _ _⟩
theorem ErrIs.below {w w' : World} {v : Value} {s : ByteArray} {n c : Int} (h : ErrIs w v s n c) (hb : Below w.heap.size w w') : ErrIs w' v s n c := by
  obtain ⟨b, rfl, hh⟩ := h
  exact ⟨b, rfl, (hb.block b (blt hh)).trans hh⟩
theorem ErrIs.form {w : World} {v : Value} {s : ByteArray} {n c : Int} (h : ErrIs w v s n c) : ∃ x, v = .iface 68 x := by
  obtain ⟨b, rfl, _⟩ := h; exact ⟨_, rfl⟩
end Go.Proofs.Ythfcppflhkhpnaa

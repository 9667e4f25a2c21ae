/-
  fail.In and the errors' wraps: contracts.
-/
import Derived.Test.YtbafjbpbpobocaaProg
import Derived.Test.YtbafjbpbpobocaaBase
namespace Go.Proofs.Ytbafjbpbpobocaa
open Go.RowKit

set_option maxHeartbeats 400000 in
theorem In_nil (s : ByteArray) (n : Int) (w : World) :
    Calls Try.prog 17 #[.string s, .int .i64 n, .nilIface] w fun e w' => e = .returned .nilIface ∧ w = w' := by
  go_enter Try.func17, Try.ntmps17
  go_wp2_with fail
  go_ret
  exact ⟨rfl, rfl⟩

/-- The error that In makes. -/
abbrev failed (w : World) : Value := .iface 48 (.pointer (some ⟨w.heap.size, 0, none⟩))
abbrev failCells (s : ByteArray) (n : Int) (e : Value) : Obj := .cells #[.string s, .int .i64 n, e] 50

set_option maxHeartbeats 400000 in
theorem In_err (s : ByteArray) (n : Int) (t : TypeId) (v : Value) (w : World) :
    Calls Try.prog 17 #[.string s, .int .i64 n, .iface t v] w fun e w' => e = .returned (failed w) ∧ w.alloc (failCells s n (.iface t v)) = w' := by
  go_enter Try.func17, Try.ntmps17
  go_wp2_with fail
  go_ret
  exact ⟨rfl, rfl⟩
end Go.Proofs.Ytbafjbpbpobocaa

/-
  No cell of these rows narrows 'for every input' (looked for: loops, veiled, ifaces, maps, wideKeys, modest, calm, conditions, laid).
  DERIVED. THE GIVEN ROWS OF THIS SEAT. 4 by the template 'for every input the law returns true; each argument reads behind the call as it read before'; 0 by the template 'total and deterministic' (their statements: YtbafjbpbpobocaaTotals.lean).
  GIVEN WITH THE SEED: the statements are not yours to turn. If you find one false, say at which input.
  Laid BY PROGRAM, IN A SANDBOX (cutbox-rows.mjs): the forced cells as the released guide's own fill.sh prints them over the translation 2fa9432f9c6c091d… (all of the seat's roots in one cut). By AI agents, Wed Nov 11 2026. No macro, syntax, notation, axiom, sorry.
-/
import Derived.Test.YtbafjbpbpobocaaChecked
import GoSem.Claim
import GoSem.ClaimJoined
import GoSem.ClaimMapViews
import Derived.JoinedTies
import Derived.KernelRfl
namespace Go.Proofs.Ytbafjbpbpobocaa
/- THE CELL 'sum', in the pinned program and in every row, IS THE sha256 OF THE DUMP (.gsa) THAT YtbafjbpbpobocaaProg.lean LOADS. Nothing in Lean hashes anything: it is a label: what it is worth is what the hold of that sum in a sandbox is worth. -/
noncomputable def Try.pinned : Pinned := { name := "ytbafjbpbpobocaa", sum := "2fa9432f9c6c091d01167748092529ebf55e178c9b416294c6549b855bdbfd55", checked := Try.checked }
namespace Rows
def none {H : Type} : Left H := { results := [], args := [] }

/-- 'yardlaw9.PlanEvery': WHATEVER THE INPUT: true; the input reads as it did. -/
def planEverySpec : ChangeSpec := { name := "planEvery", fn := fun _ => fun
  | [d1, d2, d3] => { results := [.lit (.bool true)], args := [d1, d2, d3] }
  | _ => none }
def planEveryRow : OpenClaim := { program := "ytbafjbpbpobocaa", sum := "2fa9432f9c6c091d01167748092529ebf55e178c9b416294c6549b855bdbfd55", func := "switchyard/yardlaw9.PlanEvery", spec := "planEvery", apart := false }
def PlanEverySaid : Prop := planEveryRow.holds Try.pinned (OpenSpec.ofChange planEverySpec)

/-- ITS FALSE NEIGHBOUR: 'it returns false'. Refute it at one input. -/
def planEveryWrong : ChangeSpec := { name := "planEvery", fn := fun _ => fun
  | [d1, d2, d3] => { results := [.lit (.bool false)], args := [d1, d2, d3] }
  | _ => none }
def PlanEveryWrongFalsely : Prop := planEveryRow.holds Try.pinned (OpenSpec.ofChange planEveryWrong)

/-- 'yardlaw9.PlanFair': WHATEVER THE INPUT: true; the input reads as it did. -/
def planFairSpec : ChangeSpec := { name := "planFair", fn := fun _ => fun
  | [d1, d2, d3] => { results := [.lit (.bool true)], args := [d1, d2, d3] }
  | _ => none }
def planFairRow : OpenClaim := { program := "ytbafjbpbpobocaa", sum := "2fa9432f9c6c091d01167748092529ebf55e178c9b416294c6549b855bdbfd55", func := "switchyard/yardlaw9.PlanFair", spec := "planFair", apart := false }
def PlanFairSaid : Prop := planFairRow.holds Try.pinned (OpenSpec.ofChange planFairSpec)

/-- ITS FALSE NEIGHBOUR: 'it returns false'. Refute it at one input. -/
def planFairWrong : ChangeSpec := { name := "planFair", fn := fun _ => fun
  | [d1, d2, d3] => { results := [.lit (.bool false)], args := [d1, d2, d3] }
  | _ => none }
def PlanFairWrongFalsely : Prop := planFairRow.holds Try.pinned (OpenSpec.ofChange planFairWrong)

/-- 'yardlaw9.PlanDue': WHATEVER THE INPUT: true; the input reads as it did. -/
def planDueSpec : ChangeSpec := { name := "planDue", fn := fun _ => fun
  | [d1, d2, d3] => { results := [.lit (.bool true)], args := [d1, d2, d3] }
  | _ => none }
def planDueRow : OpenClaim := { program := "ytbafjbpbpobocaa", sum := "2fa9432f9c6c091d01167748092529ebf55e178c9b416294c6549b855bdbfd55", func := "switchyard/yardlaw9.PlanDue", spec := "planDue", apart := false }
def PlanDueSaid : Prop := planDueRow.holds Try.pinned (OpenSpec.ofChange planDueSpec)

/-- ITS FALSE NEIGHBOUR: 'it returns false'. Refute it at one input. -/
def planDueWrong : ChangeSpec := { name := "planDue", fn := fun _ => fun
  | [d1, d2, d3] => { results := [.lit (.bool false)], args := [d1, d2, d3] }
  | _ => none }
def PlanDueWrongFalsely : Prop := planDueRow.holds Try.pinned (OpenSpec.ofChange planDueWrong)

/-- 'yardlaw9.PlanStarts': WHATEVER THE INPUT: true; the input reads as it did. -/
def planStartsSpec : ChangeSpec := { name := "planStarts", fn := fun _ => fun
  | [d1, d2] => { results := [.lit (.bool true)], args := [d1, d2] }
  | _ => none }
def planStartsRow : OpenClaim := { program := "ytbafjbpbpobocaa", sum := "2fa9432f9c6c091d01167748092529ebf55e178c9b416294c6549b855bdbfd55", func := "switchyard/yardlaw9.PlanStarts", spec := "planStarts", apart := false }
def PlanStartsSaid : Prop := planStartsRow.holds Try.pinned (OpenSpec.ofChange planStartsSpec)

/-- ITS FALSE NEIGHBOUR: 'it returns false'. Refute it at one input. -/
def planStartsWrong : ChangeSpec := { name := "planStarts", fn := fun _ => fun
  | [d1, d2] => { results := [.lit (.bool false)], args := [d1, d2] }
  | _ => none }
def PlanStartsWrongFalsely : Prop := planStartsRow.holds Try.pinned (OpenSpec.ofChange planStartsWrong)

/- THE SECOND FORM. 'bulk': how many values and letters a reading holds, each counted each time it is reached (what is shared counts as often as it is met; a slice's spare places count too). A statement '..UptoSaid' is the law's where the arguments, and the package variables that the reading takes, are together of bulk at most 1048576: NARROWER than '..Said'. Prove '..Said' where nothing that the law and all that it calls make is longer than what came in: it says more and counts as full. Else prove '..UptoSaid'. A law counts once. -/
mutual
def uptoBulk {H : Type} : DataW H → Nat
  | .lit (.string bytes) => bytes.length + 1
  | .lit _ => 1
  | .nil => 1
  | .ptr d => uptoBulk d + 1
  | .slice elems spare => uptoBulkAll elems + uptoBulkAll spare + 1
  | .agg parts => uptoBulkAll parts + 1
  | .iface _ d => uptoBulk d + 1
  | .map entries => uptoBulkEntries entries + 1
  | .held _ => 1
def uptoBulkAll {H : Type} : List (DataW H) → Nat
  | [] => 0
  | d :: r => uptoBulk d + uptoBulkAll r
def uptoBulkEntries {H : Type} : List (Lit × DataW H) → Nat
  | [] => 0
  | x :: r => uptoBulkEntry x + uptoBulkEntries r
def uptoBulkEntry {H : Type} : Lit × DataW H → Nat
  | (.string bytes, d) => bytes.length + uptoBulk d + 1
  | (_, d) => uptoBulk d + 1
 end
def uptoSmall : (H : Type) → List (DataW H) → Bool := fun _ ds => decide (uptoBulkAll ds ≤ 1048576)
def OpenSpec.upto (s : _root_.Go.ChangeSpec) : _root_.Go.OpenSpec := { _root_.Go.OpenSpec.ofChange s with cond := some uptoSmall }

/-- 'yardlaw9.PlanEvery', WHERE WHAT IT READS IS OF BULK AT MOST 1048576: true; the input reads as it did. -/
def planEveryUptoRow : OpenClaim := { program := "ytbafjbpbpobocaa", sum := "2fa9432f9c6c091d01167748092529ebf55e178c9b416294c6549b855bdbfd55", func := "switchyard/yardlaw9.PlanEvery", spec := "planEvery", apart := false, narrowed := true }
def PlanEveryUptoSaid : Prop := planEveryUptoRow.holds Try.pinned (OpenSpec.upto planEverySpec)

/-- 'yardlaw9.PlanFair', WHERE WHAT IT READS IS OF BULK AT MOST 1048576: true; the input reads as it did. -/
def planFairUptoRow : OpenClaim := { program := "ytbafjbpbpobocaa", sum := "2fa9432f9c6c091d01167748092529ebf55e178c9b416294c6549b855bdbfd55", func := "switchyard/yardlaw9.PlanFair", spec := "planFair", apart := false, narrowed := true }
def PlanFairUptoSaid : Prop := planFairUptoRow.holds Try.pinned (OpenSpec.upto planFairSpec)

/-- 'yardlaw9.PlanDue', WHERE WHAT IT READS IS OF BULK AT MOST 1048576: true; the input reads as it did. -/
def planDueUptoRow : OpenClaim := { program := "ytbafjbpbpobocaa", sum := "2fa9432f9c6c091d01167748092529ebf55e178c9b416294c6549b855bdbfd55", func := "switchyard/yardlaw9.PlanDue", spec := "planDue", apart := false, narrowed := true }
def PlanDueUptoSaid : Prop := planDueUptoRow.holds Try.pinned (OpenSpec.upto planDueSpec)

/-- 'yardlaw9.PlanStarts', WHERE WHAT IT READS IS OF BULK AT MOST 1048576: true; the input reads as it did. -/
def planStartsUptoRow : OpenClaim := { program := "ytbafjbpbpobocaa", sum := "2fa9432f9c6c091d01167748092529ebf55e178c9b416294c6549b855bdbfd55", func := "switchyard/yardlaw9.PlanStarts", spec := "planStarts", apart := false, narrowed := true }
def PlanStartsUptoSaid : Prop := planStartsUptoRow.holds Try.pinned (OpenSpec.upto planStartsSpec)

end Rows
end Go.Proofs.Ytbafjbpbpobocaa

/-
  No cell of these rows narrows 'for every input' (looked for: loops, veiled, ifaces, maps, wideKeys, modest, calm, conditions, laid).
  DERIVED. THE GIVEN ROWS OF THIS SEAT. 4 by the template 'for every input the law returns true; each argument reads behind the call as it read before'; 0 by the template 'total and deterministic' (their statements: YtdgmaooioekmnaaTotals.lean).
  GIVEN WITH THE SEED: the statements are not yours to turn. If you find one false, say at which input.
  Laid BY PROGRAM, IN A SANDBOX (cutbox-rows.mjs): the forced cells as the released guide's own fill.sh prints them over the translation a019f8b22dc93c02… (all of the seat's roots in one cut). By AI agents, Wed Nov 11 2026. No macro, syntax, notation, axiom, sorry.
-/
import Derived.Test.YtdgmaooioekmnaaChecked
import GoSem.Claim
import GoSem.ClaimJoined
import GoSem.ClaimMapViews
import Derived.JoinedTies
import Derived.KernelRfl
namespace Go.Proofs.Ytdgmaooioekmnaa
/- THE CELL 'sum', in the pinned program and in every row, IS THE sha256 OF THE DUMP (.gsa) THAT YtdgmaooioekmnaaProg.lean LOADS. Nothing in Lean hashes anything: it is a label: what it is worth is what the hold of that sum in a sandbox is worth. -/
noncomputable def Try.pinned : Pinned := { name := "ytdgmaooioekmnaa", sum := "a019f8b22dc93c0245b74d177c4e1af4a029c39cd54d8511640e6c9e03565d65", checked := Try.checked }
namespace Rows
def none {H : Type} : Left H := { results := [], args := [] }

/-- 'yardlaw8.RtuTwo': WHATEVER THE INPUT: true; the input reads as it did. -/
def rtuTwoSpec : ChangeSpec := { name := "rtuTwo", fn := fun _ => fun
  | [d1, d2, d3] => { results := [.lit (.bool true)], args := [d1, d2, d3] }
  | _ => none }
def rtuTwoRow : OpenClaim := { program := "ytdgmaooioekmnaa", sum := "a019f8b22dc93c0245b74d177c4e1af4a029c39cd54d8511640e6c9e03565d65", func := "switchyard/yardlaw8.RtuTwo", spec := "rtuTwo", apart := false }
def RtuTwoSaid : Prop := rtuTwoRow.holds Try.pinned (OpenSpec.ofChange rtuTwoSpec)

/-- ITS FALSE NEIGHBOUR: 'it returns false'. Refute it at one input. -/
def rtuTwoWrong : ChangeSpec := { name := "rtuTwo", fn := fun _ => fun
  | [d1, d2, d3] => { results := [.lit (.bool false)], args := [d1, d2, d3] }
  | _ => none }
def RtuTwoWrongFalsely : Prop := rtuTwoRow.holds Try.pinned (OpenSpec.ofChange rtuTwoWrong)

/-- 'yardlaw8.RtuSilence': WHATEVER THE INPUT: true; the input reads as it did. -/
def rtuSilenceSpec : ChangeSpec := { name := "rtuSilence", fn := fun _ => fun
  | [d1, d2, d3] => { results := [.lit (.bool true)], args := [d1, d2, d3] }
  | _ => none }
def rtuSilenceRow : OpenClaim := { program := "ytdgmaooioekmnaa", sum := "a019f8b22dc93c0245b74d177c4e1af4a029c39cd54d8511640e6c9e03565d65", func := "switchyard/yardlaw8.RtuSilence", spec := "rtuSilence", apart := false }
def RtuSilenceSaid : Prop := rtuSilenceRow.holds Try.pinned (OpenSpec.ofChange rtuSilenceSpec)

/-- ITS FALSE NEIGHBOUR: 'it returns false'. Refute it at one input. -/
def rtuSilenceWrong : ChangeSpec := { name := "rtuSilence", fn := fun _ => fun
  | [d1, d2, d3] => { results := [.lit (.bool false)], args := [d1, d2, d3] }
  | _ => none }
def RtuSilenceWrongFalsely : Prop := rtuSilenceRow.holds Try.pinned (OpenSpec.ofChange rtuSilenceWrong)

/-- 'yardlaw8.RtuSizes': WHATEVER THE INPUT: true; the input reads as it did. -/
def rtuSizesSpec : ChangeSpec := { name := "rtuSizes", fn := fun _ => fun
  | [d1, d2, d3, d4] => { results := [.lit (.bool true)], args := [d1, d2, d3, d4] }
  | _ => none }
def rtuSizesRow : OpenClaim := { program := "ytdgmaooioekmnaa", sum := "a019f8b22dc93c0245b74d177c4e1af4a029c39cd54d8511640e6c9e03565d65", func := "switchyard/yardlaw8.RtuSizes", spec := "rtuSizes", apart := false }
def RtuSizesSaid : Prop := rtuSizesRow.holds Try.pinned (OpenSpec.ofChange rtuSizesSpec)

/-- ITS FALSE NEIGHBOUR: 'it returns false'. Refute it at one input. -/
def rtuSizesWrong : ChangeSpec := { name := "rtuSizes", fn := fun _ => fun
  | [d1, d2, d3, d4] => { results := [.lit (.bool false)], args := [d1, d2, d3, d4] }
  | _ => none }
def RtuSizesWrongFalsely : Prop := rtuSizesRow.holds Try.pinned (OpenSpec.ofChange rtuSizesWrong)

/-- 'yardlaw8.RtuBack': WHATEVER THE INPUT: true; the input reads as it did. -/
def rtuBackSpec : ChangeSpec := { name := "rtuBack", fn := fun _ => fun
  | [d1, d2, d3] => { results := [.lit (.bool true)], args := [d1, d2, d3] }
  | _ => none }
def rtuBackRow : OpenClaim := { program := "ytdgmaooioekmnaa", sum := "a019f8b22dc93c0245b74d177c4e1af4a029c39cd54d8511640e6c9e03565d65", func := "switchyard/yardlaw8.RtuBack", spec := "rtuBack", apart := false }
def RtuBackSaid : Prop := rtuBackRow.holds Try.pinned (OpenSpec.ofChange rtuBackSpec)

/-- ITS FALSE NEIGHBOUR: 'it returns false'. Refute it at one input. -/
def rtuBackWrong : ChangeSpec := { name := "rtuBack", fn := fun _ => fun
  | [d1, d2, d3] => { results := [.lit (.bool false)], args := [d1, d2, d3] }
  | _ => none }
def RtuBackWrongFalsely : Prop := rtuBackRow.holds Try.pinned (OpenSpec.ofChange rtuBackWrong)

/- THE SECOND FORM. 'bulk': how many values and letters a reading holds, each counted each time it is reached (what is shared counts as often as it is met; a slice's spare places count too). A statement '..UptoSaid' is the law's where the arguments, and the package variables that the reading takes, are together of bulk at most 1048576: NARROWER than '..Said'. Prove '..Said' where nothing that the law and all that it calls make is longer than what came in: it says more and counts as full. Else prove '..UptoSaid'. A law counts once. -/
mutual
def uptoBulk {H : Type} : DataW H → Nat
  | .lit (.string bytes) => bytes.length + 1
  | .lit _ => 1
  | .nil => 1
  | .ptr d => uptoBulk d + 1
  | .slice elems spare => uptoBulkAll elems + uptoBulkAll spare + 1
  | .agg parts => uptoBulkAll parts + 1
  | .iface _ d => uptoBulk d + 1
  | .map entries => uptoBulkEntries entries + 1
  | .held _ => 1
def uptoBulkAll {H : Type} : List (DataW H) → Nat
  | [] => 0
  | d :: r => uptoBulk d + uptoBulkAll r
def uptoBulkEntries {H : Type} : List (Lit × DataW H) → Nat
  | [] => 0
  | x :: r => uptoBulkEntry x + uptoBulkEntries r
def uptoBulkEntry {H : Type} : Lit × DataW H → Nat
  | (.string bytes, d) => bytes.length + uptoBulk d + 1
  | (_, d) => uptoBulk d + 1
 end
def uptoSmall : (H : Type) → List (DataW H) → Bool := fun _ ds => decide (uptoBulkAll ds ≤ 1048576)
def OpenSpec.upto (s : _root_.Go.ChangeSpec) : _root_.Go.OpenSpec := { _root_.Go.OpenSpec.ofChange s with cond := some uptoSmall }

/-- 'yardlaw8.RtuTwo', WHERE WHAT IT READS IS OF BULK AT MOST 1048576: true; the input reads as it did. -/
def rtuTwoUptoRow : OpenClaim := { program := "ytdgmaooioekmnaa", sum := "a019f8b22dc93c0245b74d177c4e1af4a029c39cd54d8511640e6c9e03565d65", func := "switchyard/yardlaw8.RtuTwo", spec := "rtuTwo", apart := false, narrowed := true }
def RtuTwoUptoSaid : Prop := rtuTwoUptoRow.holds Try.pinned (OpenSpec.upto rtuTwoSpec)

/-- 'yardlaw8.RtuSilence', WHERE WHAT IT READS IS OF BULK AT MOST 1048576: true; the input reads as it did. -/
def rtuSilenceUptoRow : OpenClaim := { program := "ytdgmaooioekmnaa", sum := "a019f8b22dc93c0245b74d177c4e1af4a029c39cd54d8511640e6c9e03565d65", func := "switchyard/yardlaw8.RtuSilence", spec := "rtuSilence", apart := false, narrowed := true }
def RtuSilenceUptoSaid : Prop := rtuSilenceUptoRow.holds Try.pinned (OpenSpec.upto rtuSilenceSpec)

/-- 'yardlaw8.RtuSizes', WHERE WHAT IT READS IS OF BULK AT MOST 1048576: true; the input reads as it did. -/
def rtuSizesUptoRow : OpenClaim := { program := "ytdgmaooioekmnaa", sum := "a019f8b22dc93c0245b74d177c4e1af4a029c39cd54d8511640e6c9e03565d65", func := "switchyard/yardlaw8.RtuSizes", spec := "rtuSizes", apart := false, narrowed := true }
def RtuSizesUptoSaid : Prop := rtuSizesUptoRow.holds Try.pinned (OpenSpec.upto rtuSizesSpec)

/-- 'yardlaw8.RtuBack', WHERE WHAT IT READS IS OF BULK AT MOST 1048576: true; the input reads as it did. -/
def rtuBackUptoRow : OpenClaim := { program := "ytdgmaooioekmnaa", sum := "a019f8b22dc93c0245b74d177c4e1af4a029c39cd54d8511640e6c9e03565d65", func := "switchyard/yardlaw8.RtuBack", spec := "rtuBack", apart := false, narrowed := true }
def RtuBackUptoSaid : Prop := rtuBackUptoRow.holds Try.pinned (OpenSpec.upto rtuBackSpec)

end Rows
end Go.Proofs.Ytdgmaooioekmnaa

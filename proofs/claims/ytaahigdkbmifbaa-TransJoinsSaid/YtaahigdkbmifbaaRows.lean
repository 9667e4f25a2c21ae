/-
  No cell of these rows narrows 'for every input' (looked for: loops, veiled, ifaces, maps, wideKeys, modest, calm, conditions, laid).
  DERIVED. THE GIVEN ROWS OF THIS SEAT. 6 by the template 'for every input the law returns true; each argument reads behind the call as it read before'; 0 by the template 'total and deterministic' (their statements: YtaahigdkbmifbaaTotals.lean).
  GIVEN WITH THE SEED: the statements are not yours to turn. If you find one false, say at which input.
  Laid BY PROGRAM, IN A SANDBOX (cutbox-rows.mjs): the forced cells as the released guide's own fill.sh prints them over the translation b7cc61e55d908d21… (all of the seat's roots in one cut). By AI agents, Wed Nov 11 2026. No macro, syntax, notation, axiom, sorry.
-/
import Derived.Test.YtaahigdkbmifbaaChecked
import GoSem.Claim
import GoSem.ClaimJoined
import GoSem.ClaimMapViews
import Derived.JoinedTies
import Derived.KernelRfl
namespace Go.Proofs.Ytaahigdkbmifbaa
/- THE CELL 'sum', in the pinned program and in every row, IS THE sha256 OF THE DUMP (.gsa) THAT YtaahigdkbmifbaaProg.lean LOADS. Nothing in Lean hashes anything: it is a label: what it is worth is what the hold of that sum in a sandbox is worth. -/
noncomputable def Try.pinned : Pinned := { name := "ytaahigdkbmifbaa", sum := "b7cc61e55d908d210ce2dab6bf99beceb1a92de7b87fda4021521008c98144a1", checked := Try.checked }
namespace Rows
def none {H : Type} : Left H := { results := [], args := [] }

/-- 'yardlaw16.TransBack': WHATEVER THE INPUT: true; the input reads as it did. -/
def transBackSpec : ChangeSpec := { name := "transBack", fn := fun _ => fun
  | [d1, d2, d3, d4, d5] => { results := [.lit (.bool true)], args := [d1, d2, d3, d4, d5] }
  | _ => none }
def transBackRow : OpenClaim := { program := "ytaahigdkbmifbaa", sum := "b7cc61e55d908d210ce2dab6bf99beceb1a92de7b87fda4021521008c98144a1", func := "switchyard/yardlaw16.TransBack", spec := "transBack", apart := false }
def TransBackSaid : Prop := transBackRow.holds Try.pinned (OpenSpec.ofChange transBackSpec)

/-- ITS FALSE NEIGHBOUR: 'it returns false'. Refute it at one input. -/
def transBackWrong : ChangeSpec := { name := "transBack", fn := fun _ => fun
  | [d1, d2, d3, d4, d5] => { results := [.lit (.bool false)], args := [d1, d2, d3, d4, d5] }
  | _ => none }
def TransBackWrongFalsely : Prop := transBackRow.holds Try.pinned (OpenSpec.ofChange transBackWrong)

/-- 'yardlaw16.TransBounds': WHATEVER THE INPUT: true; the input reads as it did. -/
def transBoundsSpec : ChangeSpec := { name := "transBounds", fn := fun _ => fun
  | [d] => { results := [.lit (.bool true)], args := [d] }
  | _ => none }
def transBoundsRow : OpenClaim := { program := "ytaahigdkbmifbaa", sum := "b7cc61e55d908d210ce2dab6bf99beceb1a92de7b87fda4021521008c98144a1", func := "switchyard/yardlaw16.TransBounds", spec := "transBounds", apart := false }
def TransBoundsSaid : Prop := transBoundsRow.holds Try.pinned (OpenSpec.ofChange transBoundsSpec)

/-- ITS FALSE NEIGHBOUR: 'it returns false'. Refute it at one input. -/
def transBoundsWrong : ChangeSpec := { name := "transBounds", fn := fun _ => fun
  | [d] => { results := [.lit (.bool false)], args := [d] }
  | _ => none }
def TransBoundsWrongFalsely : Prop := transBoundsRow.holds Try.pinned (OpenSpec.ofChange transBoundsWrong)

/-- 'yardlaw16.TransTrains': WHATEVER THE INPUT: true; the input reads as it did. -/
def transTrainsSpec : ChangeSpec := { name := "transTrains", fn := fun _ => fun
  | [d1, d2] => { results := [.lit (.bool true)], args := [d1, d2] }
  | _ => none }
def transTrainsRow : OpenClaim := { program := "ytaahigdkbmifbaa", sum := "b7cc61e55d908d210ce2dab6bf99beceb1a92de7b87fda4021521008c98144a1", func := "switchyard/yardlaw16.TransTrains", spec := "transTrains", apart := false }
def TransTrainsSaid : Prop := transTrainsRow.holds Try.pinned (OpenSpec.ofChange transTrainsSpec)

/-- ITS FALSE NEIGHBOUR: 'it returns false'. Refute it at one input. -/
def transTrainsWrong : ChangeSpec := { name := "transTrains", fn := fun _ => fun
  | [d1, d2] => { results := [.lit (.bool false)], args := [d1, d2] }
  | _ => none }
def TransTrainsWrongFalsely : Prop := transTrainsRow.holds Try.pinned (OpenSpec.ofChange transTrainsWrong)

/-- 'yardlaw16.TransHeads': WHATEVER THE INPUT: true; the input reads as it did. -/
def transHeadsSpec : ChangeSpec := { name := "transHeads", fn := fun _ => fun
  | [d1, d2] => { results := [.lit (.bool true)], args := [d1, d2] }
  | _ => none }
def transHeadsRow : OpenClaim := { program := "ytaahigdkbmifbaa", sum := "b7cc61e55d908d210ce2dab6bf99beceb1a92de7b87fda4021521008c98144a1", func := "switchyard/yardlaw16.TransHeads", spec := "transHeads", apart := false }
def TransHeadsSaid : Prop := transHeadsRow.holds Try.pinned (OpenSpec.ofChange transHeadsSpec)

/-- ITS FALSE NEIGHBOUR: 'it returns false'. Refute it at one input. -/
def transHeadsWrong : ChangeSpec := { name := "transHeads", fn := fun _ => fun
  | [d1, d2] => { results := [.lit (.bool false)], args := [d1, d2] }
  | _ => none }
def TransHeadsWrongFalsely : Prop := transHeadsRow.holds Try.pinned (OpenSpec.ofChange transHeadsWrong)

/-- 'yardlaw16.TransJoins': WHATEVER THE INPUT: true; the input reads as it did. -/
def transJoinsSpec : ChangeSpec := { name := "transJoins", fn := fun _ => fun
  | [d] => { results := [.lit (.bool true)], args := [d] }
  | _ => none }
def transJoinsRow : OpenClaim := { program := "ytaahigdkbmifbaa", sum := "b7cc61e55d908d210ce2dab6bf99beceb1a92de7b87fda4021521008c98144a1", func := "switchyard/yardlaw16.TransJoins", spec := "transJoins", apart := false }
def TransJoinsSaid : Prop := transJoinsRow.holds Try.pinned (OpenSpec.ofChange transJoinsSpec)

/-- ITS FALSE NEIGHBOUR: 'it returns false'. Refute it at one input. -/
def transJoinsWrong : ChangeSpec := { name := "transJoins", fn := fun _ => fun
  | [d] => { results := [.lit (.bool false)], args := [d] }
  | _ => none }
def TransJoinsWrongFalsely : Prop := transJoinsRow.holds Try.pinned (OpenSpec.ofChange transJoinsWrong)

/-- 'yardlaw16.TransOwn': WHATEVER THE INPUT: true; the input reads as it did. -/
def transOwnSpec : ChangeSpec := { name := "transOwn", fn := fun _ => fun
  | [d1, d2, d3, d4] => { results := [.lit (.bool true)], args := [d1, d2, d3, d4] }
  | _ => none }
def transOwnRow : OpenClaim := { program := "ytaahigdkbmifbaa", sum := "b7cc61e55d908d210ce2dab6bf99beceb1a92de7b87fda4021521008c98144a1", func := "switchyard/yardlaw16.TransOwn", spec := "transOwn", apart := false }
def TransOwnSaid : Prop := transOwnRow.holds Try.pinned (OpenSpec.ofChange transOwnSpec)

/-- ITS FALSE NEIGHBOUR: 'it returns false'. Refute it at one input. -/
def transOwnWrong : ChangeSpec := { name := "transOwn", fn := fun _ => fun
  | [d1, d2, d3, d4] => { results := [.lit (.bool false)], args := [d1, d2, d3, d4] }
  | _ => none }
def TransOwnWrongFalsely : Prop := transOwnRow.holds Try.pinned (OpenSpec.ofChange transOwnWrong)

/- THE SECOND FORM. 'bulk': how many values and letters a reading holds, each counted each time it is reached (what is shared counts as often as it is met; a slice's spare places count too). A statement '..UptoSaid' is the law's where the arguments, and the package variables that the reading takes, are together of bulk at most 1048576: NARROWER than '..Said'. Prove '..Said' where nothing that the law and all that it calls make is longer than what came in: it says more and counts as full. Else prove '..UptoSaid'. A law counts once. -/
mutual
def uptoBulk {H : Type} : DataW H → Nat
  | .lit (.string bytes) => bytes.length + 1
  | .lit _ => 1
  | .nil => 1
  | .ptr d => uptoBulk d + 1
  | .slice elems spare => uptoBulkAll elems + uptoBulkAll spare + 1
  | .agg parts => uptoBulkAll parts + 1
  | .iface _ d => uptoBulk d + 1
  | .map entries => uptoBulkEntries entries + 1
  | .held _ => 1
def uptoBulkAll {H : Type} : List (DataW H) → Nat
  | [] => 0
  | d :: r => uptoBulk d + uptoBulkAll r
def uptoBulkEntries {H : Type} : List (Lit × DataW H) → Nat
  | [] => 0
  | x :: r => uptoBulkEntry x + uptoBulkEntries r
def uptoBulkEntry {H : Type} : Lit × DataW H → Nat
  | (.string bytes, d) => bytes.length + uptoBulk d + 1
  | (_, d) => uptoBulk d + 1
 end
def uptoSmall : (H : Type) → List (DataW H) → Bool := fun _ ds => decide (uptoBulkAll ds ≤ 1048576)
def OpenSpec.upto (s : _root_.Go.ChangeSpec) : _root_.Go.OpenSpec := { _root_.Go.OpenSpec.ofChange s with cond := some uptoSmall }

/-- 'yardlaw16.TransBack', WHERE WHAT IT READS IS OF BULK AT MOST 1048576: true; the input reads as it did. -/
def transBackUptoRow : OpenClaim := { program := "ytaahigdkbmifbaa", sum := "b7cc61e55d908d210ce2dab6bf99beceb1a92de7b87fda4021521008c98144a1", func := "switchyard/yardlaw16.TransBack", spec := "transBack", apart := false, narrowed := true }
def TransBackUptoSaid : Prop := transBackUptoRow.holds Try.pinned (OpenSpec.upto transBackSpec)

/-- 'yardlaw16.TransBounds', WHERE WHAT IT READS IS OF BULK AT MOST 1048576: true; the input reads as it did. -/
def transBoundsUptoRow : OpenClaim := { program := "ytaahigdkbmifbaa", sum := "b7cc61e55d908d210ce2dab6bf99beceb1a92de7b87fda4021521008c98144a1", func := "switchyard/yardlaw16.TransBounds", spec := "transBounds", apart := false, narrowed := true }
def TransBoundsUptoSaid : Prop := transBoundsUptoRow.holds Try.pinned (OpenSpec.upto transBoundsSpec)

/-- 'yardlaw16.TransTrains', WHERE WHAT IT READS IS OF BULK AT MOST 1048576: true; the input reads as it did. -/
def transTrainsUptoRow : OpenClaim := { program := "ytaahigdkbmifbaa", sum := "b7cc61e55d908d210ce2dab6bf99beceb1a92de7b87fda4021521008c98144a1", func := "switchyard/yardlaw16.TransTrains", spec := "transTrains", apart := false, narrowed := true }
def TransTrainsUptoSaid : Prop := transTrainsUptoRow.holds Try.pinned (OpenSpec.upto transTrainsSpec)

/-- 'yardlaw16.TransHeads', WHERE WHAT IT READS IS OF BULK AT MOST 1048576: true; the input reads as it did. -/
def transHeadsUptoRow : OpenClaim := { program := "ytaahigdkbmifbaa", sum := "b7cc61e55d908d210ce2dab6bf99beceb1a92de7b87fda4021521008c98144a1", func := "switchyard/yardlaw16.TransHeads", spec := "transHeads", apart := false, narrowed := true }
def TransHeadsUptoSaid : Prop := transHeadsUptoRow.holds Try.pinned (OpenSpec.upto transHeadsSpec)

/-- 'yardlaw16.TransJoins', WHERE WHAT IT READS IS OF BULK AT MOST 1048576: true; the input reads as it did. -/
def transJoinsUptoRow : OpenClaim := { program := "ytaahigdkbmifbaa", sum := "b7cc61e55d908d210ce2dab6bf99beceb1a92de7b87fda4021521008c98144a1", func := "switchyard/yardlaw16.TransJoins", spec := "transJoins", apart := false, narrowed := true }
def TransJoinsUptoSaid : Prop := transJoinsUptoRow.holds Try.pinned (OpenSpec.upto transJoinsSpec)

/-- 'yardlaw16.TransOwn', WHERE WHAT IT READS IS OF BULK AT MOST 1048576: true; the input reads as it did. -/
def transOwnUptoRow : OpenClaim := { program := "ytaahigdkbmifbaa", sum := "b7cc61e55d908d210ce2dab6bf99beceb1a92de7b87fda4021521008c98144a1", func := "switchyard/yardlaw16.TransOwn", spec := "transOwn", apart := false, narrowed := true }
def TransOwnUptoSaid : Prop := transOwnUptoRow.holds Try.pinned (OpenSpec.upto transOwnSpec)

end Rows
end Go.Proofs.Ytaahigdkbmifbaa

/-
  No cell of these rows narrows 'for every input' (looked for: loops, veiled, ifaces, maps, wideKeys, modest, calm, conditions, laid).
  DERIVED. THE GIVEN ROWS OF THIS SEAT. 8 by the template 'for every input the law returns true; each argument reads behind the call as it read before'; 0 by the template 'total and deterministic' (their statements: YthfcppflhkhpnaaTotals.lean).
  GIVEN WITH THE SEED: the statements are not yours to turn. If you find one false, say at which input.
  Laid BY PROGRAM, IN A SANDBOX (cutbox-rows.mjs): the forced cells as the released guide's own fill.sh prints them over the translation eb2388ddbd3063ca… (all of the seat's roots in one cut). By AI agents, Wed Nov 11 2026. No macro, syntax, notation, axiom, sorry.
-/
import Derived.Test.YthfcppflhkhpnaaChecked
import GoSem.Claim
import GoSem.ClaimJoined
import GoSem.ClaimMapViews
import Derived.JoinedTies
import Derived.KernelRfl
namespace Go.Proofs.Ythfcppflhkhpnaa
/- THE CELL 'sum', in the pinned program and in every row, IS THE sha256 OF THE DUMP (.gsa) THAT YthfcppflhkhpnaaProg.lean LOADS. Nothing in Lean hashes anything: it is a label: what it is worth is what the hold of that sum in a sandbox is worth. -/
noncomputable def Try.pinned : Pinned := { name := "ythfcppflhkhpnaa", sum := "eb2388ddbd3063ca7e3e89d07521892b8352a2fa8627983fa60cde904089b342", checked := Try.checked }
namespace Rows
def none {H : Type} : Left H := { results := [], args := [] }

/-- 'yardlaw7.PduAnswers': WHATEVER THE INPUT: true; the input reads as it did. -/
def pduAnswersSpec : ChangeSpec := { name := "pduAnswers", fn := fun _ => fun
  | [d1, d2, d3] => { results := [.lit (.bool true)], args := [d1, d2, d3] }
  | _ => none }
def pduAnswersRow : OpenClaim := { program := "ythfcppflhkhpnaa", sum := "eb2388ddbd3063ca7e3e89d07521892b8352a2fa8627983fa60cde904089b342", func := "switchyard/yardlaw7.PduAnswers", spec := "pduAnswers", apart := false }
def PduAnswersSaid : Prop := pduAnswersRow.holds Try.pinned (OpenSpec.ofChange pduAnswersSpec)

/-- ITS FALSE NEIGHBOUR: 'it returns false'. Refute it at one input. -/
def pduAnswersWrong : ChangeSpec := { name := "pduAnswers", fn := fun _ => fun
  | [d1, d2, d3] => { results := [.lit (.bool false)], args := [d1, d2, d3] }
  | _ => none }
def PduAnswersWrongFalsely : Prop := pduAnswersRow.holds Try.pinned (OpenSpec.ofChange pduAnswersWrong)

/-- 'yardlaw7.PduKinds': WHATEVER THE INPUT: true; the input reads as it did. -/
def pduKindsSpec : ChangeSpec := { name := "pduKinds", fn := fun _ => fun
  | [d1, d2, d3, d4] => { results := [.lit (.bool true)], args := [d1, d2, d3, d4] }
  | _ => none }
def pduKindsRow : OpenClaim := { program := "ythfcppflhkhpnaa", sum := "eb2388ddbd3063ca7e3e89d07521892b8352a2fa8627983fa60cde904089b342", func := "switchyard/yardlaw7.PduKinds", spec := "pduKinds", apart := false }
def PduKindsSaid : Prop := pduKindsRow.holds Try.pinned (OpenSpec.ofChange pduKindsSpec)

/-- ITS FALSE NEIGHBOUR: 'it returns false'. Refute it at one input. -/
def pduKindsWrong : ChangeSpec := { name := "pduKinds", fn := fun _ => fun
  | [d1, d2, d3, d4] => { results := [.lit (.bool false)], args := [d1, d2, d3, d4] }
  | _ => none }
def PduKindsWrongFalsely : Prop := pduKindsRow.holds Try.pinned (OpenSpec.ofChange pduKindsWrong)

/-- 'yardlaw7.PduOthers': WHATEVER THE INPUT: true; the input reads as it did. -/
def pduOthersSpec : ChangeSpec := { name := "pduOthers", fn := fun _ => fun
  | [d1, d2, d3] => { results := [.lit (.bool true)], args := [d1, d2, d3] }
  | _ => none }
def pduOthersRow : OpenClaim := { program := "ythfcppflhkhpnaa", sum := "eb2388ddbd3063ca7e3e89d07521892b8352a2fa8627983fa60cde904089b342", func := "switchyard/yardlaw7.PduOthers", spec := "pduOthers", apart := false }
def PduOthersSaid : Prop := pduOthersRow.holds Try.pinned (OpenSpec.ofChange pduOthersSpec)

/-- ITS FALSE NEIGHBOUR: 'it returns false'. Refute it at one input. -/
def pduOthersWrong : ChangeSpec := { name := "pduOthers", fn := fun _ => fun
  | [d1, d2, d3] => { results := [.lit (.bool false)], args := [d1, d2, d3] }
  | _ => none }
def PduOthersWrongFalsely : Prop := pduOthersRow.holds Try.pinned (OpenSpec.ofChange pduOthersWrong)

/-- 'yardlaw7.PduSingles': WHATEVER THE INPUT: true; the input reads as it did. -/
def pduSinglesSpec : ChangeSpec := { name := "pduSingles", fn := fun _ => fun
  | [d1, d2, d3] => { results := [.lit (.bool true)], args := [d1, d2, d3] }
  | _ => none }
def pduSinglesRow : OpenClaim := { program := "ythfcppflhkhpnaa", sum := "eb2388ddbd3063ca7e3e89d07521892b8352a2fa8627983fa60cde904089b342", func := "switchyard/yardlaw7.PduSingles", spec := "pduSingles", apart := false }
def PduSinglesSaid : Prop := pduSinglesRow.holds Try.pinned (OpenSpec.ofChange pduSinglesSpec)

/-- ITS FALSE NEIGHBOUR: 'it returns false'. Refute it at one input. -/
def pduSinglesWrong : ChangeSpec := { name := "pduSingles", fn := fun _ => fun
  | [d1, d2, d3] => { results := [.lit (.bool false)], args := [d1, d2, d3] }
  | _ => none }
def PduSinglesWrongFalsely : Prop := pduSinglesRow.holds Try.pinned (OpenSpec.ofChange pduSinglesWrong)

/-- 'yardlaw7.PduBits': WHATEVER THE INPUT: true; the input reads as it did. -/
def pduBitsSpec : ChangeSpec := { name := "pduBits", fn := fun _ => fun
  | [d1, d2] => { results := [.lit (.bool true)], args := [d1, d2] }
  | _ => none }
def pduBitsRow : OpenClaim := { program := "ythfcppflhkhpnaa", sum := "eb2388ddbd3063ca7e3e89d07521892b8352a2fa8627983fa60cde904089b342", func := "switchyard/yardlaw7.PduBits", spec := "pduBits", apart := false }
def PduBitsSaid : Prop := pduBitsRow.holds Try.pinned (OpenSpec.ofChange pduBitsSpec)

/-- ITS FALSE NEIGHBOUR: 'it returns false'. Refute it at one input. -/
def pduBitsWrong : ChangeSpec := { name := "pduBits", fn := fun _ => fun
  | [d1, d2] => { results := [.lit (.bool false)], args := [d1, d2] }
  | _ => none }
def PduBitsWrongFalsely : Prop := pduBitsRow.holds Try.pinned (OpenSpec.ofChange pduBitsWrong)

/-- 'yardlaw7.PduCounts': WHATEVER THE INPUT: true; the input reads as it did. -/
def pduCountsSpec : ChangeSpec := { name := "pduCounts", fn := fun _ => fun
  | [d1, d2] => { results := [.lit (.bool true)], args := [d1, d2] }
  | _ => none }
def pduCountsRow : OpenClaim := { program := "ythfcppflhkhpnaa", sum := "eb2388ddbd3063ca7e3e89d07521892b8352a2fa8627983fa60cde904089b342", func := "switchyard/yardlaw7.PduCounts", spec := "pduCounts", apart := false }
def PduCountsSaid : Prop := pduCountsRow.holds Try.pinned (OpenSpec.ofChange pduCountsSpec)

/-- ITS FALSE NEIGHBOUR: 'it returns false'. Refute it at one input. -/
def pduCountsWrong : ChangeSpec := { name := "pduCounts", fn := fun _ => fun
  | [d1, d2] => { results := [.lit (.bool false)], args := [d1, d2] }
  | _ => none }
def PduCountsWrongFalsely : Prop := pduCountsRow.holds Try.pinned (OpenSpec.ofChange pduCountsWrong)

/-- 'yardlaw7.PduCuts': WHATEVER THE INPUT: true; the input reads as it did. -/
def pduCutsSpec : ChangeSpec := { name := "pduCuts", fn := fun _ => fun
  | [d1, d2, d3, d4] => { results := [.lit (.bool true)], args := [d1, d2, d3, d4] }
  | _ => none }
def pduCutsRow : OpenClaim := { program := "ythfcppflhkhpnaa", sum := "eb2388ddbd3063ca7e3e89d07521892b8352a2fa8627983fa60cde904089b342", func := "switchyard/yardlaw7.PduCuts", spec := "pduCuts", apart := false }
def PduCutsSaid : Prop := pduCutsRow.holds Try.pinned (OpenSpec.ofChange pduCutsSpec)

/-- ITS FALSE NEIGHBOUR: 'it returns false'. Refute it at one input. -/
def pduCutsWrong : ChangeSpec := { name := "pduCuts", fn := fun _ => fun
  | [d1, d2, d3, d4] => { results := [.lit (.bool false)], args := [d1, d2, d3, d4] }
  | _ => none }
def PduCutsWrongFalsely : Prop := pduCutsRow.holds Try.pinned (OpenSpec.ofChange pduCutsWrong)

/-- 'yardlaw7.PduBack': WHATEVER THE INPUT: true; the input reads as it did. -/
def pduBackSpec : ChangeSpec := { name := "pduBack", fn := fun _ => fun
  | [d1, d2, d3] => { results := [.lit (.bool true)], args := [d1, d2, d3] }
  | _ => none }
def pduBackRow : OpenClaim := { program := "ythfcppflhkhpnaa", sum := "eb2388ddbd3063ca7e3e89d07521892b8352a2fa8627983fa60cde904089b342", func := "switchyard/yardlaw7.PduBack", spec := "pduBack", apart := false }
def PduBackSaid : Prop := pduBackRow.holds Try.pinned (OpenSpec.ofChange pduBackSpec)

/-- ITS FALSE NEIGHBOUR: 'it returns false'. Refute it at one input. -/
def pduBackWrong : ChangeSpec := { name := "pduBack", fn := fun _ => fun
  | [d1, d2, d3] => { results := [.lit (.bool false)], args := [d1, d2, d3] }
  | _ => none }
def PduBackWrongFalsely : Prop := pduBackRow.holds Try.pinned (OpenSpec.ofChange pduBackWrong)

/- THE SECOND FORM. 'bulk': how many values and letters a reading holds, each counted each time it is reached (what is shared counts as often as it is met; a slice's spare places count too). A statement '..UptoSaid' is the law's where the arguments, and the package variables that the reading takes, are together of bulk at most 1048576: NARROWER than '..Said'. Prove '..Said' where nothing that the law and all that it calls make is longer than what came in: it says more and counts as full. Else prove '..UptoSaid'. A law counts once. -/
mutual
def uptoBulk {H : Type} : DataW H → Nat
  | .lit (.string bytes) => bytes.length + 1
  | .lit _ => 1
  | .nil => 1
  | .ptr d => uptoBulk d + 1
  | .slice elems spare => uptoBulkAll elems + uptoBulkAll spare + 1
  | .agg parts => uptoBulkAll parts + 1
  | .iface _ d => uptoBulk d + 1
  | .map entries => uptoBulkEntries entries + 1
  | .held _ => 1
def uptoBulkAll {H : Type} : List (DataW H) → Nat
  | [] => 0
  | d :: r => uptoBulk d + uptoBulkAll r
def uptoBulkEntries {H : Type} : List (Lit × DataW H) → Nat
  | [] => 0
  | x :: r => uptoBulkEntry x + uptoBulkEntries r
def uptoBulkEntry {H : Type} : Lit × DataW H → Nat
  | (.string bytes, d) => bytes.length + uptoBulk d + 1
  | (_, d) => uptoBulk d + 1
 end
def uptoSmall : (H : Type) → List (DataW H) → Bool := fun _ ds => decide (uptoBulkAll ds ≤ 1048576)
def OpenSpec.upto (s : _root_.Go.ChangeSpec) : _root_.Go.OpenSpec := { _root_.Go.OpenSpec.ofChange s with cond := some uptoSmall }

/-- 'yardlaw7.PduAnswers', WHERE WHAT IT READS IS OF BULK AT MOST 1048576: true; the input reads as it did. -/
def pduAnswersUptoRow : OpenClaim := { program := "ythfcppflhkhpnaa", sum := "eb2388ddbd3063ca7e3e89d07521892b8352a2fa8627983fa60cde904089b342", func := "switchyard/yardlaw7.PduAnswers", spec := "pduAnswers", apart := false, narrowed := true }
def PduAnswersUptoSaid : Prop := pduAnswersUptoRow.holds Try.pinned (OpenSpec.upto pduAnswersSpec)

/-- 'yardlaw7.PduKinds', WHERE WHAT IT READS IS OF BULK AT MOST 1048576: true; the input reads as it did. -/
def pduKindsUptoRow : OpenClaim := { program := "ythfcppflhkhpnaa", sum := "eb2388ddbd3063ca7e3e89d07521892b8352a2fa8627983fa60cde904089b342", func := "switchyard/yardlaw7.PduKinds", spec := "pduKinds", apart := false, narrowed := true }
def PduKindsUptoSaid : Prop := pduKindsUptoRow.holds Try.pinned (OpenSpec.upto pduKindsSpec)

/-- 'yardlaw7.PduOthers', WHERE WHAT IT READS IS OF BULK AT MOST 1048576: true; the input reads as it did. -/
def pduOthersUptoRow : OpenClaim := { program := "ythfcppflhkhpnaa", sum := "eb2388ddbd3063ca7e3e89d07521892b8352a2fa8627983fa60cde904089b342", func := "switchyard/yardlaw7.PduOthers", spec := "pduOthers", apart := false, narrowed := true }
def PduOthersUptoSaid : Prop := pduOthersUptoRow.holds Try.pinned (OpenSpec.upto pduOthersSpec)

/-- 'yardlaw7.PduSingles', WHERE WHAT IT READS IS OF BULK AT MOST 1048576: true; the input reads as it did. -/
def pduSinglesUptoRow : OpenClaim := { program := "ythfcppflhkhpnaa", sum := "eb2388ddbd3063ca7e3e89d07521892b8352a2fa8627983fa60cde904089b342", func := "switchyard/yardlaw7.PduSingles", spec := "pduSingles", apart := false, narrowed := true }
def PduSinglesUptoSaid : Prop := pduSinglesUptoRow.holds Try.pinned (OpenSpec.upto pduSinglesSpec)

/-- 'yardlaw7.PduBits', WHERE WHAT IT READS IS OF BULK AT MOST 1048576: true; the input reads as it did. -/
def pduBitsUptoRow : OpenClaim := { program := "ythfcppflhkhpnaa", sum := "eb2388ddbd3063ca7e3e89d07521892b8352a2fa8627983fa60cde904089b342", func := "switchyard/yardlaw7.PduBits", spec := "pduBits", apart := false, narrowed := true }
def PduBitsUptoSaid : Prop := pduBitsUptoRow.holds Try.pinned (OpenSpec.upto pduBitsSpec)

/-- 'yardlaw7.PduCounts', WHERE WHAT IT READS IS OF BULK AT MOST 1048576: true; the input reads as it did. -/
def pduCountsUptoRow : OpenClaim := { program := "ythfcppflhkhpnaa", sum := "eb2388ddbd3063ca7e3e89d07521892b8352a2fa8627983fa60cde904089b342", func := "switchyard/yardlaw7.PduCounts", spec := "pduCounts", apart := false, narrowed := true }
def PduCountsUptoSaid : Prop := pduCountsUptoRow.holds Try.pinned (OpenSpec.upto pduCountsSpec)

/-- 'yardlaw7.PduCuts', WHERE WHAT IT READS IS OF BULK AT MOST 1048576: true; the input reads as it did. -/
def pduCutsUptoRow : OpenClaim := { program := "ythfcppflhkhpnaa", sum := "eb2388ddbd3063ca7e3e89d07521892b8352a2fa8627983fa60cde904089b342", func := "switchyard/yardlaw7.PduCuts", spec := "pduCuts", apart := false, narrowed := true }
def PduCutsUptoSaid : Prop := pduCutsUptoRow.holds Try.pinned (OpenSpec.upto pduCutsSpec)

/-- 'yardlaw7.PduBack', WHERE WHAT IT READS IS OF BULK AT MOST 1048576: true; the input reads as it did. -/
def pduBackUptoRow : OpenClaim := { program := "ythfcppflhkhpnaa", sum := "eb2388ddbd3063ca7e3e89d07521892b8352a2fa8627983fa60cde904089b342", func := "switchyard/yardlaw7.PduBack", spec := "pduBack", apart := false, narrowed := true }
def PduBackUptoSaid : Prop := pduBackUptoRow.holds Try.pinned (OpenSpec.upto pduBackSpec)

end Rows
end Go.Proofs.Ythfcppflhkhpnaa

/-
  No cell of these rows narrows 'for every input' (looked for: loops, veiled, ifaces, maps, wideKeys, modest, calm, conditions, laid).
  DERIVED. THE GIVEN ROWS OF THIS SEAT. 8 by the template 'for every input the law returns true; each argument reads behind the call as it read before'; 0 by the template 'total and deterministic' (their statements: YtfcdkdodhhlmmaaTotals.lean).
  GIVEN WITH THE SEED: the statements are not yours to turn. If you find one false, say at which input.
  Laid BY PROGRAM, IN A SANDBOX (cutbox-rows.mjs): the forced cells as the released guide's own fill.sh prints them over the translation a4a769810e85ccc1… (all of the seat's roots in one cut). By AI agents, Wed Nov 11 2026. No macro, syntax, notation, axiom, sorry.
-/
import Derived.Test.YtfcdkdodhhlmmaaChecked
import GoSem.Claim
import GoSem.ClaimJoined
import GoSem.ClaimMapViews
import Derived.JoinedTies
import Derived.KernelRfl
namespace Go.Proofs.Ytfcdkdodhhlmmaa
/- THE CELL 'sum', in the pinned program and in every row, IS THE sha256 OF THE DUMP (.gsa) THAT YtfcdkdodhhlmmaaProg.lean LOADS. Nothing in Lean hashes anything: it is a label: what it is worth is what the hold of that sum in a sandbox is worth. -/
noncomputable def Try.pinned : Pinned := { name := "ytfcdkdodhhlmmaa", sum := "a4a769810e85ccc1c693d477c0af3681c24c07c8b14f989a96c8bed711ab9b9b", checked := Try.checked }
namespace Rows
def none {H : Type} : Left H := { results := [], args := [] }

/-- 'laws.FnExactThrownProps': WHATEVER THE INPUT: true; the input reads as it did. -/
def fnExactThrownPropsSpec : ChangeSpec := { name := "fnExactThrownProps", fn := fun _ => fun
  | [d1, d2] => { results := [.lit (.bool true)], args := [d1, d2] }
  | _ => none }
def fnExactThrownPropsRow : OpenClaim := { program := "ytfcdkdodhhlmmaa", sum := "a4a769810e85ccc1c693d477c0af3681c24c07c8b14f989a96c8bed711ab9b9b", func := "loop.example/g00927/laws.FnExactThrownProps", spec := "fnExactThrownProps", apart := false }
def FnExactThrownPropsSaid : Prop := fnExactThrownPropsRow.holds Try.pinned (OpenSpec.ofChange fnExactThrownPropsSpec)

/-- ITS FALSE NEIGHBOUR: 'it returns false'. Refute it at one input. -/
def fnExactThrownPropsWrong : ChangeSpec := { name := "fnExactThrownProps", fn := fun _ => fun
  | [d1, d2] => { results := [.lit (.bool false)], args := [d1, d2] }
  | _ => none }
def FnExactThrownPropsWrongFalsely : Prop := fnExactThrownPropsRow.holds Try.pinned (OpenSpec.ofChange fnExactThrownPropsWrong)

/-- 'laws.FnExactPropBeats': WHATEVER THE INPUT: true; the input reads as it did. -/
def fnExactPropBeatsSpec : ChangeSpec := { name := "fnExactPropBeats", fn := fun _ => fun
  | [d1, d2, d3] => { results := [.lit (.bool true)], args := [d1, d2, d3] }
  | _ => none }
def fnExactPropBeatsRow : OpenClaim := { program := "ytfcdkdodhhlmmaa", sum := "a4a769810e85ccc1c693d477c0af3681c24c07c8b14f989a96c8bed711ab9b9b", func := "loop.example/g00927/laws.FnExactPropBeats", spec := "fnExactPropBeats", apart := false }
def FnExactPropBeatsSaid : Prop := fnExactPropBeatsRow.holds Try.pinned (OpenSpec.ofChange fnExactPropBeatsSpec)

/-- ITS FALSE NEIGHBOUR: 'it returns false'. Refute it at one input. -/
def fnExactPropBeatsWrong : ChangeSpec := { name := "fnExactPropBeats", fn := fun _ => fun
  | [d1, d2, d3] => { results := [.lit (.bool false)], args := [d1, d2, d3] }
  | _ => none }
def FnExactPropBeatsWrongFalsely : Prop := fnExactPropBeatsRow.holds Try.pinned (OpenSpec.ofChange fnExactPropBeatsWrong)

/-- 'laws.FnExactAirCounts': WHATEVER THE INPUT: true; the input reads as it did. -/
def fnExactAirCountsSpec : ChangeSpec := { name := "fnExactAirCounts", fn := fun _ => fun
  | [d1, d2] => { results := [.lit (.bool true)], args := [d1, d2] }
  | _ => none }
def fnExactAirCountsRow : OpenClaim := { program := "ytfcdkdodhhlmmaa", sum := "a4a769810e85ccc1c693d477c0af3681c24c07c8b14f989a96c8bed711ab9b9b", func := "loop.example/g00927/laws.FnExactAirCounts", spec := "fnExactAirCounts", apart := false }
def FnExactAirCountsSaid : Prop := fnExactAirCountsRow.holds Try.pinned (OpenSpec.ofChange fnExactAirCountsSpec)

/-- ITS FALSE NEIGHBOUR: 'it returns false'. Refute it at one input. -/
def fnExactAirCountsWrong : ChangeSpec := { name := "fnExactAirCounts", fn := fun _ => fun
  | [d1, d2] => { results := [.lit (.bool false)], args := [d1, d2] }
  | _ => none }
def FnExactAirCountsWrongFalsely : Prop := fnExactAirCountsRow.holds Try.pinned (OpenSpec.ofChange fnExactAirCountsWrong)

/-- 'laws.FnExactCrossingsOf': WHATEVER THE INPUT: true; the input reads as it did. -/
def fnExactCrossingsOfSpec : ChangeSpec := { name := "fnExactCrossingsOf", fn := fun _ => fun
  | [d1, d2] => { results := [.lit (.bool true)], args := [d1, d2] }
  | _ => none }
def fnExactCrossingsOfRow : OpenClaim := { program := "ytfcdkdodhhlmmaa", sum := "a4a769810e85ccc1c693d477c0af3681c24c07c8b14f989a96c8bed711ab9b9b", func := "loop.example/g00927/laws.FnExactCrossingsOf", spec := "fnExactCrossingsOf", apart := false }
def FnExactCrossingsOfSaid : Prop := fnExactCrossingsOfRow.holds Try.pinned (OpenSpec.ofChange fnExactCrossingsOfSpec)

/-- ITS FALSE NEIGHBOUR: 'it returns false'. Refute it at one input. -/
def fnExactCrossingsOfWrong : ChangeSpec := { name := "fnExactCrossingsOf", fn := fun _ => fun
  | [d1, d2] => { results := [.lit (.bool false)], args := [d1, d2] }
  | _ => none }
def FnExactCrossingsOfWrongFalsely : Prop := fnExactCrossingsOfRow.holds Try.pinned (OpenSpec.ofChange fnExactCrossingsOfWrong)

/-- 'laws.FnExactLoadsOf': WHATEVER THE INPUT: true; the input reads as it did. -/
def fnExactLoadsOfSpec : ChangeSpec := { name := "fnExactLoadsOf", fn := fun _ => fun
  | [d1, d2] => { results := [.lit (.bool true)], args := [d1, d2] }
  | _ => none }
def fnExactLoadsOfRow : OpenClaim := { program := "ytfcdkdodhhlmmaa", sum := "a4a769810e85ccc1c693d477c0af3681c24c07c8b14f989a96c8bed711ab9b9b", func := "loop.example/g00927/laws.FnExactLoadsOf", spec := "fnExactLoadsOf", apart := false }
def FnExactLoadsOfSaid : Prop := fnExactLoadsOfRow.holds Try.pinned (OpenSpec.ofChange fnExactLoadsOfSpec)

/-- ITS FALSE NEIGHBOUR: 'it returns false'. Refute it at one input. -/
def fnExactLoadsOfWrong : ChangeSpec := { name := "fnExactLoadsOf", fn := fun _ => fun
  | [d1, d2] => { results := [.lit (.bool false)], args := [d1, d2] }
  | _ => none }
def FnExactLoadsOfWrongFalsely : Prop := fnExactLoadsOfRow.holds Try.pinned (OpenSpec.ofChange fnExactLoadsOfWrong)

/-- 'laws.FnExactRestsOf': WHATEVER THE INPUT: true; the input reads as it did. -/
def fnExactRestsOfSpec : ChangeSpec := { name := "fnExactRestsOf", fn := fun _ => fun
  | [d1, d2] => { results := [.lit (.bool true)], args := [d1, d2] }
  | _ => none }
def fnExactRestsOfRow : OpenClaim := { program := "ytfcdkdodhhlmmaa", sum := "a4a769810e85ccc1c693d477c0af3681c24c07c8b14f989a96c8bed711ab9b9b", func := "loop.example/g00927/laws.FnExactRestsOf", spec := "fnExactRestsOf", apart := false }
def FnExactRestsOfSaid : Prop := fnExactRestsOfRow.holds Try.pinned (OpenSpec.ofChange fnExactRestsOfSpec)

/-- ITS FALSE NEIGHBOUR: 'it returns false'. Refute it at one input. -/
def fnExactRestsOfWrong : ChangeSpec := { name := "fnExactRestsOf", fn := fun _ => fun
  | [d1, d2] => { results := [.lit (.bool false)], args := [d1, d2] }
  | _ => none }
def FnExactRestsOfWrongFalsely : Prop := fnExactRestsOfRow.holds Try.pinned (OpenSpec.ofChange fnExactRestsOfWrong)

/-- 'laws.FnExactHandThrows': WHATEVER THE INPUT: true; the input reads as it did. -/
def fnExactHandThrowsSpec : ChangeSpec := { name := "fnExactHandThrows", fn := fun _ => fun
  | [d1, d2] => { results := [.lit (.bool true)], args := [d1, d2] }
  | _ => none }
def fnExactHandThrowsRow : OpenClaim := { program := "ytfcdkdodhhlmmaa", sum := "a4a769810e85ccc1c693d477c0af3681c24c07c8b14f989a96c8bed711ab9b9b", func := "loop.example/g00927/laws.FnExactHandThrows", spec := "fnExactHandThrows", apart := false }
def FnExactHandThrowsSaid : Prop := fnExactHandThrowsRow.holds Try.pinned (OpenSpec.ofChange fnExactHandThrowsSpec)

/-- ITS FALSE NEIGHBOUR: 'it returns false'. Refute it at one input. -/
def fnExactHandThrowsWrong : ChangeSpec := { name := "fnExactHandThrows", fn := fun _ => fun
  | [d1, d2] => { results := [.lit (.bool false)], args := [d1, d2] }
  | _ => none }
def FnExactHandThrowsWrongFalsely : Prop := fnExactHandThrowsRow.holds Try.pinned (OpenSpec.ofChange fnExactHandThrowsWrong)

/-- 'laws.FnExactIsAmbidextrous': WHATEVER THE INPUT: true; the input reads as it did. -/
def fnExactIsAmbidextrousSpec : ChangeSpec := { name := "fnExactIsAmbidextrous", fn := fun _ => fun
  | [d1, d2] => { results := [.lit (.bool true)], args := [d1, d2] }
  | _ => none }
def fnExactIsAmbidextrousRow : OpenClaim := { program := "ytfcdkdodhhlmmaa", sum := "a4a769810e85ccc1c693d477c0af3681c24c07c8b14f989a96c8bed711ab9b9b", func := "loop.example/g00927/laws.FnExactIsAmbidextrous", spec := "fnExactIsAmbidextrous", apart := false }
def FnExactIsAmbidextrousSaid : Prop := fnExactIsAmbidextrousRow.holds Try.pinned (OpenSpec.ofChange fnExactIsAmbidextrousSpec)

/-- ITS FALSE NEIGHBOUR: 'it returns false'. Refute it at one input. -/
def fnExactIsAmbidextrousWrong : ChangeSpec := { name := "fnExactIsAmbidextrous", fn := fun _ => fun
  | [d1, d2] => { results := [.lit (.bool false)], args := [d1, d2] }
  | _ => none }
def FnExactIsAmbidextrousWrongFalsely : Prop := fnExactIsAmbidextrousRow.holds Try.pinned (OpenSpec.ofChange fnExactIsAmbidextrousWrong)

/- THE SECOND FORM. 'bulk': how many values and letters a reading holds, each counted each time it is reached (what is shared counts as often as it is met; a slice's spare places count too). A statement '..UptoSaid' is the law's where the arguments, and the package variables that the reading takes, are together of bulk at most 1048576: NARROWER than '..Said'. Prove '..Said' where nothing that the law and all that it calls make is longer than what came in: it says more and counts as full. Else prove '..UptoSaid'. A law counts once. -/
mutual
def uptoBulk {H : Type} : DataW H → Nat
  | .lit (.string bytes) => bytes.length + 1
  | .lit _ => 1
  | .nil => 1
  | .ptr d => uptoBulk d + 1
  | .slice elems spare => uptoBulkAll elems + uptoBulkAll spare + 1
  | .agg parts => uptoBulkAll parts + 1
  | .iface _ d => uptoBulk d + 1
  | .map entries => uptoBulkEntries entries + 1
  | .held _ => 1
def uptoBulkAll {H : Type} : List (DataW H) → Nat
  | [] => 0
  | d :: r => uptoBulk d + uptoBulkAll r
def uptoBulkEntries {H : Type} : List (Lit × DataW H) → Nat
  | [] => 0
  | x :: r => uptoBulkEntry x + uptoBulkEntries r
def uptoBulkEntry {H : Type} : Lit × DataW H → Nat
  | (.string bytes, d) => bytes.length + uptoBulk d + 1
  | (_, d) => uptoBulk d + 1
 end
def uptoSmall : (H : Type) → List (DataW H) → Bool := fun _ ds => decide (uptoBulkAll ds ≤ 1048576)
def OpenSpec.upto (s : _root_.Go.ChangeSpec) : _root_.Go.OpenSpec := { _root_.Go.OpenSpec.ofChange s with cond := some uptoSmall }

/-- 'laws.FnExactThrownProps', WHERE WHAT IT READS IS OF BULK AT MOST 1048576: true; the input reads as it did. -/
def fnExactThrownPropsUptoRow : OpenClaim := { program := "ytfcdkdodhhlmmaa", sum := "a4a769810e85ccc1c693d477c0af3681c24c07c8b14f989a96c8bed711ab9b9b", func := "loop.example/g00927/laws.FnExactThrownProps", spec := "fnExactThrownProps", apart := false, narrowed := true }
def FnExactThrownPropsUptoSaid : Prop := fnExactThrownPropsUptoRow.holds Try.pinned (OpenSpec.upto fnExactThrownPropsSpec)

/-- 'laws.FnExactPropBeats', WHERE WHAT IT READS IS OF BULK AT MOST 1048576: true; the input reads as it did. -/
def fnExactPropBeatsUptoRow : OpenClaim := { program := "ytfcdkdodhhlmmaa", sum := "a4a769810e85ccc1c693d477c0af3681c24c07c8b14f989a96c8bed711ab9b9b", func := "loop.example/g00927/laws.FnExactPropBeats", spec := "fnExactPropBeats", apart := false, narrowed := true }
def FnExactPropBeatsUptoSaid : Prop := fnExactPropBeatsUptoRow.holds Try.pinned (OpenSpec.upto fnExactPropBeatsSpec)

/-- 'laws.FnExactAirCounts', WHERE WHAT IT READS IS OF BULK AT MOST 1048576: true; the input reads as it did. -/
def fnExactAirCountsUptoRow : OpenClaim := { program := "ytfcdkdodhhlmmaa", sum := "a4a769810e85ccc1c693d477c0af3681c24c07c8b14f989a96c8bed711ab9b9b", func := "loop.example/g00927/laws.FnExactAirCounts", spec := "fnExactAirCounts", apart := false, narrowed := true }
def FnExactAirCountsUptoSaid : Prop := fnExactAirCountsUptoRow.holds Try.pinned (OpenSpec.upto fnExactAirCountsSpec)

/-- 'laws.FnExactCrossingsOf', WHERE WHAT IT READS IS OF BULK AT MOST 1048576: true; the input reads as it did. -/
def fnExactCrossingsOfUptoRow : OpenClaim := { program := "ytfcdkdodhhlmmaa", sum := "a4a769810e85ccc1c693d477c0af3681c24c07c8b14f989a96c8bed711ab9b9b", func := "loop.example/g00927/laws.FnExactCrossingsOf", spec := "fnExactCrossingsOf", apart := false, narrowed := true }
def FnExactCrossingsOfUptoSaid : Prop := fnExactCrossingsOfUptoRow.holds Try.pinned (OpenSpec.upto fnExactCrossingsOfSpec)

/-- 'laws.FnExactLoadsOf', WHERE WHAT IT READS IS OF BULK AT MOST 1048576: true; the input reads as it did. -/
def fnExactLoadsOfUptoRow : OpenClaim := { program := "ytfcdkdodhhlmmaa", sum := "a4a769810e85ccc1c693d477c0af3681c24c07c8b14f989a96c8bed711ab9b9b", func := "loop.example/g00927/laws.FnExactLoadsOf", spec := "fnExactLoadsOf", apart := false, narrowed := true }
def FnExactLoadsOfUptoSaid : Prop := fnExactLoadsOfUptoRow.holds Try.pinned (OpenSpec.upto fnExactLoadsOfSpec)

/-- 'laws.FnExactRestsOf', WHERE WHAT IT READS IS OF BULK AT MOST 1048576: true; the input reads as it did. -/
def fnExactRestsOfUptoRow : OpenClaim := { program := "ytfcdkdodhhlmmaa", sum := "a4a769810e85ccc1c693d477c0af3681c24c07c8b14f989a96c8bed711ab9b9b", func := "loop.example/g00927/laws.FnExactRestsOf", spec := "fnExactRestsOf", apart := false, narrowed := true }
def FnExactRestsOfUptoSaid : Prop := fnExactRestsOfUptoRow.holds Try.pinned (OpenSpec.upto fnExactRestsOfSpec)

/-- 'laws.FnExactHandThrows', WHERE WHAT IT READS IS OF BULK AT MOST 1048576: true; the input reads as it did. -/
def fnExactHandThrowsUptoRow : OpenClaim := { program := "ytfcdkdodhhlmmaa", sum := "a4a769810e85ccc1c693d477c0af3681c24c07c8b14f989a96c8bed711ab9b9b", func := "loop.example/g00927/laws.FnExactHandThrows", spec := "fnExactHandThrows", apart := false, narrowed := true }
def FnExactHandThrowsUptoSaid : Prop := fnExactHandThrowsUptoRow.holds Try.pinned (OpenSpec.upto fnExactHandThrowsSpec)

/-- 'laws.FnExactIsAmbidextrous', WHERE WHAT IT READS IS OF BULK AT MOST 1048576: true; the input reads as it did. -/
def fnExactIsAmbidextrousUptoRow : OpenClaim := { program := "ytfcdkdodhhlmmaa", sum := "a4a769810e85ccc1c693d477c0af3681c24c07c8b14f989a96c8bed711ab9b9b", func := "loop.example/g00927/laws.FnExactIsAmbidextrous", spec := "fnExactIsAmbidextrous", apart := false, narrowed := true }
def FnExactIsAmbidextrousUptoSaid : Prop := fnExactIsAmbidextrousUptoRow.holds Try.pinned (OpenSpec.upto fnExactIsAmbidextrousSpec)

end Rows
end Go.Proofs.Ytfcdkdodhhlmmaa

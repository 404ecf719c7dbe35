/-
  No cell of these rows narrows 'for every input' (looked for: loops, veiled, ifaces, maps, wideKeys, modest, calm, conditions, laid).
  DERIVED. THE GIVEN ROWS OF THIS SEAT. 4 by the template 'for every input the law returns true; each argument reads behind the call as it read before'; 0 by the template 'total and deterministic' (their statements: YtignmgeiijccoaaTotals.lean).
  GIVEN WITH THE SEED: the statements are not yours to turn. If you find one false, say at which input.
  Laid BY PROGRAM, IN A SANDBOX (cutbox-rows.mjs): the forced cells as the released guide's own fill.sh prints them over the translation 360a347cb8b495df… (all of the seat's roots in one cut). By AI agents, Wed Nov 11 2026. No macro, syntax, notation, axiom, sorry.
-/
import Derived.Test.YtignmgeiijccoaaChecked
import GoSem.Claim
import GoSem.ClaimJoined
import GoSem.ClaimMapViews
import Derived.JoinedTies
import Derived.KernelRfl
namespace Go.Proofs.Ytignmgeiijccoaa
/- THE CELL 'sum', in the pinned program and in every row, IS THE sha256 OF THE DUMP (.gsa) THAT YtignmgeiijccoaaProg.lean LOADS. Nothing in Lean hashes anything: it is a label: what it is worth is what the hold of that sum in a sandbox is worth. -/
noncomputable def Try.pinned : Pinned := { name := "ytignmgeiijccoaa", sum := "360a347cb8b495df3191f7fdb68f8056cfe8801a796a833b11b7b443c55c4fd5", checked := Try.checked }
namespace Rows
def none {H : Type} : Left H := { results := [], args := [] }

/-- 'laws.FnExactSameRoutine': WHATEVER THE INPUT: true; the input reads as it did. -/
def fnExactSameRoutineSpec : ChangeSpec := { name := "fnExactSameRoutine", fn := fun _ => fun
  | [d1, d2] => { results := [.lit (.bool true)], args := [d1, d2] }
  | _ => none }
def fnExactSameRoutineRow : OpenClaim := { program := "ytignmgeiijccoaa", sum := "360a347cb8b495df3191f7fdb68f8056cfe8801a796a833b11b7b443c55c4fd5", func := "loop.example/g00927/laws.FnExactSameRoutine", spec := "fnExactSameRoutine", apart := false }
def FnExactSameRoutineSaid : Prop := fnExactSameRoutineRow.holds Try.pinned (OpenSpec.ofChange fnExactSameRoutineSpec)

/-- ITS FALSE NEIGHBOUR: 'it returns false'. Refute it at one input. -/
def fnExactSameRoutineWrong : ChangeSpec := { name := "fnExactSameRoutine", fn := fun _ => fun
  | [d1, d2] => { results := [.lit (.bool false)], args := [d1, d2] }
  | _ => none }
def FnExactSameRoutineWrongFalsely : Prop := fnExactSameRoutineRow.holds Try.pinned (OpenSpec.ofChange fnExactSameRoutineWrong)

/-- 'laws.FnExactValidRoutine': WHATEVER THE INPUT: true; the input reads as it did. -/
def fnExactValidRoutineSpec : ChangeSpec := { name := "fnExactValidRoutine", fn := fun _ => fun
  | [d] => { results := [.lit (.bool true)], args := [d] }
  | _ => none }
def fnExactValidRoutineRow : OpenClaim := { program := "ytignmgeiijccoaa", sum := "360a347cb8b495df3191f7fdb68f8056cfe8801a796a833b11b7b443c55c4fd5", func := "loop.example/g00927/laws.FnExactValidRoutine", spec := "fnExactValidRoutine", apart := false }
def FnExactValidRoutineSaid : Prop := fnExactValidRoutineRow.holds Try.pinned (OpenSpec.ofChange fnExactValidRoutineSpec)

/-- ITS FALSE NEIGHBOUR: 'it returns false'. Refute it at one input. -/
def fnExactValidRoutineWrong : ChangeSpec := { name := "fnExactValidRoutine", fn := fun _ => fun
  | [d] => { results := [.lit (.bool false)], args := [d] }
  | _ => none }
def FnExactValidRoutineWrongFalsely : Prop := fnExactValidRoutineRow.holds Try.pinned (OpenSpec.ofChange fnExactValidRoutineWrong)

/-- 'laws.FnExactTurnRoutine': WHATEVER THE INPUT: true; the input reads as it did. -/
def fnExactTurnRoutineSpec : ChangeSpec := { name := "fnExactTurnRoutine", fn := fun _ => fun
  | [d] => { results := [.lit (.bool true)], args := [d] }
  | _ => none }
def fnExactTurnRoutineRow : OpenClaim := { program := "ytignmgeiijccoaa", sum := "360a347cb8b495df3191f7fdb68f8056cfe8801a796a833b11b7b443c55c4fd5", func := "loop.example/g00927/laws.FnExactTurnRoutine", spec := "fnExactTurnRoutine", apart := false }
def FnExactTurnRoutineSaid : Prop := fnExactTurnRoutineRow.holds Try.pinned (OpenSpec.ofChange fnExactTurnRoutineSpec)

/-- ITS FALSE NEIGHBOUR: 'it returns false'. Refute it at one input. -/
def fnExactTurnRoutineWrong : ChangeSpec := { name := "fnExactTurnRoutine", fn := fun _ => fun
  | [d] => { results := [.lit (.bool false)], args := [d] }
  | _ => none }
def FnExactTurnRoutineWrongFalsely : Prop := fnExactTurnRoutineRow.holds Try.pinned (OpenSpec.ofChange fnExactTurnRoutineWrong)

/-- 'laws.FnExactAppendPart': WHATEVER THE INPUT: true; the input reads as it did. -/
def fnExactAppendPartSpec : ChangeSpec := { name := "fnExactAppendPart", fn := fun _ => fun
  | [d1, d2] => { results := [.lit (.bool true)], args := [d1, d2] }
  | _ => none }
def fnExactAppendPartRow : OpenClaim := { program := "ytignmgeiijccoaa", sum := "360a347cb8b495df3191f7fdb68f8056cfe8801a796a833b11b7b443c55c4fd5", func := "loop.example/g00927/laws.FnExactAppendPart", spec := "fnExactAppendPart", apart := false }
def FnExactAppendPartSaid : Prop := fnExactAppendPartRow.holds Try.pinned (OpenSpec.ofChange fnExactAppendPartSpec)

/-- ITS FALSE NEIGHBOUR: 'it returns false'. Refute it at one input. -/
def fnExactAppendPartWrong : ChangeSpec := { name := "fnExactAppendPart", fn := fun _ => fun
  | [d1, d2] => { results := [.lit (.bool false)], args := [d1, d2] }
  | _ => none }
def FnExactAppendPartWrongFalsely : Prop := fnExactAppendPartRow.holds Try.pinned (OpenSpec.ofChange fnExactAppendPartWrong)

/- THE SECOND FORM. 'bulk': how many values and letters a reading holds, each counted each time it is reached (what is shared counts as often as it is met; a slice's spare places count too). A statement '..UptoSaid' is the law's where the arguments, and the package variables that the reading takes, are together of bulk at most 1048576: NARROWER than '..Said'. Prove '..Said' where nothing that the law and all that it calls make is longer than what came in: it says more and counts as full. Else prove '..UptoSaid'. A law counts once. -/
mutual
def uptoBulk {H : Type} : DataW H → Nat
  | .lit (.string bytes) => bytes.length + 1
  | .lit _ => 1
  | .nil => 1
  | .ptr d => uptoBulk d + 1
  | .slice elems spare => uptoBulkAll elems + uptoBulkAll spare + 1
  | .agg parts => uptoBulkAll parts + 1
  | .iface _ d => uptoBulk d + 1
  | .map entries => uptoBulkEntries entries + 1
  | .held _ => 1
def uptoBulkAll {H : Type} : List (DataW H) → Nat
  | [] => 0
  | d :: r => uptoBulk d + uptoBulkAll r
def uptoBulkEntries {H : Type} : List (Lit × DataW H) → Nat
  | [] => 0
  | x :: r => uptoBulkEntry x + uptoBulkEntries r
def uptoBulkEntry {H : Type} : Lit × DataW H → Nat
  | (.string bytes, d) => bytes.length + uptoBulk d + 1
  | (_, d) => uptoBulk d + 1
 end
def uptoSmall : (H : Type) → List (DataW H) → Bool := fun _ ds => decide (uptoBulkAll ds ≤ 1048576)
def OpenSpec.upto (s : _root_.Go.ChangeSpec) : _root_.Go.OpenSpec := { _root_.Go.OpenSpec.ofChange s with cond := some uptoSmall }

/-- 'laws.FnExactSameRoutine', WHERE WHAT IT READS IS OF BULK AT MOST 1048576: true; the input reads as it did. -/
def fnExactSameRoutineUptoRow : OpenClaim := { program := "ytignmgeiijccoaa", sum := "360a347cb8b495df3191f7fdb68f8056cfe8801a796a833b11b7b443c55c4fd5", func := "loop.example/g00927/laws.FnExactSameRoutine", spec := "fnExactSameRoutine", apart := false, narrowed := true }
def FnExactSameRoutineUptoSaid : Prop := fnExactSameRoutineUptoRow.holds Try.pinned (OpenSpec.upto fnExactSameRoutineSpec)

/-- 'laws.FnExactValidRoutine', WHERE WHAT IT READS IS OF BULK AT MOST 1048576: true; the input reads as it did. -/
def fnExactValidRoutineUptoRow : OpenClaim := { program := "ytignmgeiijccoaa", sum := "360a347cb8b495df3191f7fdb68f8056cfe8801a796a833b11b7b443c55c4fd5", func := "loop.example/g00927/laws.FnExactValidRoutine", spec := "fnExactValidRoutine", apart := false, narrowed := true }
def FnExactValidRoutineUptoSaid : Prop := fnExactValidRoutineUptoRow.holds Try.pinned (OpenSpec.upto fnExactValidRoutineSpec)

/-- 'laws.FnExactTurnRoutine', WHERE WHAT IT READS IS OF BULK AT MOST 1048576: true; the input reads as it did. -/
def fnExactTurnRoutineUptoRow : OpenClaim := { program := "ytignmgeiijccoaa", sum := "360a347cb8b495df3191f7fdb68f8056cfe8801a796a833b11b7b443c55c4fd5", func := "loop.example/g00927/laws.FnExactTurnRoutine", spec := "fnExactTurnRoutine", apart := false, narrowed := true }
def FnExactTurnRoutineUptoSaid : Prop := fnExactTurnRoutineUptoRow.holds Try.pinned (OpenSpec.upto fnExactTurnRoutineSpec)

/-- 'laws.FnExactAppendPart', WHERE WHAT IT READS IS OF BULK AT MOST 1048576: true; the input reads as it did. -/
def fnExactAppendPartUptoRow : OpenClaim := { program := "ytignmgeiijccoaa", sum := "360a347cb8b495df3191f7fdb68f8056cfe8801a796a833b11b7b443c55c4fd5", func := "loop.example/g00927/laws.FnExactAppendPart", spec := "fnExactAppendPart", apart := false, narrowed := true }
def FnExactAppendPartUptoSaid : Prop := fnExactAppendPartUptoRow.holds Try.pinned (OpenSpec.upto fnExactAppendPartSpec)

end Rows
end Go.Proofs.Ytignmgeiijccoaa

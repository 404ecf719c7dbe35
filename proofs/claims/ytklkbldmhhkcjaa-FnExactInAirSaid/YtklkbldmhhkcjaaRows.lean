/-
  No cell of these rows narrows 'for every input' (looked for: loops, veiled, ifaces, maps, wideKeys, modest, calm, conditions, laid).
  DERIVED. THE GIVEN ROWS OF THIS SEAT. 4 by the template 'for every input the law returns true; each argument reads behind the call as it read before'; 0 by the template 'total and deterministic' (their statements: YtklkbldmhhkcjaaTotals.lean).
  GIVEN WITH THE SEED: the statements are not yours to turn. If you find one false, say at which input.
  Laid BY PROGRAM, IN A SANDBOX (cutbox-rows.mjs): the forced cells as the released guide's own fill.sh prints them over the translation 1ab6d83f676332ed… (all of the seat's roots in one cut). By AI agents, Wed Nov 11 2026. No macro, syntax, notation, axiom, sorry.
-/
import Derived.Test.YtklkbldmhhkcjaaChecked
import GoSem.Claim
import GoSem.ClaimJoined
import GoSem.ClaimMapViews
import Derived.JoinedTies
import Derived.KernelRfl
namespace Go.Proofs.Ytklkbldmhhkcjaa
/- THE CELL 'sum', in the pinned program and in every row, IS THE sha256 OF THE DUMP (.gsa) THAT YtklkbldmhhkcjaaProg.lean LOADS. Nothing in Lean hashes anything: it is a label: what it is worth is what the hold of that sum in a sandbox is worth. -/
noncomputable def Try.pinned : Pinned := { name := "ytklkbldmhhkcjaa", sum := "1ab6d83f676332edcfa0fb2a421a60c5fd9c9e7b7175f25f00d0a74b59681433", checked := Try.checked }
namespace Rows
def none {H : Type} : Left H := { results := [], args := [] }

/-- 'laws.FnExactInAir': WHATEVER THE INPUT: true; the input reads as it did. -/
def fnExactInAirSpec : ChangeSpec := { name := "fnExactInAir", fn := fun _ => fun
  | [d1, d2, d3] => { results := [.lit (.bool true)], args := [d1, d2, d3] }
  | _ => none }
def fnExactInAirRow : OpenClaim := { program := "ytklkbldmhhkcjaa", sum := "1ab6d83f676332edcfa0fb2a421a60c5fd9c9e7b7175f25f00d0a74b59681433", func := "loop.example/g00927/laws.FnExactInAir", spec := "fnExactInAir", apart := false }
def FnExactInAirSaid : Prop := fnExactInAirRow.holds Try.pinned (OpenSpec.ofChange fnExactInAirSpec)

/-- ITS FALSE NEIGHBOUR: 'it returns false'. Refute it at one input. -/
def fnExactInAirWrong : ChangeSpec := { name := "fnExactInAir", fn := fun _ => fun
  | [d1, d2, d3] => { results := [.lit (.bool false)], args := [d1, d2, d3] }
  | _ => none }
def FnExactInAirWrongFalsely : Prop := fnExactInAirRow.holds Try.pinned (OpenSpec.ofChange fnExactInAirWrong)

/-- 'laws.FnExactFlightTimes': WHATEVER THE INPUT: true; the input reads as it did. -/
def fnExactFlightTimesSpec : ChangeSpec := { name := "fnExactFlightTimes", fn := fun _ => fun
  | [d1, d2] => { results := [.lit (.bool true)], args := [d1, d2] }
  | _ => none }
def fnExactFlightTimesRow : OpenClaim := { program := "ytklkbldmhhkcjaa", sum := "1ab6d83f676332edcfa0fb2a421a60c5fd9c9e7b7175f25f00d0a74b59681433", func := "loop.example/g00927/laws.FnExactFlightTimes", spec := "fnExactFlightTimes", apart := false }
def FnExactFlightTimesSaid : Prop := fnExactFlightTimesRow.holds Try.pinned (OpenSpec.ofChange fnExactFlightTimesSpec)

/-- ITS FALSE NEIGHBOUR: 'it returns false'. Refute it at one input. -/
def fnExactFlightTimesWrong : ChangeSpec := { name := "fnExactFlightTimes", fn := fun _ => fun
  | [d1, d2] => { results := [.lit (.bool false)], args := [d1, d2] }
  | _ => none }
def FnExactFlightTimesWrongFalsely : Prop := fnExactFlightTimesRow.holds Try.pinned (OpenSpec.ofChange fnExactFlightTimesWrong)

/-- 'laws.FnExactHoldsOf': WHATEVER THE INPUT: true; the input reads as it did. -/
def fnExactHoldsOfSpec : ChangeSpec := { name := "fnExactHoldsOf", fn := fun _ => fun
  | [d1, d2, d3] => { results := [.lit (.bool true)], args := [d1, d2, d3] }
  | _ => none }
def fnExactHoldsOfRow : OpenClaim := { program := "ytklkbldmhhkcjaa", sum := "1ab6d83f676332edcfa0fb2a421a60c5fd9c9e7b7175f25f00d0a74b59681433", func := "loop.example/g00927/laws.FnExactHoldsOf", spec := "fnExactHoldsOf", apart := false }
def FnExactHoldsOfSaid : Prop := fnExactHoldsOfRow.holds Try.pinned (OpenSpec.ofChange fnExactHoldsOfSpec)

/-- ITS FALSE NEIGHBOUR: 'it returns false'. Refute it at one input. -/
def fnExactHoldsOfWrong : ChangeSpec := { name := "fnExactHoldsOf", fn := fun _ => fun
  | [d1, d2, d3] => { results := [.lit (.bool false)], args := [d1, d2, d3] }
  | _ => none }
def FnExactHoldsOfWrongFalsely : Prop := fnExactHoldsOfRow.holds Try.pinned (OpenSpec.ofChange fnExactHoldsOfWrong)

/-- 'laws.FnExactFlightsOf': WHATEVER THE INPUT: true; the input reads as it did. -/
def fnExactFlightsOfSpec : ChangeSpec := { name := "fnExactFlightsOf", fn := fun _ => fun
  | [d1, d2, d3, d4] => { results := [.lit (.bool true)], args := [d1, d2, d3, d4] }
  | _ => none }
def fnExactFlightsOfRow : OpenClaim := { program := "ytklkbldmhhkcjaa", sum := "1ab6d83f676332edcfa0fb2a421a60c5fd9c9e7b7175f25f00d0a74b59681433", func := "loop.example/g00927/laws.FnExactFlightsOf", spec := "fnExactFlightsOf", apart := false }
def FnExactFlightsOfSaid : Prop := fnExactFlightsOfRow.holds Try.pinned (OpenSpec.ofChange fnExactFlightsOfSpec)

/-- ITS FALSE NEIGHBOUR: 'it returns false'. Refute it at one input. -/
def fnExactFlightsOfWrong : ChangeSpec := { name := "fnExactFlightsOf", fn := fun _ => fun
  | [d1, d2, d3, d4] => { results := [.lit (.bool false)], args := [d1, d2, d3, d4] }
  | _ => none }
def FnExactFlightsOfWrongFalsely : Prop := fnExactFlightsOfRow.holds Try.pinned (OpenSpec.ofChange fnExactFlightsOfWrong)

/- THE SECOND FORM. 'bulk': how many values and letters a reading holds, each counted each time it is reached (what is shared counts as often as it is met; a slice's spare places count too). A statement '..UptoSaid' is the law's where the arguments, and the package variables that the reading takes, are together of bulk at most 1048576: NARROWER than '..Said'. Prove '..Said' where nothing that the law and all that it calls make is longer than what came in: it says more and counts as full. Else prove '..UptoSaid'. A law counts once. -/
mutual
def uptoBulk {H : Type} : DataW H → Nat
  | .lit (.string bytes) => bytes.length + 1
  | .lit _ => 1
  | .nil => 1
  | .ptr d => uptoBulk d + 1
  | .slice elems spare => uptoBulkAll elems + uptoBulkAll spare + 1
  | .agg parts => uptoBulkAll parts + 1
  | .iface _ d => uptoBulk d + 1
  | .map entries => uptoBulkEntries entries + 1
  | .held _ => 1
def uptoBulkAll {H : Type} : List (DataW H) → Nat
  | [] => 0
  | d :: r => uptoBulk d + uptoBulkAll r
def uptoBulkEntries {H : Type} : List (Lit × DataW H) → Nat
  | [] => 0
  | x :: r => uptoBulkEntry x + uptoBulkEntries r
def uptoBulkEntry {H : Type} : Lit × DataW H → Nat
  | (.string bytes, d) => bytes.length + uptoBulk d + 1
  | (_, d) => uptoBulk d + 1
 end
def uptoSmall : (H : Type) → List (DataW H) → Bool := fun _ ds => decide (uptoBulkAll ds ≤ 1048576)
def OpenSpec.upto (s : _root_.Go.ChangeSpec) : _root_.Go.OpenSpec := { _root_.Go.OpenSpec.ofChange s with cond := some uptoSmall }

/-- 'laws.FnExactInAir', WHERE WHAT IT READS IS OF BULK AT MOST 1048576: true; the input reads as it did. -/
def fnExactInAirUptoRow : OpenClaim := { program := "ytklkbldmhhkcjaa", sum := "1ab6d83f676332edcfa0fb2a421a60c5fd9c9e7b7175f25f00d0a74b59681433", func := "loop.example/g00927/laws.FnExactInAir", spec := "fnExactInAir", apart := false, narrowed := true }
def FnExactInAirUptoSaid : Prop := fnExactInAirUptoRow.holds Try.pinned (OpenSpec.upto fnExactInAirSpec)

/-- 'laws.FnExactFlightTimes', WHERE WHAT IT READS IS OF BULK AT MOST 1048576: true; the input reads as it did. -/
def fnExactFlightTimesUptoRow : OpenClaim := { program := "ytklkbldmhhkcjaa", sum := "1ab6d83f676332edcfa0fb2a421a60c5fd9c9e7b7175f25f00d0a74b59681433", func := "loop.example/g00927/laws.FnExactFlightTimes", spec := "fnExactFlightTimes", apart := false, narrowed := true }
def FnExactFlightTimesUptoSaid : Prop := fnExactFlightTimesUptoRow.holds Try.pinned (OpenSpec.upto fnExactFlightTimesSpec)

/-- 'laws.FnExactHoldsOf', WHERE WHAT IT READS IS OF BULK AT MOST 1048576: true; the input reads as it did. -/
def fnExactHoldsOfUptoRow : OpenClaim := { program := "ytklkbldmhhkcjaa", sum := "1ab6d83f676332edcfa0fb2a421a60c5fd9c9e7b7175f25f00d0a74b59681433", func := "loop.example/g00927/laws.FnExactHoldsOf", spec := "fnExactHoldsOf", apart := false, narrowed := true }
def FnExactHoldsOfUptoSaid : Prop := fnExactHoldsOfUptoRow.holds Try.pinned (OpenSpec.upto fnExactHoldsOfSpec)

/-- 'laws.FnExactFlightsOf', WHERE WHAT IT READS IS OF BULK AT MOST 1048576: true; the input reads as it did. -/
def fnExactFlightsOfUptoRow : OpenClaim := { program := "ytklkbldmhhkcjaa", sum := "1ab6d83f676332edcfa0fb2a421a60c5fd9c9e7b7175f25f00d0a74b59681433", func := "loop.example/g00927/laws.FnExactFlightsOf", spec := "fnExactFlightsOf", apart := false, narrowed := true }
def FnExactFlightsOfUptoSaid : Prop := fnExactFlightsOfUptoRow.holds Try.pinned (OpenSpec.upto fnExactFlightsOfSpec)

end Rows
end Go.Proofs.Ytklkbldmhhkcjaa

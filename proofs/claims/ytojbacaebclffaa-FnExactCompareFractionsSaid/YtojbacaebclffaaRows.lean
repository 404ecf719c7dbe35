/-
  No cell of these rows narrows 'for every input' (looked for: loops, veiled, ifaces, maps, wideKeys, modest, calm, conditions, laid).
  DERIVED. THE GIVEN ROWS OF THIS SEAT. 13 by the template 'for every input the law returns true; each argument reads behind the call as it read before'; 0 by the template 'total and deterministic' (their statements: YtojbacaebclffaaTotals.lean).
  GIVEN WITH THE SEED: the statements are not yours to turn. If you find one false, say at which input.
  Laid BY PROGRAM, IN A SANDBOX (cutbox-rows.mjs): the forced cells as the released guide's own fill.sh prints them over the translation ae67e3379f202c9f… (all of the seat's roots in one cut). By AI agents, Wed Nov 11 2026. No macro, syntax, notation, axiom, sorry.
-/
import Derived.Test.YtojbacaebclffaaChecked
import GoSem.Claim
import GoSem.ClaimJoined
import GoSem.ClaimMapViews
import Derived.JoinedTies
import Derived.KernelRfl
namespace Go.Proofs.Ytojbacaebclffaa
/- THE CELL 'sum', in the pinned program and in every row, IS THE sha256 OF THE DUMP (.gsa) THAT YtojbacaebclffaaProg.lean LOADS. Nothing in Lean hashes anything: it is a label: what it is worth is what the hold of that sum in a sandbox is worth. -/
noncomputable def Try.pinned : Pinned := { name := "ytojbacaebclffaa", sum := "ae67e3379f202c9f86d675e09f64a9ac6db4c36de33a983ea906b8eee61aefef", checked := Try.checked }
namespace Rows
def none {H : Type} : Left H := { results := [], args := [] }

/-- 'laws.FnExactHandOf': WHATEVER THE INPUT: true; the input reads as it did. -/
def fnExactHandOfSpec : ChangeSpec := { name := "fnExactHandOf", fn := fun _ => fun
  | [d] => { results := [.lit (.bool true)], args := [d] }
  | _ => none }
def fnExactHandOfRow : OpenClaim := { program := "ytojbacaebclffaa", sum := "ae67e3379f202c9f86d675e09f64a9ac6db4c36de33a983ea906b8eee61aefef", func := "loop.example/g00927/laws.FnExactHandOf", spec := "fnExactHandOf", apart := false }
def FnExactHandOfSaid : Prop := fnExactHandOfRow.holds Try.pinned (OpenSpec.ofChange fnExactHandOfSpec)

/-- ITS FALSE NEIGHBOUR: 'it returns false'. Refute it at one input. -/
def fnExactHandOfWrong : ChangeSpec := { name := "fnExactHandOf", fn := fun _ => fun
  | [d] => { results := [.lit (.bool false)], args := [d] }
  | _ => none }
def FnExactHandOfWrongFalsely : Prop := fnExactHandOfRow.holds Try.pinned (OpenSpec.ofChange fnExactHandOfWrong)

/-- 'laws.FnExactValidTiming': WHATEVER THE INPUT: true; the input reads as it did. -/
def fnExactValidTimingSpec : ChangeSpec := { name := "fnExactValidTiming", fn := fun _ => fun
  | [d] => { results := [.lit (.bool true)], args := [d] }
  | _ => none }
def fnExactValidTimingRow : OpenClaim := { program := "ytojbacaebclffaa", sum := "ae67e3379f202c9f86d675e09f64a9ac6db4c36de33a983ea906b8eee61aefef", func := "loop.example/g00927/laws.FnExactValidTiming", spec := "fnExactValidTiming", apart := false }
def FnExactValidTimingSaid : Prop := fnExactValidTimingRow.holds Try.pinned (OpenSpec.ofChange fnExactValidTimingSpec)

/-- ITS FALSE NEIGHBOUR: 'it returns false'. Refute it at one input. -/
def fnExactValidTimingWrong : ChangeSpec := { name := "fnExactValidTiming", fn := fun _ => fun
  | [d] => { results := [.lit (.bool false)], args := [d] }
  | _ => none }
def FnExactValidTimingWrongFalsely : Prop := fnExactValidTimingRow.holds Try.pinned (OpenSpec.ofChange fnExactValidTimingWrong)

/-- 'laws.FnExactValidFlight': WHATEVER THE INPUT: true; the input reads as it did. -/
def fnExactValidFlightSpec : ChangeSpec := { name := "fnExactValidFlight", fn := fun _ => fun
  | [d] => { results := [.lit (.bool true)], args := [d] }
  | _ => none }
def fnExactValidFlightRow : OpenClaim := { program := "ytojbacaebclffaa", sum := "ae67e3379f202c9f86d675e09f64a9ac6db4c36de33a983ea906b8eee61aefef", func := "loop.example/g00927/laws.FnExactValidFlight", spec := "fnExactValidFlight", apart := false }
def FnExactValidFlightSaid : Prop := fnExactValidFlightRow.holds Try.pinned (OpenSpec.ofChange fnExactValidFlightSpec)

/-- ITS FALSE NEIGHBOUR: 'it returns false'. Refute it at one input. -/
def fnExactValidFlightWrong : ChangeSpec := { name := "fnExactValidFlight", fn := fun _ => fun
  | [d] => { results := [.lit (.bool false)], args := [d] }
  | _ => none }
def FnExactValidFlightWrongFalsely : Prop := fnExactValidFlightRow.holds Try.pinned (OpenSpec.ofChange fnExactValidFlightWrong)

/-- 'laws.FnExactCompareFractions': WHATEVER THE INPUT: true; the input reads as it did. -/
def fnExactCompareFractionsSpec : ChangeSpec := { name := "fnExactCompareFractions", fn := fun _ => fun
  | [d1, d2] => { results := [.lit (.bool true)], args := [d1, d2] }
  | _ => none }
def fnExactCompareFractionsRow : OpenClaim := { program := "ytojbacaebclffaa", sum := "ae67e3379f202c9f86d675e09f64a9ac6db4c36de33a983ea906b8eee61aefef", func := "loop.example/g00927/laws.FnExactCompareFractions", spec := "fnExactCompareFractions", apart := false }
def FnExactCompareFractionsSaid : Prop := fnExactCompareFractionsRow.holds Try.pinned (OpenSpec.ofChange fnExactCompareFractionsSpec)

/-- ITS FALSE NEIGHBOUR: 'it returns false'. Refute it at one input. -/
def fnExactCompareFractionsWrong : ChangeSpec := { name := "fnExactCompareFractions", fn := fun _ => fun
  | [d1, d2] => { results := [.lit (.bool false)], args := [d1, d2] }
  | _ => none }
def FnExactCompareFractionsWrongFalsely : Prop := fnExactCompareFractionsRow.holds Try.pinned (OpenSpec.ofChange fnExactCompareFractionsWrong)

/-- 'laws.FnExactBackFlight': WHATEVER THE INPUT: true; the input reads as it did. -/
def fnExactBackFlightSpec : ChangeSpec := { name := "fnExactBackFlight", fn := fun _ => fun
  | [d] => { results := [.lit (.bool true)], args := [d] }
  | _ => none }
def fnExactBackFlightRow : OpenClaim := { program := "ytojbacaebclffaa", sum := "ae67e3379f202c9f86d675e09f64a9ac6db4c36de33a983ea906b8eee61aefef", func := "loop.example/g00927/laws.FnExactBackFlight", spec := "fnExactBackFlight", apart := false }
def FnExactBackFlightSaid : Prop := fnExactBackFlightRow.holds Try.pinned (OpenSpec.ofChange fnExactBackFlightSpec)

/-- ITS FALSE NEIGHBOUR: 'it returns false'. Refute it at one input. -/
def fnExactBackFlightWrong : ChangeSpec := { name := "fnExactBackFlight", fn := fun _ => fun
  | [d] => { results := [.lit (.bool false)], args := [d] }
  | _ => none }
def FnExactBackFlightWrongFalsely : Prop := fnExactBackFlightRow.holds Try.pinned (OpenSpec.ofChange fnExactBackFlightWrong)

/-- 'laws.FnExactHeightAt': WHATEVER THE INPUT: true; the input reads as it did. -/
def fnExactHeightAtSpec : ChangeSpec := { name := "fnExactHeightAt", fn := fun _ => fun
  | [d1, d2] => { results := [.lit (.bool true)], args := [d1, d2] }
  | _ => none }
def fnExactHeightAtRow : OpenClaim := { program := "ytojbacaebclffaa", sum := "ae67e3379f202c9f86d675e09f64a9ac6db4c36de33a983ea906b8eee61aefef", func := "loop.example/g00927/laws.FnExactHeightAt", spec := "fnExactHeightAt", apart := false }
def FnExactHeightAtSaid : Prop := fnExactHeightAtRow.holds Try.pinned (OpenSpec.ofChange fnExactHeightAtSpec)

/-- ITS FALSE NEIGHBOUR: 'it returns false'. Refute it at one input. -/
def fnExactHeightAtWrong : ChangeSpec := { name := "fnExactHeightAt", fn := fun _ => fun
  | [d1, d2] => { results := [.lit (.bool false)], args := [d1, d2] }
  | _ => none }
def FnExactHeightAtWrongFalsely : Prop := fnExactHeightAtRow.holds Try.pinned (OpenSpec.ofChange fnExactHeightAtWrong)

/-- 'laws.FnExactShiftFlight': WHATEVER THE INPUT: true; the input reads as it did. -/
def fnExactShiftFlightSpec : ChangeSpec := { name := "fnExactShiftFlight", fn := fun _ => fun
  | [d1, d2, d3] => { results := [.lit (.bool true)], args := [d1, d2, d3] }
  | _ => none }
def fnExactShiftFlightRow : OpenClaim := { program := "ytojbacaebclffaa", sum := "ae67e3379f202c9f86d675e09f64a9ac6db4c36de33a983ea906b8eee61aefef", func := "loop.example/g00927/laws.FnExactShiftFlight", spec := "fnExactShiftFlight", apart := false }
def FnExactShiftFlightSaid : Prop := fnExactShiftFlightRow.holds Try.pinned (OpenSpec.ofChange fnExactShiftFlightSpec)

/-- ITS FALSE NEIGHBOUR: 'it returns false'. Refute it at one input. -/
def fnExactShiftFlightWrong : ChangeSpec := { name := "fnExactShiftFlight", fn := fun _ => fun
  | [d1, d2, d3] => { results := [.lit (.bool false)], args := [d1, d2, d3] }
  | _ => none }
def FnExactShiftFlightWrongFalsely : Prop := fnExactShiftFlightRow.holds Try.pinned (OpenSpec.ofChange fnExactShiftFlightWrong)

/-- 'laws.FnExactCommonTicks': WHATEVER THE INPUT: true; the input reads as it did. -/
def fnExactCommonTicksSpec : ChangeSpec := { name := "fnExactCommonTicks", fn := fun _ => fun
  | [d1, d2] => { results := [.lit (.bool true)], args := [d1, d2] }
  | _ => none }
def fnExactCommonTicksRow : OpenClaim := { program := "ytojbacaebclffaa", sum := "ae67e3379f202c9f86d675e09f64a9ac6db4c36de33a983ea906b8eee61aefef", func := "loop.example/g00927/laws.FnExactCommonTicks", spec := "fnExactCommonTicks", apart := false }
def FnExactCommonTicksSaid : Prop := fnExactCommonTicksRow.holds Try.pinned (OpenSpec.ofChange fnExactCommonTicksSpec)

/-- ITS FALSE NEIGHBOUR: 'it returns false'. Refute it at one input. -/
def fnExactCommonTicksWrong : ChangeSpec := { name := "fnExactCommonTicks", fn := fun _ => fun
  | [d1, d2] => { results := [.lit (.bool false)], args := [d1, d2] }
  | _ => none }
def FnExactCommonTicksWrongFalsely : Prop := fnExactCommonTicksRow.holds Try.pinned (OpenSpec.ofChange fnExactCommonTicksWrong)

/-- 'laws.FnExactMakeFraction': WHATEVER THE INPUT: true; the input reads as it did. -/
def fnExactMakeFractionSpec : ChangeSpec := { name := "fnExactMakeFraction", fn := fun _ => fun
  | [d1, d2] => { results := [.lit (.bool true)], args := [d1, d2] }
  | _ => none }
def fnExactMakeFractionRow : OpenClaim := { program := "ytojbacaebclffaa", sum := "ae67e3379f202c9f86d675e09f64a9ac6db4c36de33a983ea906b8eee61aefef", func := "loop.example/g00927/laws.FnExactMakeFraction", spec := "fnExactMakeFraction", apart := false }
def FnExactMakeFractionSaid : Prop := fnExactMakeFractionRow.holds Try.pinned (OpenSpec.ofChange fnExactMakeFractionSpec)

/-- ITS FALSE NEIGHBOUR: 'it returns false'. Refute it at one input. -/
def fnExactMakeFractionWrong : ChangeSpec := { name := "fnExactMakeFraction", fn := fun _ => fun
  | [d1, d2] => { results := [.lit (.bool false)], args := [d1, d2] }
  | _ => none }
def FnExactMakeFractionWrongFalsely : Prop := fnExactMakeFractionRow.holds Try.pinned (OpenSpec.ofChange fnExactMakeFractionWrong)

/-- 'laws.FnExactTopOf': WHATEVER THE INPUT: true; the input reads as it did. -/
def fnExactTopOfSpec : ChangeSpec := { name := "fnExactTopOf", fn := fun _ => fun
  | [d] => { results := [.lit (.bool true)], args := [d] }
  | _ => none }
def fnExactTopOfRow : OpenClaim := { program := "ytojbacaebclffaa", sum := "ae67e3379f202c9f86d675e09f64a9ac6db4c36de33a983ea906b8eee61aefef", func := "loop.example/g00927/laws.FnExactTopOf", spec := "fnExactTopOf", apart := false }
def FnExactTopOfSaid : Prop := fnExactTopOfRow.holds Try.pinned (OpenSpec.ofChange fnExactTopOfSpec)

/-- ITS FALSE NEIGHBOUR: 'it returns false'. Refute it at one input. -/
def fnExactTopOfWrong : ChangeSpec := { name := "fnExactTopOf", fn := fun _ => fun
  | [d] => { results := [.lit (.bool false)], args := [d] }
  | _ => none }
def FnExactTopOfWrongFalsely : Prop := fnExactTopOfRow.holds Try.pinned (OpenSpec.ofChange fnExactTopOfWrong)

/-- 'laws.FnExactSideAt': WHATEVER THE INPUT: true; the input reads as it did. -/
def fnExactSideAtSpec : ChangeSpec := { name := "fnExactSideAt", fn := fun _ => fun
  | [d1, d2] => { results := [.lit (.bool true)], args := [d1, d2] }
  | _ => none }
def fnExactSideAtRow : OpenClaim := { program := "ytojbacaebclffaa", sum := "ae67e3379f202c9f86d675e09f64a9ac6db4c36de33a983ea906b8eee61aefef", func := "loop.example/g00927/laws.FnExactSideAt", spec := "fnExactSideAt", apart := false }
def FnExactSideAtSaid : Prop := fnExactSideAtRow.holds Try.pinned (OpenSpec.ofChange fnExactSideAtSpec)

/-- ITS FALSE NEIGHBOUR: 'it returns false'. Refute it at one input. -/
def fnExactSideAtWrong : ChangeSpec := { name := "fnExactSideAt", fn := fun _ => fun
  | [d1, d2] => { results := [.lit (.bool false)], args := [d1, d2] }
  | _ => none }
def FnExactSideAtWrongFalsely : Prop := fnExactSideAtRow.holds Try.pinned (OpenSpec.ofChange fnExactSideAtWrong)

/-- 'laws.FnFlights': WHATEVER THE INPUT: true; the input reads as it did. -/
def fnFlightsSpec : ChangeSpec := { name := "fnFlights", fn := fun _ => fun
  | [d1, d2] => { results := [.lit (.bool true)], args := [d1, d2] }
  | _ => none }
def fnFlightsRow : OpenClaim := { program := "ytojbacaebclffaa", sum := "ae67e3379f202c9f86d675e09f64a9ac6db4c36de33a983ea906b8eee61aefef", func := "loop.example/g00927/laws.FnFlights", spec := "fnFlights", apart := false }
def FnFlightsSaid : Prop := fnFlightsRow.holds Try.pinned (OpenSpec.ofChange fnFlightsSpec)

/-- ITS FALSE NEIGHBOUR: 'it returns false'. Refute it at one input. -/
def fnFlightsWrong : ChangeSpec := { name := "fnFlights", fn := fun _ => fun
  | [d1, d2] => { results := [.lit (.bool false)], args := [d1, d2] }
  | _ => none }
def FnFlightsWrongFalsely : Prop := fnFlightsRow.holds Try.pinned (OpenSpec.ofChange fnFlightsWrong)

/-- 'laws.FnExactDistanceAt': WHATEVER THE INPUT: true; the input reads as it did. -/
def fnExactDistanceAtSpec : ChangeSpec := { name := "fnExactDistanceAt", fn := fun _ => fun
  | [d1, d2, d3] => { results := [.lit (.bool true)], args := [d1, d2, d3] }
  | _ => none }
def fnExactDistanceAtRow : OpenClaim := { program := "ytojbacaebclffaa", sum := "ae67e3379f202c9f86d675e09f64a9ac6db4c36de33a983ea906b8eee61aefef", func := "loop.example/g00927/laws.FnExactDistanceAt", spec := "fnExactDistanceAt", apart := false }
def FnExactDistanceAtSaid : Prop := fnExactDistanceAtRow.holds Try.pinned (OpenSpec.ofChange fnExactDistanceAtSpec)

/-- ITS FALSE NEIGHBOUR: 'it returns false'. Refute it at one input. -/
def fnExactDistanceAtWrong : ChangeSpec := { name := "fnExactDistanceAt", fn := fun _ => fun
  | [d1, d2, d3] => { results := [.lit (.bool false)], args := [d1, d2, d3] }
  | _ => none }
def FnExactDistanceAtWrongFalsely : Prop := fnExactDistanceAtRow.holds Try.pinned (OpenSpec.ofChange fnExactDistanceAtWrong)

/- THE SECOND FORM. 'bulk': how many values and letters a reading holds, each counted each time it is reached (what is shared counts as often as it is met; a slice's spare places count too). A statement '..UptoSaid' is the law's where the arguments, and the package variables that the reading takes, are together of bulk at most 1048576: NARROWER than '..Said'. Prove '..Said' where nothing that the law and all that it calls make is longer than what came in: it says more and counts as full. Else prove '..UptoSaid'. A law counts once. -/
mutual
def uptoBulk {H : Type} : DataW H → Nat
  | .lit (.string bytes) => bytes.length + 1
  | .lit _ => 1
  | .nil => 1
  | .ptr d => uptoBulk d + 1
  | .slice elems spare => uptoBulkAll elems + uptoBulkAll spare + 1
  | .agg parts => uptoBulkAll parts + 1
  | .iface _ d => uptoBulk d + 1
  | .map entries => uptoBulkEntries entries + 1
  | .held _ => 1
def uptoBulkAll {H : Type} : List (DataW H) → Nat
  | [] => 0
  | d :: r => uptoBulk d + uptoBulkAll r
def uptoBulkEntries {H : Type} : List (Lit × DataW H) → Nat
  | [] => 0
  | x :: r => uptoBulkEntry x + uptoBulkEntries r
def uptoBulkEntry {H : Type} : Lit × DataW H → Nat
  | (.string bytes, d) => bytes.length + uptoBulk d + 1
  | (_, d) => uptoBulk d + 1
 end
def uptoSmall : (H : Type) → List (DataW H) → Bool := fun _ ds => decide (uptoBulkAll ds ≤ 1048576)
def OpenSpec.upto (s : _root_.Go.ChangeSpec) : _root_.Go.OpenSpec := { _root_.Go.OpenSpec.ofChange s with cond := some uptoSmall }

/-- 'laws.FnExactHandOf', WHERE WHAT IT READS IS OF BULK AT MOST 1048576: true; the input reads as it did. -/
def fnExactHandOfUptoRow : OpenClaim := { program := "ytojbacaebclffaa", sum := "ae67e3379f202c9f86d675e09f64a9ac6db4c36de33a983ea906b8eee61aefef", func := "loop.example/g00927/laws.FnExactHandOf", spec := "fnExactHandOf", apart := false, narrowed := true }
def FnExactHandOfUptoSaid : Prop := fnExactHandOfUptoRow.holds Try.pinned (OpenSpec.upto fnExactHandOfSpec)

/-- 'laws.FnExactValidTiming', WHERE WHAT IT READS IS OF BULK AT MOST 1048576: true; the input reads as it did. -/
def fnExactValidTimingUptoRow : OpenClaim := { program := "ytojbacaebclffaa", sum := "ae67e3379f202c9f86d675e09f64a9ac6db4c36de33a983ea906b8eee61aefef", func := "loop.example/g00927/laws.FnExactValidTiming", spec := "fnExactValidTiming", apart := false, narrowed := true }
def FnExactValidTimingUptoSaid : Prop := fnExactValidTimingUptoRow.holds Try.pinned (OpenSpec.upto fnExactValidTimingSpec)

/-- 'laws.FnExactValidFlight', WHERE WHAT IT READS IS OF BULK AT MOST 1048576: true; the input reads as it did. -/
def fnExactValidFlightUptoRow : OpenClaim := { program := "ytojbacaebclffaa", sum := "ae67e3379f202c9f86d675e09f64a9ac6db4c36de33a983ea906b8eee61aefef", func := "loop.example/g00927/laws.FnExactValidFlight", spec := "fnExactValidFlight", apart := false, narrowed := true }
def FnExactValidFlightUptoSaid : Prop := fnExactValidFlightUptoRow.holds Try.pinned (OpenSpec.upto fnExactValidFlightSpec)

/-- 'laws.FnExactCompareFractions', WHERE WHAT IT READS IS OF BULK AT MOST 1048576: true; the input reads as it did. -/
def fnExactCompareFractionsUptoRow : OpenClaim := { program := "ytojbacaebclffaa", sum := "ae67e3379f202c9f86d675e09f64a9ac6db4c36de33a983ea906b8eee61aefef", func := "loop.example/g00927/laws.FnExactCompareFractions", spec := "fnExactCompareFractions", apart := false, narrowed := true }
def FnExactCompareFractionsUptoSaid : Prop := fnExactCompareFractionsUptoRow.holds Try.pinned (OpenSpec.upto fnExactCompareFractionsSpec)

/-- 'laws.FnExactBackFlight', WHERE WHAT IT READS IS OF BULK AT MOST 1048576: true; the input reads as it did. -/
def fnExactBackFlightUptoRow : OpenClaim := { program := "ytojbacaebclffaa", sum := "ae67e3379f202c9f86d675e09f64a9ac6db4c36de33a983ea906b8eee61aefef", func := "loop.example/g00927/laws.FnExactBackFlight", spec := "fnExactBackFlight", apart := false, narrowed := true }
def FnExactBackFlightUptoSaid : Prop := fnExactBackFlightUptoRow.holds Try.pinned (OpenSpec.upto fnExactBackFlightSpec)

/-- 'laws.FnExactHeightAt', WHERE WHAT IT READS IS OF BULK AT MOST 1048576: true; the input reads as it did. -/
def fnExactHeightAtUptoRow : OpenClaim := { program := "ytojbacaebclffaa", sum := "ae67e3379f202c9f86d675e09f64a9ac6db4c36de33a983ea906b8eee61aefef", func := "loop.example/g00927/laws.FnExactHeightAt", spec := "fnExactHeightAt", apart := false, narrowed := true }
def FnExactHeightAtUptoSaid : Prop := fnExactHeightAtUptoRow.holds Try.pinned (OpenSpec.upto fnExactHeightAtSpec)

/-- 'laws.FnExactShiftFlight', WHERE WHAT IT READS IS OF BULK AT MOST 1048576: true; the input reads as it did. -/
def fnExactShiftFlightUptoRow : OpenClaim := { program := "ytojbacaebclffaa", sum := "ae67e3379f202c9f86d675e09f64a9ac6db4c36de33a983ea906b8eee61aefef", func := "loop.example/g00927/laws.FnExactShiftFlight", spec := "fnExactShiftFlight", apart := false, narrowed := true }
def FnExactShiftFlightUptoSaid : Prop := fnExactShiftFlightUptoRow.holds Try.pinned (OpenSpec.upto fnExactShiftFlightSpec)

/-- 'laws.FnExactCommonTicks', WHERE WHAT IT READS IS OF BULK AT MOST 1048576: true; the input reads as it did. -/
def fnExactCommonTicksUptoRow : OpenClaim := { program := "ytojbacaebclffaa", sum := "ae67e3379f202c9f86d675e09f64a9ac6db4c36de33a983ea906b8eee61aefef", func := "loop.example/g00927/laws.FnExactCommonTicks", spec := "fnExactCommonTicks", apart := false, narrowed := true }
def FnExactCommonTicksUptoSaid : Prop := fnExactCommonTicksUptoRow.holds Try.pinned (OpenSpec.upto fnExactCommonTicksSpec)

/-- 'laws.FnExactMakeFraction', WHERE WHAT IT READS IS OF BULK AT MOST 1048576: true; the input reads as it did. -/
def fnExactMakeFractionUptoRow : OpenClaim := { program := "ytojbacaebclffaa", sum := "ae67e3379f202c9f86d675e09f64a9ac6db4c36de33a983ea906b8eee61aefef", func := "loop.example/g00927/laws.FnExactMakeFraction", spec := "fnExactMakeFraction", apart := false, narrowed := true }
def FnExactMakeFractionUptoSaid : Prop := fnExactMakeFractionUptoRow.holds Try.pinned (OpenSpec.upto fnExactMakeFractionSpec)

/-- 'laws.FnExactTopOf', WHERE WHAT IT READS IS OF BULK AT MOST 1048576: true; the input reads as it did. -/
def fnExactTopOfUptoRow : OpenClaim := { program := "ytojbacaebclffaa", sum := "ae67e3379f202c9f86d675e09f64a9ac6db4c36de33a983ea906b8eee61aefef", func := "loop.example/g00927/laws.FnExactTopOf", spec := "fnExactTopOf", apart := false, narrowed := true }
def FnExactTopOfUptoSaid : Prop := fnExactTopOfUptoRow.holds Try.pinned (OpenSpec.upto fnExactTopOfSpec)

/-- 'laws.FnExactSideAt', WHERE WHAT IT READS IS OF BULK AT MOST 1048576: true; the input reads as it did. -/
def fnExactSideAtUptoRow : OpenClaim := { program := "ytojbacaebclffaa", sum := "ae67e3379f202c9f86d675e09f64a9ac6db4c36de33a983ea906b8eee61aefef", func := "loop.example/g00927/laws.FnExactSideAt", spec := "fnExactSideAt", apart := false, narrowed := true }
def FnExactSideAtUptoSaid : Prop := fnExactSideAtUptoRow.holds Try.pinned (OpenSpec.upto fnExactSideAtSpec)

/-- 'laws.FnFlights', WHERE WHAT IT READS IS OF BULK AT MOST 1048576: true; the input reads as it did. -/
def fnFlightsUptoRow : OpenClaim := { program := "ytojbacaebclffaa", sum := "ae67e3379f202c9f86d675e09f64a9ac6db4c36de33a983ea906b8eee61aefef", func := "loop.example/g00927/laws.FnFlights", spec := "fnFlights", apart := false, narrowed := true }
def FnFlightsUptoSaid : Prop := fnFlightsUptoRow.holds Try.pinned (OpenSpec.upto fnFlightsSpec)

/-- 'laws.FnExactDistanceAt', WHERE WHAT IT READS IS OF BULK AT MOST 1048576: true; the input reads as it did. -/
def fnExactDistanceAtUptoRow : OpenClaim := { program := "ytojbacaebclffaa", sum := "ae67e3379f202c9f86d675e09f64a9ac6db4c36de33a983ea906b8eee61aefef", func := "loop.example/g00927/laws.FnExactDistanceAt", spec := "fnExactDistanceAt", apart := false, narrowed := true }
def FnExactDistanceAtUptoSaid : Prop := fnExactDistanceAtUptoRow.holds Try.pinned (OpenSpec.upto fnExactDistanceAtSpec)

end Rows
end Go.Proofs.Ytojbacaebclffaa

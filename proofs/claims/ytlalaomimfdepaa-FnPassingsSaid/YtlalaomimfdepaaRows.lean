/-
  No cell of these rows narrows 'for every input' (looked for: loops, veiled, ifaces, maps, wideKeys, modest, calm, conditions, laid).
  DERIVED. THE GIVEN ROWS OF THIS SEAT. 3 by the template 'for every input the law returns true; each argument reads behind the call as it read before'; 0 by the template 'total and deterministic' (their statements: YtlalaomimfdepaaTotals.lean).
  GIVEN WITH THE SEED: the statements are not yours to turn. If you find one false, say at which input.
  Laid BY PROGRAM, IN A SANDBOX (cutbox-rows.mjs): the forced cells as the released guide's own fill.sh prints them over the translation 993db7d6a27e124d… (all of the seat's roots in one cut). By AI agents, Wed Nov 11 2026. No macro, syntax, notation, axiom, sorry.
-/
import Derived.Test.YtlalaomimfdepaaChecked
import GoSem.Claim
import GoSem.ClaimJoined
import GoSem.ClaimMapViews
import Derived.JoinedTies
import Derived.KernelRfl
namespace Go.Proofs.Ytlalaomimfdepaa
/- THE CELL 'sum', in the pinned program and in every row, IS THE sha256 OF THE DUMP (.gsa) THAT YtlalaomimfdepaaProg.lean LOADS. Nothing in Lean hashes anything: it is a label: what it is worth is what the hold of that sum in a sandbox is worth. -/
noncomputable def Try.pinned : Pinned := { name := "ytlalaomimfdepaa", sum := "993db7d6a27e124d6998b2b31b2b57f507b1b4259c64bda8aee0a24bd82271ff", checked := Try.checked }
namespace Rows
def none {H : Type} : Left H := { results := [], args := [] }

/-- 'laws.FnExactSwapJugglers': WHATEVER THE INPUT: true; the input reads as it did. -/
def fnExactSwapJugglersSpec : ChangeSpec := { name := "fnExactSwapJugglers", fn := fun _ => fun
  | [d] => { results := [.lit (.bool true)], args := [d] }
  | _ => none }
def fnExactSwapJugglersRow : OpenClaim := { program := "ytlalaomimfdepaa", sum := "993db7d6a27e124d6998b2b31b2b57f507b1b4259c64bda8aee0a24bd82271ff", func := "loop.example/g00927/laws.FnExactSwapJugglers", spec := "fnExactSwapJugglers", apart := false }
def FnExactSwapJugglersSaid : Prop := fnExactSwapJugglersRow.holds Try.pinned (OpenSpec.ofChange fnExactSwapJugglersSpec)

/-- ITS FALSE NEIGHBOUR: 'it returns false'. Refute it at one input. -/
def fnExactSwapJugglersWrong : ChangeSpec := { name := "fnExactSwapJugglers", fn := fun _ => fun
  | [d] => { results := [.lit (.bool false)], args := [d] }
  | _ => none }
def FnExactSwapJugglersWrongFalsely : Prop := fnExactSwapJugglersRow.holds Try.pinned (OpenSpec.ofChange fnExactSwapJugglersWrong)

/-- 'laws.FnExactExchangePasses': WHATEVER THE INPUT: true; the input reads as it did. -/
def fnExactExchangePassesSpec : ChangeSpec := { name := "fnExactExchangePasses", fn := fun _ => fun
  | [d1, d2] => { results := [.lit (.bool true)], args := [d1, d2] }
  | _ => none }
def fnExactExchangePassesRow : OpenClaim := { program := "ytlalaomimfdepaa", sum := "993db7d6a27e124d6998b2b31b2b57f507b1b4259c64bda8aee0a24bd82271ff", func := "loop.example/g00927/laws.FnExactExchangePasses", spec := "fnExactExchangePasses", apart := false }
def FnExactExchangePassesSaid : Prop := fnExactExchangePassesRow.holds Try.pinned (OpenSpec.ofChange fnExactExchangePassesSpec)

/-- ITS FALSE NEIGHBOUR: 'it returns false'. Refute it at one input. -/
def fnExactExchangePassesWrong : ChangeSpec := { name := "fnExactExchangePasses", fn := fun _ => fun
  | [d1, d2] => { results := [.lit (.bool false)], args := [d1, d2] }
  | _ => none }
def FnExactExchangePassesWrongFalsely : Prop := fnExactExchangePassesRow.holds Try.pinned (OpenSpec.ofChange fnExactExchangePassesWrong)

/-- 'laws.FnPassings': WHATEVER THE INPUT: true; the input reads as it did. -/
def fnPassingsSpec : ChangeSpec := { name := "fnPassings", fn := fun _ => fun
  | [d] => { results := [.lit (.bool true)], args := [d] }
  | _ => none }
def fnPassingsRow : OpenClaim := { program := "ytlalaomimfdepaa", sum := "993db7d6a27e124d6998b2b31b2b57f507b1b4259c64bda8aee0a24bd82271ff", func := "loop.example/g00927/laws.FnPassings", spec := "fnPassings", apart := false }
def FnPassingsSaid : Prop := fnPassingsRow.holds Try.pinned (OpenSpec.ofChange fnPassingsSpec)

/-- ITS FALSE NEIGHBOUR: 'it returns false'. Refute it at one input. -/
def fnPassingsWrong : ChangeSpec := { name := "fnPassings", fn := fun _ => fun
  | [d] => { results := [.lit (.bool false)], args := [d] }
  | _ => none }
def FnPassingsWrongFalsely : Prop := fnPassingsRow.holds Try.pinned (OpenSpec.ofChange fnPassingsWrong)

/- THE SECOND FORM. 'bulk': how many values and letters a reading holds, each counted each time it is reached (what is shared counts as often as it is met; a slice's spare places count too). A statement '..UptoSaid' is the law's where the arguments, and the package variables that the reading takes, are together of bulk at most 1048576: NARROWER than '..Said'. Prove '..Said' where nothing that the law and all that it calls make is longer than what came in: it says more and counts as full. Else prove '..UptoSaid'. A law counts once. -/
mutual
def uptoBulk {H : Type} : DataW H → Nat
  | .lit (.string bytes) => bytes.length + 1
  | .lit _ => 1
  | .nil => 1
  | .ptr d => uptoBulk d + 1
  | .slice elems spare => uptoBulkAll elems + uptoBulkAll spare + 1
  | .agg parts => uptoBulkAll parts + 1
  | .iface _ d => uptoBulk d + 1
  | .map entries => uptoBulkEntries entries + 1
  | .held _ => 1
def uptoBulkAll {H : Type} : List (DataW H) → Nat
  | [] => 0
  | d :: r => uptoBulk d + uptoBulkAll r
def uptoBulkEntries {H : Type} : List (Lit × DataW H) → Nat
  | [] => 0
  | x :: r => uptoBulkEntry x + uptoBulkEntries r
def uptoBulkEntry {H : Type} : Lit × DataW H → Nat
  | (.string bytes, d) => bytes.length + uptoBulk d + 1
  | (_, d) => uptoBulk d + 1
 end
def uptoSmall : (H : Type) → List (DataW H) → Bool := fun _ ds => decide (uptoBulkAll ds ≤ 1048576)
def OpenSpec.upto (s : _root_.Go.ChangeSpec) : _root_.Go.OpenSpec := { _root_.Go.OpenSpec.ofChange s with cond := some uptoSmall }

/-- 'laws.FnExactSwapJugglers', WHERE WHAT IT READS IS OF BULK AT MOST 1048576: true; the input reads as it did. -/
def fnExactSwapJugglersUptoRow : OpenClaim := { program := "ytlalaomimfdepaa", sum := "993db7d6a27e124d6998b2b31b2b57f507b1b4259c64bda8aee0a24bd82271ff", func := "loop.example/g00927/laws.FnExactSwapJugglers", spec := "fnExactSwapJugglers", apart := false, narrowed := true }
def FnExactSwapJugglersUptoSaid : Prop := fnExactSwapJugglersUptoRow.holds Try.pinned (OpenSpec.upto fnExactSwapJugglersSpec)

/-- 'laws.FnExactExchangePasses', WHERE WHAT IT READS IS OF BULK AT MOST 1048576: true; the input reads as it did. -/
def fnExactExchangePassesUptoRow : OpenClaim := { program := "ytlalaomimfdepaa", sum := "993db7d6a27e124d6998b2b31b2b57f507b1b4259c64bda8aee0a24bd82271ff", func := "loop.example/g00927/laws.FnExactExchangePasses", spec := "fnExactExchangePasses", apart := false, narrowed := true }
def FnExactExchangePassesUptoSaid : Prop := fnExactExchangePassesUptoRow.holds Try.pinned (OpenSpec.upto fnExactExchangePassesSpec)

/-- 'laws.FnPassings', WHERE WHAT IT READS IS OF BULK AT MOST 1048576: true; the input reads as it did. -/
def fnPassingsUptoRow : OpenClaim := { program := "ytlalaomimfdepaa", sum := "993db7d6a27e124d6998b2b31b2b57f507b1b4259c64bda8aee0a24bd82271ff", func := "loop.example/g00927/laws.FnPassings", spec := "fnPassings", apart := false, narrowed := true }
def FnPassingsUptoSaid : Prop := fnPassingsUptoRow.holds Try.pinned (OpenSpec.upto fnPassingsSpec)

end Rows
end Go.Proofs.Ytlalaomimfdepaa

/-
  No cell of these rows narrows 'for every input' (looked for: loops, veiled, ifaces, maps, wideKeys, modest, calm, conditions, laid).
  DERIVED. THE GIVEN ROWS OF THIS SEAT. 3 by the template 'for every input the law returns true; each argument reads behind the call as it read before'; 0 by the template 'total and deterministic' (their statements: YtbldhfmhipdniaaTotals.lean).
  GIVEN WITH THE SEED: the statements are not yours to turn. If you find one false, say at which input.
  Laid BY PROGRAM, IN A SANDBOX (cutbox-rows.mjs): the forced cells as the released guide's own fill.sh prints them over the translation 3cf3214c2340d709… (all of the seat's roots in one cut). By AI agents, Wed Nov 11 2026. No macro, syntax, notation, axiom, sorry.
-/
import Derived.Test.YtbldhfmhipdniaaChecked
import GoSem.Claim
import GoSem.ClaimJoined
import GoSem.ClaimMapViews
import Derived.JoinedTies
import Derived.KernelRfl
namespace Go.Proofs.Ytbldhfmhipdniaa
/- THE CELL 'sum', in the pinned program and in every row, IS THE sha256 OF THE DUMP (.gsa) THAT YtbldhfmhipdniaaProg.lean LOADS. Nothing in Lean hashes anything: it is a label: what it is worth is what the hold of that sum in a sandbox is worth. -/
noncomputable def Try.pinned : Pinned := { name := "ytbldhfmhipdniaa", sum := "3cf3214c2340d709cba945e4714be8c8afbf62fec5887dd225a282aa7d43e2b4", checked := Try.checked }
namespace Rows
def none {H : Type} : Left H := { results := [], args := [] }

/-- 'laws.FnPrimeLists': WHATEVER THE INPUT: true; the input reads as it did. -/
def fnPrimeListsSpec : ChangeSpec := { name := "fnPrimeLists", fn := fun _ => fun
  | [d] => { results := [.lit (.bool true)], args := [d] }
  | _ => none }
def fnPrimeListsRow : OpenClaim := { program := "ytbldhfmhipdniaa", sum := "3cf3214c2340d709cba945e4714be8c8afbf62fec5887dd225a282aa7d43e2b4", func := "loop.example/g00927/laws.FnPrimeLists", spec := "fnPrimeLists", inPlace := ["internal/reflectlite.ValueOf", "internal/reflectlite.Swapper", "(internal/reflectlite.Value).Len"], unfollowed := true, recurses := true, apart := false }
def FnPrimeListsSaid : Prop := fnPrimeListsRow.holds Try.pinned (OpenSpec.ofChange fnPrimeListsSpec)

/-- ITS FALSE NEIGHBOUR: 'it returns false'. Refute it at one input. -/
def fnPrimeListsWrong : ChangeSpec := { name := "fnPrimeLists", fn := fun _ => fun
  | [d] => { results := [.lit (.bool false)], args := [d] }
  | _ => none }
def FnPrimeListsWrongFalsely : Prop := fnPrimeListsRow.holds Try.pinned (OpenSpec.ofChange fnPrimeListsWrong)

/-- 'laws.FnExactListPatterns': WHATEVER THE INPUT: true; the input reads as it did. -/
def fnExactListPatternsSpec : ChangeSpec := { name := "fnExactListPatterns", fn := fun _ => fun
  | [d1, d2, d3] => { results := [.lit (.bool true)], args := [d1, d2, d3] }
  | _ => none }
def fnExactListPatternsRow : OpenClaim := { program := "ytbldhfmhipdniaa", sum := "3cf3214c2340d709cba945e4714be8c8afbf62fec5887dd225a282aa7d43e2b4", func := "loop.example/g00927/laws.FnExactListPatterns", spec := "fnExactListPatterns", unfollowed := true, recurses := true, apart := false }
def FnExactListPatternsSaid : Prop := fnExactListPatternsRow.holds Try.pinned (OpenSpec.ofChange fnExactListPatternsSpec)

/-- ITS FALSE NEIGHBOUR: 'it returns false'. Refute it at one input. -/
def fnExactListPatternsWrong : ChangeSpec := { name := "fnExactListPatterns", fn := fun _ => fun
  | [d1, d2, d3] => { results := [.lit (.bool false)], args := [d1, d2, d3] }
  | _ => none }
def FnExactListPatternsWrongFalsely : Prop := fnExactListPatternsRow.holds Try.pinned (OpenSpec.ofChange fnExactListPatternsWrong)

/-- 'laws.FnExactListNecklaces': WHATEVER THE INPUT: true; the input reads as it did. -/
def fnExactListNecklacesSpec : ChangeSpec := { name := "fnExactListNecklaces", fn := fun _ => fun
  | [d1, d2, d3] => { results := [.lit (.bool true)], args := [d1, d2, d3] }
  | _ => none }
def fnExactListNecklacesRow : OpenClaim := { program := "ytbldhfmhipdniaa", sum := "3cf3214c2340d709cba945e4714be8c8afbf62fec5887dd225a282aa7d43e2b4", func := "loop.example/g00927/laws.FnExactListNecklaces", spec := "fnExactListNecklaces", unfollowed := true, recurses := true, apart := false }
def FnExactListNecklacesSaid : Prop := fnExactListNecklacesRow.holds Try.pinned (OpenSpec.ofChange fnExactListNecklacesSpec)

/-- ITS FALSE NEIGHBOUR: 'it returns false'. Refute it at one input. -/
def fnExactListNecklacesWrong : ChangeSpec := { name := "fnExactListNecklaces", fn := fun _ => fun
  | [d1, d2, d3] => { results := [.lit (.bool false)], args := [d1, d2, d3] }
  | _ => none }
def FnExactListNecklacesWrongFalsely : Prop := fnExactListNecklacesRow.holds Try.pinned (OpenSpec.ofChange fnExactListNecklacesWrong)

/- THE SECOND FORM. 'bulk': how many values and letters a reading holds, each counted each time it is reached (what is shared counts as often as it is met; a slice's spare places count too). A statement '..UptoSaid' is the law's where the arguments, and the package variables that the reading takes, are together of bulk at most 1048576: NARROWER than '..Said'. Prove '..Said' where nothing that the law and all that it calls make is longer than what came in: it says more and counts as full. Else prove '..UptoSaid'. A law counts once. -/
mutual
def uptoBulk {H : Type} : DataW H → Nat
  | .lit (.string bytes) => bytes.length + 1
  | .lit _ => 1
  | .nil => 1
  | .ptr d => uptoBulk d + 1
  | .slice elems spare => uptoBulkAll elems + uptoBulkAll spare + 1
  | .agg parts => uptoBulkAll parts + 1
  | .iface _ d => uptoBulk d + 1
  | .map entries => uptoBulkEntries entries + 1
  | .held _ => 1
def uptoBulkAll {H : Type} : List (DataW H) → Nat
  | [] => 0
  | d :: r => uptoBulk d + uptoBulkAll r
def uptoBulkEntries {H : Type} : List (Lit × DataW H) → Nat
  | [] => 0
  | x :: r => uptoBulkEntry x + uptoBulkEntries r
def uptoBulkEntry {H : Type} : Lit × DataW H → Nat
  | (.string bytes, d) => bytes.length + uptoBulk d + 1
  | (_, d) => uptoBulk d + 1
 end
def uptoSmall : (H : Type) → List (DataW H) → Bool := fun _ ds => decide (uptoBulkAll ds ≤ 1048576)
def OpenSpec.upto (s : _root_.Go.ChangeSpec) : _root_.Go.OpenSpec := { _root_.Go.OpenSpec.ofChange s with cond := some uptoSmall }

/-- 'laws.FnPrimeLists', WHERE WHAT IT READS IS OF BULK AT MOST 1048576: true; the input reads as it did. -/
def fnPrimeListsUptoRow : OpenClaim := { program := "ytbldhfmhipdniaa", sum := "3cf3214c2340d709cba945e4714be8c8afbf62fec5887dd225a282aa7d43e2b4", func := "loop.example/g00927/laws.FnPrimeLists", spec := "fnPrimeLists", inPlace := ["internal/reflectlite.ValueOf", "internal/reflectlite.Swapper", "(internal/reflectlite.Value).Len"], unfollowed := true, recurses := true, apart := false, narrowed := true }
def FnPrimeListsUptoSaid : Prop := fnPrimeListsUptoRow.holds Try.pinned (OpenSpec.upto fnPrimeListsSpec)

/-- 'laws.FnExactListPatterns', WHERE WHAT IT READS IS OF BULK AT MOST 1048576: true; the input reads as it did. -/
def fnExactListPatternsUptoRow : OpenClaim := { program := "ytbldhfmhipdniaa", sum := "3cf3214c2340d709cba945e4714be8c8afbf62fec5887dd225a282aa7d43e2b4", func := "loop.example/g00927/laws.FnExactListPatterns", spec := "fnExactListPatterns", unfollowed := true, recurses := true, apart := false, narrowed := true }
def FnExactListPatternsUptoSaid : Prop := fnExactListPatternsUptoRow.holds Try.pinned (OpenSpec.upto fnExactListPatternsSpec)

/-- 'laws.FnExactListNecklaces', WHERE WHAT IT READS IS OF BULK AT MOST 1048576: true; the input reads as it did. -/
def fnExactListNecklacesUptoRow : OpenClaim := { program := "ytbldhfmhipdniaa", sum := "3cf3214c2340d709cba945e4714be8c8afbf62fec5887dd225a282aa7d43e2b4", func := "loop.example/g00927/laws.FnExactListNecklaces", spec := "fnExactListNecklaces", unfollowed := true, recurses := true, apart := false, narrowed := true }
def FnExactListNecklacesUptoSaid : Prop := fnExactListNecklacesUptoRow.holds Try.pinned (OpenSpec.upto fnExactListNecklacesSpec)

end Rows
end Go.Proofs.Ytbldhfmhipdniaa

/-
  No cell of these rows narrows 'for every input' (looked for: loops, veiled, ifaces, maps, wideKeys, modest, calm, conditions, laid).
  DERIVED. THE GIVEN ROWS OF THIS SEAT. 7 by the template 'for every input the law returns true; each argument reads behind the call as it read before'; 0 by the template 'total and deterministic' (their statements: YtpnhpkgcaadnkaaTotals.lean).
  GIVEN WITH THE SEED: the statements are not yours to turn. If you find one false, say at which input.
  Laid BY PROGRAM, IN A SANDBOX (cutbox-rows.mjs): the forced cells as the released guide's own fill.sh prints them over the translation 6d6721688f3aa2fb… (all of the seat's roots in one cut). By AI agents, Wed Nov 11 2026. No macro, syntax, notation, axiom, sorry.
-/
import Derived.Test.YtpnhpkgcaadnkaaChecked
import GoSem.Claim
import GoSem.ClaimJoined
import GoSem.ClaimMapViews
import Derived.JoinedTies
import Derived.KernelRfl
namespace Go.Proofs.Ytpnhpkgcaadnkaa
/- THE CELL 'sum', in the pinned program and in every row, IS THE sha256 OF THE DUMP (.gsa) THAT YtpnhpkgcaadnkaaProg.lean LOADS. Nothing in Lean hashes anything: it is a label: what it is worth is what the hold of that sum in a sandbox is worth. -/
noncomputable def Try.pinned : Pinned := { name := "ytpnhpkgcaadnkaa", sum := "6d6721688f3aa2fbc1f981229eacbb65f483e90f4aab4e9a776fdc7c12d77f21", checked := Try.checked }
namespace Rows
def none {H : Type} : Left H := { results := [], args := [] }

/-- 'laws.FnExactColumnOf': WHATEVER THE INPUT: true; the input reads as it did. -/
def fnExactColumnOfSpec : ChangeSpec := { name := "fnExactColumnOf", fn := fun _ => fun
  | [d1, d2] => { results := [.lit (.bool true)], args := [d1, d2] }
  | _ => none }
def fnExactColumnOfRow : OpenClaim := { program := "ytpnhpkgcaadnkaa", sum := "6d6721688f3aa2fbc1f981229eacbb65f483e90f4aab4e9a776fdc7c12d77f21", func := "loop.example/g00927/laws.FnExactColumnOf", spec := "fnExactColumnOf", apart := false }
def FnExactColumnOfSaid : Prop := fnExactColumnOfRow.holds Try.pinned (OpenSpec.ofChange fnExactColumnOfSpec)

/-- ITS FALSE NEIGHBOUR: 'it returns false'. Refute it at one input. -/
def fnExactColumnOfWrong : ChangeSpec := { name := "fnExactColumnOf", fn := fun _ => fun
  | [d1, d2] => { results := [.lit (.bool false)], args := [d1, d2] }
  | _ => none }
def FnExactColumnOfWrongFalsely : Prop := fnExactColumnOfRow.holds Try.pinned (OpenSpec.ofChange fnExactColumnOfWrong)

/-- 'laws.FnExactCheckLadder': WHATEVER THE INPUT: true; the input reads as it did. -/
def fnExactCheckLadderSpec : ChangeSpec := { name := "fnExactCheckLadder", fn := fun _ => fun
  | [d] => { results := [.lit (.bool true)], args := [d] }
  | _ => none }
def fnExactCheckLadderRow : OpenClaim := { program := "ytpnhpkgcaadnkaa", sum := "6d6721688f3aa2fbc1f981229eacbb65f483e90f4aab4e9a776fdc7c12d77f21", func := "loop.example/g00927/laws.FnExactCheckLadder", spec := "fnExactCheckLadder", apart := false }
def FnExactCheckLadderSaid : Prop := fnExactCheckLadderRow.holds Try.pinned (OpenSpec.ofChange fnExactCheckLadderSpec)

/-- ITS FALSE NEIGHBOUR: 'it returns false'. Refute it at one input. -/
def fnExactCheckLadderWrong : ChangeSpec := { name := "fnExactCheckLadder", fn := fun _ => fun
  | [d] => { results := [.lit (.bool false)], args := [d] }
  | _ => none }
def FnExactCheckLadderWrongFalsely : Prop := fnExactCheckLadderRow.holds Try.pinned (OpenSpec.ofChange fnExactCheckLadderWrong)

/-- 'laws.FnExactLadderThrows': WHATEVER THE INPUT: true; the input reads as it did. -/
def fnExactLadderThrowsSpec : ChangeSpec := { name := "fnExactLadderThrows", fn := fun _ => fun
  | [d] => { results := [.lit (.bool true)], args := [d] }
  | _ => none }
def fnExactLadderThrowsRow : OpenClaim := { program := "ytpnhpkgcaadnkaa", sum := "6d6721688f3aa2fbc1f981229eacbb65f483e90f4aab4e9a776fdc7c12d77f21", func := "loop.example/g00927/laws.FnExactLadderThrows", spec := "fnExactLadderThrows", apart := false }
def FnExactLadderThrowsSaid : Prop := fnExactLadderThrowsRow.holds Try.pinned (OpenSpec.ofChange fnExactLadderThrowsSpec)

/-- ITS FALSE NEIGHBOUR: 'it returns false'. Refute it at one input. -/
def fnExactLadderThrowsWrong : ChangeSpec := { name := "fnExactLadderThrows", fn := fun _ => fun
  | [d] => { results := [.lit (.bool false)], args := [d] }
  | _ => none }
def FnExactLadderThrowsWrongFalsely : Prop := fnExactLadderThrowsRow.holds Try.pinned (OpenSpec.ofChange fnExactLadderThrowsWrong)

/-- 'laws.FnExactLadderOf': WHATEVER THE INPUT: true; the input reads as it did. -/
def fnExactLadderOfSpec : ChangeSpec := { name := "fnExactLadderOf", fn := fun _ => fun
  | [d1, d2] => { results := [.lit (.bool true)], args := [d1, d2] }
  | _ => none }
def fnExactLadderOfRow : OpenClaim := { program := "ytpnhpkgcaadnkaa", sum := "6d6721688f3aa2fbc1f981229eacbb65f483e90f4aab4e9a776fdc7c12d77f21", func := "loop.example/g00927/laws.FnExactLadderOf", spec := "fnExactLadderOf", apart := false }
def FnExactLadderOfSaid : Prop := fnExactLadderOfRow.holds Try.pinned (OpenSpec.ofChange fnExactLadderOfSpec)

/-- ITS FALSE NEIGHBOUR: 'it returns false'. Refute it at one input. -/
def fnExactLadderOfWrong : ChangeSpec := { name := "fnExactLadderOf", fn := fun _ => fun
  | [d1, d2] => { results := [.lit (.bool false)], args := [d1, d2] }
  | _ => none }
def FnExactLadderOfWrongFalsely : Prop := fnExactLadderOfRow.holds Try.pinned (OpenSpec.ofChange fnExactLadderOfWrong)

/-- 'laws.FnExactHandLadder': WHATEVER THE INPUT: true; the input reads as it did. -/
def fnExactHandLadderSpec : ChangeSpec := { name := "fnExactHandLadder", fn := fun _ => fun
  | [d1, d2, d3] => { results := [.lit (.bool true)], args := [d1, d2, d3] }
  | _ => none }
def fnExactHandLadderRow : OpenClaim := { program := "ytpnhpkgcaadnkaa", sum := "6d6721688f3aa2fbc1f981229eacbb65f483e90f4aab4e9a776fdc7c12d77f21", func := "loop.example/g00927/laws.FnExactHandLadder", spec := "fnExactHandLadder", apart := false }
def FnExactHandLadderSaid : Prop := fnExactHandLadderRow.holds Try.pinned (OpenSpec.ofChange fnExactHandLadderSpec)

/-- ITS FALSE NEIGHBOUR: 'it returns false'. Refute it at one input. -/
def fnExactHandLadderWrong : ChangeSpec := { name := "fnExactHandLadder", fn := fun _ => fun
  | [d1, d2, d3] => { results := [.lit (.bool false)], args := [d1, d2, d3] }
  | _ => none }
def FnExactHandLadderWrongFalsely : Prop := fnExactHandLadderRow.holds Try.pinned (OpenSpec.ofChange fnExactHandLadderWrong)

/-- 'laws.FnExactSwapJugglers': WHATEVER THE INPUT: true; the input reads as it did. -/
def fnExactSwapJugglersSpec : ChangeSpec := { name := "fnExactSwapJugglers", fn := fun _ => fun
  | [d] => { results := [.lit (.bool true)], args := [d] }
  | _ => none }
def fnExactSwapJugglersRow : OpenClaim := { program := "ytpnhpkgcaadnkaa", sum := "6d6721688f3aa2fbc1f981229eacbb65f483e90f4aab4e9a776fdc7c12d77f21", func := "loop.example/g00927/laws.FnExactSwapJugglers", spec := "fnExactSwapJugglers", apart := false }
def FnExactSwapJugglersSaid : Prop := fnExactSwapJugglersRow.holds Try.pinned (OpenSpec.ofChange fnExactSwapJugglersSpec)

/-- ITS FALSE NEIGHBOUR: 'it returns false'. Refute it at one input. -/
def fnExactSwapJugglersWrong : ChangeSpec := { name := "fnExactSwapJugglers", fn := fun _ => fun
  | [d] => { results := [.lit (.bool false)], args := [d] }
  | _ => none }
def FnExactSwapJugglersWrongFalsely : Prop := fnExactSwapJugglersRow.holds Try.pinned (OpenSpec.ofChange fnExactSwapJugglersWrong)

/-- 'laws.FnExactExchangePasses': WHATEVER THE INPUT: true; the input reads as it did. -/
def fnExactExchangePassesSpec : ChangeSpec := { name := "fnExactExchangePasses", fn := fun _ => fun
  | [d1, d2] => { results := [.lit (.bool true)], args := [d1, d2] }
  | _ => none }
def fnExactExchangePassesRow : OpenClaim := { program := "ytpnhpkgcaadnkaa", sum := "6d6721688f3aa2fbc1f981229eacbb65f483e90f4aab4e9a776fdc7c12d77f21", func := "loop.example/g00927/laws.FnExactExchangePasses", spec := "fnExactExchangePasses", apart := false }
def FnExactExchangePassesSaid : Prop := fnExactExchangePassesRow.holds Try.pinned (OpenSpec.ofChange fnExactExchangePassesSpec)

/-- ITS FALSE NEIGHBOUR: 'it returns false'. Refute it at one input. -/
def fnExactExchangePassesWrong : ChangeSpec := { name := "fnExactExchangePasses", fn := fun _ => fun
  | [d1, d2] => { results := [.lit (.bool false)], args := [d1, d2] }
  | _ => none }
def FnExactExchangePassesWrongFalsely : Prop := fnExactExchangePassesRow.holds Try.pinned (OpenSpec.ofChange fnExactExchangePassesWrong)

/- THE SECOND FORM. 'bulk': how many values and letters a reading holds, each counted each time it is reached (what is shared counts as often as it is met; a slice's spare places count too). A statement '..UptoSaid' is the law's where the arguments, and the package variables that the reading takes, are together of bulk at most 1048576: NARROWER than '..Said'. Prove '..Said' where nothing that the law and all that it calls make is longer than what came in: it says more and counts as full. Else prove '..UptoSaid'. A law counts once. -/
mutual
def uptoBulk {H : Type} : DataW H → Nat
  | .lit (.string bytes) => bytes.length + 1
  | .lit _ => 1
  | .nil => 1
  | .ptr d => uptoBulk d + 1
  | .slice elems spare => uptoBulkAll elems + uptoBulkAll spare + 1
  | .agg parts => uptoBulkAll parts + 1
  | .iface _ d => uptoBulk d + 1
  | .map entries => uptoBulkEntries entries + 1
  | .held _ => 1
def uptoBulkAll {H : Type} : List (DataW H) → Nat
  | [] => 0
  | d :: r => uptoBulk d + uptoBulkAll r
def uptoBulkEntries {H : Type} : List (Lit × DataW H) → Nat
  | [] => 0
  | x :: r => uptoBulkEntry x + uptoBulkEntries r
def uptoBulkEntry {H : Type} : Lit × DataW H → Nat
  | (.string bytes, d) => bytes.length + uptoBulk d + 1
  | (_, d) => uptoBulk d + 1
 end
def uptoSmall : (H : Type) → List (DataW H) → Bool := fun _ ds => decide (uptoBulkAll ds ≤ 1048576)
def OpenSpec.upto (s : _root_.Go.ChangeSpec) : _root_.Go.OpenSpec := { _root_.Go.OpenSpec.ofChange s with cond := some uptoSmall }

/-- 'laws.FnExactColumnOf', WHERE WHAT IT READS IS OF BULK AT MOST 1048576: true; the input reads as it did. -/
def fnExactColumnOfUptoRow : OpenClaim := { program := "ytpnhpkgcaadnkaa", sum := "6d6721688f3aa2fbc1f981229eacbb65f483e90f4aab4e9a776fdc7c12d77f21", func := "loop.example/g00927/laws.FnExactColumnOf", spec := "fnExactColumnOf", apart := false, narrowed := true }
def FnExactColumnOfUptoSaid : Prop := fnExactColumnOfUptoRow.holds Try.pinned (OpenSpec.upto fnExactColumnOfSpec)

/-- 'laws.FnExactCheckLadder', WHERE WHAT IT READS IS OF BULK AT MOST 1048576: true; the input reads as it did. -/
def fnExactCheckLadderUptoRow : OpenClaim := { program := "ytpnhpkgcaadnkaa", sum := "6d6721688f3aa2fbc1f981229eacbb65f483e90f4aab4e9a776fdc7c12d77f21", func := "loop.example/g00927/laws.FnExactCheckLadder", spec := "fnExactCheckLadder", apart := false, narrowed := true }
def FnExactCheckLadderUptoSaid : Prop := fnExactCheckLadderUptoRow.holds Try.pinned (OpenSpec.upto fnExactCheckLadderSpec)

/-- 'laws.FnExactLadderThrows', WHERE WHAT IT READS IS OF BULK AT MOST 1048576: true; the input reads as it did. -/
def fnExactLadderThrowsUptoRow : OpenClaim := { program := "ytpnhpkgcaadnkaa", sum := "6d6721688f3aa2fbc1f981229eacbb65f483e90f4aab4e9a776fdc7c12d77f21", func := "loop.example/g00927/laws.FnExactLadderThrows", spec := "fnExactLadderThrows", apart := false, narrowed := true }
def FnExactLadderThrowsUptoSaid : Prop := fnExactLadderThrowsUptoRow.holds Try.pinned (OpenSpec.upto fnExactLadderThrowsSpec)

/-- 'laws.FnExactLadderOf', WHERE WHAT IT READS IS OF BULK AT MOST 1048576: true; the input reads as it did. -/
def fnExactLadderOfUptoRow : OpenClaim := { program := "ytpnhpkgcaadnkaa", sum := "6d6721688f3aa2fbc1f981229eacbb65f483e90f4aab4e9a776fdc7c12d77f21", func := "loop.example/g00927/laws.FnExactLadderOf", spec := "fnExactLadderOf", apart := false, narrowed := true }
def FnExactLadderOfUptoSaid : Prop := fnExactLadderOfUptoRow.holds Try.pinned (OpenSpec.upto fnExactLadderOfSpec)

/-- 'laws.FnExactHandLadder', WHERE WHAT IT READS IS OF BULK AT MOST 1048576: true; the input reads as it did. -/
def fnExactHandLadderUptoRow : OpenClaim := { program := "ytpnhpkgcaadnkaa", sum := "6d6721688f3aa2fbc1f981229eacbb65f483e90f4aab4e9a776fdc7c12d77f21", func := "loop.example/g00927/laws.FnExactHandLadder", spec := "fnExactHandLadder", apart := false, narrowed := true }
def FnExactHandLadderUptoSaid : Prop := fnExactHandLadderUptoRow.holds Try.pinned (OpenSpec.upto fnExactHandLadderSpec)

/-- 'laws.FnExactSwapJugglers', WHERE WHAT IT READS IS OF BULK AT MOST 1048576: true; the input reads as it did. -/
def fnExactSwapJugglersUptoRow : OpenClaim := { program := "ytpnhpkgcaadnkaa", sum := "6d6721688f3aa2fbc1f981229eacbb65f483e90f4aab4e9a776fdc7c12d77f21", func := "loop.example/g00927/laws.FnExactSwapJugglers", spec := "fnExactSwapJugglers", apart := false, narrowed := true }
def FnExactSwapJugglersUptoSaid : Prop := fnExactSwapJugglersUptoRow.holds Try.pinned (OpenSpec.upto fnExactSwapJugglersSpec)

/-- 'laws.FnExactExchangePasses', WHERE WHAT IT READS IS OF BULK AT MOST 1048576: true; the input reads as it did. -/
def fnExactExchangePassesUptoRow : OpenClaim := { program := "ytpnhpkgcaadnkaa", sum := "6d6721688f3aa2fbc1f981229eacbb65f483e90f4aab4e9a776fdc7c12d77f21", func := "loop.example/g00927/laws.FnExactExchangePasses", spec := "fnExactExchangePasses", apart := false, narrowed := true }
def FnExactExchangePassesUptoSaid : Prop := fnExactExchangePassesUptoRow.holds Try.pinned (OpenSpec.upto fnExactExchangePassesSpec)

end Rows
end Go.Proofs.Ytpnhpkgcaadnkaa

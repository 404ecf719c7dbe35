/-
  No cell of these rows narrows 'for every input' (looked for: loops, veiled, ifaces, maps, wideKeys, modest, calm, conditions, laid).
  DERIVED. THE GIVEN ROWS OF THIS SEAT. 10 by the template 'for every input the law returns true; each argument reads behind the call as it read before'; 0 by the template 'total and deterministic' (their statements: YtlondbbjgcfobaaTotals.lean).
  GIVEN WITH THE SEED: the statements are not yours to turn. If you find one false, say at which input.
  Laid BY PROGRAM, IN A SANDBOX (cutbox-rows.mjs): the forced cells as the released guide's own fill.sh prints them over the translation 91a715507ae0749f… (all of the seat's roots in one cut). By AI agents, Wed Nov 11 2026. No macro, syntax, notation, axiom, sorry.
-/
import Derived.Test.YtlondbbjgcfobaaChecked
import GoSem.Claim
import GoSem.ClaimJoined
import GoSem.ClaimMapViews
import Derived.JoinedTies
import Derived.KernelRfl
namespace Go.Proofs.Ytlondbbjgcfobaa
/- THE CELL 'sum', in the pinned program and in every row, IS THE sha256 OF THE DUMP (.gsa) THAT YtlondbbjgcfobaaProg.lean LOADS. Nothing in Lean hashes anything: it is a label: what it is worth is what the hold of that sum in a sandbox is worth. -/
noncomputable def Try.pinned : Pinned := { name := "ytlondbbjgcfobaa", sum := "91a715507ae0749f190652285e6f944b6f841f5fe00f54fbe102b990ea0d9102", checked := Try.checked }
namespace Rows
def none {H : Type} : Left H := { results := [], args := [] }

/-- 'laws.FnExactEmptyOf': WHATEVER THE INPUT: true; the input reads as it did. -/
def fnExactEmptyOfSpec : ChangeSpec := { name := "fnExactEmptyOf", fn := fun _ => fun
  | [d] => { results := [.lit (.bool true)], args := [d] }
  | _ => none }
def fnExactEmptyOfRow : OpenClaim := { program := "ytlondbbjgcfobaa", sum := "91a715507ae0749f190652285e6f944b6f841f5fe00f54fbe102b990ea0d9102", func := "loop.example/g00927/laws.FnExactEmptyOf", spec := "fnExactEmptyOf", unfollowed := true, recurses := true, apart := false }
def FnExactEmptyOfSaid : Prop := fnExactEmptyOfRow.holds Try.pinned (OpenSpec.ofChange fnExactEmptyOfSpec)

/-- ITS FALSE NEIGHBOUR: 'it returns false'. Refute it at one input. -/
def fnExactEmptyOfWrong : ChangeSpec := { name := "fnExactEmptyOf", fn := fun _ => fun
  | [d] => { results := [.lit (.bool false)], args := [d] }
  | _ => none }
def FnExactEmptyOfWrongFalsely : Prop := fnExactEmptyOfRow.holds Try.pinned (OpenSpec.ofChange fnExactEmptyOfWrong)

/-- 'laws.FnExactWorkOf': WHATEVER THE INPUT: true; the input reads as it did. -/
def fnExactWorkOfSpec : ChangeSpec := { name := "fnExactWorkOf", fn := fun _ => fun
  | [d] => { results := [.lit (.bool true)], args := [d] }
  | _ => none }
def fnExactWorkOfRow : OpenClaim := { program := "ytlondbbjgcfobaa", sum := "91a715507ae0749f190652285e6f944b6f841f5fe00f54fbe102b990ea0d9102", func := "loop.example/g00927/laws.FnExactWorkOf", spec := "fnExactWorkOf", unfollowed := true, recurses := true, apart := false }
def FnExactWorkOfSaid : Prop := fnExactWorkOfRow.holds Try.pinned (OpenSpec.ofChange fnExactWorkOfSpec)

/-- ITS FALSE NEIGHBOUR: 'it returns false'. Refute it at one input. -/
def fnExactWorkOfWrong : ChangeSpec := { name := "fnExactWorkOf", fn := fun _ => fun
  | [d] => { results := [.lit (.bool false)], args := [d] }
  | _ => none }
def FnExactWorkOfWrongFalsely : Prop := fnExactWorkOfRow.holds Try.pinned (OpenSpec.ofChange fnExactWorkOfWrong)

/-- 'laws.FnExactChangesOf': WHATEVER THE INPUT: true; the input reads as it did. -/
def fnExactChangesOfSpec : ChangeSpec := { name := "fnExactChangesOf", fn := fun _ => fun
  | [d] => { results := [.lit (.bool true)], args := [d] }
  | _ => none }
def fnExactChangesOfRow : OpenClaim := { program := "ytlondbbjgcfobaa", sum := "91a715507ae0749f190652285e6f944b6f841f5fe00f54fbe102b990ea0d9102", func := "loop.example/g00927/laws.FnExactChangesOf", spec := "fnExactChangesOf", unfollowed := true, recurses := true, apart := false }
def FnExactChangesOfSaid : Prop := fnExactChangesOfRow.holds Try.pinned (OpenSpec.ofChange fnExactChangesOfSpec)

/-- ITS FALSE NEIGHBOUR: 'it returns false'. Refute it at one input. -/
def fnExactChangesOfWrong : ChangeSpec := { name := "fnExactChangesOf", fn := fun _ => fun
  | [d] => { results := [.lit (.bool false)], args := [d] }
  | _ => none }
def FnExactChangesOfWrongFalsely : Prop := fnExactChangesOfRow.holds Try.pinned (OpenSpec.ofChange fnExactChangesOfWrong)

/-- 'laws.FnExactFitsTiming': WHATEVER THE INPUT: true; the input reads as it did. -/
def fnExactFitsTimingSpec : ChangeSpec := { name := "fnExactFitsTiming", fn := fun _ => fun
  | [d1, d2] => { results := [.lit (.bool true)], args := [d1, d2] }
  | _ => none }
def fnExactFitsTimingRow : OpenClaim := { program := "ytlondbbjgcfobaa", sum := "91a715507ae0749f190652285e6f944b6f841f5fe00f54fbe102b990ea0d9102", func := "loop.example/g00927/laws.FnExactFitsTiming", spec := "fnExactFitsTiming", apart := false }
def FnExactFitsTimingSaid : Prop := fnExactFitsTimingRow.holds Try.pinned (OpenSpec.ofChange fnExactFitsTimingSpec)

/-- ITS FALSE NEIGHBOUR: 'it returns false'. Refute it at one input. -/
def fnExactFitsTimingWrong : ChangeSpec := { name := "fnExactFitsTiming", fn := fun _ => fun
  | [d1, d2] => { results := [.lit (.bool false)], args := [d1, d2] }
  | _ => none }
def FnExactFitsTimingWrongFalsely : Prop := fnExactFitsTimingRow.holds Try.pinned (OpenSpec.ofChange fnExactFitsTimingWrong)

/-- 'laws.FnExactMaxDwell': WHATEVER THE INPUT: true; the input reads as it did. -/
def fnExactMaxDwellSpec : ChangeSpec := { name := "fnExactMaxDwell", fn := fun _ => fun
  | [d1, d2] => { results := [.lit (.bool true)], args := [d1, d2] }
  | _ => none }
def fnExactMaxDwellRow : OpenClaim := { program := "ytlondbbjgcfobaa", sum := "91a715507ae0749f190652285e6f944b6f841f5fe00f54fbe102b990ea0d9102", func := "loop.example/g00927/laws.FnExactMaxDwell", spec := "fnExactMaxDwell", apart := false }
def FnExactMaxDwellSaid : Prop := fnExactMaxDwellRow.holds Try.pinned (OpenSpec.ofChange fnExactMaxDwellSpec)

/-- ITS FALSE NEIGHBOUR: 'it returns false'. Refute it at one input. -/
def fnExactMaxDwellWrong : ChangeSpec := { name := "fnExactMaxDwell", fn := fun _ => fun
  | [d1, d2] => { results := [.lit (.bool false)], args := [d1, d2] }
  | _ => none }
def FnExactMaxDwellWrongFalsely : Prop := fnExactMaxDwellRow.holds Try.pinned (OpenSpec.ofChange fnExactMaxDwellWrong)

/-- 'laws.FnExactSwingOf': WHATEVER THE INPUT: true; the input reads as it did. -/
def fnExactSwingOfSpec : ChangeSpec := { name := "fnExactSwingOf", fn := fun _ => fun
  | [d] => { results := [.lit (.bool true)], args := [d] }
  | _ => none }
def fnExactSwingOfRow : OpenClaim := { program := "ytlondbbjgcfobaa", sum := "91a715507ae0749f190652285e6f944b6f841f5fe00f54fbe102b990ea0d9102", func := "loop.example/g00927/laws.FnExactSwingOf", spec := "fnExactSwingOf", unfollowed := true, recurses := true, apart := false }
def FnExactSwingOfSaid : Prop := fnExactSwingOfRow.holds Try.pinned (OpenSpec.ofChange fnExactSwingOfSpec)

/-- ITS FALSE NEIGHBOUR: 'it returns false'. Refute it at one input. -/
def fnExactSwingOfWrong : ChangeSpec := { name := "fnExactSwingOf", fn := fun _ => fun
  | [d] => { results := [.lit (.bool false)], args := [d] }
  | _ => none }
def FnExactSwingOfWrongFalsely : Prop := fnExactSwingOfRow.holds Try.pinned (OpenSpec.ofChange fnExactSwingOfWrong)

/-- 'laws.FnExactRangeOf': WHATEVER THE INPUT: true; the input reads as it did. -/
def fnExactRangeOfSpec : ChangeSpec := { name := "fnExactRangeOf", fn := fun _ => fun
  | [d] => { results := [.lit (.bool true)], args := [d] }
  | _ => none }
def fnExactRangeOfRow : OpenClaim := { program := "ytlondbbjgcfobaa", sum := "91a715507ae0749f190652285e6f944b6f841f5fe00f54fbe102b990ea0d9102", func := "loop.example/g00927/laws.FnExactRangeOf", spec := "fnExactRangeOf", unfollowed := true, recurses := true, apart := false }
def FnExactRangeOfSaid : Prop := fnExactRangeOfRow.holds Try.pinned (OpenSpec.ofChange fnExactRangeOfSpec)

/-- ITS FALSE NEIGHBOUR: 'it returns false'. Refute it at one input. -/
def fnExactRangeOfWrong : ChangeSpec := { name := "fnExactRangeOf", fn := fun _ => fun
  | [d] => { results := [.lit (.bool false)], args := [d] }
  | _ => none }
def FnExactRangeOfWrongFalsely : Prop := fnExactRangeOfRow.holds Try.pinned (OpenSpec.ofChange fnExactRangeOfWrong)

/-- 'laws.FnExactHeldShare': WHATEVER THE INPUT: true; the input reads as it did. -/
def fnExactHeldShareSpec : ChangeSpec := { name := "fnExactHeldShare", fn := fun _ => fun
  | [d1, d2] => { results := [.lit (.bool true)], args := [d1, d2] }
  | _ => none }
def fnExactHeldShareRow : OpenClaim := { program := "ytlondbbjgcfobaa", sum := "91a715507ae0749f190652285e6f944b6f841f5fe00f54fbe102b990ea0d9102", func := "loop.example/g00927/laws.FnExactHeldShare", spec := "fnExactHeldShare", apart := false }
def FnExactHeldShareSaid : Prop := fnExactHeldShareRow.holds Try.pinned (OpenSpec.ofChange fnExactHeldShareSpec)

/-- ITS FALSE NEIGHBOUR: 'it returns false'. Refute it at one input. -/
def fnExactHeldShareWrong : ChangeSpec := { name := "fnExactHeldShare", fn := fun _ => fun
  | [d1, d2] => { results := [.lit (.bool false)], args := [d1, d2] }
  | _ => none }
def FnExactHeldShareWrongFalsely : Prop := fnExactHeldShareRow.holds Try.pinned (OpenSpec.ofChange fnExactHeldShareWrong)

/-- 'laws.FnExactInHands': WHATEVER THE INPUT: true; the input reads as it did. -/
def fnExactInHandsSpec : ChangeSpec := { name := "fnExactInHands", fn := fun _ => fun
  | [d1, d2, d3] => { results := [.lit (.bool true)], args := [d1, d2, d3] }
  | _ => none }
def fnExactInHandsRow : OpenClaim := { program := "ytlondbbjgcfobaa", sum := "91a715507ae0749f190652285e6f944b6f841f5fe00f54fbe102b990ea0d9102", func := "loop.example/g00927/laws.FnExactInHands", spec := "fnExactInHands", apart := false }
def FnExactInHandsSaid : Prop := fnExactInHandsRow.holds Try.pinned (OpenSpec.ofChange fnExactInHandsSpec)

/-- ITS FALSE NEIGHBOUR: 'it returns false'. Refute it at one input. -/
def fnExactInHandsWrong : ChangeSpec := { name := "fnExactInHands", fn := fun _ => fun
  | [d1, d2, d3] => { results := [.lit (.bool false)], args := [d1, d2, d3] }
  | _ => none }
def FnExactInHandsWrongFalsely : Prop := fnExactInHandsRow.holds Try.pinned (OpenSpec.ofChange fnExactInHandsWrong)

/-- 'laws.FnExactHarderBy': WHATEVER THE INPUT: true; the input reads as it did. -/
def fnExactHarderBySpec : ChangeSpec := { name := "fnExactHarderBy", fn := fun _ => fun
  | [d1, d2] => { results := [.lit (.bool true)], args := [d1, d2] }
  | _ => none }
def fnExactHarderByRow : OpenClaim := { program := "ytlondbbjgcfobaa", sum := "91a715507ae0749f190652285e6f944b6f841f5fe00f54fbe102b990ea0d9102", func := "loop.example/g00927/laws.FnExactHarderBy", spec := "fnExactHarderBy", apart := false }
def FnExactHarderBySaid : Prop := fnExactHarderByRow.holds Try.pinned (OpenSpec.ofChange fnExactHarderBySpec)

/-- ITS FALSE NEIGHBOUR: 'it returns false'. Refute it at one input. -/
def fnExactHarderByWrong : ChangeSpec := { name := "fnExactHarderBy", fn := fun _ => fun
  | [d1, d2] => { results := [.lit (.bool false)], args := [d1, d2] }
  | _ => none }
def FnExactHarderByWrongFalsely : Prop := fnExactHarderByRow.holds Try.pinned (OpenSpec.ofChange fnExactHarderByWrong)

/- THE SECOND FORM. 'bulk': how many values and letters a reading holds, each counted each time it is reached (what is shared counts as often as it is met; a slice's spare places count too). A statement '..UptoSaid' is the law's where the arguments, and the package variables that the reading takes, are together of bulk at most 1048576: NARROWER than '..Said'. Prove '..Said' where nothing that the law and all that it calls make is longer than what came in: it says more and counts as full. Else prove '..UptoSaid'. A law counts once. -/
mutual
def uptoBulk {H : Type} : DataW H → Nat
  | .lit (.string bytes) => bytes.length + 1
  | .lit _ => 1
  | .nil => 1
  | .ptr d => uptoBulk d + 1
  | .slice elems spare => uptoBulkAll elems + uptoBulkAll spare + 1
  | .agg parts => uptoBulkAll parts + 1
  | .iface _ d => uptoBulk d + 1
  | .map entries => uptoBulkEntries entries + 1
  | .held _ => 1
def uptoBulkAll {H : Type} : List (DataW H) → Nat
  | [] => 0
  | d :: r => uptoBulk d + uptoBulkAll r
def uptoBulkEntries {H : Type} : List (Lit × DataW H) → Nat
  | [] => 0
  | x :: r => uptoBulkEntry x + uptoBulkEntries r
def uptoBulkEntry {H : Type} : Lit × DataW H → Nat
  | (.string bytes, d) => bytes.length + uptoBulk d + 1
  | (_, d) => uptoBulk d + 1
 end
def uptoSmall : (H : Type) → List (DataW H) → Bool := fun _ ds => decide (uptoBulkAll ds ≤ 1048576)
def OpenSpec.upto (s : _root_.Go.ChangeSpec) : _root_.Go.OpenSpec := { _root_.Go.OpenSpec.ofChange s with cond := some uptoSmall }

/-- 'laws.FnExactEmptyOf', WHERE WHAT IT READS IS OF BULK AT MOST 1048576: true; the input reads as it did. -/
def fnExactEmptyOfUptoRow : OpenClaim := { program := "ytlondbbjgcfobaa", sum := "91a715507ae0749f190652285e6f944b6f841f5fe00f54fbe102b990ea0d9102", func := "loop.example/g00927/laws.FnExactEmptyOf", spec := "fnExactEmptyOf", unfollowed := true, recurses := true, apart := false, narrowed := true }
def FnExactEmptyOfUptoSaid : Prop := fnExactEmptyOfUptoRow.holds Try.pinned (OpenSpec.upto fnExactEmptyOfSpec)

/-- 'laws.FnExactWorkOf', WHERE WHAT IT READS IS OF BULK AT MOST 1048576: true; the input reads as it did. -/
def fnExactWorkOfUptoRow : OpenClaim := { program := "ytlondbbjgcfobaa", sum := "91a715507ae0749f190652285e6f944b6f841f5fe00f54fbe102b990ea0d9102", func := "loop.example/g00927/laws.FnExactWorkOf", spec := "fnExactWorkOf", unfollowed := true, recurses := true, apart := false, narrowed := true }
def FnExactWorkOfUptoSaid : Prop := fnExactWorkOfUptoRow.holds Try.pinned (OpenSpec.upto fnExactWorkOfSpec)

/-- 'laws.FnExactChangesOf', WHERE WHAT IT READS IS OF BULK AT MOST 1048576: true; the input reads as it did. -/
def fnExactChangesOfUptoRow : OpenClaim := { program := "ytlondbbjgcfobaa", sum := "91a715507ae0749f190652285e6f944b6f841f5fe00f54fbe102b990ea0d9102", func := "loop.example/g00927/laws.FnExactChangesOf", spec := "fnExactChangesOf", unfollowed := true, recurses := true, apart := false, narrowed := true }
def FnExactChangesOfUptoSaid : Prop := fnExactChangesOfUptoRow.holds Try.pinned (OpenSpec.upto fnExactChangesOfSpec)

/-- 'laws.FnExactFitsTiming', WHERE WHAT IT READS IS OF BULK AT MOST 1048576: true; the input reads as it did. -/
def fnExactFitsTimingUptoRow : OpenClaim := { program := "ytlondbbjgcfobaa", sum := "91a715507ae0749f190652285e6f944b6f841f5fe00f54fbe102b990ea0d9102", func := "loop.example/g00927/laws.FnExactFitsTiming", spec := "fnExactFitsTiming", apart := false, narrowed := true }
def FnExactFitsTimingUptoSaid : Prop := fnExactFitsTimingUptoRow.holds Try.pinned (OpenSpec.upto fnExactFitsTimingSpec)

/-- 'laws.FnExactMaxDwell', WHERE WHAT IT READS IS OF BULK AT MOST 1048576: true; the input reads as it did. -/
def fnExactMaxDwellUptoRow : OpenClaim := { program := "ytlondbbjgcfobaa", sum := "91a715507ae0749f190652285e6f944b6f841f5fe00f54fbe102b990ea0d9102", func := "loop.example/g00927/laws.FnExactMaxDwell", spec := "fnExactMaxDwell", apart := false, narrowed := true }
def FnExactMaxDwellUptoSaid : Prop := fnExactMaxDwellUptoRow.holds Try.pinned (OpenSpec.upto fnExactMaxDwellSpec)

/-- 'laws.FnExactSwingOf', WHERE WHAT IT READS IS OF BULK AT MOST 1048576: true; the input reads as it did. -/
def fnExactSwingOfUptoRow : OpenClaim := { program := "ytlondbbjgcfobaa", sum := "91a715507ae0749f190652285e6f944b6f841f5fe00f54fbe102b990ea0d9102", func := "loop.example/g00927/laws.FnExactSwingOf", spec := "fnExactSwingOf", unfollowed := true, recurses := true, apart := false, narrowed := true }
def FnExactSwingOfUptoSaid : Prop := fnExactSwingOfUptoRow.holds Try.pinned (OpenSpec.upto fnExactSwingOfSpec)

/-- 'laws.FnExactRangeOf', WHERE WHAT IT READS IS OF BULK AT MOST 1048576: true; the input reads as it did. -/
def fnExactRangeOfUptoRow : OpenClaim := { program := "ytlondbbjgcfobaa", sum := "91a715507ae0749f190652285e6f944b6f841f5fe00f54fbe102b990ea0d9102", func := "loop.example/g00927/laws.FnExactRangeOf", spec := "fnExactRangeOf", unfollowed := true, recurses := true, apart := false, narrowed := true }
def FnExactRangeOfUptoSaid : Prop := fnExactRangeOfUptoRow.holds Try.pinned (OpenSpec.upto fnExactRangeOfSpec)

/-- 'laws.FnExactHeldShare', WHERE WHAT IT READS IS OF BULK AT MOST 1048576: true; the input reads as it did. -/
def fnExactHeldShareUptoRow : OpenClaim := { program := "ytlondbbjgcfobaa", sum := "91a715507ae0749f190652285e6f944b6f841f5fe00f54fbe102b990ea0d9102", func := "loop.example/g00927/laws.FnExactHeldShare", spec := "fnExactHeldShare", apart := false, narrowed := true }
def FnExactHeldShareUptoSaid : Prop := fnExactHeldShareUptoRow.holds Try.pinned (OpenSpec.upto fnExactHeldShareSpec)

/-- 'laws.FnExactInHands', WHERE WHAT IT READS IS OF BULK AT MOST 1048576: true; the input reads as it did. -/
def fnExactInHandsUptoRow : OpenClaim := { program := "ytlondbbjgcfobaa", sum := "91a715507ae0749f190652285e6f944b6f841f5fe00f54fbe102b990ea0d9102", func := "loop.example/g00927/laws.FnExactInHands", spec := "fnExactInHands", apart := false, narrowed := true }
def FnExactInHandsUptoSaid : Prop := fnExactInHandsUptoRow.holds Try.pinned (OpenSpec.upto fnExactInHandsSpec)

/-- 'laws.FnExactHarderBy', WHERE WHAT IT READS IS OF BULK AT MOST 1048576: true; the input reads as it did. -/
def fnExactHarderByUptoRow : OpenClaim := { program := "ytlondbbjgcfobaa", sum := "91a715507ae0749f190652285e6f944b6f841f5fe00f54fbe102b990ea0d9102", func := "loop.example/g00927/laws.FnExactHarderBy", spec := "fnExactHarderBy", apart := false, narrowed := true }
def FnExactHarderByUptoSaid : Prop := fnExactHarderByUptoRow.holds Try.pinned (OpenSpec.upto fnExactHarderBySpec)

end Rows
end Go.Proofs.Ytlondbbjgcfobaa

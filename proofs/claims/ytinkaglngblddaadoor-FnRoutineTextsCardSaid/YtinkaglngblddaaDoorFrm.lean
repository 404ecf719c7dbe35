/- Contracts of MakeFraction, CompareFractions, toFraction, eqFraction. No condition. -/
import Derived.Test.YtinkaglngblddaaDoorFrc
namespace Go.Proofs.YtinkaglngblddaaDoor
set_option linter.unusedVariables false
set_option linter.unusedSimpArgs false
open Go.RowKit

/-- MakeFraction takes the two numbers. -/
def mfok (n d : Int) : Bool := btw n (-1000000000000000000) 1000000000000000000 && (btw d (-1000000000000000000) 1000000000000000000 && !(d == 0))
def mfn (n d : Int) : Int := if mfok n d then fnum n d else 0
def mfd (n d : Int) : Int := if mfok n d then fden n d else 0
def mfc (n d : Int) : Int := if mfok n d then 0 else 2
end Go.Proofs.YtinkaglngblddaaDoor

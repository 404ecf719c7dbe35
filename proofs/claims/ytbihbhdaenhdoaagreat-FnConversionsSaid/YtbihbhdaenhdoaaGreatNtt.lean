/- The laws' copy of notations. No condition but the stated bounds. (tools/gntn.py) -/
import Derived.Test.YtbihbhdaenhdoaaGreatNrs
namespace Go.Proofs.YtbihbhdaenhdoaaGreat
set_option linter.unusedVariables false
set_option linter.unusedSimpArgs false
open Go.ChangeShapes Go.WideShapes Go.ChangeAt Go.RowKit Go.Joins Go.Deep

/-- What hands back a notation in memory of its own. -/
def RetN (w : World) (D : ND) (e : Ending) (w' : World) : Prop := ∃ V : NV, e = .returned V.val ∧ NtO w' w.heap.size w'.heap.size V D ∧ Ext w w'
end Go.Proofs.YtbihbhdaenhdoaaGreat

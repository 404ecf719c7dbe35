/- Beats of multiplex patterns: the laws' sizes, copies, comparisons and marks of rows of rows of numbers and of structs that hold them. No condition but the stated bounds. -/
import Derived.Test.YtbihbhdaenhdoaaGreatIlr
import Derived.Test.YtbihbhdaenhdoaaGreatSyn
namespace Go.Proofs.YtbihbhdaenhdoaaGreat
set_option linter.unusedVariables false
set_option linter.unusedSimpArgs false
open Go.ChangeShapes Go.WideShapes Go.ChangeAt Go.RowKit Go.Joins Go.Deep

end Go.Proofs.YtbihbhdaenhdoaaGreat

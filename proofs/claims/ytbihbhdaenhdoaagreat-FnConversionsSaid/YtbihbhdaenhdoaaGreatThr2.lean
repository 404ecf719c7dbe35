/- Throws of passing patterns: contracts of the laws' comparisons and marks. No condition but the stated bounds. -/
import Derived.Test.YtbihbhdaenhdoaaGreatThr
import Derived.Test.YtbihbhdaenhdoaaGreatRow
namespace Go.Proofs.YtbihbhdaenhdoaaGreat
set_option linter.unusedVariables false
set_option linter.unusedSimpArgs false
open Go.ChangeShapes Go.WideShapes Go.ChangeAt Go.RowKit Go.Joins Go.Deep

/-- The throws that a mark leaves. -/
def mkT (k : Int) (n : Nat) : List (Int × Bool) := (List.range n).map (fun i : Nat => (k + 2 * i, ((k + 2 * i + 1) % 3 == 0)))
theorem mkT_len (k : Int) (n : Nat) : (mkT k n).length = n := by simp [mkT]
theorem mkT_tv {k : Int} {n i : Nat} (h : i < n) : tv (mkT k n) i = k + 2 * i := by simp [tv, mkT, h]
theorem mkT_tp {k : Int} {n i : Nat} (h : i < n) : tp (mkT k n) i = ((k + 2 * i + 1) % 3 == 0) := by simp [tp, mkT, h]
end Go.Proofs.YtbihbhdaenhdoaaGreat

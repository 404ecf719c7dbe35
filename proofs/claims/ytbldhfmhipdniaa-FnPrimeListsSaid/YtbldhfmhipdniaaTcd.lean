/- The codes of a pattern and a timing: contracts of l15Code, timingCode, FitsTiming. No condition. -/
import Derived.Test.YtbldhfmhipdniaaTmg
namespace Go.Proofs.Ytbldhfmhipdniaa
set_option linter.unusedVariables false
set_option linter.unusedSimpArgs false
open Go.RowKit

/-- The code out of: a pattern, a timing in range, a timing that fits. -/
def tcd (p t f : Bool) : Int := if p then (if t then (if f then 0 else 6) else 2) else 1
theorem tcd_zero {p t f : Bool} (h : tcd p t f = 0) : p = true ∧ t = true ∧ f = true := by
  cases p <;> cases t <;> cases f <;> simp [tcd] at h ⊢
end Go.Proofs.Ytbldhfmhipdniaa

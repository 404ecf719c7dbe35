/- The greater and the lesser of two numbers: contracts of l00Max, l00Min. No condition. -/
import Derived.Test.YtohmnilkmljioaaGreatExt
namespace Go.Proofs.YtohmnilkmljioaaGreat
set_option linter.unusedVariables false
set_option linter.unusedSimpArgs false
open Go.RowKit

def cmf (a b : Int) : Int := if b > a then b else a
def cml (a b : Int) : Int := if b < a then b else a
theorem cmf_bd {a b lo hi : Int} (h : lo ≤ a ∧ a ≤ hi) (h' : lo ≤ b ∧ b ≤ hi) : lo ≤ cmf a b ∧ cmf a b ≤ hi := by unfold cmf; split <;> omega
theorem cml_bd {a b lo hi : Int} (h : lo ≤ a ∧ a ≤ hi) (h' : lo ≤ b ∧ b ≤ hi) : lo ≤ cml a b ∧ cml a b ≤ hi := by unfold cml; split <;> omega
theorem cmf_pos {a b : Int} (h : a < b) : cmf a b = b := if_pos h
theorem cmf_neg {a b : Int} (h : ¬ a < b) : cmf a b = a := if_neg h
theorem cml_pos {a b : Int} (h : b < a) : cml a b = b := if_pos h
theorem cml_neg {a b : Int} (h : ¬ b < a) : cml a b = a := if_neg h
end Go.Proofs.YtohmnilkmljioaaGreat

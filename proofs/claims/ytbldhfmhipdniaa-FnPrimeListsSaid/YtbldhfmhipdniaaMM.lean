/- The greater and the lesser of two numbers: contracts of l00Max, l00Min. No condition. -/
import Derived.Test.YtbldhfmhipdniaaExt
namespace Go.Proofs.Ytbldhfmhipdniaa
set_option linter.unusedVariables false
set_option linter.unusedSimpArgs false
open Go.RowKit

def cmf (a b : Int) : Int := if b > a then b else a
def cml (a b : Int) : Int := if b < a then b else a
theorem cmf_bd {a b lo hi : Int} (h : lo ≤ a ∧ a ≤ hi) (h' : lo ≤ b ∧ b ≤ hi) : lo ≤ cmf a b ∧ cmf a b ≤ hi := by unfold cmf; split <;> omega
theorem cml_bd {a b lo hi : Int} (h : lo ≤ a ∧ a ≤ hi) (h' : lo ≤ b ∧ b ≤ hi) : lo ≤ cml a b ∧ cml a b ≤ hi := by unfold cml; split <;> omega
theorem cmf_pos {a b : Int} (h : a < b) : cmf a b = b := if_pos h
theorem cmf_neg {a b : Int} (h : ¬ a < b) : cmf a b = a := if_neg h
theorem cml_pos {a b : Int} (h : b < a) : cml a b = b := if_pos h
theorem cml_neg {a b : Int} (h : ¬ b < a) : cml a b = a := if_neg h
theorem l00Max_any (a b : Int) (w : World) : Calls Try.prog 50 #[.int .i64 a, .int .i64 b] w fun e w' => e = .returned (.int .i64 (cmf a b)) ∧ w = w' := by
  by_cases h : b > a
  · rw [show cmf a b = b from if_pos h]
    by_cases h2 : b < a
    · omega
    · go_enter Try.func50, Try.ntmps50
      go_wp2
      go_ret
      exact ⟨rfl, rfl⟩
  · rw [show cmf a b = a from if_neg h]
    by_cases h2 : b < a
    · go_enter Try.func50, Try.ntmps50
      go_wp2
      go_ret
      exact ⟨rfl, rfl⟩
    · obtain rfl : a = b := by omega
      clear h h2
      go_enter Try.func50, Try.ntmps50
      go_wp2
      go_ret
      exact ⟨rfl, rfl⟩
end Go.Proofs.Ytbldhfmhipdniaa

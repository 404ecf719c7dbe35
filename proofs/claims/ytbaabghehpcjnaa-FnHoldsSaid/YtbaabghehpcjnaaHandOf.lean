/- Contracts of HandOf. No condition. -/
import Derived.Test.YtbaabghehpcjnaaNum
namespace Go.Proofs.Ytbaabghehpcjnaa
set_option linter.unusedVariables false
set_option linter.unusedSimpArgs false
open Go.RowKit

theorem hand_law (a : Int) : a.tmod 2 % 2 = a % 2 := by
  have h := mod_law a 2 (by omega)
  omega
theorem implHandOf_any (b : Int) (w : World) :
    Calls Try.prog 14 #[.int .i64 b] w fun e w' => e = .returned (.int .i64 (b % 2)) ∧ w = w' := by
  go_enter Try.func14, Try.ntmps14
  go_wp2_with (go_at_call 35; refine (modulo_any _ _ _ (by omega) (by omega)).mono ?_; rintro e w' ⟨rfl, rfl⟩)
  go_ret
  exact ⟨ret_int (hand_law b), rfl⟩
end Go.Proofs.Ytbaabghehpcjnaa

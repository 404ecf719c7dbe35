/- The walk of laws.FnExactHandOf. No condition. -/
import Derived.Test.YtojbacaebclffaaHandOf
namespace Go.Proofs.Ytojbacaebclffaa.fnExactHandOf
open Go.RowKit
theorem walk (a : Int) (h : -9223372036854775808 ≤ a ∧ a ≤ 9223372036854775807) (w : World) :
    Calls Try.prog 3 #[.int .i64 a] w fun e w' => e = .returned (.bool true) ∧ Below w.heap.size w w' := by
  go_enter Try.func3, Try.ntmps3
  go_wp2_with (first | (go_at_call 16; refine (specHandOf_any _ _).mono ?_; rintro e w' ⟨rfl, rfl⟩) | (go_at_call 17; refine (implHandOf_any _ _).mono ?_; rintro e w' ⟨rfl, rfl⟩))
  go_ret
  exact ⟨rfl, Below.refl _ _⟩
end Go.Proofs.Ytojbacaebclffaa.fnExactHandOf

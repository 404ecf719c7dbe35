/- Contracts of HandOf. No condition. -/
import Derived.Test.YtojbacaebclffaaNum
namespace Go.Proofs.Ytojbacaebclffaa
open Go.RowKit

theorem hand_law (a : Int) : a.tmod 2 % 2 = a % 2 := by
  have h := mod_law a 2 (by omega)
  omega
theorem specHandOf_any (b : Int) (w : World) :
    Calls Try.prog 16 #[.int .i64 b] w fun e w' => e = .returned (.int .i64 (b % 2)) ∧ w = w' := by
  go_enter Try.func16, Try.ntmps16
  go_wp2_with (go_at_call 48; refine (l02Mod_any _ _ _ (by omega) (by omega)).mono ?_; rintro e w' ⟨rfl, rfl⟩)
  go_ret
  exact ⟨rfl, rfl⟩
theorem implHandOf_any (b : Int) (w : World) :
    Calls Try.prog 17 #[.int .i64 b] w fun e w' => e = .returned (.int .i64 (b % 2)) ∧ w = w' := by
  go_enter Try.func17, Try.ntmps17
  go_wp2_with (go_at_call 49; refine (modulo_any _ _ _ (by omega) (by omega)).mono ?_; rintro e w' ⟨rfl, rfl⟩)
  go_ret
  exact ⟨ret_int (hand_law b), rfl⟩
end Go.Proofs.Ytojbacaebclffaa

/- Contracts of flights: l16Ok, ValidFlight, toFlight, eqFlight, BackFlight. No condition. -/
import Derived.Test.YtbaabghehpcjnaaExt
namespace Go.Proofs.Ytbaabghehpcjnaa
set_option linter.unusedVariables false
set_option linter.unusedSimpArgs false
open Go.RowKit

/-- A flight is valid. -/
def vfl (x1 x2 t1 t2 : Int) : Bool := btw x1 (-50) 50 && (btw x2 (-50) 50 && (btw t1 (-100000) 100000 && btw t2 (t1 + 1) (t1 + 40)))
theorem vfl_iff {x1 x2 t1 t2 : Int} : vfl x1 x2 t1 t2 = true ↔ (-50 ≤ x1 ∧ x1 ≤ 50) ∧ (-50 ≤ x2 ∧ x2 ≤ 50) ∧ (-100000 ≤ t1 ∧ t1 ≤ 100000) ∧ (t1 + 1 ≤ t2 ∧ t2 ≤ t1 + 40) := by
  simp only [vfl, Bool.and_eq_true, btw_iff]
set_option maxHeartbeats 800000 in
theorem implValidFlight_any (x1 x2 t1 t2 : Int) (w : World) :
    Calls Try.prog 40 #[.agg #[.int .i64 x1, .int .i64 x2, .int .i64 t1, .int .i64 t2]] w fun e w' => e = .returned (.bool (vfl x1 x2 t1 t2)) ∧ Ext w w' := by
  unfold vfl
  cases h1 : btw x1 (-50) 50
  rotate_left
  cases h2 : btw x2 (-50) 50
  rotate_left
  cases h3 : btw t1 (-100000) 100000
  all_goals
    try have b3 := btw_iff.1 h3
    go_enter Try.func40, Try.ntmps40
    go_wp2_with (go_at_call 31; (with_reducible refine (between_any _ _ _ _).mono ?_); rintro e w' ⟨rfl, rfl⟩)
    go_ret
    exact ⟨rfl, (by with_reducible (repeat (first | exact Ext.refl _ | apply Ext.drewN | apply Ext.drew | apply Ext.alloc | (refine Ext.set ?_ (by first | (simp; done) | (simp; omega) | omega) _) | (refine Ext.trans ?_ (by assumption)))))⟩
end Go.Proofs.Ytbaabghehpcjnaa

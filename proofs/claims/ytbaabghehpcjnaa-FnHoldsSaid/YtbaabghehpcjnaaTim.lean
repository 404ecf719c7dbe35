/- Contracts of ValidTiming, toTiming. No condition. -/
import Derived.Test.YtbaabghehpcjnaaExt
namespace Go.Proofs.Ytbaabghehpcjnaa
set_option linter.unusedVariables false
set_option linter.unusedSimpArgs false
open Go.RowKit

/-- A timing is valid. -/
def vtim (b d : Int) : Bool := btw b 2 30 && btw d 1 (2 * b)
set_option maxHeartbeats 400000 in
theorem l15Ok_any (b d : Int) (w : World) :
    Calls Try.prog 66 #[.agg #[.int .i64 b, .int .i64 d]] w fun e w' => e = .returned (.bool (vtim b d)) ∧ Ext w w' := by
  unfold vtim
  cases hb : btw b 2 30
  · go_enter Try.func66, Try.ntmps66
    go_wp2_with (go_at_call 51; refine (l00In_any _ _ _ _).mono ?_; rintro e w' ⟨rfl, rfl⟩)
    go_ret
    exact ⟨rfl, (Ext.refl _).alloc _⟩
  · have h2 := btw_iff.1 hb
    go_enter Try.func66, Try.ntmps66
    go_wp2_with (go_at_call 51; refine (l00In_any _ _ _ _).mono ?_; rintro e w' ⟨rfl, rfl⟩)
    go_ret
    exact ⟨rfl, (Ext.refl _).alloc _⟩
set_option maxHeartbeats 400000 in
theorem implValidTiming_any (b d : Int) (w : World) :
    Calls Try.prog 32 #[.agg #[.int .i64 b, .int .i64 d]] w fun e w' => e = .returned (.bool (vtim b d)) ∧ Ext w w' := by
  unfold vtim
  cases hb : btw b 2 30
  · go_enter Try.func32, Try.ntmps32
    go_wp2_with (go_at_call 31; refine (between_any _ _ _ _).mono ?_; rintro e w' ⟨rfl, rfl⟩)
    go_ret
    exact ⟨rfl, (Ext.refl _).alloc _⟩
  · have h2 := btw_iff.1 hb
    go_enter Try.func32, Try.ntmps32
    go_wp2_with (go_at_call 31; refine (between_any _ _ _ _).mono ?_; rintro e w' ⟨rfl, rfl⟩)
    go_ret
    exact ⟨rfl, (Ext.refl _).alloc _⟩
end Go.Proofs.Ytbaabghehpcjnaa

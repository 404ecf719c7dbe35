/- Contracts of ValidTiming, toTiming. No condition. -/
import Derived.Test.YtenljcmaljeffaaDoorExt
namespace Go.Proofs.YtenljcmaljeffaaDoor
set_option linter.unusedVariables false
set_option linter.unusedSimpArgs false
open Go.RowKit

/-- A timing is valid. -/
def vtim (b d : Int) : Bool := btw b 2 30 && btw d 1 (2 * b)
set_option maxHeartbeats 400000 in
theorem l15Ok_any (b d : Int) (w : World) :
    Calls Tryd.prog 16 #[.agg #[.int .i64 b, .int .i64 d]] w fun e w' => e = .returned (.bool (vtim b d)) ∧ Ext w w' := by
  unfold vtim
  cases hb : btw b 2 30
  · go_enter Tryd.func16, Tryd.ntmps16
    go_wp2_with (go_at_call 23; refine (l00In_any _ _ _ _).mono ?_; rintro e w' ⟨rfl, rfl⟩)
    go_ret
    exact ⟨rfl, (Ext.refl _).alloc _⟩
  · have h2 := btw_iff.1 hb
    go_enter Tryd.func16, Tryd.ntmps16
    go_wp2_with (go_at_call 23; refine (l00In_any _ _ _ _).mono ?_; rintro e w' ⟨rfl, rfl⟩)
    go_ret
    exact ⟨rfl, (Ext.refl _).alloc _⟩
set_option maxHeartbeats 400000 in
theorem implValidTiming_any (b d : Int) (w : World) :
    Calls Tryd.prog 18 #[.agg #[.int .i64 b, .int .i64 d]] w fun e w' => e = .returned (.bool (vtim b d)) ∧ Ext w w' := by
  unfold vtim
  cases hb : btw b 2 30
  · go_enter Tryd.func18, Tryd.ntmps18
    go_wp2_with (go_at_call 21; refine (between_any _ _ _ _).mono ?_; rintro e w' ⟨rfl, rfl⟩)
    go_ret
    exact ⟨rfl, (Ext.refl _).alloc _⟩
  · have h2 := btw_iff.1 hb
    go_enter Tryd.func18, Tryd.ntmps18
    go_wp2_with (go_at_call 21; refine (between_any _ _ _ _).mono ?_; rintro e w' ⟨rfl, rfl⟩)
    go_ret
    exact ⟨rfl, (Ext.refl _).alloc _⟩
theorem toTiming_any (b d : Int) (w : World) :
    Calls Tryd.prog 7 #[.agg #[.int .i64 b, .int .i64 d]] w fun e w' => e = .returned (.agg #[.int .i64 b, .int .i64 d]) ∧ Ext w w' := by
  go_enter Tryd.func7, Tryd.ntmps7
  go_wp2
  exact bodyPost_ret (v := .agg #[.int .i64 b, .int .i64 d]) (by simp [results, Tryd.results7, go_sem]) rfl ⟨rfl, (by with_reducible (repeat (first | exact Ext.refl _ | apply Ext.drewN | apply Ext.drew | apply Ext.alloc | (refine Ext.set ?_ (by first | (simp; done) | (simp; omega) | omega) _) | (refine Ext.trans ?_ (by assumption)))))⟩
end Go.Proofs.YtenljcmaljeffaaDoor

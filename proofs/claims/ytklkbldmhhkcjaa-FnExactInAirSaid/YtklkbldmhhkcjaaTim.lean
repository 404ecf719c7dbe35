/- Contracts of ValidTiming, toTiming. No condition. -/
import Derived.Test.YtklkbldmhhkcjaaExt
namespace Go.Proofs.Ytklkbldmhhkcjaa
set_option linter.unusedVariables false
set_option linter.unusedSimpArgs false
open Go.RowKit

/-- A timing is valid. -/
def vtim (b d : Int) : Bool := btw b 2 30 && btw d 1 (2 * b)
set_option maxHeartbeats 400000 in
theorem l15Ok_any (b d : Int) (w : World) :
    Calls Try.prog 42 #[.agg #[.int .i64 b, .int .i64 d]] w fun e w' => e = .returned (.bool (vtim b d)) ∧ Ext w w' := by
  unfold vtim
  cases hb : btw b 2 30
  · go_enter Try.func42, Try.ntmps42
    go_wp2_with (go_at_call 27; refine (l00In_any _ _ _ _).mono ?_; rintro e w' ⟨rfl, rfl⟩)
    go_ret
    exact ⟨rfl, (Ext.refl _).alloc _⟩
  · have h2 := btw_iff.1 hb
    go_enter Try.func42, Try.ntmps42
    go_wp2_with (go_at_call 27; refine (l00In_any _ _ _ _).mono ?_; rintro e w' ⟨rfl, rfl⟩)
    go_ret
    exact ⟨rfl, (Ext.refl _).alloc _⟩
set_option maxHeartbeats 400000 in
theorem implValidTiming_any (b d : Int) (w : World) :
    Calls Try.prog 45 #[.agg #[.int .i64 b, .int .i64 d]] w fun e w' => e = .returned (.bool (vtim b d)) ∧ Ext w w' := by
  unfold vtim
  cases hb : btw b 2 30
  · go_enter Try.func45, Try.ntmps45
    go_wp2_with (go_at_call 46; refine (between_any _ _ _ _).mono ?_; rintro e w' ⟨rfl, rfl⟩)
    go_ret
    exact ⟨rfl, (Ext.refl _).alloc _⟩
  · have h2 := btw_iff.1 hb
    go_enter Try.func45, Try.ntmps45
    go_wp2_with (go_at_call 46; refine (between_any _ _ _ _).mono ?_; rintro e w' ⟨rfl, rfl⟩)
    go_ret
    exact ⟨rfl, (Ext.refl _).alloc _⟩
theorem toTiming_any (b d : Int) (w : World) :
    Calls Try.prog 9 #[.agg #[.int .i64 b, .int .i64 d]] w fun e w' => e = .returned (.agg #[.int .i64 b, .int .i64 d]) ∧ Ext w w' := by
  go_enter Try.func9, Try.ntmps9
  go_wp2
  exact bodyPost_ret (v := .agg #[.int .i64 b, .int .i64 d]) (by simp [results, Try.results9, go_sem]) rfl ⟨rfl, (by with_reducible (repeat (first | exact Ext.refl _ | apply Ext.drewN | apply Ext.drew | apply Ext.alloc | (refine Ext.set ?_ (by first | (simp; done) | (simp; omega) | omega) _) | (refine Ext.trans ?_ (by assumption)))))⟩
end Go.Proofs.Ytklkbldmhhkcjaa

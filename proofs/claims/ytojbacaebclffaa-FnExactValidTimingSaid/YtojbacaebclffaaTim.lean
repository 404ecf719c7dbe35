/- Contracts of ValidTiming, toTiming. No condition. -/
import Derived.Test.YtojbacaebclffaaExt
namespace Go.Proofs.Ytojbacaebclffaa
open Go.RowKit

/-- A timing is valid. -/
def vtim (b d : Int) : Bool := btw b 2 30 && btw d 1 (2 * b)
set_option maxHeartbeats 400000 in
theorem l15Ok_any (b d : Int) (w : World) :
    Calls Try.prog 50 #[.agg #[.int .i64 b, .int .i64 d]] w fun e w' => e = .returned (.bool (vtim b d)) ∧ Ext w w' := by
  unfold vtim
  cases hb : btw b 2 30
  · go_enter Try.func50, Try.ntmps50
    go_wp2_with (go_at_call 59; refine (l00In_any _ _ _ _).mono ?_; rintro e w' ⟨rfl, rfl⟩)
    go_ret
    exact ⟨rfl, (Ext.refl _).alloc _⟩
  · have h2 := btw_iff.1 hb
    go_enter Try.func50, Try.ntmps50
    go_wp2_with (go_at_call 59; refine (l00In_any _ _ _ _).mono ?_; rintro e w' ⟨rfl, rfl⟩)
    go_ret
    exact ⟨rfl, (Ext.refl _).alloc _⟩
theorem specValidTiming_any (b d : Int) (w : World) :
    Calls Try.prog 18 #[.agg #[.int .i64 b, .int .i64 d]] w fun e w' => e = .returned (.bool (vtim b d)) ∧ Ext w w' := by
  go_enter Try.func18, Try.ntmps18
  go_wp2_with (go_at_call 50; refine (l15Ok_any _ _ _).mono ?_; rintro e w1 ⟨rfl, hx1⟩)
  go_ret
  exact ⟨rfl, ((Ext.refl _).alloc _).trans hx1⟩
set_option maxHeartbeats 400000 in
theorem implValidTiming_any (b d : Int) (w : World) :
    Calls Try.prog 20 #[.agg #[.int .i64 b, .int .i64 d]] w fun e w' => e = .returned (.bool (vtim b d)) ∧ Ext w w' := by
  unfold vtim
  cases hb : btw b 2 30
  · go_enter Try.func20, Try.ntmps20
    go_wp2_with (go_at_call 51; refine (between_any _ _ _ _).mono ?_; rintro e w' ⟨rfl, rfl⟩)
    go_ret
    exact ⟨rfl, (Ext.refl _).alloc _⟩
  · have h2 := btw_iff.1 hb
    go_enter Try.func20, Try.ntmps20
    go_wp2_with (go_at_call 51; refine (between_any _ _ _ _).mono ?_; rintro e w' ⟨rfl, rfl⟩)
    go_ret
    exact ⟨rfl, (Ext.refl _).alloc _⟩
theorem toTiming_any (b d : Int) (w : World) :
    Calls Try.prog 19 #[.agg #[.int .i64 b, .int .i64 d]] w fun e w' => e = .returned (.agg #[.int .i64 b, .int .i64 d]) ∧ Ext w w' := by
  go_enter Try.func19, Try.ntmps19
  go_wp2
  exact bodyPost_ret (v := .agg #[.int .i64 b, .int .i64 d]) (by simp [results, Try.results19, go_sem]) rfl ⟨rfl, (by with_reducible (repeat (first | exact Ext.refl _ | apply Ext.drewN | apply Ext.drew | apply Ext.alloc | (refine Ext.set ?_ (by simp) _) | (refine Ext.trans ?_ (by assumption)))))⟩
end Go.Proofs.Ytojbacaebclffaa

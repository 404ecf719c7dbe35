/- Contracts of flights: l16Ok, ValidFlight, toFlight, eqFlight, BackFlight. No condition. -/
import Derived.Test.YtojbacaebclffaaExt
namespace Go.Proofs.Ytojbacaebclffaa
set_option linter.unusedVariables false
open Go.RowKit

/-- A flight is valid. -/
def vfl (x1 x2 t1 t2 : Int) : Bool := btw x1 (-50) 50 && (btw x2 (-50) 50 && (btw t1 (-100000) 100000 && btw t2 (t1 + 1) (t1 + 40)))
theorem vfl_iff {x1 x2 t1 t2 : Int} : vfl x1 x2 t1 t2 = true ↔ (-50 ≤ x1 ∧ x1 ≤ 50) ∧ (-50 ≤ x2 ∧ x2 ≤ 50) ∧ (-100000 ≤ t1 ∧ t1 ≤ 100000) ∧ (t1 + 1 ≤ t2 ∧ t2 ≤ t1 + 40) := by
  simp only [vfl, Bool.and_eq_true, btw_iff]
set_option maxHeartbeats 800000 in
theorem l16Ok_any (g : Nat) (x1 x2 t1 t2 : Int) (w : World) (c0 : w.cell? ⟨g, 0, none⟩ = some (.int .i64 x1)) (c1 : w.cell? ⟨g, 1, none⟩ = some (.int .i64 x2)) (c2 : w.cell? ⟨g, 2, none⟩ = some (.int .i64 t1)) (c3 : w.cell? ⟨g, 3, none⟩ = some (.int .i64 t2)) :
    Calls Try.prog 52 #[.pointer (some ⟨g, 0, none⟩)] w fun e w' => e = .returned (.bool (vfl x1 x2 t1 t2)) ∧ Qt w w' := by
  unfold vfl
  cases h1 : btw x1 (-50) 50
  rotate_left
  cases h2 : btw x2 (-50) 50
  rotate_left
  cases h3 : btw t1 (-100000) 100000
  all_goals
    try have b3 := btw_iff.1 h3
    go_enter Try.func52, Try.ntmps52
    go_wp2
    go_quiet ((go_at_call 59; first | with_reducible exact quiet_l (l00In_is _ _ _ _ h1 _) | with_reducible exact quiet_l (l00In_is _ _ _ _ h2 _) | with_reducible exact quiet_l (l00In_is _ _ _ _ h3 _) | exact quiet_l (l00In_any _ _ _ _)))
    go_wp2
    go_ret
    exact ⟨rfl, Qt.mk _ _⟩
theorem specValidFlight_any (x1 x2 t1 t2 : Int) (w : World) :
    Calls Try.prog 21 #[.agg #[.int .i64 x1, .int .i64 x2, .int .i64 t1, .int .i64 t2]] w fun e w' => e = .returned (.bool (vfl x1 x2 t1 t2)) ∧ Ext w w' := by
  go_enter Try.func21, Try.ntmps21
  go_wp2_with (go_at_call 52; refine (l16Ok_any _ x1 x2 t1 t2 _ (by simp) (by simp) (by simp) (by simp)).mono ?_; rintro e w' ⟨rfl, n, rfl⟩)
  go_ret
  exact ⟨rfl, (by with_reducible (repeat (first | exact Ext.refl _ | apply Ext.drewN | apply Ext.drew | apply Ext.alloc | (refine Ext.set ?_ (by first | (simp; done) | (simp; omega) | omega) _) | (refine Ext.trans ?_ (by assumption)))))⟩
set_option maxHeartbeats 800000 in
theorem implValidFlight_any (x1 x2 t1 t2 : Int) (w : World) :
    Calls Try.prog 23 #[.agg #[.int .i64 x1, .int .i64 x2, .int .i64 t1, .int .i64 t2]] w fun e w' => e = .returned (.bool (vfl x1 x2 t1 t2)) ∧ Ext w w' := by
  unfold vfl
  cases h1 : btw x1 (-50) 50
  rotate_left
  cases h2 : btw x2 (-50) 50
  rotate_left
  cases h3 : btw t1 (-100000) 100000
  all_goals
    try have b3 := btw_iff.1 h3
    go_enter Try.func23, Try.ntmps23
    go_wp2_with (go_at_call 51; (with_reducible refine (between_any _ _ _ _).mono ?_); rintro e w' ⟨rfl, rfl⟩)
    go_ret
    exact ⟨rfl, (by with_reducible (repeat (first | exact Ext.refl _ | apply Ext.drewN | apply Ext.drew | apply Ext.alloc | (refine Ext.set ?_ (by first | (simp; done) | (simp; omega) | omega) _) | (refine Ext.trans ?_ (by assumption)))))⟩
theorem toFlight_any (x1 x2 t1 t2 : Int) (w : World) :
    Calls Try.prog 22 #[.agg #[.int .i64 x1, .int .i64 x2, .int .i64 t1, .int .i64 t2]] w fun e w' => e = .returned (.agg #[.int .i64 x1, .int .i64 x2, .int .i64 t1, .int .i64 t2]) ∧ Ext w w' := by
  go_enter Try.func22, Try.ntmps22
  go_wp2
  exact bodyPost_ret (v := .agg #[.int .i64 x1, .int .i64 x2, .int .i64 t1, .int .i64 t2]) (by simp [results, Try.results22, go_sem]) rfl ⟨rfl, (by with_reducible (repeat (first | exact Ext.refl _ | apply Ext.drewN | apply Ext.drew | apply Ext.alloc | (refine Ext.set ?_ (by first | (simp; done) | (simp; omega) | omega) _) | (refine Ext.trans ?_ (by assumption)))))⟩
theorem eqFlight_same (x1 x2 t1 t2 : Int) (w : World) :
    Calls Try.prog 29 #[.agg #[.int .i64 x1, .int .i64 x2, .int .i64 t1, .int .i64 t2], .agg #[.int .i64 x1, .int .i64 x2, .int .i64 t1, .int .i64 t2]] w fun e w' => e = .returned (.bool true) ∧ Ext w w' := by
  go_enter Try.func29, Try.ntmps29
  go_wp2
  go_ret
  exact ⟨rfl, (by with_reducible (repeat (first | exact Ext.refl _ | apply Ext.drewN | apply Ext.drew | apply Ext.alloc | (refine Ext.set ?_ (by first | (simp; done) | (simp; omega) | omega) _) | (refine Ext.trans ?_ (by assumption)))))⟩
end Go.Proofs.Ytojbacaebclffaa

/- Contracts of CommonTicks. No condition. -/
import Derived.Test.YtojbacaebclffaaHgt2
namespace Go.Proofs.Ytojbacaebclffaa
set_option linter.unusedVariables false
open Go.RowKit

def cmf (a b : Int) : Int := if b > a then b else a
def cml (a b : Int) : Int := if b < a then b else a
def cmk (t1 t2 s1 s2 : Int) : Bool := decide (cmf t1 s1 ≤ cml t2 s2)
/-- The code of two flights. -/
def cmc (x1 x2 t1 t2 y1 y2 s1 s2 : Int) : Int := if vfl x1 x2 t1 t2 then (if vfl y1 y2 s1 s2 then (if cmk t1 t2 s1 s2 then 0 else 6) else 1) else 1
theorem cmc_zero {x1 x2 t1 t2 y1 y2 s1 s2 : Int} (h : cmc x1 x2 t1 t2 y1 y2 s1 s2 = 0) : vfl x1 x2 t1 t2 = true ∧ vfl y1 y2 s1 s2 = true ∧ cmk t1 t2 s1 s2 = true := by
  unfold cmc at h
  split at h
  · split at h
    · split at h
      · exact ⟨‹_›, ‹_›, ‹_›⟩
      · omega
    · omega
  · omega
theorem l00Max_any (a b : Int) (w : World) : Calls Try.prog 72 #[.int .i64 a, .int .i64 b] w fun e w' => e = .returned (.int .i64 (cmf a b)) ∧ w = w' := by
  by_cases h : b > a
  · rw [show cmf a b = b from if_pos h]
    by_cases h2 : b < a
    · omega
    · go_enter Try.func72, Try.ntmps72
      go_wp2
      go_ret
      exact ⟨rfl, rfl⟩
  · rw [show cmf a b = a from if_neg h]
    by_cases h2 : b < a
    · go_enter Try.func72, Try.ntmps72
      go_wp2
      go_ret
      exact ⟨rfl, rfl⟩
    · obtain rfl : a = b := by omega
      clear h h2
      go_enter Try.func72, Try.ntmps72
      go_wp2
      go_ret
      exact ⟨rfl, rfl⟩
theorem l00Min_any (a b : Int) (w : World) : Calls Try.prog 73 #[.int .i64 a, .int .i64 b] w fun e w' => e = .returned (.int .i64 (cml a b)) ∧ w = w' := by
  by_cases h : b < a
  · rw [show cml a b = b from if_pos h]
    by_cases h2 : a < b
    · omega
    · go_enter Try.func73, Try.ntmps73
      go_wp2
      go_ret
      exact ⟨rfl, rfl⟩
  · rw [show cml a b = a from if_neg h]
    by_cases h2 : a < b
    · go_enter Try.func73, Try.ntmps73
      go_wp2
      go_ret
      exact ⟨rfl, rfl⟩
    · obtain rfl : a = b := by omega
      clear h h2
      go_enter Try.func73, Try.ntmps73
      go_wp2
      go_ret
      exact ⟨rfl, rfl⟩
theorem l17Common_any (g f : Nat) (x1 x2 t1 t2 y1 y2 s1 s2 : Int) (w : World) (a0 : w.cell? ⟨g, 0, none⟩ = some (.int .i64 x1)) (a1 : w.cell? ⟨g, 1, none⟩ = some (.int .i64 x2)) (a2 : w.cell? ⟨g, 2, none⟩ = some (.int .i64 t1)) (a3 : w.cell? ⟨g, 3, none⟩ = some (.int .i64 t2)) (b0 : w.cell? ⟨f, 0, none⟩ = some (.int .i64 y1)) (b1 : w.cell? ⟨f, 1, none⟩ = some (.int .i64 y2)) (b2 : w.cell? ⟨f, 2, none⟩ = some (.int .i64 s1)) (b3 : w.cell? ⟨f, 3, none⟩ = some (.int .i64 s2)) :
    Calls Try.prog 61 #[.pointer (some ⟨g, 0, none⟩), .pointer (some ⟨f, 0, none⟩)] w fun e w' => e = .returned (.tuple #[.int .i64 (cmf t1 s1), .int .i64 (cml t2 s2), .bool (cmk t1 t2 s1 s2)]) ∧ Qt w w' := by
  have HR : Hid (cmk t1 t2 s1 s2 = decide (cmf t1 s1 ≤ cml t2 s2)) := rfl
  go_enter Try.func61, Try.ntmps61
  go_wp2
  go_quiet ((go_at_call 72; first | with_reducible exact quiet_l (l00Max_any _ _ _) | with_reducible exact quiet_la (l00Max_any _ _ _)))
  go_wp2
  go_quiet ((go_at_call 73; first | with_reducible exact quiet_l (l00Min_any _ _ _) | with_reducible exact quiet_la (l00Min_any _ _ _)))
  go_wp2
  go_ret3
  exact ⟨by rw [HR.out]; rfl, ⟨_, rfl⟩⟩
theorem l17Common_is (g f : Nat) (x1 x2 t1 t2 y1 y2 s1 s2 : Int) (w : World) (a0 : w.cell? ⟨g, 0, none⟩ = some (.int .i64 x1)) (a1 : w.cell? ⟨g, 1, none⟩ = some (.int .i64 x2)) (a2 : w.cell? ⟨g, 2, none⟩ = some (.int .i64 t1)) (a3 : w.cell? ⟨g, 3, none⟩ = some (.int .i64 t2)) (b0 : w.cell? ⟨f, 0, none⟩ = some (.int .i64 y1)) (b1 : w.cell? ⟨f, 1, none⟩ = some (.int .i64 y2)) (b2 : w.cell? ⟨f, 2, none⟩ = some (.int .i64 s1)) (b3 : w.cell? ⟨f, 3, none⟩ = some (.int .i64 s2)) (k : Bool) (hk : cmk t1 t2 s1 s2 = k) :
    Calls Try.prog 61 #[.pointer (some ⟨g, 0, none⟩), .pointer (some ⟨f, 0, none⟩)] w fun e w' => e = .returned (.tuple #[.int .i64 (cmf t1 s1), .int .i64 (cml t2 s2), .bool k]) ∧ Qt w w' := by
  subst hk
  exact l17Common_any g f x1 x2 t1 t2 y1 y2 s1 s2 w a0 a1 a2 a3 b0 b1 b2 b3
theorem commonTicks_any (x1 x2 t1 t2 y1 y2 s1 s2 : Int) (w : World) :
    Calls Try.prog 62 #[.agg #[.int .i64 x1, .int .i64 x2, .int .i64 t1, .int .i64 t2], .agg #[.int .i64 y1, .int .i64 y2, .int .i64 s1, .int .i64 s2]] w fun e w' => e = .returned (.tuple #[.int .i64 (cmf t1 s1), .int .i64 (cml t2 s2), .bool (cmk t1 t2 s1 s2)]) ∧ Ext w w' := by
  have HR : Hid (cmk t1 t2 s1 s2 = decide (cmf t1 s1 ≤ cml t2 s2)) := rfl
  by_cases h1 : s1 > t1 <;> by_cases h2 : s2 < t2
  all_goals
    first | rw [show cmf t1 s1 = s1 from if_pos h1] at HR ⊢ | rw [show cmf t1 s1 = t1 from if_neg h1] at HR ⊢
    first | rw [show cml t2 s2 = s2 from if_pos h2] at HR ⊢ | rw [show cml t2 s2 = t2 from if_neg h2] at HR ⊢
    go_enter Try.func62, Try.ntmps62
    go_wp2
    go_region
    all_goals
      go_wp2
      go_ret3
      exact ⟨by rw [HR.out]; rfl, (by with_reducible (repeat (first | exact Ext.refl _ | apply Ext.drewN | apply Ext.drew | apply Ext.alloc | (refine Ext.set ?_ (by first | (simp; done) | (simp; omega) | omega) _) | (refine Ext.trans ?_ (by assumption)))))⟩
theorem commonTicks_is (x1 x2 t1 t2 y1 y2 s1 s2 : Int) (k : Bool) (hk : cmk t1 t2 s1 s2 = k) (w : World) :
    Calls Try.prog 62 #[.agg #[.int .i64 x1, .int .i64 x2, .int .i64 t1, .int .i64 t2], .agg #[.int .i64 y1, .int .i64 y2, .int .i64 s1, .int .i64 s2]] w fun e w' => e = .returned (.tuple #[.int .i64 (cmf t1 s1), .int .i64 (cml t2 s2), .bool k]) ∧ Ext w w' := by
  subst hk
  exact commonTicks_any x1 x2 t1 t2 y1 y2 s1 s2 w
end Go.Proofs.Ytojbacaebclffaa

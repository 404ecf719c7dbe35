/- Contracts of flights at a tick: HeightAt, SideAt, TopOf. No condition but the stated bounds. -/
import Derived.Test.YtbaabghehpcjnaaBak
namespace Go.Proofs.Ytbaabghehpcjnaa
set_option linter.unusedVariables false
set_option linter.unusedSimpArgs false
open Go.RowKit

/-- The code of a flight and a tick. -/
def tcode (x1 x2 t1 t2 k : Int) : Int := if vfl x1 x2 t1 t2 then (if btw k t1 t2 then 0 else 2) else 1
theorem tcode_zero {x1 x2 t1 t2 k : Int} (h : tcode x1 x2 t1 t2 k = 0) : vfl x1 x2 t1 t2 = true ∧ btw k t1 t2 = true := by
  unfold tcode at h
  split at h
  · split at h
    · exact ⟨‹_›, ‹_›⟩
    · omega
  · omega
theorem tick_bd {x1 x2 t1 t2 k : Int} (h : tcode x1 x2 t1 t2 k = 0) : ((-50 ≤ x1 ∧ x1 ≤ 50) ∧ (-50 ≤ x2 ∧ x2 ≤ 50)) ∧ ((-100000 ≤ t1 ∧ t1 ≤ 100000) ∧ (t1 + 1 ≤ t2 ∧ t2 ≤ t1 + 40)) ∧ (t1 ≤ k ∧ k ≤ t2) := by
  obtain ⟨h1, h2⟩ := tcode_zero h
  have h3 := vfl_iff.1 h1
  have h4 := btw_iff.1 h2
  omega
theorem tickCode_any (x1 x2 t1 t2 k : Int) (w : World) :
    Calls Try.prog 38 #[.agg #[.int .i64 x1, .int .i64 x2, .int .i64 t1, .int .i64 t2], .int .i64 k] w fun e w' => e = .returned (.int .i64 (tcode x1 x2 t1 t2 k)) ∧ Ext w w' := by
  unfold tcode
  cases hv : vfl x1 x2 t1 t2
  · go_enter Try.func38, Try.ntmps38
    go_wp2_with (go_at_call 40; (with_reducible refine (implValidFlight_is x1 x2 t1 t2 _ hv _).mono ?_); rintro e w1 ⟨rfl, hx⟩; have hz := hx.size; (try simp at hz); (try (have hq0 : w.heap.size < w1.heap.size := by omega)); (try (have hc0 : ∀ o, w1.cell? ⟨w.heap.size, o, none⟩ = _ := fun o => hx.cells.1 _ o (by first | (simp; done) | (simp; omega) | omega))); (try (have hf0 : ∀ o, w1.frozen? ⟨w.heap.size, o, none⟩ = _ := fun o => hx.cells.2 _ o (by first | (simp; done) | (simp; omega) | omega))); (try (have hq1 : w.heap.size + 1 < w1.heap.size := by omega)); (try (have hc1 : ∀ o, w1.cell? ⟨w.heap.size + 1, o, none⟩ = _ := fun o => hx.cells.1 _ o (by first | (simp; done) | (simp; omega) | omega))); (try (have hf1 : ∀ o, w1.frozen? ⟨w.heap.size + 1, o, none⟩ = _ := fun o => hx.cells.2 _ o (by first | (simp; done) | (simp; omega) | omega))); (try (have hq2 : w.heap.size + 2 < w1.heap.size := by omega)); (try (have hc2 : ∀ o, w1.cell? ⟨w.heap.size + 2, o, none⟩ = _ := fun o => hx.cells.1 _ o (by first | (simp; done) | (simp; omega) | omega))); (try (have hf2 : ∀ o, w1.frozen? ⟨w.heap.size + 2, o, none⟩ = _ := fun o => hx.cells.2 _ o (by first | (simp; done) | (simp; omega) | omega))))
    go_ret
    exact ⟨rfl, (by with_reducible (repeat (first | exact Ext.refl _ | apply Ext.drewN | apply Ext.drew | apply Ext.alloc | (refine Ext.set ?_ (by first | (simp; done) | (simp; omega) | omega) _) | (refine Ext.trans ?_ (by assumption)))))⟩
  · cases hk : btw k t1 t2
    all_goals
      go_enter Try.func38, Try.ntmps38
      go_wp2_with (first | (go_at_call 40; (with_reducible refine (implValidFlight_is x1 x2 t1 t2 _ hv _).mono ?_); rintro e w1 ⟨rfl, hx⟩; have hz := hx.size; (try simp at hz); (try (have hq0 : w.heap.size < w1.heap.size := by omega)); (try (have hc0 : ∀ o, w1.cell? ⟨w.heap.size, o, none⟩ = _ := fun o => hx.cells.1 _ o (by first | (simp; done) | (simp; omega) | omega))); (try (have hf0 : ∀ o, w1.frozen? ⟨w.heap.size, o, none⟩ = _ := fun o => hx.cells.2 _ o (by first | (simp; done) | (simp; omega) | omega))); (try (have hq1 : w.heap.size + 1 < w1.heap.size := by omega)); (try (have hc1 : ∀ o, w1.cell? ⟨w.heap.size + 1, o, none⟩ = _ := fun o => hx.cells.1 _ o (by first | (simp; done) | (simp; omega) | omega))); (try (have hf1 : ∀ o, w1.frozen? ⟨w.heap.size + 1, o, none⟩ = _ := fun o => hx.cells.2 _ o (by first | (simp; done) | (simp; omega) | omega))); (try (have hq2 : w.heap.size + 2 < w1.heap.size := by omega)); (try (have hc2 : ∀ o, w1.cell? ⟨w.heap.size + 2, o, none⟩ = _ := fun o => hx.cells.1 _ o (by first | (simp; done) | (simp; omega) | omega))); (try (have hf2 : ∀ o, w1.frozen? ⟨w.heap.size + 2, o, none⟩ = _ := fun o => hx.cells.2 _ o (by first | (simp; done) | (simp; omega) | omega)))) | (go_at_call 31; (with_reducible refine (between_is _ _ _ _ hk _).mono ?_); rintro e w' ⟨rfl, rfl⟩))
      go_ret
      exact ⟨rfl, (by with_reducible (repeat (first | exact Ext.refl _ | apply Ext.drewN | apply Ext.drew | apply Ext.alloc | (refine Ext.set ?_ (by first | (simp; done) | (simp; omega) | omega) _) | (refine Ext.trans ?_ (by assumption)))))⟩
theorem tickCode_is (x1 x2 t1 t2 k : Int) (w : World) (c : Int) (hc : tcode x1 x2 t1 t2 k = c) :
    Calls Try.prog 38 #[.agg #[.int .i64 x1, .int .i64 x2, .int .i64 t1, .int .i64 t2], .int .i64 k] w fun e w' => e = .returned (.int .i64 c) ∧ Ext w w' := by
  subst hc
  exact tickCode_any x1 x2 t1 t2 k w
theorem height_any (x1 x2 t1 t2 k : Int) (w : World) (hb : (-100000 ≤ t1 ∧ t1 ≤ 100000) ∧ (t2 ≤ t1 + 40) ∧ t1 ≤ k ∧ k ≤ t2) :
    Calls Try.prog 39 #[.agg #[.int .i64 x1, .int .i64 x2, .int .i64 t1, .int .i64 t2], .int .i64 k] w fun e w' => e = .returned (.int .i64 ((k - t1) * (t2 - k))) ∧ Ext w w' := by
  have hm := mul_bd (a := k - t1) (b := t2 - k) (A := 40) (B := 40) (by omega) (by omega)
  go_enter Try.func39, Try.ntmps39
  go_wp2
  go_ret
  exact ⟨rfl, (by with_reducible (repeat (first | exact Ext.refl _ | apply Ext.drewN | apply Ext.drew | apply Ext.alloc | (refine Ext.set ?_ (by first | (simp; done) | (simp; omega) | omega) _) | (refine Ext.trans ?_ (by assumption)))))⟩
end Go.Proofs.Ytbaabghehpcjnaa

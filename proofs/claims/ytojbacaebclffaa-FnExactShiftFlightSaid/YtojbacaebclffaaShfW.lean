/- The walk of laws.FnExactShiftFlight. No condition. -/
import Derived.Test.YtojbacaebclffaaShf
namespace Go.Proofs.Ytojbacaebclffaa.fnExactShiftFlight
open Go.RowKit
theorem walk (x1 : Int) (_hx1 : -9223372036854775808 ≤ x1 ∧ x1 ≤ 9223372036854775807) (x2 : Int) (_hx2 : -9223372036854775808 ≤ x2 ∧ x2 ≤ 9223372036854775807) (t1 : Int) (_ht1 : -9223372036854775808 ≤ t1 ∧ t1 ≤ 9223372036854775807) (t2 : Int) (_ht2 : -9223372036854775808 ≤ t2 ∧ t2 ≤ 9223372036854775807) (x : Int) (_hx : -9223372036854775808 ≤ x ∧ x ≤ 9223372036854775807) (k : Int) (_hk : -9223372036854775808 ≤ k ∧ k ≤ 9223372036854775807) (w : World) :
    Calls Try.prog 9 #[.agg #[.int .i64 x1, .int .i64 x2, .int .i64 t1, .int .i64 t2], .int .i64 x, .int .i64 k] w fun e w' => e = .returned (.bool true) ∧ Below w.heap.size w w' := by
  go_enter Try.func9, Try.ntmps9
  go_wp2_with fail
  (with_reducible refine (toFlight_any x1 x2 t1 t2 _).mono ?_)
  rintro e w1 ⟨rfl, hx1⟩
  have hz1 := hx1.size
  (try simp at hz1)
  have hq1_0 : w.heap.size < w1.heap.size := by omega
  have hc1_0 : ∀ o, w1.cell? ⟨w.heap.size, o, none⟩ = _ := fun o => hx1.cells.1 _ o (by first | (simp; done) | (simp; omega) | omega)
  have hf1_0 : ∀ o, w1.frozen? ⟨w.heap.size, o, none⟩ = _ := fun o => hx1.cells.2 _ o (by first | (simp; done) | (simp; omega) | omega)
  go_wp2_with fail
  (with_reducible refine (specShiftFlight_any x1 x2 t1 t2 x k _).mono ?_)
  rintro e w2 ⟨rfl, hx2⟩
  have hz2 := hx2.size
  (try simp at hz2)
  have hq2_0 : w.heap.size < w2.heap.size := by omega
  have hc2_0 : ∀ o, w2.cell? ⟨w.heap.size, o, none⟩ = _ := fun o => hx2.cells.1 _ o (by first | (simp; done) | (simp; omega) | omega)
  have hf2_0 : ∀ o, w2.frozen? ⟨w.heap.size, o, none⟩ = _ := fun o => hx2.cells.2 _ o (by first | (simp; done) | (simp; omega) | omega)
  go_wp2_with fail
  (with_reducible refine (toFlight_any x1 x2 t1 t2 _).mono ?_)
  rintro e w3 ⟨rfl, hx3⟩
  have hz3 := hx3.size
  (try simp at hz3)
  have hq3_0 : w.heap.size < w3.heap.size := by omega
  have hc3_0 : ∀ o, w3.cell? ⟨w.heap.size, o, none⟩ = _ := fun o => hx3.cells.1 _ o (by first | (simp; done) | (simp; omega) | omega)
  have hf3_0 : ∀ o, w3.frozen? ⟨w.heap.size, o, none⟩ = _ := fun o => hx3.cells.2 _ o (by first | (simp; done) | (simp; omega) | omega)
  have hq3_1 : w2.heap.size < w3.heap.size := by omega
  have hc3_1 : ∀ o, w3.cell? ⟨w2.heap.size, o, none⟩ = _ := fun o => hx3.cells.1 _ o (by first | (simp; done) | (simp; omega) | omega)
  have hf3_1 : ∀ o, w3.frozen? ⟨w2.heap.size, o, none⟩ = _ := fun o => hx3.cells.2 _ o (by first | (simp; done) | (simp; omega) | omega)
  go_wp2_with fail
  (with_reducible refine (implShiftFlight_any x1 x2 t1 t2 x k _).mono ?_)
  rintro e w4 ⟨rfl, hx4⟩
  have hz4 := hx4.size
  (try simp at hz4)
  have hq4_0 : w.heap.size < w4.heap.size := by omega
  have hc4_0 : ∀ o, w4.cell? ⟨w.heap.size, o, none⟩ = _ := fun o => hx4.cells.1 _ o (by first | (simp; done) | (simp; omega) | omega)
  have hf4_0 : ∀ o, w4.frozen? ⟨w.heap.size, o, none⟩ = _ := fun o => hx4.cells.2 _ o (by first | (simp; done) | (simp; omega) | omega)
  have hq4_1 : w2.heap.size < w4.heap.size := by omega
  have hc4_1 : ∀ o, w4.cell? ⟨w2.heap.size, o, none⟩ = _ := fun o => hx4.cells.1 _ o (by first | (simp; done) | (simp; omega) | omega)
  have hf4_1 : ∀ o, w4.frozen? ⟨w2.heap.size, o, none⟩ = _ := fun o => hx4.cells.2 _ o (by first | (simp; done) | (simp; omega) | omega)
  go_wp2_with fail
  (with_reducible refine (eqFlight_same _ _ _ _ _).mono ?_)
  rintro e w5 ⟨rfl, hx5⟩
  have hz5 := hx5.size
  (try simp at hz5)
  have hq5_0 : w.heap.size < w5.heap.size := by omega
  have hc5_0 : ∀ o, w5.cell? ⟨w.heap.size, o, none⟩ = _ := fun o => hx5.cells.1 _ o (by first | (simp; done) | (simp; omega) | omega)
  have hf5_0 : ∀ o, w5.frozen? ⟨w.heap.size, o, none⟩ = _ := fun o => hx5.cells.2 _ o (by first | (simp; done) | (simp; omega) | omega)
  have hq5_1 : w2.heap.size < w5.heap.size := by omega
  have hc5_1 : ∀ o, w5.cell? ⟨w2.heap.size, o, none⟩ = _ := fun o => hx5.cells.1 _ o (by first | (simp; done) | (simp; omega) | omega)
  have hf5_1 : ∀ o, w5.frozen? ⟨w2.heap.size, o, none⟩ = _ := fun o => hx5.cells.2 _ o (by first | (simp; done) | (simp; omega) | omega)
  have hq5_2 : w4.heap.size < w5.heap.size := by omega
  have hc5_2 : ∀ o, w5.cell? ⟨w4.heap.size, o, none⟩ = _ := fun o => hx5.cells.1 _ o (by first | (simp; done) | (simp; omega) | omega)
  have hf5_2 : ∀ o, w5.frozen? ⟨w4.heap.size, o, none⟩ = _ := fun o => hx5.cells.2 _ o (by first | (simp; done) | (simp; omega) | omega)
  go_wp2
  go_ret
  exact ⟨rfl, Ext.below (by with_reducible (repeat (first | exact Ext.refl _ | apply Ext.drewN | apply Ext.drew | apply Ext.alloc | (refine Ext.set ?_ (by simp) _) | (refine Ext.trans ?_ (by assumption)))))⟩
end Go.Proofs.Ytojbacaebclffaa.fnExactShiftFlight

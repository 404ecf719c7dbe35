/- The walk of laws.FnExactMakeFraction. No condition. -/
import Derived.Test.YtojbacaebclffaaFrm
namespace Go.Proofs.Ytojbacaebclffaa.fnExactMakeFraction
open Go.RowKit
theorem walk (n : Int) (_hn : -9223372036854775808 ≤ n ∧ n ≤ 9223372036854775807) (d : Int) (_hd : -9223372036854775808 ≤ d ∧ d ≤ 9223372036854775807) (w : World) :
    Calls Try.prog 11 #[.int .i64 n, .int .i64 d] w fun e w' => e = .returned (.bool true) ∧ Below w.heap.size w w' := by
  go_enter Try.func11, Try.ntmps11
  go_wp2_with fail
  (with_reducible refine (specMakeFraction_any n d _).mono ?_)
  rintro e w1 ⟨rfl, hx1⟩
  have hz1 := hx1.size
  (try simp at hz1)
  go_wp2_with fail
  (with_reducible refine (implMakeFraction_any n d _).mono ?_)
  rintro e w2 ⟨rfl, hx2⟩
  have hz2 := hx2.size
  (try simp at hz2)
  have hq2_0 : w1.heap.size < w2.heap.size := by omega
  have hc2_0 : ∀ o, w2.cell? ⟨w1.heap.size, o, none⟩ = _ := fun o => hx2.cells.1 _ o (by first | (simp; done) | (simp; omega) | omega)
  have hf2_0 : ∀ o, w2.frozen? ⟨w1.heap.size, o, none⟩ = _ := fun o => hx2.cells.2 _ o (by first | (simp; done) | (simp; omega) | omega)
  go_wp2_with fail
  (with_reducible refine (eqFraction_same _ _ _).mono ?_)
  rintro e w3 ⟨rfl, hx3⟩
  have hz3 := hx3.size
  (try simp at hz3)
  have hq3_0 : w1.heap.size < w3.heap.size := by omega
  have hc3_0 : ∀ o, w3.cell? ⟨w1.heap.size, o, none⟩ = _ := fun o => hx3.cells.1 _ o (by first | (simp; done) | (simp; omega) | omega)
  have hf3_0 : ∀ o, w3.frozen? ⟨w1.heap.size, o, none⟩ = _ := fun o => hx3.cells.2 _ o (by first | (simp; done) | (simp; omega) | omega)
  have hq3_1 : w2.heap.size < w3.heap.size := by omega
  have hc3_1 : ∀ o, w3.cell? ⟨w2.heap.size, o, none⟩ = _ := fun o => hx3.cells.1 _ o (by first | (simp; done) | (simp; omega) | omega)
  have hf3_1 : ∀ o, w3.frozen? ⟨w2.heap.size, o, none⟩ = _ := fun o => hx3.cells.2 _ o (by first | (simp; done) | (simp; omega) | omega)
  go_wp2
  go_ret
  exact ⟨rfl, Ext.below (by with_reducible (repeat (first | exact Ext.refl _ | apply Ext.drewN | apply Ext.drew | apply Ext.alloc | (refine Ext.set ?_ (by simp) _) | (refine Ext.trans ?_ (by assumption)))))⟩
end Go.Proofs.Ytojbacaebclffaa.fnExactMakeFraction

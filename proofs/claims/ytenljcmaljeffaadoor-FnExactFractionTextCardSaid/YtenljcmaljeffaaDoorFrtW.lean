/- The walk of laws.FnExactFractionText, under the library's table of powers. -/
import Derived.Test.YtenljcmaljeffaaDoorTxt
namespace Go.Proofs.YtenljcmaljeffaaDoor.fnExactFractionText
set_option linter.unusedVariables false
set_option linter.unusedSimpArgs false
open Go.RowKit
set_option maxHeartbeats 2000000 in
theorem walk (n : Int) (hn : -9223372036854775808 ≤ n ∧ n ≤ 9223372036854775807) (d : Int) (hd : -9223372036854775808 ≤ d ∧ d ≤ 9223372036854775807) (w : World) (hT : Tab w) :
    Calls Tryd.prog 4 #[.agg #[.int .i64 n, .int .i64 d]] w fun e w' => e = .returned (.bool true) ∧ Below w.heap.size w w' := by
  go_enter Tryd.func4, Tryd.ntmps4
  go_wp2_with fail
  (with_reducible refine (toFraction_any _ _ _).mono ?_)
  rintro e w1 ⟨rfl, hx_w1⟩
  have hz_w1 := hx_w1.size
  (try simp at hz_w1)
  have hq_w1 : w.heap.size < w1.heap.size := by omega
  have hc_w1 : ∀ o, w1.cell? ⟨w.heap.size, o, none⟩ = _ := fun o => hx_w1.cells.1 _ o (by first | (simp; done) | (simp; omega) | omega)
  have hE_w1 : Ext w w1 := Ext.trans (by with_reducible (repeat (first | exact Ext.refl _ | apply Ext.drewN | apply Ext.drew | apply Ext.alloc | (refine Ext.set ?_ (by first | (simp; done) | (simp; omega) | omega) _) | (refine Ext.trans ?_ (by assumption))))) hx_w1
  go_wp2_with fail
  (with_reducible refine (specFractionText_any n d _ hn hd).mono ?_)
  rintro e w2 ⟨rfl, hx_w2⟩
  have hz_w2 := hx_w2.size
  (try simp at hz_w2)
  have hq_w2 : w.heap.size < w2.heap.size := by omega
  have hc_w2 : ∀ o, w2.cell? ⟨w.heap.size, o, none⟩ = _ := fun o => hx_w2.cells.1 _ o (by first | (simp; done) | (simp; omega) | omega)
  have hE_w2 : Ext w w2 := Ext.trans (by with_reducible (repeat (first | exact Ext.refl _ | apply Ext.drewN | apply Ext.drew | apply Ext.alloc | (refine Ext.set ?_ (by first | (simp; done) | (simp; omega) | omega) _) | (refine Ext.trans ?_ (by assumption))))) hx_w2
  go_wp2_with fail
  (with_reducible refine (toFraction_any _ _ _).mono ?_)
  rintro e w3 ⟨rfl, hx_w3⟩
  have hz_w3 := hx_w3.size
  (try simp at hz_w3)
  have hq_w3 : w.heap.size < w3.heap.size := by omega
  have hc_w3 : ∀ o, w3.cell? ⟨w.heap.size, o, none⟩ = _ := fun o => hx_w3.cells.1 _ o (by first | (simp; done) | (simp; omega) | omega)
  have hE_w3 : Ext w w3 := Ext.trans (by with_reducible (repeat (first | exact Ext.refl _ | apply Ext.drewN | apply Ext.drew | apply Ext.alloc | (refine Ext.set ?_ (by first | (simp; done) | (simp; omega) | omega) _) | (refine Ext.trans ?_ (by assumption))))) hx_w3
  go_wp2_with fail
  (with_reducible refine (implFractionText_any n d _ hn hd (hT.ext hE_w3)).mono ?_)
  rintro e w4 ⟨rfl, hx_w4⟩
  have hz_w4 := hx_w4.size
  (try simp at hz_w4)
  have hq_w4 : w.heap.size < w4.heap.size := by omega
  have hc_w4 : ∀ o, w4.cell? ⟨w.heap.size, o, none⟩ = _ := fun o => hx_w4.cells.1 _ o (by first | (simp; done) | (simp; omega) | omega)
  have hE_w4 : Ext w w4 := Ext.trans (by with_reducible (repeat (first | exact Ext.refl _ | apply Ext.drewN | apply Ext.drew | apply Ext.alloc | (refine Ext.set ?_ (by first | (simp; done) | (simp; omega) | omega) _) | (refine Ext.trans ?_ (by assumption))))) hx_w4
  generalize frt n d = s at *
  go_wp2
  go_ret
  exact ⟨rfl, Ext.below (by with_reducible (repeat (first | exact Ext.refl _ | apply Ext.drewN | apply Ext.drew | apply Ext.alloc | (refine Ext.set ?_ (by first | (simp; done) | (simp; omega) | omega) _) | (refine Ext.trans ?_ (by assumption)))))⟩
end Go.Proofs.YtenljcmaljeffaaDoor.fnExactFractionText

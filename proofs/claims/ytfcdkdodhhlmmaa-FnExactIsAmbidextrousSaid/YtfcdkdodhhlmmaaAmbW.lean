/- The walk of laws.FnExactIsAmbidextrous. No condition. -/
import Derived.Test.YtfcdkdodhhlmmaaAmb
import Derived.Test.YtfcdkdodhhlmmaaRow
import Derived.Deep.RegionHeld3
namespace Go.Proofs.Ytfcdkdodhhlmmaa.fnExactIsAmbidextrous
set_option linter.unusedVariables false
set_option linter.unusedSimpArgs false
open Go.RowKit
set_option maxHeartbeats 4000000 in
set_option maxRecDepth 100000 in
theorem walk (A : Option Addr) (n c : Nat) (ps : List Int) (B : Option Addr) (m d : Nat) (os : List Int) (w : World) (hI : Ints w A n ps) (hJ : Ints w B m os) :
    Calls Try.prog 10 #[.slice A n c, .slice B m d] w fun e w' => e = .returned (.bool true) ∧ Below w.heap.size w w' := by
  have hsmn := hI.small
  by_cases hsn : n ≤ 1048576
  ·
    have hsmm := hJ.small
    by_cases hsm : m ≤ 1048576
    ·
      go_enter Try.func10, Try.ntmps10
      go_wp2_with fail
      (with_reducible refine (toInt64S_row A n c ps _ (hI.ext (by with_reducible (repeat (first | exact Ext.refl _ | apply Ext.drewN | apply Ext.drew | apply Ext.alloc | (refine Ext.set ?_ (by first | (simp; done) | (simp; omega) | omega) _) | (refine Ext.trans ?_ (by assumption)))))) hsn).mono ?_)
      rintro e w1 ⟨As0, cs0, rfl, Rs0_1, hx_1⟩
      have hp_1 : Ext (w) w1 := Ext.trans (by with_reducible (repeat (first | exact Ext.refl _ | apply Ext.drewN | apply Ext.drew | apply Ext.alloc | (refine Ext.set ?_ (by first | (simp; done) | (simp; omega) | omega) _) | (refine Ext.trans ?_ (by assumption))))) hx_1
      have hE_1 : Ext w w1 := Ext.trans (by with_reducible (repeat (first | exact Ext.refl _ | apply Ext.drewN | apply Ext.drew | apply Ext.alloc | (refine Ext.set ?_ (by first | (simp; done) | (simp; omega) | omega) _) | (refine Ext.trans ?_ (by assumption))))) hp_1
      have hs_1 := hp_1.size
      (try simp at hs_1)
      go_wp2_with fail
      (with_reducible refine (toInt64S_row B m d os _ (hJ.ext (by with_reducible (repeat (first | exact Ext.refl _ | apply Ext.drewN | apply Ext.drew | apply Ext.alloc | (refine Ext.set ?_ (by first | (simp; done) | (simp; omega) | omega) _) | (refine Ext.trans ?_ (by assumption)))))) hsm).mono ?_)
      rintro e w2 ⟨As1, cs1, rfl, Rs1_2, hx_2⟩
      have hp_2 : Ext (w1) w2 := Ext.trans (by with_reducible (repeat (first | exact Ext.refl _ | apply Ext.drewN | apply Ext.drew | apply Ext.alloc | (refine Ext.set ?_ (by first | (simp; done) | (simp; omega) | omega) _) | (refine Ext.trans ?_ (by assumption))))) hx_2
      have hE_2 : Ext w w2 := hE_1.trans hp_2
      have hs_2 := hp_2.size
      have Rs0_2 := Rs0_1.ext hp_2
      go_wp2_with fail
      (with_reducible refine (specIsAmbidextrous_ret _ n _ ps _ m _ os _ (by have := (Rs0_2.ints (by omega) hI.bds); rwa [Nat.mul_one] at this) (by have := (Rs1_2.ints (by omega) hJ.bds); rwa [Nat.mul_one] at this)).mono ?_)
      rintro e w3 ⟨rfl, hx_3⟩
      have hp_3 : Ext (w2) w3 := Ext.trans (by with_reducible (repeat (first | exact Ext.refl _ | apply Ext.drewN | apply Ext.drew | apply Ext.alloc | (refine Ext.set ?_ (by first | (simp; done) | (simp; omega) | omega) _) | (refine Ext.trans ?_ (by assumption))))) hx_3
      have hE_3 : Ext w w3 := hE_2.trans hp_3
      have hs_3 := hp_3.size
      have Rs0_3 := Rs0_2.ext hp_3
      have Rs1_3 := Rs1_2.ext hp_3
      go_wp2_with fail
      (with_reducible refine (toInt64S_row A n c ps _ (hI.ext (by with_reducible (repeat (first | exact Ext.refl _ | apply Ext.drewN | apply Ext.drew | apply Ext.alloc | (refine Ext.set ?_ (by first | (simp; done) | (simp; omega) | omega) _) | (refine Ext.trans ?_ (by assumption)))))) hsn).mono ?_)
      rintro e w4 ⟨Ax0, cx0, rfl, Rx0_4, hx_4⟩
      have hp_4 : Ext (w3) w4 := Ext.trans (by with_reducible (repeat (first | exact Ext.refl _ | apply Ext.drewN | apply Ext.drew | apply Ext.alloc | (refine Ext.set ?_ (by first | (simp; done) | (simp; omega) | omega) _) | (refine Ext.trans ?_ (by assumption))))) hx_4
      have hE_4 : Ext w w4 := hE_3.trans hp_4
      have hs_4 := hp_4.size
      go_wp2_with fail
      (with_reducible refine (toInt64S_row B m d os _ (hJ.ext (by with_reducible (repeat (first | exact Ext.refl _ | apply Ext.drewN | apply Ext.drew | apply Ext.alloc | (refine Ext.set ?_ (by first | (simp; done) | (simp; omega) | omega) _) | (refine Ext.trans ?_ (by assumption)))))) hsm).mono ?_)
      rintro e w5 ⟨Ax1, cx1, rfl, Rx1_5, hx_5⟩
      have hp_5 : Ext (w4) w5 := Ext.trans (by with_reducible (repeat (first | exact Ext.refl _ | apply Ext.drewN | apply Ext.drew | apply Ext.alloc | (refine Ext.set ?_ (by first | (simp; done) | (simp; omega) | omega) _) | (refine Ext.trans ?_ (by assumption))))) hx_5
      have hE_5 : Ext w w5 := hE_4.trans hp_5
      have hs_5 := hp_5.size
      have Rx0_5 := Rx0_4.ext hp_5
      go_wp2_with fail
      (with_reducible refine (implIsAmbidextrous_ret _ n _ ps _ m _ os _ (by have := (Rx0_5.ints (by omega) hI.bds); rwa [Nat.mul_one] at this) (by have := (Rx1_5.ints (by omega) hJ.bds); rwa [Nat.mul_one] at this)).mono ?_)
      rintro e w6 ⟨rfl, hx_6⟩
      have hp_6 : Ext (w5) w6 := Ext.trans (by with_reducible (repeat (first | exact Ext.refl _ | apply Ext.drewN | apply Ext.drew | apply Ext.alloc | (refine Ext.set ?_ (by first | (simp; done) | (simp; omega) | omega) _) | (refine Ext.trans ?_ (by assumption))))) hx_6
      have hE_6 : Ext w w6 := hE_5.trans hp_6
      have hs_6 := hp_6.size
      have Rx0_6 := Rx0_5.ext hp_6
      have Rx1_6 := Rx1_5.ext hp_6
      go_wp2_with fail
      (with_reducible refine (toInt64S_row A n c ps _ (hI.ext (by with_reducible (repeat (first | exact Ext.refl _ | apply Ext.drewN | apply Ext.drew | apply Ext.alloc | (refine Ext.set ?_ (by first | (simp; done) | (simp; omega) | omega) _) | (refine Ext.trans ?_ (by assumption)))))) hsn).mono ?_)
      rintro e w7 ⟨Ay0, cy0, rfl, Ry0_7, hx_7⟩
      have hp_7 : Ext (w6) w7 := Ext.trans (by with_reducible (repeat (first | exact Ext.refl _ | apply Ext.drewN | apply Ext.drew | apply Ext.alloc | (refine Ext.set ?_ (by first | (simp; done) | (simp; omega) | omega) _) | (refine Ext.trans ?_ (by assumption))))) hx_7
      have hE_7 : Ext w w7 := hE_6.trans hp_7
      have hs_7 := hp_7.size
      have Rx0_7 := Rx0_6.ext hp_7
      have Rx1_7 := Rx1_6.ext hp_7
      go_wp2_with fail
      (with_reducible refine (eqInt64S_row _ _ n _ _ _ _ (Rx0_7.ints (by omega) hI.bds) (Ry0_7.ints (by omega) hI.bds) (by omega)).mono ?_)
      rintro e w8 ⟨rfl, hx_8⟩
      have hp_8 : Ext (w7) w8 := Ext.trans (by with_reducible (repeat (first | exact Ext.refl _ | apply Ext.drewN | apply Ext.drew | apply Ext.alloc | (refine Ext.set ?_ (by first | (simp; done) | (simp; omega) | omega) _) | (refine Ext.trans ?_ (by assumption))))) hx_8
      have hE_8 : Ext w w8 := hE_7.trans hp_8
      have hs_8 := hp_8.size
      have Rx0_8 := Rx0_7.ext hp_8
      have Rx1_8 := Rx1_7.ext hp_8
      have Ry0_8 := Ry0_7.ext hp_8
      go_wp2_with fail
      (with_reducible refine (toInt64S_row B m d os _ (hJ.ext (by with_reducible (repeat (first | exact Ext.refl _ | apply Ext.drewN | apply Ext.drew | apply Ext.alloc | (refine Ext.set ?_ (by first | (simp; done) | (simp; omega) | omega) _) | (refine Ext.trans ?_ (by assumption)))))) hsm).mono ?_)
      rintro e w9 ⟨Ay1, cy1, rfl, Ry1_9, hx_9⟩
      have hp_9 : Ext (w8) w9 := Ext.trans (by with_reducible (repeat (first | exact Ext.refl _ | apply Ext.drewN | apply Ext.drew | apply Ext.alloc | (refine Ext.set ?_ (by first | (simp; done) | (simp; omega) | omega) _) | (refine Ext.trans ?_ (by assumption))))) hx_9
      have hE_9 : Ext w w9 := hE_8.trans hp_9
      have hs_9 := hp_9.size
      have Rx0_9 := Rx0_8.ext hp_9
      have Rx1_9 := Rx1_8.ext hp_9
      go_wp2_with fail
      (with_reducible refine (eqInt64S_row _ _ m _ _ _ _ (Rx1_9.ints (by omega) hJ.bds) (Ry1_9.ints (by omega) hJ.bds) (by omega)).mono ?_)
      rintro e w10 ⟨rfl, hx_10⟩
      have hp_10 : Ext (w9) w10 := Ext.trans (by with_reducible (repeat (first | exact Ext.refl _ | apply Ext.drewN | apply Ext.drew | apply Ext.alloc | (refine Ext.set ?_ (by first | (simp; done) | (simp; omega) | omega) _) | (refine Ext.trans ?_ (by assumption))))) hx_10
      have hE_10 : Ext w w10 := hE_9.trans hp_10
      have hs_10 := hp_10.size
      have Rx0_10 := Rx0_9.ext hp_10
      have Rx1_10 := Rx1_9.ext hp_10
      have Ry1_10 := Ry1_9.ext hp_10
      go_wp2
      go_ret
      exact ⟨rfl, Ext.below hE_10⟩
    · go_enter Try.func10, Try.ntmps10
      go_wp2
      go_ret
      exact ⟨rfl, Ext.below (by with_reducible (repeat (first | exact Ext.refl _ | apply Ext.drewN | apply Ext.drew | apply Ext.alloc | (refine Ext.set ?_ (by first | (simp; done) | (simp; omega) | omega) _) | (refine Ext.trans ?_ (by assumption)))))⟩
  · go_enter Try.func10, Try.ntmps10
    go_wp2
    go_ret
    exact ⟨rfl, Ext.below (by with_reducible (repeat (first | exact Ext.refl _ | apply Ext.drewN | apply Ext.drew | apply Ext.alloc | (refine Ext.set ?_ (by first | (simp; done) | (simp; omega) | omega) _) | (refine Ext.trans ?_ (by assumption)))))⟩
end Go.Proofs.Ytfcdkdodhhlmmaa.fnExactIsAmbidextrous

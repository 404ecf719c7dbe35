/- The walk of laws.FnExactCheckLadder. No condition. -/
import Derived.Test.YtpnhpkgcaadnkaaLin5
namespace Go.Proofs.Ytpnhpkgcaadnkaa.fnExactCheckLadder
set_option linter.unusedVariables false
set_option linter.unusedSimpArgs false
open Go.RowKit
set_option maxHeartbeats 4000000 in
set_option maxRecDepth 100000 in
theorem walk (A : Option Addr) (n c : Nat) (ss : List ByteArray) (w : World) (hI : Strs w A n ss) :
    Calls Try.prog 4 #[.slice A n c] w fun e w' => e = .returned (.bool true) ∧ Below w.heap.size w w' := by
  have hsmn := hI.small
  go_enter Try.func4, Try.ntmps4
  go_wp2_with fail
  (with_reducible refine (szStringS_any _ _ _ ss _ (hI.ext (by with_reducible (repeat (first | exact Ext.refl _ | apply Ext.drewN | apply Ext.drew | apply Ext.alloc | (refine Ext.set ?_ (by first | (simp; done) | (simp; omega) | omega) _) | (refine Ext.trans ?_ (by assumption))))))).mono ?_)
  rintro e w0 ⟨q, rfl, hq, rfl⟩
  rcases hq with hq | ⟨hq, hsn, _⟩
  · go_wp2
    go_ret
    exact ⟨rfl, Ext.below (by with_reducible (repeat (first | exact Ext.refl _ | apply Ext.drewN | apply Ext.drew | apply Ext.alloc | (refine Ext.set ?_ (by first | (simp; done) | (simp; omega) | omega) _) | (refine Ext.trans ?_ (by assumption)))))⟩
  have hqn : ¬ q < 0 := by omega
  go_wp2_with fail
  (with_reducible refine (toStringS_row A n c ss _ (hI.ext (by with_reducible (repeat (first | exact Ext.refl _ | apply Ext.drewN | apply Ext.drew | apply Ext.alloc | (refine Ext.set ?_ (by first | (simp; done) | (simp; omega) | omega) _) | (refine Ext.trans ?_ (by assumption)))))) hsn).mono ?_)
  rintro e w1 ⟨As0, cs0, rfl, Rs0_1, hx_1⟩
  have hp_1 : Ext (w) w1 := Ext.trans (by with_reducible (repeat (first | exact Ext.refl _ | apply Ext.drewN | apply Ext.drew | apply Ext.alloc | (refine Ext.set ?_ (by first | (simp; done) | (simp; omega) | omega) _) | (refine Ext.trans ?_ (by assumption))))) hx_1
  have hE_1 : Ext w w1 := Ext.trans (by with_reducible (repeat (first | exact Ext.refl _ | apply Ext.drewN | apply Ext.drew | apply Ext.alloc | (refine Ext.set ?_ (by first | (simp; done) | (simp; omega) | omega) _) | (refine Ext.trans ?_ (by assumption))))) hp_1
  have hs_1 := hp_1.size
  (try simp at hs_1)
  go_wp2_with fail
  (with_reducible refine (specCheckLadder_ret _ n _ ss _ (Rs0_1.strs (by omega) hI.szs)).mono ?_)
  rintro e w2 ⟨rfl, hx_2⟩
  have hp_2 : Ext (w1) w2 := Ext.trans (by with_reducible (repeat (first | exact Ext.refl _ | apply Ext.drewN | apply Ext.drew | apply Ext.alloc | (refine Ext.set ?_ (by first | (simp; done) | (simp; omega) | omega) _) | (refine Ext.trans ?_ (by assumption))))) hx_2
  have hE_2 : Ext w w2 := hE_1.trans hp_2
  have hs_2 := hp_2.size
  have Rs0_2 := Rs0_1.ext hp_2
  go_wp2_with fail
  (with_reducible refine (toStringS_row A n c ss _ (hI.ext (by with_reducible (repeat (first | exact Ext.refl _ | apply Ext.drewN | apply Ext.drew | apply Ext.alloc | (refine Ext.set ?_ (by first | (simp; done) | (simp; omega) | omega) _) | (refine Ext.trans ?_ (by assumption)))))) hsn).mono ?_)
  rintro e w3 ⟨Ax0, cx0, rfl, Rx0_3, hx_3⟩
  have hp_3 : Ext (w2) w3 := Ext.trans (by with_reducible (repeat (first | exact Ext.refl _ | apply Ext.drewN | apply Ext.drew | apply Ext.alloc | (refine Ext.set ?_ (by first | (simp; done) | (simp; omega) | omega) _) | (refine Ext.trans ?_ (by assumption))))) hx_3
  have hE_3 : Ext w w3 := hE_2.trans hp_3
  have hs_3 := hp_3.size
  go_wp2_with fail
  (with_reducible refine (implCheckLadder_ret _ n _ ss _ (Rx0_3.strs (by omega) hI.szs) Rx0_3.cap).mono ?_)
  rintro e w4 ⟨rfl, hx_4⟩
  have hp_4 : Ext (w3) w4 := Ext.trans (by with_reducible (repeat (first | exact Ext.refl _ | apply Ext.drewN | apply Ext.drew | apply Ext.alloc | (refine Ext.set ?_ (by first | (simp; done) | (simp; omega) | omega) _) | (refine Ext.trans ?_ (by assumption))))) hx_4
  have hE_4 : Ext w w4 := hE_3.trans hp_4
  have hs_4 := hp_4.size
  have Rx0_4 := Rx0_3.ext hp_4
  go_wp2_with fail
  (with_reducible refine (toStringS_row A n c ss _ (hI.ext (by with_reducible (repeat (first | exact Ext.refl _ | apply Ext.drewN | apply Ext.drew | apply Ext.alloc | (refine Ext.set ?_ (by first | (simp; done) | (simp; omega) | omega) _) | (refine Ext.trans ?_ (by assumption)))))) hsn).mono ?_)
  rintro e w5 ⟨Ay0, cy0, rfl, Ry0_5, hx_5⟩
  have hp_5 : Ext (w4) w5 := Ext.trans (by with_reducible (repeat (first | exact Ext.refl _ | apply Ext.drewN | apply Ext.drew | apply Ext.alloc | (refine Ext.set ?_ (by first | (simp; done) | (simp; omega) | omega) _) | (refine Ext.trans ?_ (by assumption))))) hx_5
  have hE_5 : Ext w w5 := hE_4.trans hp_5
  have hs_5 := hp_5.size
  have Rx0_5 := Rx0_4.ext hp_5
  go_wp2_with fail
  (with_reducible refine (eqStringS_row _ _ n _ _ _ _ (Rx0_5.strs (by omega) hI.szs) (Ry0_5.strs (by omega) hI.szs)).mono ?_)
  rintro e w6 ⟨rfl, hx_6⟩
  have hp_6 : Ext (w5) w6 := Ext.trans (by with_reducible (repeat (first | exact Ext.refl _ | apply Ext.drewN | apply Ext.drew | apply Ext.alloc | (refine Ext.set ?_ (by first | (simp; done) | (simp; omega) | omega) _) | (refine Ext.trans ?_ (by assumption))))) hx_6
  have hE_6 : Ext w w6 := hE_5.trans hp_6
  have hs_6 := hp_6.size
  have Rx0_6 := Rx0_5.ext hp_6
  have Ry0_6 := Ry0_5.ext hp_6
  go_wp2
  go_ret
  exact ⟨rfl, Ext.below hE_6⟩
end Go.Proofs.Ytpnhpkgcaadnkaa.fnExactCheckLadder

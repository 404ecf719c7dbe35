/- The walk of laws.FnExactLadderOf. No condition. -/
import Derived.Test.YtpnhpkgcaadnkaaLdo
namespace Go.Proofs.Ytpnhpkgcaadnkaa.fnExactLadderOf
set_option linter.unusedVariables false
set_option linter.unusedSimpArgs false
open Go.RowKit
set_option maxHeartbeats 4000000 in
set_option maxRecDepth 100000 in
theorem walk (A : Option Addr) (n c : Nat) (xs : List Int) (t : Int) (_ht : -9223372036854775808 ≤ t ∧ t ≤ 9223372036854775807) (w : World) (hI : Ints w A n xs) :
    Calls Try.prog 6 #[.slice A n c, .int .i64 t] w fun e w' => e = .returned (.bool true) ∧ Below w.heap.size w w' := by
  have hsmn := hI.small
  by_cases hsn : n ≤ 1048576
  ·
    obtain ⟨hyn, hyb⟩ := (lds_bd xs t)
    go_enter Try.func6, Try.ntmps6
    go_wp2_with fail
    (with_reducible refine (toInt64S_row A n c xs _ (hI.ext (by with_reducible (repeat (first | exact Ext.refl _ | apply Ext.drewN | apply Ext.drew | apply Ext.alloc | (refine Ext.set ?_ (by first | (simp; done) | (simp; omega) | omega) _) | (refine Ext.trans ?_ (by assumption)))))) hsn).mono ?_)
    rintro e w1 ⟨As0, cs0, rfl, Rs0_1, hx_1⟩
    have hp_1 : Ext (w) w1 := Ext.trans (by with_reducible (repeat (first | exact Ext.refl _ | apply Ext.drewN | apply Ext.drew | apply Ext.alloc | (refine Ext.set ?_ (by first | (simp; done) | (simp; omega) | omega) _) | (refine Ext.trans ?_ (by assumption))))) hx_1
    have hE_1 : Ext w w1 := Ext.trans (by with_reducible (repeat (first | exact Ext.refl _ | apply Ext.drewN | apply Ext.drew | apply Ext.alloc | (refine Ext.set ?_ (by first | (simp; done) | (simp; omega) | omega) _) | (refine Ext.trans ?_ (by assumption))))) hp_1
    have hs_1 := hp_1.size
    (try simp at hs_1)
    go_wp2_with fail
    (with_reducible refine (specLadderOf_ret _ n _ xs t _ (by have := (Rs0_1.ints (by omega) hI.bds); rwa [Nat.mul_one] at this)).mono ?_)
    rintro e w2 ⟨Aw, cw, rfl, Rw_2, hx_2⟩
    have hp_2 : Ext (w1) w2 := Ext.trans (by with_reducible (repeat (first | exact Ext.refl _ | apply Ext.drewN | apply Ext.drew | apply Ext.alloc | (refine Ext.set ?_ (by first | (simp; done) | (simp; omega) | omega) _) | (refine Ext.trans ?_ (by assumption))))) hx_2
    have hE_2 : Ext w w2 := hE_1.trans hp_2
    have hs_2 := hp_2.size
    have Rs0_2 := Rs0_1.ext hp_2
    go_wp2_with fail
    (with_reducible refine (toInt64S_row A n c xs _ (hI.ext (by with_reducible (repeat (first | exact Ext.refl _ | apply Ext.drewN | apply Ext.drew | apply Ext.alloc | (refine Ext.set ?_ (by first | (simp; done) | (simp; omega) | omega) _) | (refine Ext.trans ?_ (by assumption)))))) hsn).mono ?_)
    rintro e w3 ⟨Ax0, cx0, rfl, Rx0_3, hx_3⟩
    have hp_3 : Ext (w2) w3 := Ext.trans (by with_reducible (repeat (first | exact Ext.refl _ | apply Ext.drewN | apply Ext.drew | apply Ext.alloc | (refine Ext.set ?_ (by first | (simp; done) | (simp; omega) | omega) _) | (refine Ext.trans ?_ (by assumption))))) hx_3
    have hE_3 : Ext w w3 := hE_2.trans hp_3
    have hs_3 := hp_3.size
    have Rw_3 := Rw_2.ext hp_3
    go_wp2_with fail
    (with_reducible refine (implLadderOf_ret _ n _ xs t _ (by have := (Rx0_3.ints (by omega) hI.bds); rwa [Nat.mul_one] at this)).mono ?_)
    rintro e w4 ⟨Ag, cg, rfl, Rg_4, hx_4⟩
    have hp_4 : Ext (w3) w4 := Ext.trans (by with_reducible (repeat (first | exact Ext.refl _ | apply Ext.drewN | apply Ext.drew | apply Ext.alloc | (refine Ext.set ?_ (by first | (simp; done) | (simp; omega) | omega) _) | (refine Ext.trans ?_ (by assumption))))) hx_4
    have hE_4 : Ext w w4 := hE_3.trans hp_4
    have hs_4 := hp_4.size
    have Rw_4 := Rw_3.ext hp_4
    have Rx0_4 := Rx0_3.ext hp_4
    go_wp2_with fail
    (with_reducible refine (eqStringS_row _ _ _ _ _ _ _ (Rg_4.strs (by omega) hyb) (Rw_4.strs (by omega) hyb)).mono ?_)
    rintro e w5 ⟨rfl, hx_5⟩
    have hp_5 : Ext (w4) w5 := Ext.trans (by with_reducible (repeat (first | exact Ext.refl _ | apply Ext.drewN | apply Ext.drew | apply Ext.alloc | (refine Ext.set ?_ (by first | (simp; done) | (simp; omega) | omega) _) | (refine Ext.trans ?_ (by assumption))))) hx_5
    have hE_5 : Ext w w5 := hE_4.trans hp_5
    have hs_5 := hp_5.size
    have Rw_5 := Rw_4.ext hp_5
    have Rx0_5 := Rx0_4.ext hp_5
    have Rg_5 := Rg_4.ext hp_5
    go_wp2_with fail
    (with_reducible refine (toInt64S_row A n c xs _ (hI.ext (by with_reducible (repeat (first | exact Ext.refl _ | apply Ext.drewN | apply Ext.drew | apply Ext.alloc | (refine Ext.set ?_ (by first | (simp; done) | (simp; omega) | omega) _) | (refine Ext.trans ?_ (by assumption)))))) hsn).mono ?_)
    rintro e w6 ⟨Ay0, cy0, rfl, Ry0_6, hx_6⟩
    have hp_6 : Ext (w5) w6 := Ext.trans (by with_reducible (repeat (first | exact Ext.refl _ | apply Ext.drewN | apply Ext.drew | apply Ext.alloc | (refine Ext.set ?_ (by first | (simp; done) | (simp; omega) | omega) _) | (refine Ext.trans ?_ (by assumption))))) hx_6
    have hE_6 : Ext w w6 := hE_5.trans hp_6
    have hs_6 := hp_6.size
    have Rw_6 := Rw_5.ext hp_6
    have Rx0_6 := Rx0_5.ext hp_6
    have Rg_6 := Rg_5.ext hp_6
    go_wp2_with fail
    (with_reducible refine (eqInt64S_row _ _ n _ _ _ _ (Rx0_6.ints (by omega) hI.bds) (Ry0_6.ints (by omega) hI.bds) (by omega)).mono ?_)
    rintro e w7 ⟨rfl, hx_7⟩
    have hp_7 : Ext (w6) w7 := Ext.trans (by with_reducible (repeat (first | exact Ext.refl _ | apply Ext.drewN | apply Ext.drew | apply Ext.alloc | (refine Ext.set ?_ (by first | (simp; done) | (simp; omega) | omega) _) | (refine Ext.trans ?_ (by assumption))))) hx_7
    have hE_7 : Ext w w7 := hE_6.trans hp_7
    have hs_7 := hp_7.size
    have Rw_7 := Rw_6.ext hp_7
    have Rx0_7 := Rx0_6.ext hp_7
    have Rg_7 := Rg_6.ext hp_7
    have Ry0_7 := Ry0_6.ext hp_7
    go_wp2_with fail
    (with_reducible refine (markInt64S_own _ _ _ _ _ 1 _ _ Rx0_7 (by omega) (by omega)).mono ?_)
    rintro e w8 ⟨K0, rfl, hK0, hg_8, Rx0_8⟩
    have hE_8 : Ext w w8 := hE_7.grown hg_8 (fun g hg => by have h1 := Rx0_7.row_bd g hg; have h2 := hE_2.size; omega)
    have hs_8 := hg_8.size
    have Rw_8 := Rw_7.apart hg_8 (fun g hg => by have := Rx0_7.row_bd g hg; omega)
    have Rg_8 := Rg_7.apart hg_8 (fun g hg => by have := Rx0_7.row_bd g hg; omega)
    have hnK0 : 0 ≤ K0 ∧ K0 ≤ 100000000 := (by omega)
    have hnegK0 : ¬ K0 < 0 := (by omega)
    have HK0 := Lib.hid hK0
    clear hK0
    go_wp2_with fail
    (with_reducible refine (eqStringS_row _ _ _ _ _ _ _ (Rg_8.strs (by omega) hyb) (Rw_8.strs (by omega) hyb)).mono ?_)
    rintro e w9 ⟨rfl, hx_9⟩
    have hp_9 : Ext (w8) w9 := Ext.trans (by with_reducible (repeat (first | exact Ext.refl _ | apply Ext.drewN | apply Ext.drew | apply Ext.alloc | (refine Ext.set ?_ (by first | (simp; done) | (simp; omega) | omega) _) | (refine Ext.trans ?_ (by assumption))))) hx_9
    have hE_9 : Ext w w9 := hE_8.trans hp_9
    have hs_9 := hp_9.size
    have Rw_9 := Rw_8.ext hp_9
    have Rx0_9 := Rx0_8.ext hp_9
    have Rg_9 := Rg_8.ext hp_9
    go_wp2_with fail
    (with_reducible refine (markStringS_at _ _ _ _ _ 1 _ _ _ Rg_9 (by omega) (by first | rfl | omega) (by omega) (by omega)).mono ?_)
    rintro e w10 ⟨M, rfl, hM, hg_10, Rg_10⟩
    have hE_10 : Ext w w10 := hE_9.grown hg_10 (fun g hg => by have h1 := Rg_9.row_bd g hg; have h2 := hE_3.size; omega)
    have hs_10 := hg_10.size
    have Rw_10 := Rw_9.apart hg_10 (fun g hg => by have := Rg_9.row_bd g hg; omega)
    have Rx0_10 := Rx0_9.apart hg_10 (fun g hg => by have := Rg_9.row_bd g hg; omega)
    have hnM : 1 ≤ M ∧ M ≤ 100000000 := (by omega)
    have hnegM : ¬ (M : Int) < 0 := (by omega)
    have HM := Lib.hid hM
    clear hM
    go_wp2_with fail
    (with_reducible refine (heldStringS_at _ _ _ 1 M _ _ (Rg_10.strs (by omega) (mks_sz (by omega) (by omega))) (by first | rfl | omega) (by omega) (by omega) HM.out).mono ?_)
    rintro e w11 ⟨rfl, hx_11⟩
    have hp_11 : Ext (w10) w11 := Ext.trans (by with_reducible (repeat (first | exact Ext.refl _ | apply Ext.drewN | apply Ext.drew | apply Ext.alloc | (refine Ext.set ?_ (by first | (simp; done) | (simp; omega) | omega) _) | (refine Ext.trans ?_ (by assumption))))) hx_11
    have hE_11 : Ext w w11 := hE_10.trans hp_11
    have hs_11 := hp_11.size
    have Rw_11 := Rw_10.ext hp_11
    have Rx0_11 := Rx0_10.ext hp_11
    have Rg_11 := Rg_10.ext hp_11
    go_wp2_with fail
    (with_reducible refine (toInt64S_row A n c xs _ (hI.ext (by with_reducible (repeat (first | exact Ext.refl _ | apply Ext.drewN | apply Ext.drew | apply Ext.alloc | (refine Ext.set ?_ (by first | (simp; done) | (simp; omega) | omega) _) | (refine Ext.trans ?_ (by assumption)))))) hsn).mono ?_)
    rintro e w12 ⟨At0, ct0, rfl, Rt0_12, hx_12⟩
    have hp_12 : Ext (w11) w12 := Ext.trans (by with_reducible (repeat (first | exact Ext.refl _ | apply Ext.drewN | apply Ext.drew | apply Ext.alloc | (refine Ext.set ?_ (by first | (simp; done) | (simp; omega) | omega) _) | (refine Ext.trans ?_ (by assumption))))) hx_12
    have hE_12 : Ext w w12 := hE_11.trans hp_12
    have hs_12 := hp_12.size
    have Rw_12 := Rw_11.ext hp_12
    have Rg_12 := Rg_11.ext hp_12
    go_wp2_with fail
    (with_reducible refine (implLadderOf_ret _ n _ xs t _ (by have := (Rt0_12.ints (by omega) hI.bds); rwa [Nat.mul_one] at this)).mono ?_)
    rintro e w13 ⟨Ah, ch, rfl, Rh_13, hx_13⟩
    have hp_13 : Ext (w12) w13 := Ext.trans (by with_reducible (repeat (first | exact Ext.refl _ | apply Ext.drewN | apply Ext.drew | apply Ext.alloc | (refine Ext.set ?_ (by first | (simp; done) | (simp; omega) | omega) _) | (refine Ext.trans ?_ (by assumption))))) hx_13
    have hE_13 : Ext w w13 := hE_12.trans hp_13
    have hs_13 := hp_13.size
    have Rw_13 := Rw_12.ext hp_13
    have Rg_13 := Rg_12.ext hp_13
    have Rt0_13 := Rt0_12.ext hp_13
    go_wp2_with fail
    (with_reducible refine (eqStringS_row _ _ _ _ _ _ _ (Rh_13.strs (by omega) hyb) (Rw_13.strs (by omega) hyb)).mono ?_)
    rintro e w14 ⟨rfl, hx_14⟩
    have hp_14 : Ext (w13) w14 := Ext.trans (by with_reducible (repeat (first | exact Ext.refl _ | apply Ext.drewN | apply Ext.drew | apply Ext.alloc | (refine Ext.set ?_ (by first | (simp; done) | (simp; omega) | omega) _) | (refine Ext.trans ?_ (by assumption))))) hx_14
    have hE_14 : Ext w w14 := hE_13.trans hp_14
    have hs_14 := hp_14.size
    have Rw_14 := Rw_13.ext hp_14
    have Rg_14 := Rg_13.ext hp_14
    have Rt0_14 := Rt0_13.ext hp_14
    have Rh_14 := Rh_13.ext hp_14
    go_wp2_with fail
    (with_reducible refine (heldStringS_at _ _ _ 1 M _ _ (Rg_14.strs (by omega) (mks_sz (by omega) (by omega))) (by first | rfl | omega) (by omega) (by omega) HM.out).mono ?_)
    rintro e w15 ⟨rfl, hx_15⟩
    have hp_15 : Ext (w14) w15 := Ext.trans (by with_reducible (repeat (first | exact Ext.refl _ | apply Ext.drewN | apply Ext.drew | apply Ext.alloc | (refine Ext.set ?_ (by first | (simp; done) | (simp; omega) | omega) _) | (refine Ext.trans ?_ (by assumption))))) hx_15
    have hE_15 : Ext w w15 := hE_14.trans hp_15
    have hs_15 := hp_15.size
    have Rw_15 := Rw_14.ext hp_15
    have Rg_15 := Rg_14.ext hp_15
    have Rt0_15 := Rt0_14.ext hp_15
    have Rh_15 := Rh_14.ext hp_15
    go_wp2
    go_ret
    exact ⟨rfl, Ext.below hE_15⟩
  · go_enter Try.func6, Try.ntmps6
    go_wp2
    go_ret
    exact ⟨rfl, Ext.below (by with_reducible (repeat (first | exact Ext.refl _ | apply Ext.drewN | apply Ext.drew | apply Ext.alloc | (refine Ext.set ?_ (by first | (simp; done) | (simp; omega) | omega) _) | (refine Ext.trans ?_ (by assumption)))))⟩
end Go.Proofs.Ytpnhpkgcaadnkaa.fnExactLadderOf

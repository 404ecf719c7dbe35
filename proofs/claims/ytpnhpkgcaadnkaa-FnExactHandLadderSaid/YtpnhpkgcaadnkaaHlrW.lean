/- The walk of laws.FnExactHandLadder. No condition. -/
import Derived.Test.YtpnhpkgcaadnkaaHlr
namespace Go.Proofs.Ytpnhpkgcaadnkaa.fnExactHandLadder
set_option linter.unusedVariables false
set_option linter.unusedSimpArgs false
open Go.RowKit
set_option maxHeartbeats 4000000 in
set_option maxRecDepth 100000 in
theorem walk (A : Option Addr) (n c : Nat) (xs : List Int) (B : Option Addr) (m d : Nat) (os : List Int) (t : Int) (_ht : -9223372036854775808 ≤ t ∧ t ≤ 9223372036854775807) (w : World) (hI : Ints w A n xs) (hJ : Ints w B m os) :
    Calls Try.prog 7 #[.slice A n c, .slice B m d, .int .i64 t] w fun e w' => e = .returned (.bool true) ∧ Below w.heap.size w w' := by
  have hsmn := hI.small
  have hsmm := hJ.small
  by_cases hsn : n ≤ 1048576
  ·
    by_cases hsm : m ≤ 1048576
    ·
      obtain ⟨hyn, hyb⟩ := (hls_bd xs os t)
      go_enter Try.func7, Try.ntmps7
      go_wp2_with fail
      (with_reducible refine (toInt64S_row A n c xs _ (hI.ext (by with_reducible (repeat (first | exact Ext.refl _ | apply Ext.drewN | apply Ext.drew | apply Ext.alloc | (refine Ext.set ?_ (by first | (simp; done) | (simp; omega) | omega) _) | (refine Ext.trans ?_ (by assumption)))))) hsn).mono ?_)
      rintro e w1 ⟨As0, cs0, rfl, Rs0_1, hx_1⟩
      have hp_1 : Ext (w) w1 := Ext.trans (by with_reducible (repeat (first | exact Ext.refl _ | apply Ext.drewN | apply Ext.drew | apply Ext.alloc | (refine Ext.set ?_ (by first | (simp; done) | (simp; omega) | omega) _) | (refine Ext.trans ?_ (by assumption))))) hx_1
      have hE_1 : Ext w w1 := Ext.trans (by with_reducible (repeat (first | exact Ext.refl _ | apply Ext.drewN | apply Ext.drew | apply Ext.alloc | (refine Ext.set ?_ (by first | (simp; done) | (simp; omega) | omega) _) | (refine Ext.trans ?_ (by assumption))))) hp_1
      have hs_1 := hp_1.size
      (try simp at hs_1)
      go_wp2_with fail
      (with_reducible refine (toInt64S_row B m d os _ (hJ.ext (by with_reducible (repeat (first | exact Ext.refl _ | apply Ext.drewN | apply Ext.drew | apply Ext.alloc | (refine Ext.set ?_ (by first | (simp; done) | (simp; omega) | omega) _) | (refine Ext.trans ?_ (by assumption)))))) hsm).mono ?_)
      rintro e w2 ⟨As1, cs1, rfl, Rs1_2, hx_2⟩
      have hp_2 : Ext (w1) w2 := Ext.trans (by with_reducible (repeat (first | exact Ext.refl _ | apply Ext.drewN | apply Ext.drew | apply Ext.alloc | (refine Ext.set ?_ (by first | (simp; done) | (simp; omega) | omega) _) | (refine Ext.trans ?_ (by assumption))))) hx_2
      have hE_2 : Ext w w2 := hE_1.trans hp_2
      have hs_2 := hp_2.size
      have Rs0_2 := Rs0_1.ext hp_2
      go_wp2_with fail
      (with_reducible refine (specHandLadder_ret _ n _ xs _ m _ os t _ (by have := (Rs0_2.ints (by omega) hI.bds); rwa [Nat.mul_one] at this) (by have := (Rs1_2.ints (by omega) hJ.bds); rwa [Nat.mul_one] at this)).mono ?_)
      rintro e w3 ⟨Aw, cw, rfl, Rw_3, hx_3⟩
      have hp_3 : Ext (w2) w3 := Ext.trans (by with_reducible (repeat (first | exact Ext.refl _ | apply Ext.drewN | apply Ext.drew | apply Ext.alloc | (refine Ext.set ?_ (by first | (simp; done) | (simp; omega) | omega) _) | (refine Ext.trans ?_ (by assumption))))) hx_3
      have hE_3 : Ext w w3 := hE_2.trans hp_3
      have hs_3 := hp_3.size
      have Rs0_3 := Rs0_2.ext hp_3
      have Rs1_3 := Rs1_2.ext hp_3
      go_wp2_with fail
      (with_reducible refine (toInt64S_row A n c xs _ (hI.ext (by with_reducible (repeat (first | exact Ext.refl _ | apply Ext.drewN | apply Ext.drew | apply Ext.alloc | (refine Ext.set ?_ (by first | (simp; done) | (simp; omega) | omega) _) | (refine Ext.trans ?_ (by assumption)))))) hsn).mono ?_)
      rintro e w4 ⟨Ax0, cx0, rfl, Rx0_4, hx_4⟩
      have hp_4 : Ext (w3) w4 := Ext.trans (by with_reducible (repeat (first | exact Ext.refl _ | apply Ext.drewN | apply Ext.drew | apply Ext.alloc | (refine Ext.set ?_ (by first | (simp; done) | (simp; omega) | omega) _) | (refine Ext.trans ?_ (by assumption))))) hx_4
      have hE_4 : Ext w w4 := hE_3.trans hp_4
      have hs_4 := hp_4.size
      have Rw_4 := Rw_3.ext hp_4
      go_wp2_with fail
      (with_reducible refine (toInt64S_row B m d os _ (hJ.ext (by with_reducible (repeat (first | exact Ext.refl _ | apply Ext.drewN | apply Ext.drew | apply Ext.alloc | (refine Ext.set ?_ (by first | (simp; done) | (simp; omega) | omega) _) | (refine Ext.trans ?_ (by assumption)))))) hsm).mono ?_)
      rintro e w5 ⟨Ax1, cx1, rfl, Rx1_5, hx_5⟩
      have hp_5 : Ext (w4) w5 := Ext.trans (by with_reducible (repeat (first | exact Ext.refl _ | apply Ext.drewN | apply Ext.drew | apply Ext.alloc | (refine Ext.set ?_ (by first | (simp; done) | (simp; omega) | omega) _) | (refine Ext.trans ?_ (by assumption))))) hx_5
      have hE_5 : Ext w w5 := hE_4.trans hp_5
      have hs_5 := hp_5.size
      have Rw_5 := Rw_4.ext hp_5
      have Rx0_5 := Rx0_4.ext hp_5
      go_wp2_with fail
      (with_reducible refine (implHandLadder_ret _ n _ xs _ m _ os t _ (by have := (Rx0_5.ints (by omega) hI.bds); rwa [Nat.mul_one] at this) (by have := (Rx1_5.ints (by omega) hJ.bds); rwa [Nat.mul_one] at this)).mono ?_)
      rintro e w6 ⟨Ag, cg, rfl, Rg_6, hx_6⟩
      have hp_6 : Ext (w5) w6 := Ext.trans (by with_reducible (repeat (first | exact Ext.refl _ | apply Ext.drewN | apply Ext.drew | apply Ext.alloc | (refine Ext.set ?_ (by first | (simp; done) | (simp; omega) | omega) _) | (refine Ext.trans ?_ (by assumption))))) hx_6
      have hE_6 : Ext w w6 := hE_5.trans hp_6
      have hs_6 := hp_6.size
      have Rw_6 := Rw_5.ext hp_6
      have Rx0_6 := Rx0_5.ext hp_6
      have Rx1_6 := Rx1_5.ext hp_6
      go_wp2_with fail
      (with_reducible refine (eqStringS_row _ _ _ _ _ _ _ (Rg_6.strs (by omega) hyb) (Rw_6.strs (by omega) hyb)).mono ?_)
      rintro e w7 ⟨rfl, hx_7⟩
      have hp_7 : Ext (w6) w7 := Ext.trans (by with_reducible (repeat (first | exact Ext.refl _ | apply Ext.drewN | apply Ext.drew | apply Ext.alloc | (refine Ext.set ?_ (by first | (simp; done) | (simp; omega) | omega) _) | (refine Ext.trans ?_ (by assumption))))) hx_7
      have hE_7 : Ext w w7 := hE_6.trans hp_7
      have hs_7 := hp_7.size
      have Rw_7 := Rw_6.ext hp_7
      have Rx0_7 := Rx0_6.ext hp_7
      have Rx1_7 := Rx1_6.ext hp_7
      have Rg_7 := Rg_6.ext hp_7
      go_wp2_with fail
      (with_reducible refine (toInt64S_row A n c xs _ (hI.ext (by with_reducible (repeat (first | exact Ext.refl _ | apply Ext.drewN | apply Ext.drew | apply Ext.alloc | (refine Ext.set ?_ (by first | (simp; done) | (simp; omega) | omega) _) | (refine Ext.trans ?_ (by assumption)))))) hsn).mono ?_)
      rintro e w8 ⟨Ay0, cy0, rfl, Ry0_8, hx_8⟩
      have hp_8 : Ext (w7) w8 := Ext.trans (by with_reducible (repeat (first | exact Ext.refl _ | apply Ext.drewN | apply Ext.drew | apply Ext.alloc | (refine Ext.set ?_ (by first | (simp; done) | (simp; omega) | omega) _) | (refine Ext.trans ?_ (by assumption))))) hx_8
      have hE_8 : Ext w w8 := hE_7.trans hp_8
      have hs_8 := hp_8.size
      have Rw_8 := Rw_7.ext hp_8
      have Rx0_8 := Rx0_7.ext hp_8
      have Rx1_8 := Rx1_7.ext hp_8
      have Rg_8 := Rg_7.ext hp_8
      go_wp2_with fail
      (with_reducible refine (eqInt64S_row _ _ n _ _ _ _ (Rx0_8.ints (by omega) hI.bds) (Ry0_8.ints (by omega) hI.bds) (by omega)).mono ?_)
      rintro e w9 ⟨rfl, hx_9⟩
      have hp_9 : Ext (w8) w9 := Ext.trans (by with_reducible (repeat (first | exact Ext.refl _ | apply Ext.drewN | apply Ext.drew | apply Ext.alloc | (refine Ext.set ?_ (by first | (simp; done) | (simp; omega) | omega) _) | (refine Ext.trans ?_ (by assumption))))) hx_9
      have hE_9 : Ext w w9 := hE_8.trans hp_9
      have hs_9 := hp_9.size
      have Rw_9 := Rw_8.ext hp_9
      have Rx0_9 := Rx0_8.ext hp_9
      have Rx1_9 := Rx1_8.ext hp_9
      have Rg_9 := Rg_8.ext hp_9
      have Ry0_9 := Ry0_8.ext hp_9
      go_wp2_with fail
      (with_reducible refine (toInt64S_row B m d os _ (hJ.ext (by with_reducible (repeat (first | exact Ext.refl _ | apply Ext.drewN | apply Ext.drew | apply Ext.alloc | (refine Ext.set ?_ (by first | (simp; done) | (simp; omega) | omega) _) | (refine Ext.trans ?_ (by assumption)))))) hsm).mono ?_)
      rintro e w10 ⟨Ay1, cy1, rfl, Ry1_10, hx_10⟩
      have hp_10 : Ext (w9) w10 := Ext.trans (by with_reducible (repeat (first | exact Ext.refl _ | apply Ext.drewN | apply Ext.drew | apply Ext.alloc | (refine Ext.set ?_ (by first | (simp; done) | (simp; omega) | omega) _) | (refine Ext.trans ?_ (by assumption))))) hx_10
      have hE_10 : Ext w w10 := hE_9.trans hp_10
      have hs_10 := hp_10.size
      have Rw_10 := Rw_9.ext hp_10
      have Rx0_10 := Rx0_9.ext hp_10
      have Rx1_10 := Rx1_9.ext hp_10
      have Rg_10 := Rg_9.ext hp_10
      go_wp2_with fail
      (with_reducible refine (eqInt64S_row _ _ m _ _ _ _ (Rx1_10.ints (by omega) hJ.bds) (Ry1_10.ints (by omega) hJ.bds) (by omega)).mono ?_)
      rintro e w11 ⟨rfl, hx_11⟩
      have hp_11 : Ext (w10) w11 := Ext.trans (by with_reducible (repeat (first | exact Ext.refl _ | apply Ext.drewN | apply Ext.drew | apply Ext.alloc | (refine Ext.set ?_ (by first | (simp; done) | (simp; omega) | omega) _) | (refine Ext.trans ?_ (by assumption))))) hx_11
      have hE_11 : Ext w w11 := hE_10.trans hp_11
      have hs_11 := hp_11.size
      have Rw_11 := Rw_10.ext hp_11
      have Rx0_11 := Rx0_10.ext hp_11
      have Rx1_11 := Rx1_10.ext hp_11
      have Rg_11 := Rg_10.ext hp_11
      have Ry1_11 := Ry1_10.ext hp_11
      go_wp2_with fail
      (with_reducible refine (markInt64S_own _ _ _ _ _ 1 _ _ Rx0_11 (by omega) (by omega)).mono ?_)
      rintro e w12 ⟨K0, rfl, hK0, hg_12, Rx0_12⟩
      have hE_12 : Ext w w12 := hE_11.grown hg_12 (fun g hg => by have h1 := Rx0_11.row_bd g hg; have h2 := hE_3.size; omega)
      have hs_12 := hg_12.size
      have Rw_12 := Rw_11.apart hg_12 (fun g hg => by have := Rx0_11.row_bd g hg; omega)
      have Rx1_12 := Rx1_11.apart hg_12 (fun g hg => by have := Rx0_11.row_bd g hg; omega)
      have Rg_12 := Rg_11.apart hg_12 (fun g hg => by have := Rx0_11.row_bd g hg; omega)
      have hnK0 : 0 ≤ K0 ∧ K0 ≤ 100000000 := (by omega)
      have hnegK0 : ¬ K0 < 0 := (by omega)
      have HK0 := Lib.hid hK0
      clear hK0
      go_wp2_with fail
      (with_reducible refine (markInt64S_own _ _ _ _ _ K0 _ _ Rx1_12 (by omega) (by omega)).mono ?_)
      rintro e w13 ⟨K1, rfl, hK1, hg_13, Rx1_13⟩
      have hE_13 : Ext w w13 := hE_12.grown hg_13 (fun g hg => by have h1 := Rx1_12.row_bd g hg; have h2 := hE_4.size; omega)
      have hs_13 := hg_13.size
      have Rw_13 := Rw_12.apart hg_13 (fun g hg => by have := Rx1_12.row_bd g hg; omega)
      have Rx0_13 := Rx0_12.apart hg_13 (fun g hg => by have := Rx1_12.row_bd g hg; omega)
      have Rg_13 := Rg_12.apart hg_13 (fun g hg => by have := Rx1_12.row_bd g hg; omega)
      have hnK1 : 0 ≤ K1 ∧ K1 ≤ 200000000 := (by omega)
      have hnegK1 : ¬ K1 < 0 := (by omega)
      have HK1 := Lib.hid hK1
      clear hK1
      go_wp2_with fail
      (with_reducible refine (eqStringS_row _ _ _ _ _ _ _ (Rg_13.strs (by omega) hyb) (Rw_13.strs (by omega) hyb)).mono ?_)
      rintro e w14 ⟨rfl, hx_14⟩
      have hp_14 : Ext (w13) w14 := Ext.trans (by with_reducible (repeat (first | exact Ext.refl _ | apply Ext.drewN | apply Ext.drew | apply Ext.alloc | (refine Ext.set ?_ (by first | (simp; done) | (simp; omega) | omega) _) | (refine Ext.trans ?_ (by assumption))))) hx_14
      have hE_14 : Ext w w14 := hE_13.trans hp_14
      have hs_14 := hp_14.size
      have Rw_14 := Rw_13.ext hp_14
      have Rx0_14 := Rx0_13.ext hp_14
      have Rx1_14 := Rx1_13.ext hp_14
      have Rg_14 := Rg_13.ext hp_14
      go_wp2_with fail
      (with_reducible refine (markStringS_at _ _ _ _ _ 1 _ _ _ Rg_14 (by omega) (by first | rfl | omega) (by omega) (by omega)).mono ?_)
      rintro e w15 ⟨M, rfl, hM, hg_15, Rg_15⟩
      have hE_15 : Ext w w15 := hE_14.grown hg_15 (fun g hg => by have h1 := Rg_14.row_bd g hg; have h2 := hE_5.size; omega)
      have hs_15 := hg_15.size
      have Rw_15 := Rw_14.apart hg_15 (fun g hg => by have := Rg_14.row_bd g hg; omega)
      have Rx0_15 := Rx0_14.apart hg_15 (fun g hg => by have := Rg_14.row_bd g hg; omega)
      have Rx1_15 := Rx1_14.apart hg_15 (fun g hg => by have := Rg_14.row_bd g hg; omega)
      have hnM : 1 ≤ M ∧ M ≤ 100000000 := (by omega)
      have hnegM : ¬ (M : Int) < 0 := (by omega)
      have HM := Lib.hid hM
      clear hM
      go_wp2_with fail
      (with_reducible refine (heldStringS_at _ _ _ 1 M _ _ (Rg_15.strs (by omega) (mks_sz (by omega) (by omega))) (by first | rfl | omega) (by omega) (by omega) HM.out).mono ?_)
      rintro e w16 ⟨rfl, hx_16⟩
      have hp_16 : Ext (w15) w16 := Ext.trans (by with_reducible (repeat (first | exact Ext.refl _ | apply Ext.drewN | apply Ext.drew | apply Ext.alloc | (refine Ext.set ?_ (by first | (simp; done) | (simp; omega) | omega) _) | (refine Ext.trans ?_ (by assumption))))) hx_16
      have hE_16 : Ext w w16 := hE_15.trans hp_16
      have hs_16 := hp_16.size
      have Rw_16 := Rw_15.ext hp_16
      have Rx0_16 := Rx0_15.ext hp_16
      have Rx1_16 := Rx1_15.ext hp_16
      have Rg_16 := Rg_15.ext hp_16
      go_wp2_with fail
      (with_reducible refine (toInt64S_row A n c xs _ (hI.ext (by with_reducible (repeat (first | exact Ext.refl _ | apply Ext.drewN | apply Ext.drew | apply Ext.alloc | (refine Ext.set ?_ (by first | (simp; done) | (simp; omega) | omega) _) | (refine Ext.trans ?_ (by assumption)))))) hsn).mono ?_)
      rintro e w17 ⟨At0, ct0, rfl, Rt0_17, hx_17⟩
      have hp_17 : Ext (w16) w17 := Ext.trans (by with_reducible (repeat (first | exact Ext.refl _ | apply Ext.drewN | apply Ext.drew | apply Ext.alloc | (refine Ext.set ?_ (by first | (simp; done) | (simp; omega) | omega) _) | (refine Ext.trans ?_ (by assumption))))) hx_17
      have hE_17 : Ext w w17 := hE_16.trans hp_17
      have hs_17 := hp_17.size
      have Rw_17 := Rw_16.ext hp_17
      have Rg_17 := Rg_16.ext hp_17
      go_wp2_with fail
      (with_reducible refine (toInt64S_row B m d os _ (hJ.ext (by with_reducible (repeat (first | exact Ext.refl _ | apply Ext.drewN | apply Ext.drew | apply Ext.alloc | (refine Ext.set ?_ (by first | (simp; done) | (simp; omega) | omega) _) | (refine Ext.trans ?_ (by assumption)))))) hsm).mono ?_)
      rintro e w18 ⟨At1, ct1, rfl, Rt1_18, hx_18⟩
      have hp_18 : Ext (w17) w18 := Ext.trans (by with_reducible (repeat (first | exact Ext.refl _ | apply Ext.drewN | apply Ext.drew | apply Ext.alloc | (refine Ext.set ?_ (by first | (simp; done) | (simp; omega) | omega) _) | (refine Ext.trans ?_ (by assumption))))) hx_18
      have hE_18 : Ext w w18 := hE_17.trans hp_18
      have hs_18 := hp_18.size
      have Rw_18 := Rw_17.ext hp_18
      have Rg_18 := Rg_17.ext hp_18
      have Rt0_18 := Rt0_17.ext hp_18
      go_wp2_with fail
      (with_reducible refine (implHandLadder_ret _ n _ xs _ m _ os t _ (by have := (Rt0_18.ints (by omega) hI.bds); rwa [Nat.mul_one] at this) (by have := (Rt1_18.ints (by omega) hJ.bds); rwa [Nat.mul_one] at this)).mono ?_)
      rintro e w19 ⟨Ah, ch, rfl, Rh_19, hx_19⟩
      have hp_19 : Ext (w18) w19 := Ext.trans (by with_reducible (repeat (first | exact Ext.refl _ | apply Ext.drewN | apply Ext.drew | apply Ext.alloc | (refine Ext.set ?_ (by first | (simp; done) | (simp; omega) | omega) _) | (refine Ext.trans ?_ (by assumption))))) hx_19
      have hE_19 : Ext w w19 := hE_18.trans hp_19
      have hs_19 := hp_19.size
      have Rw_19 := Rw_18.ext hp_19
      have Rg_19 := Rg_18.ext hp_19
      have Rt0_19 := Rt0_18.ext hp_19
      have Rt1_19 := Rt1_18.ext hp_19
      go_wp2_with fail
      (with_reducible refine (eqStringS_row _ _ _ _ _ _ _ (Rh_19.strs (by omega) hyb) (Rw_19.strs (by omega) hyb)).mono ?_)
      rintro e w20 ⟨rfl, hx_20⟩
      have hp_20 : Ext (w19) w20 := Ext.trans (by with_reducible (repeat (first | exact Ext.refl _ | apply Ext.drewN | apply Ext.drew | apply Ext.alloc | (refine Ext.set ?_ (by first | (simp; done) | (simp; omega) | omega) _) | (refine Ext.trans ?_ (by assumption))))) hx_20
      have hE_20 : Ext w w20 := hE_19.trans hp_20
      have hs_20 := hp_20.size
      have Rw_20 := Rw_19.ext hp_20
      have Rg_20 := Rg_19.ext hp_20
      have Rt0_20 := Rt0_19.ext hp_20
      have Rt1_20 := Rt1_19.ext hp_20
      have Rh_20 := Rh_19.ext hp_20
      go_wp2_with fail
      (with_reducible refine (heldStringS_at _ _ _ 1 M _ _ (Rg_20.strs (by omega) (mks_sz (by omega) (by omega))) (by first | rfl | omega) (by omega) (by omega) HM.out).mono ?_)
      rintro e w21 ⟨rfl, hx_21⟩
      have hp_21 : Ext (w20) w21 := Ext.trans (by with_reducible (repeat (first | exact Ext.refl _ | apply Ext.drewN | apply Ext.drew | apply Ext.alloc | (refine Ext.set ?_ (by first | (simp; done) | (simp; omega) | omega) _) | (refine Ext.trans ?_ (by assumption))))) hx_21
      have hE_21 : Ext w w21 := hE_20.trans hp_21
      have hs_21 := hp_21.size
      have Rw_21 := Rw_20.ext hp_21
      have Rg_21 := Rg_20.ext hp_21
      have Rt0_21 := Rt0_20.ext hp_21
      have Rt1_21 := Rt1_20.ext hp_21
      have Rh_21 := Rh_20.ext hp_21
      go_wp2
      go_ret
      exact ⟨rfl, Ext.below hE_21⟩
    · go_enter Try.func7, Try.ntmps7
      go_wp2
      go_ret
      exact ⟨rfl, Ext.below (by with_reducible (repeat (first | exact Ext.refl _ | apply Ext.drewN | apply Ext.drew | apply Ext.alloc | (refine Ext.set ?_ (by first | (simp; done) | (simp; omega) | omega) _) | (refine Ext.trans ?_ (by assumption)))))⟩
  · go_enter Try.func7, Try.ntmps7
    go_wp2
    go_ret
    exact ⟨rfl, Ext.below (by with_reducible (repeat (first | exact Ext.refl _ | apply Ext.drewN | apply Ext.drew | apply Ext.alloc | (refine Ext.set ?_ (by first | (simp; done) | (simp; omega) | omega) _) | (refine Ext.trans ?_ (by assumption)))))⟩
end Go.Proofs.Ytpnhpkgcaadnkaa.fnExactHandLadder

/- The walk of laws.FnExactFlightsOf. No condition. -/
import Derived.Test.YtklkbldmhhkcjaaFlr
import Derived.Test.YtklkbldmhhkcjaaMkFlight
import Derived.Deep.RegionHeld3
namespace Go.Proofs.Ytklkbldmhhkcjaa.fnExactFlightsOf
set_option linter.unusedVariables false
set_option linter.unusedSimpArgs false
open Go.RowKit
set_option maxHeartbeats 4000000 in
set_option maxRecDepth 100000 in
theorem walk (A : Option Addr) (n c : Nat) (xs : List Int) (b : Int) (_hb : -9223372036854775808 ≤ b ∧ b ≤ 9223372036854775807) (d : Int) (_hd : -9223372036854775808 ≤ d ∧ d ≤ 9223372036854775807) (wd : Int) (_hwd : -9223372036854775808 ≤ wd ∧ wd ≤ 9223372036854775807) (t : Int) (_ht : -9223372036854775808 ≤ t ∧ t ≤ 9223372036854775807) (w : World) (hI : Ints w A n xs) :
    Calls Try.prog 6 #[.slice A n c, .agg #[.int .i64 b, .int .i64 d], .int .i64 wd, .int .i64 t] w fun e w' => e = .returned (.bool true) ∧ Below w.heap.size w w' := by
  have hsmn := hI.small
  by_cases hsn : n ≤ 1048576
  ·
    obtain ⟨hyn, hyb⟩ := (flos_bd xs b d wd t)
    go_enter Try.func6, Try.ntmps6
    go_wp2
    go_region_held3 (fun wz => wz.cell? ⟨w.heap.size, 0, none⟩ = some (.int .i64 b) ∧ wz.cell? ⟨w.heap.size, 1, none⟩ = some (.int .i64 d)) (go_keep)
      (first | (go_at_call 8; (with_reducible refine (toInt64S_row A n c xs _ (hI.ext (by with_reducible (repeat (first | exact Ext.refl _ | apply Ext.drewN | apply Ext.drew | apply Ext.alloc | (refine Ext.set ?_ (by first | (simp; done) | (simp; omega) | omega) _) | (refine Ext.trans ?_ (by assumption)))))) hsn).mono ?_); rintro e w1 ⟨As0, cs0, rfl, Rs0_1, hx_1⟩; have hp_1 : Ext (w.alloc (.cells #[.int .i64 b, .int .i64 d] 24)) w1 := Ext.trans (by with_reducible (repeat (first | exact Ext.refl _ | apply Ext.drewN | apply Ext.drew | apply Ext.alloc | (refine Ext.set ?_ (by first | (simp; done) | (simp; omega) | omega) _) | (refine Ext.trans ?_ (by assumption))))) hx_1; have hE_1 : Ext w w1 := Ext.trans (by with_reducible (repeat (first | exact Ext.refl _ | apply Ext.drewN | apply Ext.drew | apply Ext.alloc | (refine Ext.set ?_ (by first | (simp; done) | (simp; omega) | omega) _) | (refine Ext.trans ?_ (by assumption))))) hp_1; have hs_1 := hp_1.size; (try simp at hs_1); have ct0_1 : w1.cell? ⟨w.heap.size, 0, none⟩ = some (.int .i64 b) := hp_1.cell (by simp) (by simp); have ct1_1 : w1.cell? ⟨w.heap.size, 1, none⟩ = some (.int .i64 d) := hp_1.cell (by simp) (by simp); have hz0_1 : w.heap.size < w1.heap.size := (by have := hp_1.size; first | omega | (simp at this; omega))) | (go_at_call 9; (with_reducible refine (toTiming_any b d _).mono ?_); rintro e w2 ⟨rfl, hx_2⟩; have hp_2 : Ext (w1) w2 := Ext.trans (by with_reducible (repeat (first | exact Ext.refl _ | apply Ext.drewN | apply Ext.drew | apply Ext.alloc | (refine Ext.set ?_ (by first | (simp; done) | (simp; omega) | omega) _) | (refine Ext.trans ?_ (by assumption))))) hx_2; have hE_2 : Ext w w2 := hE_1.trans hp_2; have hs_2 := hp_2.size; have ct0_2 : w2.cell? ⟨w.heap.size, 0, none⟩ = some (.int .i64 b) := hp_2.cell hz0_1 ct0_1; have ct1_2 : w2.cell? ⟨w.heap.size, 1, none⟩ = some (.int .i64 d) := hp_2.cell hz0_1 ct1_1; have hz0_2 : w.heap.size < w2.heap.size := (by have := hp_2.size; first | omega | (simp at this; omega)); have Rs0_2 := Rs0_1.ext hp_2) | (go_at_call 21; (with_reducible refine (specFlightsOf_ret _ n _ xs b d wd t _ (by have := (Rs0_2.ints (by omega) hI.bds); rwa [Nat.mul_one] at this)).mono ?_); rintro e w3 ⟨Aw, cw, rfl, Rw_3, hx_3⟩; have hp_3 : Ext (w2) w3 := Ext.trans (by with_reducible (repeat (first | exact Ext.refl _ | apply Ext.drewN | apply Ext.drew | apply Ext.alloc | (refine Ext.set ?_ (by first | (simp; done) | (simp; omega) | omega) _) | (refine Ext.trans ?_ (by assumption))))) hx_3; have hE_3 : Ext w w3 := hE_2.trans hp_3; have hs_3 := hp_3.size; have ct0_3 : w3.cell? ⟨w.heap.size, 0, none⟩ = some (.int .i64 b) := hp_3.cell hz0_2 ct0_2; have ct1_3 : w3.cell? ⟨w.heap.size, 1, none⟩ = some (.int .i64 d) := hp_3.cell hz0_2 ct1_2; have hz0_3 : w.heap.size < w3.heap.size := (by have := hp_3.size; first | omega | (simp at this; omega)); have Rs0_3 := Rs0_2.ext hp_3))
    go_wp2_with fail
    (with_reducible refine (toInt64S_row A n c xs _ (hI.ext (by with_reducible (repeat (first | exact Ext.refl _ | apply Ext.drewN | apply Ext.drew | apply Ext.alloc | (refine Ext.set ?_ (by first | (simp; done) | (simp; omega) | omega) _) | (refine Ext.trans ?_ (by assumption)))))) hsn).mono ?_)
    rintro e w4 ⟨Ax0, cx0, rfl, Rx0_4, hx_4⟩
    have hp_4 : Ext (w3) w4 := Ext.trans (by with_reducible (repeat (first | exact Ext.refl _ | apply Ext.drewN | apply Ext.drew | apply Ext.alloc | (refine Ext.set ?_ (by first | (simp; done) | (simp; omega) | omega) _) | (refine Ext.trans ?_ (by assumption))))) hx_4
    have hE_4 : Ext w w4 := hE_3.trans hp_4
    have hs_4 := hp_4.size
    have ct0_4 : w4.cell? ⟨w.heap.size, 0, none⟩ = some (.int .i64 b) := hp_4.cell hz0_3 ct0_3
    have ct1_4 : w4.cell? ⟨w.heap.size, 1, none⟩ = some (.int .i64 d) := hp_4.cell hz0_3 ct1_3
    have hz0_4 : w.heap.size < w4.heap.size := (by have := hp_4.size; first | omega | (simp at this; omega))
    have Rw_4 := Rw_3.ext hp_4
    go_wp2_with fail
    (with_reducible refine (toTiming_any b d _).mono ?_)
    rintro e w5 ⟨rfl, hx_5⟩
    have hp_5 : Ext (w4) w5 := Ext.trans (by with_reducible (repeat (first | exact Ext.refl _ | apply Ext.drewN | apply Ext.drew | apply Ext.alloc | (refine Ext.set ?_ (by first | (simp; done) | (simp; omega) | omega) _) | (refine Ext.trans ?_ (by assumption))))) hx_5
    have hE_5 : Ext w w5 := hE_4.trans hp_5
    have hs_5 := hp_5.size
    have ct0_5 : w5.cell? ⟨w.heap.size, 0, none⟩ = some (.int .i64 b) := hp_5.cell hz0_4 ct0_4
    have ct1_5 : w5.cell? ⟨w.heap.size, 1, none⟩ = some (.int .i64 d) := hp_5.cell hz0_4 ct1_4
    have hz0_5 : w.heap.size < w5.heap.size := (by have := hp_5.size; first | omega | (simp at this; omega))
    have Rw_5 := Rw_4.ext hp_5
    have Rx0_5 := Rx0_4.ext hp_5
    go_wp2_with fail
    (with_reducible refine (implFlightsOf_ret _ n _ xs b d wd t _ (by have := (Rx0_5.ints (by omega) hI.bds); rwa [Nat.mul_one] at this)).mono ?_)
    rintro e w6 ⟨Ag, cg, rfl, Rg_6, hx_6⟩
    have hp_6 : Ext (w5) w6 := Ext.trans (by with_reducible (repeat (first | exact Ext.refl _ | apply Ext.drewN | apply Ext.drew | apply Ext.alloc | (refine Ext.set ?_ (by first | (simp; done) | (simp; omega) | omega) _) | (refine Ext.trans ?_ (by assumption))))) hx_6
    have hE_6 : Ext w w6 := hE_5.trans hp_6
    have hs_6 := hp_6.size
    have ct0_6 : w6.cell? ⟨w.heap.size, 0, none⟩ = some (.int .i64 b) := hp_6.cell hz0_5 ct0_5
    have ct1_6 : w6.cell? ⟨w.heap.size, 1, none⟩ = some (.int .i64 d) := hp_6.cell hz0_5 ct1_5
    have hz0_6 : w.heap.size < w6.heap.size := (by have := hp_6.size; first | omega | (simp at this; omega))
    have Rw_6 := Rw_5.ext hp_6
    have Rx0_6 := Rx0_5.ext hp_6
    go_wp2_with fail
    (with_reducible refine (eqFlightS_row _ _ _ _ _ _ _ (Rg_6.ints (by omega) hyb) (Rw_6.ints (by omega) hyb) (by omega)).mono ?_)
    rintro e w7 ⟨rfl, hx_7⟩
    have hp_7 : Ext (w6) w7 := Ext.trans (by with_reducible (repeat (first | exact Ext.refl _ | apply Ext.drewN | apply Ext.drew | apply Ext.alloc | (refine Ext.set ?_ (by first | (simp; done) | (simp; omega) | omega) _) | (refine Ext.trans ?_ (by assumption))))) hx_7
    have hE_7 : Ext w w7 := hE_6.trans hp_7
    have hs_7 := hp_7.size
    have ct0_7 : w7.cell? ⟨w.heap.size, 0, none⟩ = some (.int .i64 b) := hp_7.cell hz0_6 ct0_6
    have ct1_7 : w7.cell? ⟨w.heap.size, 1, none⟩ = some (.int .i64 d) := hp_7.cell hz0_6 ct1_6
    have hz0_7 : w.heap.size < w7.heap.size := (by have := hp_7.size; first | omega | (simp at this; omega))
    have Rw_7 := Rw_6.ext hp_7
    have Rx0_7 := Rx0_6.ext hp_7
    have Rg_7 := Rg_6.ext hp_7
    go_wp2_with fail
    (with_reducible refine (toInt64S_row A n c xs _ (hI.ext (by with_reducible (repeat (first | exact Ext.refl _ | apply Ext.drewN | apply Ext.drew | apply Ext.alloc | (refine Ext.set ?_ (by first | (simp; done) | (simp; omega) | omega) _) | (refine Ext.trans ?_ (by assumption)))))) hsn).mono ?_)
    rintro e w8 ⟨Ay0, cy0, rfl, Ry0_8, hx_8⟩
    have hp_8 : Ext (w7) w8 := Ext.trans (by with_reducible (repeat (first | exact Ext.refl _ | apply Ext.drewN | apply Ext.drew | apply Ext.alloc | (refine Ext.set ?_ (by first | (simp; done) | (simp; omega) | omega) _) | (refine Ext.trans ?_ (by assumption))))) hx_8
    have hE_8 : Ext w w8 := hE_7.trans hp_8
    have hs_8 := hp_8.size
    have ct0_8 : w8.cell? ⟨w.heap.size, 0, none⟩ = some (.int .i64 b) := hp_8.cell hz0_7 ct0_7
    have ct1_8 : w8.cell? ⟨w.heap.size, 1, none⟩ = some (.int .i64 d) := hp_8.cell hz0_7 ct1_7
    have hz0_8 : w.heap.size < w8.heap.size := (by have := hp_8.size; first | omega | (simp at this; omega))
    have Rw_8 := Rw_7.ext hp_8
    have Rx0_8 := Rx0_7.ext hp_8
    have Rg_8 := Rg_7.ext hp_8
    go_wp2_with fail
    (with_reducible refine (eqInt64S_row _ _ n _ _ _ _ (Rx0_8.ints (by omega) hI.bds) (Ry0_8.ints (by omega) hI.bds) (by omega)).mono ?_)
    rintro e w9 ⟨rfl, hx_9⟩
    have hp_9 : Ext (w8) w9 := Ext.trans (by with_reducible (repeat (first | exact Ext.refl _ | apply Ext.drewN | apply Ext.drew | apply Ext.alloc | (refine Ext.set ?_ (by first | (simp; done) | (simp; omega) | omega) _) | (refine Ext.trans ?_ (by assumption))))) hx_9
    have hE_9 : Ext w w9 := hE_8.trans hp_9
    have hs_9 := hp_9.size
    have ct0_9 : w9.cell? ⟨w.heap.size, 0, none⟩ = some (.int .i64 b) := hp_9.cell hz0_8 ct0_8
    have ct1_9 : w9.cell? ⟨w.heap.size, 1, none⟩ = some (.int .i64 d) := hp_9.cell hz0_8 ct1_8
    have hz0_9 : w.heap.size < w9.heap.size := (by have := hp_9.size; first | omega | (simp at this; omega))
    have Rw_9 := Rw_8.ext hp_9
    have Rx0_9 := Rx0_8.ext hp_9
    have Rg_9 := Rg_8.ext hp_9
    have Ry0_9 := Ry0_8.ext hp_9
    go_wp2_with fail
    (with_reducible refine (markInt64S_own _ _ _ _ _ 1 _ _ Rx0_9 (by omega) (by omega)).mono ?_)
    rintro e w10 ⟨K0, rfl, hK0, hg_10, Rx0_10⟩
    have hE_10 : Ext w w10 := hE_9.grownRow Rx0_9 (by have := hE_3.size; omega) hg_10
    have hs_10 := hg_10.size
    have ct0_10 : w10.cell? ⟨w.heap.size, 0, none⟩ = some (.int .i64 b) := (Rx0_9.cells_far hg_10 hz0_9 (by omega) 0).trans ct0_9
    have ct1_10 : w10.cell? ⟨w.heap.size, 1, none⟩ = some (.int .i64 d) := (Rx0_9.cells_far hg_10 hz0_9 (by omega) 1).trans ct1_9
    have hz0_10 : w.heap.size < w10.heap.size := (by omega)
    have Rw_10 := Rw_9.apart hg_10 (fun g hg => by have := Rx0_9.row_bd g hg; omega)
    have Rg_10 := Rg_9.apart hg_10 (fun g hg => by have := Rx0_9.row_bd g hg; omega)
    have hnK0 : 0 ≤ K0 ∧ K0 ≤ 100000000 := (by omega)
    have hnegK0 : ¬ K0 < 0 := (by omega)
    have HK0 := Lib.hid hK0
    clear hK0
    go_wp2_with fail
    (with_reducible refine (eqFlightS_row _ _ _ _ _ _ _ (Rg_10.ints (by omega) hyb) (Rw_10.ints (by omega) hyb) (by omega)).mono ?_)
    rintro e w11 ⟨rfl, hx_11⟩
    have hp_11 : Ext (w10) w11 := Ext.trans (by with_reducible (repeat (first | exact Ext.refl _ | apply Ext.drewN | apply Ext.drew | apply Ext.alloc | (refine Ext.set ?_ (by first | (simp; done) | (simp; omega) | omega) _) | (refine Ext.trans ?_ (by assumption))))) hx_11
    have hE_11 : Ext w w11 := hE_10.trans hp_11
    have hs_11 := hp_11.size
    have ct0_11 : w11.cell? ⟨w.heap.size, 0, none⟩ = some (.int .i64 b) := hp_11.cell hz0_10 ct0_10
    have ct1_11 : w11.cell? ⟨w.heap.size, 1, none⟩ = some (.int .i64 d) := hp_11.cell hz0_10 ct1_10
    have hz0_11 : w.heap.size < w11.heap.size := (by have := hp_11.size; first | omega | (simp at this; omega))
    have Rw_11 := Rw_10.ext hp_11
    have Rx0_11 := Rx0_10.ext hp_11
    have Rg_11 := Rg_10.ext hp_11
    go_wp2_with fail
    (with_reducible refine (markFlightS_own _ _ _ _ _ 1 _ _ Rg_11 (by omega) (by omega)).mono ?_)
    rintro e w12 ⟨M, rfl, hM, hg_12, Rg_12⟩
    have hE_12 : Ext w w12 := hE_11.grownRow Rg_11 (by have := hE_5.size; omega) hg_12
    have hs_12 := hg_12.size
    have ct0_12 : w12.cell? ⟨w.heap.size, 0, none⟩ = some (.int .i64 b) := (Rg_11.cells_far hg_12 hz0_11 (by omega) 0).trans ct0_11
    have ct1_12 : w12.cell? ⟨w.heap.size, 1, none⟩ = some (.int .i64 d) := (Rg_11.cells_far hg_12 hz0_11 (by omega) 1).trans ct1_11
    have hz0_12 : w.heap.size < w12.heap.size := (by omega)
    have Rw_12 := Rw_11.apart hg_12 (fun g hg => by have := Rg_11.row_bd g hg; omega)
    have Rx0_12 := Rx0_11.apart hg_12 (fun g hg => by have := Rg_11.row_bd g hg; omega)
    have hnM : 0 ≤ M ∧ M ≤ 100000000 := (by omega)
    have hnegM : ¬ M < 0 := (by omega)
    have HM := Lib.hid hM
    clear hM
    go_wp2_with fail
    (with_reducible refine (heldFlightS_is _ _ _ 1 M _ (Rg_12.ints (by omega) (marks_bd (by omega) (by omega))) (by omega) (by omega) HM.out).mono ?_)
    rintro e w13 ⟨rfl, hq_13⟩
    have hx_13 := Ext.qt (Ext.refl _) hq_13
    have hp_13 : Ext (w12) w13 := Ext.trans (by with_reducible (repeat (first | exact Ext.refl _ | apply Ext.drewN | apply Ext.drew | apply Ext.alloc | (refine Ext.set ?_ (by first | (simp; done) | (simp; omega) | omega) _) | (refine Ext.trans ?_ (by assumption))))) hx_13
    have hE_13 : Ext w w13 := hE_12.trans hp_13
    have hs_13 := hp_13.size
    have ct0_13 : w13.cell? ⟨w.heap.size, 0, none⟩ = some (.int .i64 b) := hp_13.cell hz0_12 ct0_12
    have ct1_13 : w13.cell? ⟨w.heap.size, 1, none⟩ = some (.int .i64 d) := hp_13.cell hz0_12 ct1_12
    have hz0_13 : w.heap.size < w13.heap.size := (by have := hp_13.size; first | omega | (simp at this; omega))
    have Rw_13 := Rw_12.ext hp_13
    have Rx0_13 := Rx0_12.ext hp_13
    have Rg_13 := Rg_12.ext hp_13
    go_wp2
    go_region_held3 (fun wz => wz.cell? ⟨w.heap.size, 0, none⟩ = some (.int .i64 b) ∧ wz.cell? ⟨w.heap.size, 1, none⟩ = some (.int .i64 d)) (go_keep)
      (first | (go_at_call 8; (with_reducible refine (toInt64S_row A n c xs _ (hI.ext (by with_reducible (repeat (first | exact Ext.refl _ | apply Ext.drewN | apply Ext.drew | apply Ext.alloc | (refine Ext.set ?_ (by first | (simp; done) | (simp; omega) | omega) _) | (refine Ext.trans ?_ (by assumption)))))) hsn).mono ?_); rintro e w14 ⟨At0, ct0, rfl, Rt0_14, hx_14⟩; have hp_14 : Ext (w13) w14 := Ext.trans (by with_reducible (repeat (first | exact Ext.refl _ | apply Ext.drewN | apply Ext.drew | apply Ext.alloc | (refine Ext.set ?_ (by first | (simp; done) | (simp; omega) | omega) _) | (refine Ext.trans ?_ (by assumption))))) hx_14; have hE_14 : Ext w w14 := hE_13.trans hp_14; have hs_14 := hp_14.size; have ct0_14 : w14.cell? ⟨w.heap.size, 0, none⟩ = some (.int .i64 b) := hp_14.cell hz0_13 ct0_13; have ct1_14 : w14.cell? ⟨w.heap.size, 1, none⟩ = some (.int .i64 d) := hp_14.cell hz0_13 ct1_13; have hz0_14 : w.heap.size < w14.heap.size := (by have := hp_14.size; first | omega | (simp at this; omega)); have Rw_14 := Rw_13.ext hp_14; have Rg_14 := Rg_13.ext hp_14) | (go_at_call 9; (with_reducible refine (toTiming_any b d _).mono ?_); rintro e w15 ⟨rfl, hx_15⟩; have hp_15 : Ext (w14) w15 := Ext.trans (by with_reducible (repeat (first | exact Ext.refl _ | apply Ext.drewN | apply Ext.drew | apply Ext.alloc | (refine Ext.set ?_ (by first | (simp; done) | (simp; omega) | omega) _) | (refine Ext.trans ?_ (by assumption))))) hx_15; have hE_15 : Ext w w15 := hE_14.trans hp_15; have hs_15 := hp_15.size; have ct0_15 : w15.cell? ⟨w.heap.size, 0, none⟩ = some (.int .i64 b) := hp_15.cell hz0_14 ct0_14; have ct1_15 : w15.cell? ⟨w.heap.size, 1, none⟩ = some (.int .i64 d) := hp_15.cell hz0_14 ct1_14; have hz0_15 : w.heap.size < w15.heap.size := (by have := hp_15.size; first | omega | (simp at this; omega)); have Rw_15 := Rw_14.ext hp_15; have Rg_15 := Rg_14.ext hp_15; have Rt0_15 := Rt0_14.ext hp_15) | (go_at_call 22; (with_reducible refine (implFlightsOf_ret _ n _ xs b d wd t _ (by have := (Rt0_15.ints (by omega) hI.bds); rwa [Nat.mul_one] at this)).mono ?_); rintro e w16 ⟨Ah, ch, rfl, Rh_16, hx_16⟩; have hp_16 : Ext (w15) w16 := Ext.trans (by with_reducible (repeat (first | exact Ext.refl _ | apply Ext.drewN | apply Ext.drew | apply Ext.alloc | (refine Ext.set ?_ (by first | (simp; done) | (simp; omega) | omega) _) | (refine Ext.trans ?_ (by assumption))))) hx_16; have hE_16 : Ext w w16 := hE_15.trans hp_16; have hs_16 := hp_16.size; have ct0_16 : w16.cell? ⟨w.heap.size, 0, none⟩ = some (.int .i64 b) := hp_16.cell hz0_15 ct0_15; have ct1_16 : w16.cell? ⟨w.heap.size, 1, none⟩ = some (.int .i64 d) := hp_16.cell hz0_15 ct1_15; have hz0_16 : w.heap.size < w16.heap.size := (by have := hp_16.size; first | omega | (simp at this; omega)); have Rw_16 := Rw_15.ext hp_16; have Rg_16 := Rg_15.ext hp_16; have Rt0_16 := Rt0_15.ext hp_16))
    go_wp2_with fail
    (with_reducible refine (eqFlightS_row _ _ _ _ _ _ _ (Rh_16.ints (by omega) hyb) (Rw_16.ints (by omega) hyb) (by omega)).mono ?_)
    rintro e w17 ⟨rfl, hx_17⟩
    have hp_17 : Ext (w16) w17 := Ext.trans (by with_reducible (repeat (first | exact Ext.refl _ | apply Ext.drewN | apply Ext.drew | apply Ext.alloc | (refine Ext.set ?_ (by first | (simp; done) | (simp; omega) | omega) _) | (refine Ext.trans ?_ (by assumption))))) hx_17
    have hE_17 : Ext w w17 := hE_16.trans hp_17
    have hs_17 := hp_17.size
    have ct0_17 : w17.cell? ⟨w.heap.size, 0, none⟩ = some (.int .i64 b) := hp_17.cell hz0_16 ct0_16
    have ct1_17 : w17.cell? ⟨w.heap.size, 1, none⟩ = some (.int .i64 d) := hp_17.cell hz0_16 ct1_16
    have hz0_17 : w.heap.size < w17.heap.size := (by have := hp_17.size; first | omega | (simp at this; omega))
    have Rw_17 := Rw_16.ext hp_17
    have Rg_17 := Rg_16.ext hp_17
    have Rt0_17 := Rt0_16.ext hp_17
    have Rh_17 := Rh_16.ext hp_17
    go_wp2_with fail
    (with_reducible refine (heldFlightS_is _ _ _ 1 M _ (Rg_17.ints (by omega) (marks_bd (by omega) (by omega))) (by omega) (by omega) HM.out).mono ?_)
    rintro e w18 ⟨rfl, hq_18⟩
    have hx_18 := Ext.qt (Ext.refl _) hq_18
    have hp_18 : Ext (w17) w18 := Ext.trans (by with_reducible (repeat (first | exact Ext.refl _ | apply Ext.drewN | apply Ext.drew | apply Ext.alloc | (refine Ext.set ?_ (by first | (simp; done) | (simp; omega) | omega) _) | (refine Ext.trans ?_ (by assumption))))) hx_18
    have hE_18 : Ext w w18 := hE_17.trans hp_18
    have hs_18 := hp_18.size
    have ct0_18 : w18.cell? ⟨w.heap.size, 0, none⟩ = some (.int .i64 b) := hp_18.cell hz0_17 ct0_17
    have ct1_18 : w18.cell? ⟨w.heap.size, 1, none⟩ = some (.int .i64 d) := hp_18.cell hz0_17 ct1_17
    have hz0_18 : w.heap.size < w18.heap.size := (by have := hp_18.size; first | omega | (simp at this; omega))
    have Rw_18 := Rw_17.ext hp_18
    have Rg_18 := Rg_17.ext hp_18
    have Rt0_18 := Rt0_17.ext hp_18
    have Rh_18 := Rh_17.ext hp_18
    go_wp2
    go_ret
    exact ⟨rfl, Ext.below hE_18⟩
  · go_enter Try.func6, Try.ntmps6
    go_wp2
    go_ret
    exact ⟨rfl, Ext.below (by with_reducible (repeat (first | exact Ext.refl _ | apply Ext.drewN | apply Ext.drew | apply Ext.alloc | (refine Ext.set ?_ (by first | (simp; done) | (simp; omega) | omega) _) | (refine Ext.trans ?_ (by assumption)))))⟩
end Go.Proofs.Ytklkbldmhhkcjaa.fnExactFlightsOf

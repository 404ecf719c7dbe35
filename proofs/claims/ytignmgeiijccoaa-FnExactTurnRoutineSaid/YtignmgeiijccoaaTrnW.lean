/- The walk of laws.FnExactTurnRoutine. No condition. -/
import Derived.Test.YtignmgeiijccoaaTrn
import Derived.Deep.RegionHeld3
namespace Go.Proofs.Ytignmgeiijccoaa.fnExactTurnRoutine
set_option linter.unusedVariables false
set_option linter.unusedSimpArgs false
open Go.RowKit
set_option maxHeartbeats 8000000 in
set_option maxRecDepth 100000 in
theorem walk (A : Option Addr) (n c : Nat) (ps : List (List Int × Int)) (h : Int) (w : World) (hI : Parts w A n ps) :
    Calls Try.prog 5 #[.agg #[.int .i64 h, .slice A n c]] w fun e w' => e = .returned (.bool true) ∧ Below w.heap.size w w' := by
  have hs1 := hI.small
  have hlen := hI.len
  obtain ⟨hh, ys, r, hy⟩ : ∃ hh ys r, trn h ps = (hh, ys, r) := ⟨_, _, _, rfl⟩
  have HY := Lib.hid hy
  clear hy
  go_enter Try.func5, Try.ntmps5
  go_wp2_with fail
  (with_reducible refine (szRoutine_any A n c ps h 1048576 _ (hI.ext (by with_reducible (repeat (first | exact Ext.refl _ | apply Ext.drewN | apply Ext.drew | apply Ext.alloc | (refine Ext.set ?_ (by first | (simp; done) | (simp; omega) | omega) _) | (refine Ext.trans ?_ (by assumption)))))) (by omega)).mono ?_)
  rintro e w1 ⟨q0, rfl, hq0, hx_w1⟩
  have hz_w1 := hx_w1.size
  (try simp at hz_w1)
  have hp_w1 : Ext w w1 := Ext.trans (by with_reducible (repeat (first | exact Ext.refl _ | apply Ext.drewN | apply Ext.drew | apply Ext.alloc | (refine Ext.set ?_ (by first | (simp; done) | (simp; omega) | omega) _) | (refine Ext.trans ?_ (by assumption))))) hx_w1
  have hq0_w1 : w.heap.size < w1.heap.size := by omega
  have hb00_w1 : w1.cell? ⟨w.heap.size, 0, none⟩ = some (.int .i64 h) := hx_w1.cell (by first | (simp [World.setCell]; done) | (simp [World.setCell]; omega) | omega) (by go_simp)
  have hb01_w1 : w1.cell? ⟨w.heap.size, 1, none⟩ = some (.slice A n c) := hx_w1.cell (by first | (simp [World.setCell]; done) | (simp [World.setCell]; omega) | omega) (by go_simp)
  have hE_w1 : Ext w w1 := Ext.trans (by with_reducible (repeat (first | exact Ext.refl _ | apply Ext.drewN | apply Ext.drew | apply Ext.alloc | (refine Ext.set ?_ (by first | (simp; done) | (simp; omega) | omega) _) | (refine Ext.trans ?_ (by assumption))))) hx_w1
  rcases hq0 with hq0 | ⟨hq0a, hq0b, hn, hM⟩
  · go_wp2
    go_ret
    exact ⟨rfl, Ext.below hE_w1⟩
  have hqn0 : ¬ q0 < 0 := by omega
  have HBP : Hid (bdP ps) := hI.bd hM
  have HLM := Lib.hid hM
  clear hM
  have HYB : Hid (ys.length ≤ 1048576 ∧ bdP ys) := trn_bd HY.out HBP.out (by rw [hlen]; exact hn)
  have hyl := HYB.out.1
  have HYL := Lib.hid HYB.out.2.len
  go_wp2_with fail
  (with_reducible refine (toRoutine_row A n c ps h _ (hI.ext (by with_reducible (repeat (first | exact Ext.refl _ | apply Ext.drewN | apply Ext.drew | apply Ext.alloc | (refine Ext.set ?_ (by first | (simp; done) | (simp; omega) | omega) _) | (refine Ext.trans ?_ (by assumption)))))) hn HLM.out).mono ?_)
  rintro e w2 ⟨As, cs, rfl, Rs, hx_w2⟩
  have hz_w2 := hx_w2.size
  (try simp at hz_w2)
  have hp_w2 : Ext w1 w2 := Ext.trans (by with_reducible (repeat (first | exact Ext.refl _ | apply Ext.drewN | apply Ext.drew | apply Ext.alloc | (refine Ext.set ?_ (by first | (simp; done) | (simp; omega) | omega) _) | (refine Ext.trans ?_ (by assumption))))) hx_w2
  have hq0_w2 : w.heap.size < w2.heap.size := by omega
  have hb00_w2 : w2.cell? ⟨w.heap.size, 0, none⟩ = some (.int .i64 h) := hp_w2.cell (by omega) hb00_w1
  have hb01_w2 : w2.cell? ⟨w.heap.size, 1, none⟩ = some (.slice A n c) := hp_w2.cell (by omega) hb01_w1
  have hE_w2 : Ext w w2 := Ext.trans (by with_reducible (repeat (first | exact Ext.refl _ | apply Ext.drewN | apply Ext.drew | apply Ext.alloc | (refine Ext.set ?_ (by first | (simp; done) | (simp; omega) | omega) _) | (refine Ext.trans ?_ (by assumption))))) hx_w2
  have Rs_w2 : PRow w2 (w1.heap.size) w2.heap.size As n cs ps := by first | (simpa using Rs) | exact Rs
  clear Rs
  have hls : w1.heap.size ≤ w2.heap.size := by omega
  go_wp2_with fail
  (with_reducible refine (specTurnRoutine_is _ _ _ ps h _ ((Rs_w2.parts (by omega) HBP.out).ext (by with_reducible (repeat (first | exact Ext.refl _ | apply Ext.drewN | apply Ext.drew | apply Ext.alloc | (refine Ext.set ?_ (by first | (simp; done) | (simp; omega) | omega) _) | (refine Ext.trans ?_ (by assumption)))))) HY.out).mono ?_)
  rintro e w3 ⟨Aw, nw, cw, rfl, Rw, hx_w3⟩
  obtain rfl := Rw.len
  have hz_w3 := hx_w3.size
  (try simp at hz_w3)
  have hp_w3 : Ext w2 w3 := Ext.trans (by with_reducible (repeat (first | exact Ext.refl _ | apply Ext.drewN | apply Ext.drew | apply Ext.alloc | (refine Ext.set ?_ (by first | (simp; done) | (simp; omega) | omega) _) | (refine Ext.trans ?_ (by assumption))))) hx_w3
  have hq0_w3 : w.heap.size < w3.heap.size := by omega
  have hb00_w3 : w3.cell? ⟨w.heap.size, 0, none⟩ = some (.int .i64 h) := hp_w3.cell (by omega) hb00_w2
  have hb01_w3 : w3.cell? ⟨w.heap.size, 1, none⟩ = some (.slice A n c) := hp_w3.cell (by omega) hb01_w2
  have Rs_w3 := Rs_w2.ext hp_w3
  have hE_w3 : Ext w w3 := Ext.trans (by with_reducible (repeat (first | exact Ext.refl _ | apply Ext.drewN | apply Ext.drew | apply Ext.alloc | (refine Ext.set ?_ (by first | (simp; done) | (simp; omega) | omega) _) | (refine Ext.trans ?_ (by assumption))))) hx_w3
  have Rw_w3 : PRow w3 (w2.heap.size) w3.heap.size Aw ys.length cw ys := by first | (simpa using Rw) | exact Rw
  clear Rw
  have hlw : w2.heap.size ≤ w3.heap.size := by omega
  go_wp2_with fail
  (with_reducible refine (toRoutine_row A n c ps h _ (hI.ext (by with_reducible (repeat (first | exact Ext.refl _ | apply Ext.drewN | apply Ext.drew | apply Ext.alloc | (refine Ext.set ?_ (by first | (simp; done) | (simp; omega) | omega) _) | (refine Ext.trans ?_ (by assumption)))))) hn HLM.out).mono ?_)
  rintro e w4 ⟨Ax, cx, rfl, Rx, hx_w4⟩
  have hz_w4 := hx_w4.size
  (try simp at hz_w4)
  have hp_w4 : Ext w3 w4 := Ext.trans (by with_reducible (repeat (first | exact Ext.refl _ | apply Ext.drewN | apply Ext.drew | apply Ext.alloc | (refine Ext.set ?_ (by first | (simp; done) | (simp; omega) | omega) _) | (refine Ext.trans ?_ (by assumption))))) hx_w4
  have hq0_w4 : w.heap.size < w4.heap.size := by omega
  have hb00_w4 : w4.cell? ⟨w.heap.size, 0, none⟩ = some (.int .i64 h) := hp_w4.cell (by omega) hb00_w3
  have hb01_w4 : w4.cell? ⟨w.heap.size, 1, none⟩ = some (.slice A n c) := hp_w4.cell (by omega) hb01_w3
  have hq1_w4 : w3.heap.size < w4.heap.size := by omega
  have hb10_w4 : w4.cell? ⟨w3.heap.size, 0, none⟩ = some (.int .i64 hh) := hx_w4.cell (by first | (simp [World.setCell]; done) | (simp [World.setCell]; omega) | omega) (by go_simp)
  have hb11_w4 : w4.cell? ⟨w3.heap.size, 1, none⟩ = some (.slice Aw ys.length cw) := hx_w4.cell (by first | (simp [World.setCell]; done) | (simp [World.setCell]; omega) | omega) (by go_simp)
  have Rw_w4 := Rw_w3.ext hp_w4
  have hE_w4 : Ext w w4 := Ext.trans (by with_reducible (repeat (first | exact Ext.refl _ | apply Ext.drewN | apply Ext.drew | apply Ext.alloc | (refine Ext.set ?_ (by first | (simp; done) | (simp; omega) | omega) _) | (refine Ext.trans ?_ (by assumption))))) hx_w4
  have Rx_w4 : PRow w4 (w3.heap.size + 1) w4.heap.size Ax n cx ps := by first | (simpa using Rx) | exact Rx
  clear Rx
  have hlx : w3.heap.size + 1 ≤ w4.heap.size := by omega
  go_wp2_with fail
  (with_reducible refine (implTurnRoutine_is _ _ _ ps h _ ((Rx_w4.parts (by omega) HBP.out).ext (by with_reducible (repeat (first | exact Ext.refl _ | apply Ext.drewN | apply Ext.drew | apply Ext.alloc | (refine Ext.set ?_ (by first | (simp; done) | (simp; omega) | omega) _) | (refine Ext.trans ?_ (by assumption)))))) HY.out).mono ?_)
  rintro e w5 ⟨Ag, ng, cg, rfl, Rg, hx_w5⟩
  obtain rfl := Rg.len
  have hz_w5 := hx_w5.size
  (try simp at hz_w5)
  have hp_w5 : Ext w4 w5 := Ext.trans (by with_reducible (repeat (first | exact Ext.refl _ | apply Ext.drewN | apply Ext.drew | apply Ext.alloc | (refine Ext.set ?_ (by first | (simp; done) | (simp; omega) | omega) _) | (refine Ext.trans ?_ (by assumption))))) hx_w5
  have hq0_w5 : w.heap.size < w5.heap.size := by omega
  have hb00_w5 : w5.cell? ⟨w.heap.size, 0, none⟩ = some (.int .i64 h) := hp_w5.cell (by omega) hb00_w4
  have hb01_w5 : w5.cell? ⟨w.heap.size, 1, none⟩ = some (.slice A n c) := hp_w5.cell (by omega) hb01_w4
  have hq1_w5 : w3.heap.size < w5.heap.size := by omega
  have hb10_w5 : w5.cell? ⟨w3.heap.size, 0, none⟩ = some (.int .i64 hh) := hp_w5.cell (by omega) hb10_w4
  have hb11_w5 : w5.cell? ⟨w3.heap.size, 1, none⟩ = some (.slice Aw ys.length cw) := hp_w5.cell (by omega) hb11_w4
  have hq2_w5 : w4.heap.size < w5.heap.size := by omega
  have hb20_w5 : w5.cell? ⟨w4.heap.size, 0, none⟩ = some (.int .i64 h) := hx_w5.cell (by first | (simp [World.setCell]; done) | (simp [World.setCell]; omega) | omega) (by go_simp)
  have hb21_w5 : w5.cell? ⟨w4.heap.size, 1, none⟩ = some (.slice Ax n cx) := hx_w5.cell (by first | (simp [World.setCell]; done) | (simp [World.setCell]; omega) | omega) (by go_simp)
  have Rw_w5 := Rw_w4.ext hp_w5
  have Rx_w5 := Rx_w4.ext hp_w5
  have hE_w5 : Ext w w5 := Ext.trans (by with_reducible (repeat (first | exact Ext.refl _ | apply Ext.drewN | apply Ext.drew | apply Ext.alloc | (refine Ext.set ?_ (by first | (simp; done) | (simp; omega) | omega) _) | (refine Ext.trans ?_ (by assumption))))) hx_w5
  have Rg_w5 : PRow w5 (w4.heap.size + 1) w5.heap.size Ag ys.length cg ys := by first | (simpa using Rg) | exact Rg
  clear Rg
  have hlg : w4.heap.size + 1 ≤ w5.heap.size := by omega
  go_wp2_with fail
  (with_reducible refine (eqRoutine_same _ _ _ _ _ ys hh _ ((Rg_w5.parts (by omega) HYB.out.2).ext (by with_reducible (repeat (first | exact Ext.refl _ | apply Ext.drewN | apply Ext.drew | apply Ext.alloc | (refine Ext.set ?_ (by first | (simp; done) | (simp; omega) | omega) _) | (refine Ext.trans ?_ (by assumption)))))) ((Rw_w5.parts (by omega) HYB.out.2).ext (by with_reducible (repeat (first | exact Ext.refl _ | apply Ext.drewN | apply Ext.drew | apply Ext.alloc | (refine Ext.set ?_ (by first | (simp; done) | (simp; omega) | omega) _) | (refine Ext.trans ?_ (by assumption))))))).mono ?_)
  rintro e w6 ⟨rfl, hx_w6⟩
  have hz_w6 := hx_w6.size
  (try simp at hz_w6)
  have hp_w6 : Ext w5 w6 := Ext.trans (by with_reducible (repeat (first | exact Ext.refl _ | apply Ext.drewN | apply Ext.drew | apply Ext.alloc | (refine Ext.set ?_ (by first | (simp; done) | (simp; omega) | omega) _) | (refine Ext.trans ?_ (by assumption))))) hx_w6
  have hq0_w6 : w.heap.size < w6.heap.size := by omega
  have hb00_w6 : w6.cell? ⟨w.heap.size, 0, none⟩ = some (.int .i64 h) := hp_w6.cell (by omega) hb00_w5
  have hb01_w6 : w6.cell? ⟨w.heap.size, 1, none⟩ = some (.slice A n c) := hp_w6.cell (by omega) hb01_w5
  have hq1_w6 : w3.heap.size < w6.heap.size := by omega
  have hb10_w6 : w6.cell? ⟨w3.heap.size, 0, none⟩ = some (.int .i64 hh) := hp_w6.cell (by omega) hb10_w5
  have hb11_w6 : w6.cell? ⟨w3.heap.size, 1, none⟩ = some (.slice Aw ys.length cw) := hp_w6.cell (by omega) hb11_w5
  have hq2_w6 : w4.heap.size < w6.heap.size := by omega
  have hb20_w6 : w6.cell? ⟨w4.heap.size, 0, none⟩ = some (.int .i64 h) := hp_w6.cell (by omega) hb20_w5
  have hb21_w6 : w6.cell? ⟨w4.heap.size, 1, none⟩ = some (.slice Ax n cx) := hp_w6.cell (by omega) hb21_w5
  have hq3_w6 : w5.heap.size < w6.heap.size := by omega
  have hb30_w6 : w6.cell? ⟨w5.heap.size, 0, none⟩ = some (.int .i64 hh) := hx_w6.cell (by first | (simp [World.setCell]; done) | (simp [World.setCell]; omega) | omega) (by go_simp)
  have hb31_w6 : w6.cell? ⟨w5.heap.size, 1, none⟩ = some (.slice Ag ys.length cg) := hx_w6.cell (by first | (simp [World.setCell]; done) | (simp [World.setCell]; omega) | omega) (by go_simp)
  have Rw_w6 := Rw_w5.ext hp_w6
  have Rx_w6 := Rx_w5.ext hp_w6
  have Rg_w6 := Rg_w5.ext hp_w6
  have hE_w6 : Ext w w6 := Ext.trans (by with_reducible (repeat (first | exact Ext.refl _ | apply Ext.drewN | apply Ext.drew | apply Ext.alloc | (refine Ext.set ?_ (by first | (simp; done) | (simp; omega) | omega) _) | (refine Ext.trans ?_ (by assumption))))) hx_w6
  go_wp2
  go_region_held3 (fun wz => wz.cell? ⟨w.heap.size, 0, none⟩ = some (.int .i64 h) ∧ wz.cell? ⟨w.heap.size, 1, none⟩ = some (.slice A n c) ∧ wz.cell? ⟨w4.heap.size, 0, none⟩ = some (.int .i64 h) ∧ wz.cell? ⟨w4.heap.size, 1, none⟩ = some (.slice Ax n cx)) (go_keep)
    (first | (go_at_call 9; (with_reducible refine (toRoutine_row A n c ps h _ (hI.ext (by with_reducible (repeat (first | exact Ext.refl _ | apply Ext.drewN | apply Ext.drew | apply Ext.alloc | (refine Ext.set ?_ (by first | (simp; done) | (simp; omega) | omega) _) | (refine Ext.trans ?_ (by assumption)))))) hn HLM.out).mono ?_); rintro e wy1 ⟨Ay1, cy1, rfl, Ry1, hx_wy1⟩; have hz_wy1 := hx_wy1.size; (try simp at hz_wy1); (have hq0_wy1 : w.heap.size < wy1.heap.size := by omega); (have hc0_wy1 : ∀ o, wy1.cell? ⟨w.heap.size, o, none⟩ = _ := fun o => hx_wy1.cells.1 _ o (by first | (simp; done) | (simp; omega) | omega)); (have hf0_wy1 : ∀ o, wy1.frozen? ⟨w.heap.size, o, none⟩ = _ := fun o => hx_wy1.cells.2 _ o (by first | (simp; done) | (simp; omega) | omega)); (have hq1_wy1 : w4.heap.size < wy1.heap.size := by omega); (have hc1_wy1 : ∀ o, wy1.cell? ⟨w4.heap.size, o, none⟩ = _ := fun o => hx_wy1.cells.1 _ o (by first | (simp; done) | (simp; omega) | omega)); (have hf1_wy1 : ∀ o, wy1.frozen? ⟨w4.heap.size, o, none⟩ = _ := fun o => hx_wy1.cells.2 _ o (by first | (simp; done) | (simp; omega) | omega))) | (go_at_call 11; (with_reducible refine (eqRoutine_same _ _ _ _ _ ps h _ ((Rx_w6.parts (by omega) HBP.out).ext (by with_reducible (repeat (first | exact Ext.refl _ | apply Ext.drewN | apply Ext.drew | apply Ext.alloc | (refine Ext.set ?_ (by first | (simp; done) | (simp; omega) | omega) _) | (refine Ext.trans ?_ (by assumption)))))) ((Ry1.parts (by omega) HBP.out).ext (by with_reducible (repeat (first | exact Ext.refl _ | apply Ext.drewN | apply Ext.drew | apply Ext.alloc | (refine Ext.set ?_ (by first | (simp; done) | (simp; omega) | omega) _) | (refine Ext.trans ?_ (by assumption))))))).mono ?_); rintro e wz1 ⟨rfl, hx_wz1⟩; have hz_wz1 := hx_wz1.size; (try simp at hz_wz1); (have hq0_wz1 : w.heap.size < wz1.heap.size := by omega); (have hc0_wz1 : ∀ o, wz1.cell? ⟨w.heap.size, o, none⟩ = _ := fun o => hx_wz1.cells.1 _ o (by first | (simp; done) | (simp; omega) | omega)); (have hf0_wz1 : ∀ o, wz1.frozen? ⟨w.heap.size, o, none⟩ = _ := fun o => hx_wz1.cells.2 _ o (by first | (simp; done) | (simp; omega) | omega)); (have hq1_wz1 : w4.heap.size < wz1.heap.size := by omega); (have hc1_wz1 : ∀ o, wz1.cell? ⟨w4.heap.size, o, none⟩ = _ := fun o => hx_wz1.cells.1 _ o (by first | (simp; done) | (simp; omega) | omega)); (have hf1_wz1 : ∀ o, wz1.frozen? ⟨w4.heap.size, o, none⟩ = _ := fun o => hx_wz1.cells.2 _ o (by first | (simp; done) | (simp; omega) | omega))))
  obtain ⟨w7, hw_w7⟩ : ∃ w7, wz1 = w7 := ⟨_, rfl⟩
  have hx_w7 : Ext w6 w7 := hw_w7 ▸ Ext.trans (by with_reducible (repeat (first | exact Ext.refl _ | apply Ext.drewN | apply Ext.drew | apply Ext.alloc | (refine Ext.set ?_ (by first | (simp; done) | (simp; omega) | omega) _) | (refine Ext.trans ?_ (by assumption))))) hx_wz1
  have hz_w7 := hx_w7.size
  have hq0_w7 : w.heap.size < w7.heap.size := by omega
  have hb00_w7 : w7.cell? ⟨w.heap.size, 0, none⟩ = some (.int .i64 h) := hx_w7.cell (by omega) hb00_w6
  have hb01_w7 : w7.cell? ⟨w.heap.size, 1, none⟩ = some (.slice A n c) := hx_w7.cell (by omega) hb01_w6
  have hq1_w7 : w3.heap.size < w7.heap.size := by omega
  have hb10_w7 : w7.cell? ⟨w3.heap.size, 0, none⟩ = some (.int .i64 hh) := hx_w7.cell (by omega) hb10_w6
  have hb11_w7 : w7.cell? ⟨w3.heap.size, 1, none⟩ = some (.slice Aw ys.length cw) := hx_w7.cell (by omega) hb11_w6
  have hq2_w7 : w4.heap.size < w7.heap.size := by omega
  have hb20_w7 : w7.cell? ⟨w4.heap.size, 0, none⟩ = some (.int .i64 h) := hx_w7.cell (by omega) hb20_w6
  have hb21_w7 : w7.cell? ⟨w4.heap.size, 1, none⟩ = some (.slice Ax n cx) := hx_w7.cell (by omega) hb21_w6
  have hq3_w7 : w5.heap.size < w7.heap.size := by omega
  have hb30_w7 : w7.cell? ⟨w5.heap.size, 0, none⟩ = some (.int .i64 hh) := hx_w7.cell (by omega) hb30_w6
  have hb31_w7 : w7.cell? ⟨w5.heap.size, 1, none⟩ = some (.slice Ag ys.length cg) := hx_w7.cell (by omega) hb31_w6
  have Rw_w7 := Rw_w6.ext hx_w7
  have Rx_w7 := Rx_w6.ext hx_w7
  have Rg_w7 := Rg_w6.ext hx_w7
  have hE_w7 : Ext w w7 := hE_w6.trans hx_w7
  clear hx_w7
  subst hw_w7
  have hsmK := sm_lt (f := (fun i => (pt ps i).length)) HLM.out (n := n) (by omega) (Nat.le_refl _)
  obtain ⟨K, hK⟩ : ∃ K : Int, 1 + sm (fun i => (pt ps i).length) n = K := ⟨_, rfl⟩
  go_wp2_with fail
  (with_reducible refine (markRoutine_own _ _ _ n _ _ 1 ps _ Rx_w7 (by omega) (by omega) (fun i => (pt ps i).length) (fun i hi => ⟨rfl, HLM.out i hi⟩) (by omega)).mono ?_)
  rintro e w8 ⟨he_w8, hk_w8, Rx_w8⟩
  rw [hK] at he_w8
  subst he_w8
  have hz_w8 := hk_w8.size
  have hq0_w8 : w.heap.size < w8.heap.size := by omega
  have hb00_w8 : w8.cell? ⟨w.heap.size, 0, none⟩ = some (.int .i64 h) := hk_w8.cell (by omega) (by omega) hb00_w7
  have hb01_w8 : w8.cell? ⟨w.heap.size, 1, none⟩ = some (.slice A n c) := hk_w8.cell (by omega) (by omega) hb01_w7
  have hq1_w8 : w3.heap.size < w8.heap.size := by omega
  have hb10_w8 : w8.cell? ⟨w3.heap.size, 0, none⟩ = some (.int .i64 hh) := hk_w8.cell (by omega) (by omega) hb10_w7
  have hb11_w8 : w8.cell? ⟨w3.heap.size, 1, none⟩ = some (.slice Aw ys.length cw) := hk_w8.cell (by omega) (by omega) hb11_w7
  have hq2_w8 : w4.heap.size < w8.heap.size := by omega
  have hb20_w8 : w8.cell? ⟨w4.heap.size, 0, none⟩ = some (.int .i64 h) := hk_w8.cell (by omega) (by omega) hb20_w7
  have hb21_w8 : w8.cell? ⟨w4.heap.size, 1, none⟩ = some (.slice Ax n cx) := hk_w8.cell (by omega) (by omega) hb21_w7
  have hq3_w8 : w5.heap.size < w8.heap.size := by omega
  have hb30_w8 : w8.cell? ⟨w5.heap.size, 0, none⟩ = some (.int .i64 hh) := hk_w8.cell (by omega) (by omega) hb30_w7
  have hb31_w8 : w8.cell? ⟨w5.heap.size, 1, none⟩ = some (.slice Ag ys.length cg) := hk_w8.cell (by omega) (by omega) hb31_w7
  have Rw_w8 := Rw_w7.held hk_w8 (by omega)
  have Rg_w8 := Rg_w7.held hk_w8 (by omega)
  have hE_w8 : Ext w w8 := hk_w8.ext hE_w7 (by omega)
  clear hk_w8
  have hnegK : ¬ K < 0 := by omega
  have hbdK : 0 ≤ K ∧ K ≤ 1200000000000 := by omega
  have HK := Lib.hid hK
  clear hK hsmK
  go_wp2_with fail
  (with_reducible refine (eqRoutine_same _ _ _ _ _ ys hh _ ((Rg_w8.parts (by omega) HYB.out.2).ext (by with_reducible (repeat (first | exact Ext.refl _ | apply Ext.drewN | apply Ext.drew | apply Ext.alloc | (refine Ext.set ?_ (by first | (simp; done) | (simp; omega) | omega) _) | (refine Ext.trans ?_ (by assumption)))))) ((Rw_w8.parts (by omega) HYB.out.2).ext (by with_reducible (repeat (first | exact Ext.refl _ | apply Ext.drewN | apply Ext.drew | apply Ext.alloc | (refine Ext.set ?_ (by first | (simp; done) | (simp; omega) | omega) _) | (refine Ext.trans ?_ (by assumption))))))).mono ?_)
  rintro e w9 ⟨rfl, hx_w9⟩
  have hz_w9 := hx_w9.size
  (try simp at hz_w9)
  have hp_w9 : Ext w8 w9 := Ext.trans (by with_reducible (repeat (first | exact Ext.refl _ | apply Ext.drewN | apply Ext.drew | apply Ext.alloc | (refine Ext.set ?_ (by first | (simp; done) | (simp; omega) | omega) _) | (refine Ext.trans ?_ (by assumption))))) hx_w9
  have hq0_w9 : w.heap.size < w9.heap.size := by omega
  have hb00_w9 : w9.cell? ⟨w.heap.size, 0, none⟩ = some (.int .i64 h) := hp_w9.cell (by omega) hb00_w8
  have hb01_w9 : w9.cell? ⟨w.heap.size, 1, none⟩ = some (.slice A n c) := hp_w9.cell (by omega) hb01_w8
  have hq1_w9 : w3.heap.size < w9.heap.size := by omega
  have hb10_w9 : w9.cell? ⟨w3.heap.size, 0, none⟩ = some (.int .i64 hh) := hp_w9.cell (by omega) hb10_w8
  have hb11_w9 : w9.cell? ⟨w3.heap.size, 1, none⟩ = some (.slice Aw ys.length cw) := hp_w9.cell (by omega) hb11_w8
  have hq2_w9 : w4.heap.size < w9.heap.size := by omega
  have hb20_w9 : w9.cell? ⟨w4.heap.size, 0, none⟩ = some (.int .i64 h) := hp_w9.cell (by omega) hb20_w8
  have hb21_w9 : w9.cell? ⟨w4.heap.size, 1, none⟩ = some (.slice Ax n cx) := hp_w9.cell (by omega) hb21_w8
  have hq3_w9 : w5.heap.size < w9.heap.size := by omega
  have hb30_w9 : w9.cell? ⟨w5.heap.size, 0, none⟩ = some (.int .i64 hh) := hp_w9.cell (by omega) hb30_w8
  have hb31_w9 : w9.cell? ⟨w5.heap.size, 1, none⟩ = some (.slice Ag ys.length cg) := hp_w9.cell (by omega) hb31_w8
  have Rw_w9 := Rw_w8.ext hp_w9
  have Rg_w9 := Rg_w8.ext hp_w9
  have hE_w9 : Ext w w9 := Ext.trans (by with_reducible (repeat (first | exact Ext.refl _ | apply Ext.drewN | apply Ext.drew | apply Ext.alloc | (refine Ext.set ?_ (by first | (simp; done) | (simp; omega) | omega) _) | (refine Ext.trans ?_ (by assumption))))) hx_w9
  have hsmM := sm_lt (f := (fun i => (pt ys i).length)) HYL.out (n := ys.length) (by omega) (Nat.le_refl _)
  obtain ⟨M, hM⟩ : ∃ M : Int, 1 + sm (fun i => (pt ys i).length) ys.length = M := ⟨_, rfl⟩
  go_wp2_with fail
  (with_reducible refine (markRoutine_own _ _ _ ys.length _ _ 1 ys _ Rg_w9 (by omega) (by omega) (fun i => (pt ys i).length) (fun i hi => ⟨rfl, HYL.out i hi⟩) (by omega)).mono ?_)
  rintro e w10 ⟨he_w10, hk_w10, Rg_w10⟩
  rw [hM] at he_w10
  subst he_w10
  have hz_w10 := hk_w10.size
  have hq0_w10 : w.heap.size < w10.heap.size := by omega
  have hb00_w10 : w10.cell? ⟨w.heap.size, 0, none⟩ = some (.int .i64 h) := hk_w10.cell (by omega) (by omega) hb00_w9
  have hb01_w10 : w10.cell? ⟨w.heap.size, 1, none⟩ = some (.slice A n c) := hk_w10.cell (by omega) (by omega) hb01_w9
  have hq1_w10 : w3.heap.size < w10.heap.size := by omega
  have hb10_w10 : w10.cell? ⟨w3.heap.size, 0, none⟩ = some (.int .i64 hh) := hk_w10.cell (by omega) (by omega) hb10_w9
  have hb11_w10 : w10.cell? ⟨w3.heap.size, 1, none⟩ = some (.slice Aw ys.length cw) := hk_w10.cell (by omega) (by omega) hb11_w9
  have hq2_w10 : w4.heap.size < w10.heap.size := by omega
  have hb20_w10 : w10.cell? ⟨w4.heap.size, 0, none⟩ = some (.int .i64 h) := hk_w10.cell (by omega) (by omega) hb20_w9
  have hb21_w10 : w10.cell? ⟨w4.heap.size, 1, none⟩ = some (.slice Ax n cx) := hk_w10.cell (by omega) (by omega) hb21_w9
  have hq3_w10 : w5.heap.size < w10.heap.size := by omega
  have hb30_w10 : w10.cell? ⟨w5.heap.size, 0, none⟩ = some (.int .i64 hh) := hk_w10.cell (by omega) (by omega) hb30_w9
  have hb31_w10 : w10.cell? ⟨w5.heap.size, 1, none⟩ = some (.slice Ag ys.length cg) := hk_w10.cell (by omega) (by omega) hb31_w9
  have Rw_w10 := Rw_w9.held hk_w10 (by omega)
  have hE_w10 : Ext w w10 := hk_w10.ext hE_w9 (by omega)
  clear hk_w10
  have hnegM : ¬ M < 0 := by omega
  have hbdM : 0 ≤ M ∧ M ≤ 1200000000000 := by omega
  have HM := Lib.hid hM
  clear hM hsmM
  go_wp2_with fail
  (with_reducible refine (heldRoutine_any _ ys.length _ (fun i => (pt ys i).length) _ 1 _ ((Rg_w10.parts (by omega) (mkP_bd (by omega) (by omega) HYL.out)).ext (by with_reducible (repeat (first | exact Ext.refl _ | apply Ext.drewN | apply Ext.drew | apply Ext.alloc | (refine Ext.set ?_ (by first | (simp; done) | (simp; omega) | omega) _) | (refine Ext.trans ?_ (by assumption)))))) (by omega) (by omega) HYL.out).mono ?_)
  rintro e w11 ⟨he_w11, hx_w11⟩
  rw [HM.out] at he_w11
  subst he_w11
  have hz_w11 := hx_w11.size
  (try simp at hz_w11)
  have hp_w11 : Ext w10 w11 := Ext.trans (by with_reducible (repeat (first | exact Ext.refl _ | apply Ext.drewN | apply Ext.drew | apply Ext.alloc | (refine Ext.set ?_ (by first | (simp; done) | (simp; omega) | omega) _) | (refine Ext.trans ?_ (by assumption))))) hx_w11
  have hq0_w11 : w.heap.size < w11.heap.size := by omega
  have hb00_w11 : w11.cell? ⟨w.heap.size, 0, none⟩ = some (.int .i64 h) := hp_w11.cell (by omega) hb00_w10
  have hb01_w11 : w11.cell? ⟨w.heap.size, 1, none⟩ = some (.slice A n c) := hp_w11.cell (by omega) hb01_w10
  have hq1_w11 : w3.heap.size < w11.heap.size := by omega
  have hb10_w11 : w11.cell? ⟨w3.heap.size, 0, none⟩ = some (.int .i64 hh) := hp_w11.cell (by omega) hb10_w10
  have hb11_w11 : w11.cell? ⟨w3.heap.size, 1, none⟩ = some (.slice Aw ys.length cw) := hp_w11.cell (by omega) hb11_w10
  have hq2_w11 : w4.heap.size < w11.heap.size := by omega
  have hb20_w11 : w11.cell? ⟨w4.heap.size, 0, none⟩ = some (.int .i64 h) := hp_w11.cell (by omega) hb20_w10
  have hb21_w11 : w11.cell? ⟨w4.heap.size, 1, none⟩ = some (.slice Ax n cx) := hp_w11.cell (by omega) hb21_w10
  have hq3_w11 : w5.heap.size < w11.heap.size := by omega
  have hb30_w11 : w11.cell? ⟨w5.heap.size, 0, none⟩ = some (.int .i64 hh) := hp_w11.cell (by omega) hb30_w10
  have hb31_w11 : w11.cell? ⟨w5.heap.size, 1, none⟩ = some (.slice Ag ys.length cg) := hp_w11.cell (by omega) hb31_w10
  have Rw_w11 := Rw_w10.ext hp_w11
  have Rg_w11 := Rg_w10.ext hp_w11
  have hE_w11 : Ext w w11 := Ext.trans (by with_reducible (repeat (first | exact Ext.refl _ | apply Ext.drewN | apply Ext.drew | apply Ext.alloc | (refine Ext.set ?_ (by first | (simp; done) | (simp; omega) | omega) _) | (refine Ext.trans ?_ (by assumption))))) hx_w11
  go_wp2_with fail
  (with_reducible refine (toRoutine_row A n c ps h _ (hI.ext (by with_reducible (repeat (first | exact Ext.refl _ | apply Ext.drewN | apply Ext.drew | apply Ext.alloc | (refine Ext.set ?_ (by first | (simp; done) | (simp; omega) | omega) _) | (refine Ext.trans ?_ (by assumption)))))) hn HLM.out).mono ?_)
  rintro e w12 ⟨At, ct, rfl, Rt, hx_w12⟩
  have hz_w12 := hx_w12.size
  (try simp at hz_w12)
  have hp_w12 : Ext w11 w12 := Ext.trans (by with_reducible (repeat (first | exact Ext.refl _ | apply Ext.drewN | apply Ext.drew | apply Ext.alloc | (refine Ext.set ?_ (by first | (simp; done) | (simp; omega) | omega) _) | (refine Ext.trans ?_ (by assumption))))) hx_w12
  have hq0_w12 : w.heap.size < w12.heap.size := by omega
  have hb00_w12 : w12.cell? ⟨w.heap.size, 0, none⟩ = some (.int .i64 h) := hp_w12.cell (by omega) hb00_w11
  have hb01_w12 : w12.cell? ⟨w.heap.size, 1, none⟩ = some (.slice A n c) := hp_w12.cell (by omega) hb01_w11
  have hq1_w12 : w3.heap.size < w12.heap.size := by omega
  have hb10_w12 : w12.cell? ⟨w3.heap.size, 0, none⟩ = some (.int .i64 hh) := hp_w12.cell (by omega) hb10_w11
  have hb11_w12 : w12.cell? ⟨w3.heap.size, 1, none⟩ = some (.slice Aw ys.length cw) := hp_w12.cell (by omega) hb11_w11
  have hq2_w12 : w4.heap.size < w12.heap.size := by omega
  have hb20_w12 : w12.cell? ⟨w4.heap.size, 0, none⟩ = some (.int .i64 h) := hp_w12.cell (by omega) hb20_w11
  have hb21_w12 : w12.cell? ⟨w4.heap.size, 1, none⟩ = some (.slice Ax n cx) := hp_w12.cell (by omega) hb21_w11
  have hq3_w12 : w5.heap.size < w12.heap.size := by omega
  have hb30_w12 : w12.cell? ⟨w5.heap.size, 0, none⟩ = some (.int .i64 hh) := hp_w12.cell (by omega) hb30_w11
  have hb31_w12 : w12.cell? ⟨w5.heap.size, 1, none⟩ = some (.slice Ag ys.length cg) := hp_w12.cell (by omega) hb31_w11
  have Rw_w12 := Rw_w11.ext hp_w12
  have Rg_w12 := Rg_w11.ext hp_w12
  have hE_w12 : Ext w w12 := Ext.trans (by with_reducible (repeat (first | exact Ext.refl _ | apply Ext.drewN | apply Ext.drew | apply Ext.alloc | (refine Ext.set ?_ (by first | (simp; done) | (simp; omega) | omega) _) | (refine Ext.trans ?_ (by assumption))))) hx_w12
  have Rt_w12 : PRow w12 (w11.heap.size) w12.heap.size At n ct ps := by first | (simpa using Rt) | exact Rt
  clear Rt
  have hlt : w11.heap.size ≤ w12.heap.size := by omega
  go_wp2_with fail
  (with_reducible refine (implTurnRoutine_is _ _ _ ps h _ ((Rt_w12.parts (by omega) HBP.out).ext (by with_reducible (repeat (first | exact Ext.refl _ | apply Ext.drewN | apply Ext.drew | apply Ext.alloc | (refine Ext.set ?_ (by first | (simp; done) | (simp; omega) | omega) _) | (refine Ext.trans ?_ (by assumption)))))) HY.out).mono ?_)
  rintro e w13 ⟨Ah, nh, ch, rfl, Rh, hx_w13⟩
  obtain rfl := Rh.len
  have hz_w13 := hx_w13.size
  (try simp at hz_w13)
  have hp_w13 : Ext w12 w13 := Ext.trans (by with_reducible (repeat (first | exact Ext.refl _ | apply Ext.drewN | apply Ext.drew | apply Ext.alloc | (refine Ext.set ?_ (by first | (simp; done) | (simp; omega) | omega) _) | (refine Ext.trans ?_ (by assumption))))) hx_w13
  have hq0_w13 : w.heap.size < w13.heap.size := by omega
  have hb00_w13 : w13.cell? ⟨w.heap.size, 0, none⟩ = some (.int .i64 h) := hp_w13.cell (by omega) hb00_w12
  have hb01_w13 : w13.cell? ⟨w.heap.size, 1, none⟩ = some (.slice A n c) := hp_w13.cell (by omega) hb01_w12
  have hq1_w13 : w3.heap.size < w13.heap.size := by omega
  have hb10_w13 : w13.cell? ⟨w3.heap.size, 0, none⟩ = some (.int .i64 hh) := hp_w13.cell (by omega) hb10_w12
  have hb11_w13 : w13.cell? ⟨w3.heap.size, 1, none⟩ = some (.slice Aw ys.length cw) := hp_w13.cell (by omega) hb11_w12
  have hq2_w13 : w4.heap.size < w13.heap.size := by omega
  have hb20_w13 : w13.cell? ⟨w4.heap.size, 0, none⟩ = some (.int .i64 h) := hp_w13.cell (by omega) hb20_w12
  have hb21_w13 : w13.cell? ⟨w4.heap.size, 1, none⟩ = some (.slice Ax n cx) := hp_w13.cell (by omega) hb21_w12
  have hq3_w13 : w5.heap.size < w13.heap.size := by omega
  have hb30_w13 : w13.cell? ⟨w5.heap.size, 0, none⟩ = some (.int .i64 hh) := hp_w13.cell (by omega) hb30_w12
  have hb31_w13 : w13.cell? ⟨w5.heap.size, 1, none⟩ = some (.slice Ag ys.length cg) := hp_w13.cell (by omega) hb31_w12
  have Rw_w13 := Rw_w12.ext hp_w13
  have Rg_w13 := Rg_w12.ext hp_w13
  have Rt_w13 := Rt_w12.ext hp_w13
  have hE_w13 : Ext w w13 := Ext.trans (by with_reducible (repeat (first | exact Ext.refl _ | apply Ext.drewN | apply Ext.drew | apply Ext.alloc | (refine Ext.set ?_ (by first | (simp; done) | (simp; omega) | omega) _) | (refine Ext.trans ?_ (by assumption))))) hx_w13
  have Rh_w13 : PRow w13 (w12.heap.size) w13.heap.size Ah ys.length ch ys := by first | (simpa using Rh) | exact Rh
  clear Rh
  have hlh : w12.heap.size ≤ w13.heap.size := by omega
  go_wp2_with fail
  (with_reducible refine (eqRoutine_same _ _ _ _ _ ys hh _ ((Rh_w13.parts (by omega) HYB.out.2).ext (by with_reducible (repeat (first | exact Ext.refl _ | apply Ext.drewN | apply Ext.drew | apply Ext.alloc | (refine Ext.set ?_ (by first | (simp; done) | (simp; omega) | omega) _) | (refine Ext.trans ?_ (by assumption)))))) ((Rw_w13.parts (by omega) HYB.out.2).ext (by with_reducible (repeat (first | exact Ext.refl _ | apply Ext.drewN | apply Ext.drew | apply Ext.alloc | (refine Ext.set ?_ (by first | (simp; done) | (simp; omega) | omega) _) | (refine Ext.trans ?_ (by assumption))))))).mono ?_)
  rintro e w14 ⟨rfl, hx_w14⟩
  have hz_w14 := hx_w14.size
  (try simp at hz_w14)
  have hp_w14 : Ext w13 w14 := Ext.trans (by with_reducible (repeat (first | exact Ext.refl _ | apply Ext.drewN | apply Ext.drew | apply Ext.alloc | (refine Ext.set ?_ (by first | (simp; done) | (simp; omega) | omega) _) | (refine Ext.trans ?_ (by assumption))))) hx_w14
  have hq0_w14 : w.heap.size < w14.heap.size := by omega
  have hb00_w14 : w14.cell? ⟨w.heap.size, 0, none⟩ = some (.int .i64 h) := hp_w14.cell (by omega) hb00_w13
  have hb01_w14 : w14.cell? ⟨w.heap.size, 1, none⟩ = some (.slice A n c) := hp_w14.cell (by omega) hb01_w13
  have hq1_w14 : w3.heap.size < w14.heap.size := by omega
  have hb10_w14 : w14.cell? ⟨w3.heap.size, 0, none⟩ = some (.int .i64 hh) := hp_w14.cell (by omega) hb10_w13
  have hb11_w14 : w14.cell? ⟨w3.heap.size, 1, none⟩ = some (.slice Aw ys.length cw) := hp_w14.cell (by omega) hb11_w13
  have hq2_w14 : w4.heap.size < w14.heap.size := by omega
  have hb20_w14 : w14.cell? ⟨w4.heap.size, 0, none⟩ = some (.int .i64 h) := hp_w14.cell (by omega) hb20_w13
  have hb21_w14 : w14.cell? ⟨w4.heap.size, 1, none⟩ = some (.slice Ax n cx) := hp_w14.cell (by omega) hb21_w13
  have hq3_w14 : w5.heap.size < w14.heap.size := by omega
  have hb30_w14 : w14.cell? ⟨w5.heap.size, 0, none⟩ = some (.int .i64 hh) := hp_w14.cell (by omega) hb30_w13
  have hb31_w14 : w14.cell? ⟨w5.heap.size, 1, none⟩ = some (.slice Ag ys.length cg) := hp_w14.cell (by omega) hb31_w13
  have hq4_w14 : w13.heap.size < w14.heap.size := by omega
  have hb40_w14 : w14.cell? ⟨w13.heap.size, 0, none⟩ = some (.int .i64 hh) := hx_w14.cell (by first | (simp [World.setCell]; done) | (simp [World.setCell]; omega) | omega) (by go_simp)
  have hb41_w14 : w14.cell? ⟨w13.heap.size, 1, none⟩ = some (.slice Ah ys.length ch) := hx_w14.cell (by first | (simp [World.setCell]; done) | (simp [World.setCell]; omega) | omega) (by go_simp)
  have Rw_w14 := Rw_w13.ext hp_w14
  have Rg_w14 := Rg_w13.ext hp_w14
  have Rh_w14 := Rh_w13.ext hp_w14
  have hE_w14 : Ext w w14 := Ext.trans (by with_reducible (repeat (first | exact Ext.refl _ | apply Ext.drewN | apply Ext.drew | apply Ext.alloc | (refine Ext.set ?_ (by first | (simp; done) | (simp; omega) | omega) _) | (refine Ext.trans ?_ (by assumption))))) hx_w14
  go_wp2_with fail
  (with_reducible refine (heldRoutine_any _ ys.length _ (fun i => (pt ys i).length) _ 1 _ ((Rg_w14.parts (by omega) (mkP_bd (by omega) (by omega) HYL.out)).ext (by with_reducible (repeat (first | exact Ext.refl _ | apply Ext.drewN | apply Ext.drew | apply Ext.alloc | (refine Ext.set ?_ (by first | (simp; done) | (simp; omega) | omega) _) | (refine Ext.trans ?_ (by assumption)))))) (by omega) (by omega) HYL.out).mono ?_)
  rintro e w15 ⟨he_w15, hx_w15⟩
  rw [HM.out] at he_w15
  subst he_w15
  have hz_w15 := hx_w15.size
  (try simp at hz_w15)
  have hp_w15 : Ext w14 w15 := Ext.trans (by with_reducible (repeat (first | exact Ext.refl _ | apply Ext.drewN | apply Ext.drew | apply Ext.alloc | (refine Ext.set ?_ (by first | (simp; done) | (simp; omega) | omega) _) | (refine Ext.trans ?_ (by assumption))))) hx_w15
  have hq0_w15 : w.heap.size < w15.heap.size := by omega
  have hb00_w15 : w15.cell? ⟨w.heap.size, 0, none⟩ = some (.int .i64 h) := hp_w15.cell (by omega) hb00_w14
  have hb01_w15 : w15.cell? ⟨w.heap.size, 1, none⟩ = some (.slice A n c) := hp_w15.cell (by omega) hb01_w14
  have hq1_w15 : w3.heap.size < w15.heap.size := by omega
  have hb10_w15 : w15.cell? ⟨w3.heap.size, 0, none⟩ = some (.int .i64 hh) := hp_w15.cell (by omega) hb10_w14
  have hb11_w15 : w15.cell? ⟨w3.heap.size, 1, none⟩ = some (.slice Aw ys.length cw) := hp_w15.cell (by omega) hb11_w14
  have hq2_w15 : w4.heap.size < w15.heap.size := by omega
  have hb20_w15 : w15.cell? ⟨w4.heap.size, 0, none⟩ = some (.int .i64 h) := hp_w15.cell (by omega) hb20_w14
  have hb21_w15 : w15.cell? ⟨w4.heap.size, 1, none⟩ = some (.slice Ax n cx) := hp_w15.cell (by omega) hb21_w14
  have hq3_w15 : w5.heap.size < w15.heap.size := by omega
  have hb30_w15 : w15.cell? ⟨w5.heap.size, 0, none⟩ = some (.int .i64 hh) := hp_w15.cell (by omega) hb30_w14
  have hb31_w15 : w15.cell? ⟨w5.heap.size, 1, none⟩ = some (.slice Ag ys.length cg) := hp_w15.cell (by omega) hb31_w14
  have hq4_w15 : w13.heap.size < w15.heap.size := by omega
  have hb40_w15 : w15.cell? ⟨w13.heap.size, 0, none⟩ = some (.int .i64 hh) := hp_w15.cell (by omega) hb40_w14
  have hb41_w15 : w15.cell? ⟨w13.heap.size, 1, none⟩ = some (.slice Ah ys.length ch) := hp_w15.cell (by omega) hb41_w14
  have Rw_w15 := Rw_w14.ext hp_w15
  have Rg_w15 := Rg_w14.ext hp_w15
  have Rh_w15 := Rh_w14.ext hp_w15
  have hE_w15 : Ext w w15 := Ext.trans (by with_reducible (repeat (first | exact Ext.refl _ | apply Ext.drewN | apply Ext.drew | apply Ext.alloc | (refine Ext.set ?_ (by first | (simp; done) | (simp; omega) | omega) _) | (refine Ext.trans ?_ (by assumption))))) hx_w15
  go_wp2
  go_ret
  exact ⟨rfl, Ext.below hE_w15⟩
end Go.Proofs.Ytignmgeiijccoaa.fnExactTurnRoutine
